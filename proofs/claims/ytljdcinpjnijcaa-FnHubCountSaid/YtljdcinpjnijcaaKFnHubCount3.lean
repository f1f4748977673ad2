/- For the statement FnHubCount of this seat: it is proved here, with no further conditions (part 4 of its texts: words, walks of the functions, the plain law, the row). -/
import Derived.Test.YtljdcinpjnijcaaKFnHubCount2
section
namespace Go.Proofs.Ytljdcinpjnijcaa.Pr
open Go.RowKit Go.Proofs.YtljdcinpjnijcaaW.PrintWords Go.Proofs.YtljdcinpjnijcaaW.PrintLast Go.Proofs.YtljdcinpjnijcaaW.PrintMore
attribute [local go_sem] max2_int min2_int max_two min_two max_three min_three max_four min_four
set_option linter.unusedVariables false
set_option linter.unusedSimpArgs false
mutual
def impl_Net_toward.l0 : Nat → List (S104) → Bool → Int → List (S34) → Option ((List (S104)))
 | 0, _, _, _, _ => none
 | k + 1, x5, x6, t3, s9 => if x6 = true then (impl_Net_toward.l1 k x5 false s9 (s9.length : Int) 0 t3 s9) else (some x5)
def impl_Net_toward.l1 : Nat → List (S104) → Bool → List (S34) → Int → Int → Int → List (S34) → Option ((List (S104)))
 | 0, _, _, _, _, _, _, _ => none
 | k + 1, x5, x6, x21, x22, x23, t3, s9 => if x23 < x22 then (if 0 ≤ x23 then (if x23 < (x21.length : Int) then (if 0 ≤ ((rd_T34 x21 x23).f1) then (if ((rd_T34 x21 x23).f1) < (x5.length : Int) then (if ((rd_T104 x5 ((rd_T34 x21 x23).f1)).f0) = 99999 then (impl_Net_toward.l1 k x5 x6 x21 x22 (wrap64 (x23 + 1)) t3 s9) else (if 0 ≤ ((rd_T34 x21 x23).f0) then (if ((rd_T34 x21 x23).f0) < (x5.length : Int) then ((impl_measure_less.f (wrap64 (((rd_T104 x5 ((rd_T34 x21 x23).f1)).f0) + ((rd_T34 x21 x23).f2))) (wrap64 (((rd_T104 x5 ((rd_T34 x21 x23).f1)).f1) + 1)) ((rd_T104 x5 ((rd_T34 x21 x23).f0)).f0) ((rd_T104 x5 ((rd_T34 x21 x23).f0)).f1)).bind fun t236 => (if t236 = true then (impl_Net_toward.l1 k (x5.set (((rd_T34 x21 x23).f0) : Int).toNat (⟨wrap64 (((rd_T104 x5 ((rd_T34 x21 x23).f1)).f0) + ((rd_T34 x21 x23).f2)), wrap64 (((rd_T104 x5 ((rd_T34 x21 x23).f1)).f1) + 1)⟩ : S104)) true x21 x22 (wrap64 (x23 + 1)) t3 s9) else (impl_Net_toward.l1 k x5 x6 x21 x22 (wrap64 (x23 + 1)) t3 s9))) else (none)) else (none))) else (none)) else (none)) else (none)) else (none)) else (impl_Net_toward.l0 k x5 x6 t3 s9)
end
def impl_Net_toward.f (k : Nat) (a0_0 : Int) (l0_1 : List (S34)) (a1 : Int) : Option ((List (S104))) := (impl_measure.f (([(⟨99999, 0⟩ : S104)] : List (S104))) a0_0).bind fun t227 => (if 0 ≤ a1 then (if a1 < (t227.length : Int) then (impl_Net_toward.l0 k (t227.set (a1 : Int).toNat (⟨0, 0⟩ : S104)) true a0_0 l0_1) else (none)) else (none))
set_option maxHeartbeats 8000000 in
set_option maxRecDepth 100000 in
theorem impl_Net_toward.calls (k : Nat) (a0_0 : Int) (A0_1 : Option Addr) (c0_1 : Nat) (l0_1 : List (S34)) (a1 : Int) (r : List (S104)) (w : World) (hr0_1 : Kd.C k34 w A0_1 l0_1.length l0_1) (hc0_1 : l0_1.length ≤ c0_1) (h : impl_Net_toward.f k a0_0 l0_1 a1 = some r) :
  Calls Try.prog 93 #[.agg #[.int .i64 a0_0, .slice A0_1 l0_1.length c0_1], .int .i64 a1] w fun e w' => ∃ v0_ : Value, e = .returned (v0_) ∧ Kd.R k104 104 w' w.heap.size (fun _ => True) v0_ r ∧ Below w.heap.size w w' := by
 have hu25 := Try.underlying25
 have hu104 := Try.underlying104
 have hu34 := Try.underlying34
 have u4 := Aside0.mk hr0_1
 have HC0_1 := Aside0.mk hc0_1
 clear hr0_1 hc0_1
 have HB := Aside0.mk (Below.refl w.heap.size w)
 have H : ((impl_measure.f (([(⟨99999, 0⟩ : S104)] : List (S104))) a0_0).bind fun t227 => (if 0 ≤ a1 then (if a1 < (t227.length : Int) then (impl_Net_toward.l0 k (t227.set (a1 : Int).toNat (⟨0, 0⟩ : S104)) true a0_0 l0_1) else (none)) else (none))) = some r := h
 clear h
 obtain ⟨y224, hy224⟩ : ∃ y_ : List (S104), y_ = (([(⟨99999, 0⟩ : S104)] : List (S104))) := ⟨_, rfl⟩
 replace H : ((impl_measure.f y224 a0_0).bind fun t227 => (if 0 ≤ a1 then (if a1 < (t227.length : Int) then (impl_Net_toward.l0 k (t227.set (a1 : Int).toNat (⟨0, 0⟩ : S104)) true a0_0 l0_1) else (none)) else (none))) = some r := by first | (rw [hy224]; with_reducible exact H) | (have H2_ := (Option.bind_some _ _).symm.trans H; rw [hy224]; with_reducible exact H2_) | (have H2_ := (Option.bind_some _ _).symm.trans H; with_reducible exact H2_) | with_reducible exact H | (rw [hy224]; exact H) | exact H
 have Ny224 := Aside0.mk hy224
 clear hy224
 replace H := Option.bind_eq_some_iff.mp H
 obtain ⟨t227, A30, H⟩ := H
 replace H : (if 0 ≤ a1 then (if a1 < (t227.length : Int) then (impl_Net_toward.l0 k (t227.set (a1 : Int).toNat (⟨0, 0⟩ : S104)) true a0_0 l0_1) else (none)) else (none)) = some r := H
 have A3 := Aside0.mk A30
 clear A30
 by_cases c4 : 0 ≤ a1
 case neg =>
  rw [if_neg c4] at H
  exact absurd H (by simp)
 rw [if_pos c4] at H
 have c4b0 : decide (0 ≤ a1) = true := decide_eq_true c4
 clear c4
 by_cases c5 : a1 < (t227.length : Int)
 case neg =>
  rw [if_neg c5] at H
  exact absurd H (by simp)
 rw [if_pos c5] at H
 have c5b0 : decide (a1 < (t227.length : Int)) = true := decide_eq_true c5
 clear c5
 obtain ⟨y230, hy230⟩ : ∃ y_ : List (S104), y_ = (t227.set (a1 : Int).toNat (⟨0, 0⟩ : S104)) := ⟨_, rfl⟩
 replace H : (impl_Net_toward.l0 k y230 true a0_0 l0_1) = some r := by first | (rw [hy230]; with_reducible exact H) | (have H2_ := (Option.bind_some _ _).symm.trans H; rw [hy230]; with_reducible exact H2_) | (have H2_ := (Option.bind_some _ _).symm.trans H; with_reducible exact H2_) | with_reducible exact H | (rw [hy230]; exact H) | exact H
 have Ny230 := Aside0.mk hy230
 clear hy230
 have H' := Aside0.mk H
 clear H
 go_enter Try.func93, Try.ntmps93
 go_wp2_with (first | ((with_reducible refine gate_dst (N := 2) rfl ?_); refine box_event ?hg (N := 2) ?hd (cs := #[.int .i64 a0_0, .slice A0_1 l0_1.length c0_1]) (t := 25) ?hr ?_; (case hd => rfl); (case hg => rfl); (case hr => first | (go_simp; done) | (go_simp; rfl)); intro q1 hg w7 hbox hb; have n0_ := Aside0.mk (below_step HB.out hb); have n1_ := Aside0.mk (hbox); have n2_ := Aside0.mk ((by rw [hg]; exact (below_size HB.out) : w.heap.size ≤ q1)); have n3_ := Aside0.mk ((by rw [hg]; exact (below_size HB.out) : w.heap.size ≤ q1)); clear HB; have HB := n0_; have p7 := n1_; have GW223 := n2_; have r8 := n3_; clear n0_ n1_ n2_ n3_; clear hb hbox hg) | ((with_reducible refine gate_dst (N := 11) rfl ?_); refine Kd.R_lit k104 _ 104 ?hg (N := 11) ?hd (xs := ([(⟨99999, 0⟩ : S104)] : List (S104))) (inner := [.int .i64 99999, .int .i64 0]) (ok := fun _ => True) (okp := fun _ => True) ?hr ?hp (fun _ hk => hk) trivial (Below.refl _ _) (Nat.le_refl _) (by simp) ?_; (case hd => rfl); (case hg => rfl); (case hr => first | (go_simp; done) | (go_simp; rfl)); (case hp => exact (Reps.c2 (show Kd.M k104 _ _ _ (⟨99999, 0⟩ : S104) [.int .i64 99999, .int .i64 0] from (k104_mkM _ _ _ (⟨99999, 0⟩ : S104) )) (Reps.none _ _))); intro v225 w8 ho9 hb hg_ hnew_; clear hg_ hnew_; (first | rw [← Ny224.out] at ho9 | (simp only [Int.reduceToNat] at ho9; rw [← Ny224.out] at ho9)); have n0_ := Aside0.mk (Kd.R_lower ho9 (below_size HB.out)); have n1_ := Aside0.mk (blk_below (g := q1) (o := .cells #[.int .i64 a0_0, .slice A0_1 l0_1.length c0_1] 25 (0, 0)) p7.out hb); have n2_ := Aside0.mk (below_step HB.out hb); clear p7; clear HB; have HO226 := n0_; have p7 := n1_; have HB := n2_; clear n0_ n1_ n2_; clear hb ho9; have t8 : w8.cell? ⟨q1, 0, none⟩ = some (.int .i64 a0_0) := (blk_cell p7.out 0).trans rfl; have t9 : w8.cell? ⟨q1, 1, none⟩ = some (.slice A0_1 l0_1.length c0_1) := (blk_cell p7.out 1).trans rfl; have u0 := blk_frozen p7.out 0; have u1 := blk_frozen p7.out 1; obtain ⟨Ao11, co11, eo11⟩ := Kd.R_slice HO226.out; subst eo11) | ((with_reducible refine gate_callee (f := 126) rfl ?_); refine goesL_ (some 14) rfl rfl Try.func126 (by kernel_rfl) rfl #[.slice Ao11 y224.length co11, .int .i64 a0_0] rfl (by (try simp only [List.map_toArray, List.map_cons, List.map_nil]); first | done | rfl | (simp only [List.length_drop, List.length_take]; rfl)) ?_; (with_reducible refine (impl_measure.calls _ _ y224 a0_0 t227 _ ?side1 ?side2 A3.out).mono ?_); (case side1 => repeat (first | exact (Kd.R_reads' HO226.out).2.2 | (with_reducible refine Kd.C_alloc ?_ _) | (with_reducible refine Kd.C_drewN ?_ _) | (with_reducible refine Kd.C_drew ?_))); (case side2 => exact (Kd.R_reads' HO226.out).2.1); rintro e w12 ⟨v228, rfl, ho0, hb⟩; refine ⟨_, rfl, ?_⟩; have n0_ := Aside0.mk (Kd.R_elder' HO226.out (Kd.R_base ho0) hb); have n1_ := Aside0.mk (Kd.R_lower (Kd.R_new' ho0 (Kd.R_lt HO226.out)) (below_size HB.out)); have n2_ := Aside0.mk (blk_below (g := q1) (o := .cells #[.int .i64 a0_0, .slice A0_1 l0_1.length c0_1] 25 (0, 0)) p7.out hb); have n3_ := Aside0.mk (below_step HB.out hb); clear HO226; clear p7; clear HB; have HO226 := n0_; have HO229 := n1_; have p7 := n2_; have HB := n3_; clear n0_ n1_ n2_ n3_; (try clear hb); (try clear hb2); (try clear hk); (try clear hi); (try clear ho0); have p6 : 0 ≤ (a1 : Int) := of_decide_eq_true (by first | (with_reducible assumption) | assumption); have q6 : (a1 : Int) < ((t227.length : Int) : Int) := of_decide_eq_true (by first | (with_reducible assumption) | assumption); obtain ⟨go6, co6, eo6, gb6, gl6, cl6, HG6⟩ := Kd.R_form HO229.out (by omega); (first | cases eo6 | (injection eo6 with ea_ en_ ec_; (first | subst ea_ | (injection ea_ with ea_; subst ea_)); subst ec_; clear en_)); have GB6 := Aside0.mk gb6; have GG6 := Aside0.mk HG6; clear gb6 gl6 HG6; obtain ⟨ce6, hcl6, hM6, hcc6, hfr6⟩ := Kd.R_elem HO229.out z104 (a1 : Int) p6 q6; obtain rfl := k104_openM hM6; have hx6_0 : w12.cell? ⟨go6, (a1 : Int).toNat * 2, none⟩ = some (.int .i64 ((rd_T104 t227 a1).f0)) := hcc6 0 _ rfl; have hx6_1 : w12.cell? ⟨go6, (a1 : Int).toNat * 2 + 1, none⟩ = some (.int .i64 ((rd_T104 t227 a1).f1)) := hcc6 1 _ rfl; have hf6_0 : w12.frozen? ⟨go6, (a1 : Int).toNat * 2, none⟩ = false := hfr6 0; have hf6_1 : w12.frozen? ⟨go6, (a1 : Int).toNat * 2 + 1, none⟩ = false := hfr6 1; clear hcl6 hcc6 hfr6; (try clear hM6); replace p6 := eq_true p6; replace q6 := eq_true q6; have n_ := Aside0.mk (Kd.R_mono (ok' := (fun k_ => some k_ ≠ (.slice Ao11 y224.length co11 : Value).ownBlock)) HO229.out (fun k_ hk => hk.2)); clear HO229; have HO229 := n_; clear n_; have HX13 := Aside0.mk (show Kd.R k104 104 w12 w.heap.size (fun k_ => some k_ ≠ (.slice Ao11 y224.length co11 : Value).ownBlock) (.slice (some ⟨go6, 0, none⟩) t227.length co6) t227 from HO229.out); obtain ⟨ce13, hcl13, hM13, u2, hfr13⟩ := Kd.R_elem HX13.out z104 (a1 : Int) (of_decide_eq_true (by first | (with_reducible assumption) | assumption)) (by have h_ : (a1 : Int) < ((t227.length : Int) : Int) := of_decide_eq_true (by first | (with_reducible assumption) | assumption); first | exact h_ | (have e_ := (Kd.R_reads' HO229.out).1; omega) | simpa using h_); obtain rfl := k104_openM hM13; have HP13 := Kd.R_seg HX13.out (a1 : Int) (of_decide_eq_true (by first | (with_reducible assumption) | assumption)) (by have h_ : (a1 : Int) < ((t227.length : Int) : Int) := of_decide_eq_true (by first | (with_reducible assumption) | assumption); first | exact h_ | (have e_ := (Kd.R_reads' HO229.out).1; omega) | simpa using h_) (seg := [.int .i64 0, .int .i64 0]) (j := 0) hcl13 u2 (show 2 ≤ 2 from by decide) (x' := (⟨0, 0⟩ : S104)) (k104_mkM _ _ _ (⟨0, 0⟩ : S104) ) (fun _ hk => hk); have t6 := u2 0 _ rfl; (try simp only [show (k104).sz = 2 from rfl, Nat.mul_one, Nat.add_zero] at t6); have hf13_0 := hfr13 0; (try simp only [show (k104).sz = 2 from rfl, Nat.mul_one, Nat.add_zero] at hf13_0); have t7 := u2 1 _ rfl; (try simp only [show (k104).sz = 2 from rfl, Nat.mul_one, Nat.add_zero] at t7); have hf13_1 := hfr13 1; (try simp only [show (k104).sz = 2 from rfl, Nat.mul_one, Nat.add_zero] at hf13_1); clear hcl13 u2 hfr13; (try clear hM13)) | ((with_reducible refine gate_store (t := 104) (p := 18) rfl ?_); refine store_event (t := 104) (p := 18) (v := ?vo_w14) (w1 := ((w12.setCell ⟨go6, (a1 : Int).toNat * 2, none⟩ (.int .i64 0)).setCell ⟨go6, (a1 : Int).toNat * 2 + 1, none⟩ (.int .i64 0))) ?hg ?ho ?hn ?hr ?_; (case ho => rfl); (case hg => rfl); (case hn => rfl); (case hr => first | (go_simp; done) | (go_simp; rfl)); intro w14 hw; have hg : w12.grownBy w14 (some go6) := (by rw [hw]; exact HP13.2); have hp_ : Kd.R k104 104 w14 w.heap.size (fun k_ => some k_ ≠ (.slice Ao11 y224.length co11 : Value).ownBlock) (.slice (some ⟨go6, 0, none⟩) t227.length co6) y230 := (by rw [hw, Ny230.out]; exact HP13.1); clear HP13; have n0_ := Aside0.mk (blk_grown (g := q1) (o := .cells #[.int .i64 a0_0, .slice A0_1 l0_1.length c0_1] 25 (0, 0)) p7.out hg (Kd.R_ne HO229.out p7.out (by decide))); have n1_ := Aside0.mk (Kd.R_after (v := (.slice (some ⟨go6, 0, none⟩) t227.length co6)) (v1 := (.slice (some ⟨go6, 0, none⟩) t227.length co6)) (ok := (fun _ => True)) HO226.out hg (.inl rfl)); have n2_ := Aside0.mk (hp_); have n3_ := Aside0.mk ((by rw [hw]; exact below_set (below_set (HB.out) GB6.out) GB6.out : Below w.heap.size w w14)); clear p7; clear HO226; clear HO229; clear HB; have p7 := n0_; have HO226 := n1_; have HO229 := n2_; have HB := n3_; clear n0_ n1_ n2_ n3_; clear hg hw hp_))
 go_loopg [6] k (fun kq v6 w' => ∃ (x5_1 : List (S104)) (x6_1 : Bool), v6 = .bool x6_1 ∧ Aside0 (impl_Net_toward.l0 kq x5_1 x6_1 a0_0 l0_1 = some r) ∧ Aside0 (kq ≤ k) ∧ Aside0 (Kd.R k104 104 w' w.heap.size (fun _ => True) (.slice (some ⟨go6, 0, none⟩) t227.length co6) x5_1) ∧ Aside0 (w'.heap[q1]? = some (.cells #[.int .i64 a0_0, (.slice A0_1 l0_1.length c0_1)] 25 (0, 0))) ∧ Aside0 (Below w.heap.size w w'))
 case atStart => exact ⟨(y230), (true), (by first | rfl | (simp; done) | (simp [*]; done)), H', ⟨Nat.le_refl _⟩, ⟨by exact Kd.R_mono HO229.out (fun _ hk => trivial)⟩, ⟨by exact p7.out⟩, ⟨by repeat (first | (with_reducible first | exact HB.out | apply below_alloc | apply pw_below_drewN | apply below_drew1 | refine below_set ?_ r8.out) | exact HB.out)⟩⟩
 case round =>
  clear H'
  try clear c1
  try clear hx1
  try clear c2
  try clear p2
  try clear c4
  try clear c4b0
  try clear c5
  try clear c5b0
  try clear c6
  try clear p6
  try clear q6
  try clear hx6
  try clear hf6
  try clear c9
  try clear c12
  try clear c13
  try clear hx13
  try clear hf13
  try clear t8
  try clear t9
  try clear u0
  try clear u1
  try clear t6
  try clear t7
  try clear hx6_0
  try clear hx6_1
  try clear p6
  try clear q6
  obtain ⟨x5_1, x6_1, rfl, HA, HK1, HO_5, p7, HB⟩ := hrel
  have hl5_1 := (Kd.R_reads' HO_5.out).1
  rw [hl5_1] at HO_5
  (try simp only [hl5_1])
  (try simp only [hl5_1] at p7)
  cases gk with
  | zero => exact absurd HA.out (by simp [impl_Net_toward.l0])
  | succ k1 =>
   have H := HA.out
   clear HA
   simp only [impl_Net_toward.l0] at H
   by_cases c15 : x6_1 = true
   case neg =>
    replace c15 := Bool.eq_false_iff.mpr c15
    subst c15
    have H1 : (some x5_1) = some r := by rw [if_neg (show ¬ (false = true) by decide)] at H; exact H
    clear H
    have H := H1
    clear H1
    obtain rfl := Option.some.inj H
    go_wp2
    go_ret
    exact ⟨_, by first | rfl | (simp [errW_none, errW_some] <;> rfl) | (simp [*, errW_none, errW_some] <;> rfl), by exact HO_5.out, by repeat (first | (with_reducible first | exact HB.out | apply below_alloc | apply pw_below_drewN | apply below_drew1 | refine below_set ?_ r8.out) | exact HB.out)⟩
   subst c15
   have H1 : (impl_Net_toward.l1 k1 x5_1 false l0_1 (l0_1.length : Int) 0 a0_0 l0_1) = some r := by rw [if_pos rfl] at H; exact H
   clear H
   have H := H1
   clear H1
   have H' := Aside0.mk H
   clear H
   have u7 : wr.cell? ⟨q1, 0, none⟩ = some (.int .i64 a0_0) := (blk_cell p7.out 0).trans rfl
   have u8 : wr.cell? ⟨q1, 1, none⟩ = some (.slice A0_1 l0_1.length c0_1) := (blk_cell p7.out 1).trans rfl
   have u9 := blk_frozen p7.out 0
   have v0 := blk_frozen p7.out 1
   go_wp2
   go_loopg [6, 23] k1 (fun kq v6 v23 w' => ∃ (x5_2 : List (S104)) (x6_2 : Bool) (p0 : Int), v6 = .bool x6_2 ∧ v23 = .int .i64 p0 ∧ Aside0 (impl_Net_toward.l1 kq x5_2 x6_2 l0_1 (l0_1.length : Int) p0 a0_0 l0_1 = some r) ∧ Aside0 (kq ≤ k1) ∧ Aside0 (Kd.R k104 104 w' w.heap.size (fun _ => True) (.slice (some ⟨go6, 0, none⟩) x5_1.length co6) x5_2) ∧ Aside0 (w'.heap[q1]? = some (.cells #[.int .i64 a0_0, (.slice A0_1 l0_1.length c0_1)] 25 (0, 0))) ∧ Aside0 (Below w.heap.size w w'))
   case atStart => exact ⟨(x5_1), (false), (0), (by first | rfl | (simp; done) | (simp [*]; done)), (by first | rfl | (simp; done) | (simp [*]; done)), H', ⟨Nat.le_refl _⟩, ⟨by (try simp only [hl5_1]); exact HO_5.out⟩, ⟨by (try simp only [hl5_1]); exact p7.out⟩, ⟨by repeat (first | (with_reducible first | exact HB.out | apply below_alloc | apply pw_below_drewN | apply below_drew1 | refine below_set ?_ r8.out) | exact HB.out)⟩⟩
   case round =>
    clear H'
    try clear c1
    try clear hx1
    try clear c2
    try clear p2
    try clear c4
    try clear c4b0
    try clear c5
    try clear c5b0
    try clear c6
    try clear p6
    try clear q6
    try clear hx6
    try clear hf6
    try clear c9
    try clear c12
    try clear c13
    try clear hx13
    try clear hf13
    try clear c15
    try clear t8
    try clear t9
    try clear u7
    try clear u8
    try clear u0
    try clear u1
    try clear u9
    try clear v0
    try clear t6
    try clear t7
    try clear hx6_0
    try clear hx6_1
    try clear p2
    try clear p6
    try clear q6
    obtain ⟨x5_2, x6_2, p0, rfl, rfl, HA, HK2, HO_5, p7, HB⟩ := hrel
    have hl5_2 := (Kd.R_reads' HO_5.out).1
    rw [hl5_2] at HO_5
    (try simp only [hl5_2])
    (try simp only [hl5_2] at p7)
    cases gk with
    | zero => exact absurd HA.out (by simp [impl_Net_toward.l1])
    | succ k2 =>
     have H := HA.out
     clear HA
     simp only [impl_Net_toward.l1] at H
     by_cases c17 : p0 < (l0_1.length : Int)
     case neg =>
      rw [if_neg c17] at H
      have c17b0 : decide (p0 < (l0_1.length : Int)) = false := decide_eq_false c17
      clear c17
      have H' := Aside0.mk H
      clear H
      go_wp2
      (try simp only [← hl5_1, ← hl5_2])
      go_roundg k2
      case measure => have := HK1.out; have := HK2.out; omega
      case rel => exact ⟨(x5_2), (x6_2), (by first | rfl | (simp; done) | (simp [*]; done)), H', ⟨by have := HK1.out; have := HK2.out; omega⟩, ⟨by (try simp only [hl5_1]); (try simp only [hl5_2]); exact HO_5.out⟩, ⟨by (try simp only [hl5_1]); (try simp only [hl5_2]); exact p7.out⟩, ⟨by repeat (first | (with_reducible first | exact HB.out | apply below_alloc | apply pw_below_drewN | apply below_drew1 | refine below_set ?_ r8.out) | exact HB.out)⟩⟩
     rw [if_pos c17] at H
     have c17b0 : decide (p0 < (l0_1.length : Int)) = true := decide_eq_true c17
     clear c17
     by_cases c18 : 0 ≤ p0
     case neg =>
      rw [if_neg c18] at H
      exact absurd H (by simp)
     rw [if_pos c18] at H
     have c18b0 : decide (0 ≤ p0) = true := decide_eq_true c18
     clear c18
     by_cases c19 : p0 < (l0_1.length : Int)
     case neg =>
      rw [if_neg c19] at H
      exact absurd H (by simp)
     rw [if_pos c19] at H
     have c19b0 : decide (p0 < (l0_1.length : Int)) = true := decide_eq_true c19
     clear c19
     by_cases c20 : 0 ≤ ((rd_T34 l0_1 p0).f1)
     case neg =>
      rw [if_neg c20] at H
      exact absurd H (by simp)
     rw [if_pos c20] at H
     have c20b0 : decide (0 ≤ ((rd_T34 l0_1 p0).f1)) = true := decide_eq_true c20
     clear c20
     by_cases c21 : ((rd_T34 l0_1 p0).f1) < (x5_2.length : Int)
     case neg =>
      rw [if_neg c21] at H
      exact absurd H (by simp)
     rw [if_pos c21] at H
     have c21b0 : decide (((rd_T34 l0_1 p0).f1) < (x5_2.length : Int)) = true := decide_eq_true c21
     clear c21
     by_cases c22 : ((rd_T104 x5_2 ((rd_T34 l0_1 p0).f1)).f0) = 99999
     case pos =>
      rw [if_pos c22] at H
      have c22b0 : (((rd_T104 x5_2 ((rd_T34 l0_1 p0).f1)).f0) == 99999) = true := beq_iff_eq.mpr c22
      have c22b1 : (((rd_T104 x5_2 ((rd_T34 l0_1 p0).f1)).f0) != 99999) = false := bne_eq_false_iff_eq.mpr c22
      clear c22
      have H' := Aside0.mk H
      clear H
      have p231 : 0 ≤ (p0 : Int) := of_decide_eq_true (by first | (with_reducible assumption) | assumption)
      have q231 : p0 < (l0_1.length : Int) := of_decide_eq_true (by first | (with_reducible assumption) | assumption)
      obtain ⟨r0, e231, r1, r2, r3, r4, r5⟩ := at_T34 u4.out p0 p231 q231
      cases e231
      replace r1 := (HB.out.cell (World.block_lt_of_cell? w _ r1)).trans r1
      replace r2 := (HB.out.cell (World.block_lt_of_cell? w _ r2)).trans r2
      replace r3 := (HB.out.cell (World.block_lt_of_cell? w _ r3)).trans r3
      replace r4 := (HB.out.cell (World.block_lt_of_cell? w _ r4)).trans r4
      replace r5 := (HB.out.cell (World.block_lt_of_cell? w _ r5)).trans r5
      replace p231 := eq_true p231
      replace q231 := eq_true q231
      go_wp2_with (first | ((with_reducible refine gate_dst (N := 8) rfl ?_); refine box_event ?hg (N := 8) ?hd (cs := #[.int .i64 0, .int .i64 0, .int .i64 0, .int .i64 0, .int .i64 0]) (t := 34) ?hr ?_; (case hd => rfl); (case hg => rfl); (case hr => first | (go_simp; done) | (go_simp; rfl)); intro p3 hg w23 hbox hb; have n0_ := Aside0.mk (Kd.R_below HO_5.out hb); have n1_ := Aside0.mk (blk_below (g := q1) (o := .cells #[.int .i64 a0_0, .slice (some r0) l0_1.length c0_1] 25 (0, 0)) p7.out hb); have n2_ := Aside0.mk (below_step HB.out hb); have n3_ := Aside0.mk (hbox); have n4_ := Aside0.mk ((by rw [hg]; exact (below_size HB.out) : w.heap.size ≤ p3)); have n5_ := Aside0.mk ((by rw [hg]; exact (below_size HB.out) : w.heap.size ≤ p3)); have n6_ := Aside0.mk ((by rw [hg]; exact Nat.ne_of_lt (blk_lt (g := q1) (o := .cells #[.int .i64 a0_0, .slice (some r0) l0_1.length c0_1] 25 (0, 0)) p7.out) : q1 ≠ p3)); have n7_ := Aside0.mk ((by rw [hg]; exact Nat.ne_of_gt (blk_lt (g := q1) (o := .cells #[.int .i64 a0_0, .slice (some r0) l0_1.length c0_1] 25 (0, 0)) p7.out) : p3 ≠ q1)); clear HO_5; clear p7; clear HB; have HO_5 := n0_; have p7 := n1_; have HB := n2_; have p1 := n3_; have GW232 := n4_; have r9 := n5_; have p4 := n6_; have t0 := n7_; clear n0_ n1_ n2_ n3_ n4_ n5_ n6_ n7_; clear hb hbox hg; have hnb24 := t0.out; have hnc24 := p4.out; have hcz25_0 : w23.cell? ⟨p3, 0, none⟩ = some (.int .i64 0) := (blk_cell p1.out 0).trans rfl; have hcz25_1 : w23.cell? ⟨p3, 1, none⟩ = some (.int .i64 0) := (blk_cell p1.out 1).trans rfl; have hcz25_2 : w23.cell? ⟨p3, 2, none⟩ = some (.int .i64 0) := (blk_cell p1.out 2).trans rfl; have hcz25_3 : w23.cell? ⟨p3, 3, none⟩ = some (.int .i64 0) := (blk_cell p1.out 3).trans rfl; have hcz25_4 : w23.cell? ⟨p3, 4, none⟩ = some (.int .i64 0) := (blk_cell p1.out 4).trans rfl; have hfz25_0 := blk_frozen p1.out 0; have hfz25_1 := blk_frozen p1.out 1; have hfz25_2 := blk_frozen p1.out 2; have hfz25_3 := blk_frozen p1.out 3; have hfz25_4 := blk_frozen p1.out 4; have p233 : 0 ≤ (((rd_T34 l0_1 p0).f1) : Int) := of_decide_eq_true (by first | (with_reducible assumption) | assumption); have q233 : ((rd_T34 l0_1 p0).f1) < (x5_2.length : Int) := of_decide_eq_true (by first | (with_reducible assumption) | assumption); obtain ⟨t5, e233, p8, p9⟩ := at_T104 (Kd.R_reads' HO_5.out).2.2 ((rd_T34 l0_1 p0).f1) p233 q233; obtain rfl : (⟨go6, 0, none⟩ : Addr) = t5 := (by injection e233); (first | simp only [add_plain] at p8 | simp only [add_at] at p8 | simp only [Addr.add, Nat.zero_add] at p8 | skip); (first | simp only [add_plain] at p9 | simp only [add_at] at p9 | simp only [Addr.add, Nat.zero_add] at p9 | skip); have q2 : (⟨go6, 0, none⟩ : Addr).block ≠ p3 := Kd.own_blk (Kd.R_ne HO_5.out p1.out (by decide)); have q3 : (⟨go6, 0, none⟩ : Addr).block ≠ p3 := Kd.own_blk (Kd.R_ne HO_5.out p1.out (by decide)); have q4 : (⟨go6, 0, none⟩ : Addr).block ≠ p3 := Kd.own_blk (Kd.R_ne HO_5.out p1.out (by decide)); have q5 : (⟨go6, 0, none⟩ : Addr).block ≠ p3 := Kd.own_blk (Kd.R_ne HO_5.out p1.out (by decide)); have q7 : (⟨go6, 0, none⟩ : Addr).block ≠ p3 := Kd.own_blk (Kd.R_ne HO_5.out p1.out (by decide)); replace p8 := (cell_far (p := ⟨p3, 0, none⟩) (by first | (rw [add_block]; exact q2) | (show (Addr.add _ _).block ≠ _; rw [add_block]; exact q2) | exact q2) (.int .i64 ((rd_T34 l0_1 p0).f0))).trans p8; replace p9 := (cell_far (p := ⟨p3, 0, none⟩) (by first | (rw [add_block]; exact q2) | (show (Addr.add _ _).block ≠ _; rw [add_block]; exact q2) | exact q2) (.int .i64 ((rd_T34 l0_1 p0).f0))).trans p9; replace p8 := (cell_far (p := ⟨p3, 1, none⟩) (by first | (rw [add_block]; exact q3) | (show (Addr.add _ _).block ≠ _; rw [add_block]; exact q3) | exact q3) (.int .i64 ((rd_T34 l0_1 p0).f1))).trans p8; replace p9 := (cell_far (p := ⟨p3, 1, none⟩) (by first | (rw [add_block]; exact q3) | (show (Addr.add _ _).block ≠ _; rw [add_block]; exact q3) | exact q3) (.int .i64 ((rd_T34 l0_1 p0).f1))).trans p9; replace p8 := (cell_far (p := ⟨p3, 2, none⟩) (by first | (rw [add_block]; exact q4) | (show (Addr.add _ _).block ≠ _; rw [add_block]; exact q4) | exact q4) (.int .i64 ((rd_T34 l0_1 p0).f2))).trans p8; replace p9 := (cell_far (p := ⟨p3, 2, none⟩) (by first | (rw [add_block]; exact q4) | (show (Addr.add _ _).block ≠ _; rw [add_block]; exact q4) | exact q4) (.int .i64 ((rd_T34 l0_1 p0).f2))).trans p9; replace p8 := (cell_far (p := ⟨p3, 3, none⟩) (by first | (rw [add_block]; exact q5) | (show (Addr.add _ _).block ≠ _; rw [add_block]; exact q5) | exact q5) (.int .i64 ((rd_T34 l0_1 p0).f3))).trans p8; replace p9 := (cell_far (p := ⟨p3, 3, none⟩) (by first | (rw [add_block]; exact q5) | (show (Addr.add _ _).block ≠ _; rw [add_block]; exact q5) | exact q5) (.int .i64 ((rd_T34 l0_1 p0).f3))).trans p9; replace p8 := (cell_far (p := ⟨p3, 4, none⟩) (by first | (rw [add_block]; exact q7) | (show (Addr.add _ _).block ≠ _; rw [add_block]; exact q7) | exact q7) (.int .i64 ((rd_T34 l0_1 p0).f4))).trans p8; replace p9 := (cell_far (p := ⟨p3, 4, none⟩) (by first | (rw [add_block]; exact q7) | (show (Addr.add _ _).block ≠ _; rw [add_block]; exact q7) | exact q7) (.int .i64 ((rd_T34 l0_1 p0).f4))).trans p9; clear q2; clear q3; clear q4; clear q5; clear q7; replace p233 := eq_true p233; replace q233 := eq_true q233) | ((with_reducible refine gate_dst (N := 9) rfl ?_); refine box_event ?hg (N := 9) ?hd (cs := #[.int .i64 0, .int .i64 0]) (t := 104) ?hr ?_; (case hd => rfl); (case hg => rfl); (case hr => first | (go_simp; done) | (go_simp; rfl)); intro p5 hg w26 hbox hb; have n0_ := Aside0.mk (Kd.R_below (Kd.R_elderB (Kd.R_mono (Kd.R_far (p := ⟨p3, 4, none⟩) (Kd.R_far (p := ⟨p3, 3, none⟩) (Kd.R_far (p := ⟨p3, 2, none⟩) (Kd.R_far (p := ⟨p3, 1, none⟩) (Kd.R_far (p := ⟨p3, 0, none⟩) (Kd.R_types HO_5.out p1.out (by decide)) (fun _ hk => hk.2) (.int .i64 ((rd_T34 l0_1 p0).f0))) (fun _ hk => hk.2) (.int .i64 ((rd_T34 l0_1 p0).f1))) (fun _ hk => hk.2) (.int .i64 ((rd_T34 l0_1 p0).f2))) (fun _ hk => hk.2) (.int .i64 ((rd_T34 l0_1 p0).f3))) (fun _ hk => hk.2) (.int .i64 ((rd_T34 l0_1 p0).f4))) (fun _ h_ => h_.1)) p5 (Nat.le_of_eq hg.symm)) hb); have n1_ := Aside0.mk (blk_below (g := q1) (o := .cells #[.int .i64 a0_0, .slice (some r0) l0_1.length c0_1] 25 (0, 0)) (by refine blk_far ?_ p4.out _; refine blk_far ?_ p4.out _; refine blk_far ?_ p4.out _; refine blk_far ?_ p4.out _; refine blk_far ?_ p4.out _; exact p7.out) hb); have n2_ := Aside0.mk (blk_below (g := p3) (o := .cells #[.int .i64 ((rd_T34 l0_1 p0).f0), .int .i64 ((rd_T34 l0_1 p0).f1), .int .i64 ((rd_T34 l0_1 p0).f2), .int .i64 ((rd_T34 l0_1 p0).f3), .int .i64 ((rd_T34 l0_1 p0).f4)] 34 (0, 0)) (by refine blk_put (cs := #[.int .i64 ((rd_T34 l0_1 p0).f0), .int .i64 ((rd_T34 l0_1 p0).f1), .int .i64 ((rd_T34 l0_1 p0).f2), .int .i64 ((rd_T34 l0_1 p0).f3), .int .i64 0]) ?_ 4 _ rfl; refine blk_put (cs := #[.int .i64 ((rd_T34 l0_1 p0).f0), .int .i64 ((rd_T34 l0_1 p0).f1), .int .i64 ((rd_T34 l0_1 p0).f2), .int .i64 0, .int .i64 0]) ?_ 3 _ rfl; refine blk_put (cs := #[.int .i64 ((rd_T34 l0_1 p0).f0), .int .i64 ((rd_T34 l0_1 p0).f1), .int .i64 0, .int .i64 0, .int .i64 0]) ?_ 2 _ rfl; refine blk_put (cs := #[.int .i64 ((rd_T34 l0_1 p0).f0), .int .i64 0, .int .i64 0, .int .i64 0, .int .i64 0]) ?_ 1 _ rfl; refine blk_put (cs := #[.int .i64 0, .int .i64 0, .int .i64 0, .int .i64 0, .int .i64 0]) ?_ 0 _ rfl; exact p1.out) hb); have n3_ := Aside0.mk (below_step (by repeat (first | (with_reducible first | exact HB.out | apply below_alloc | apply pw_below_drewN | apply below_drew1 | refine below_set ?_ r8.out | refine below_set ?_ r9.out) | exact HB.out)) hb); have n4_ := Aside0.mk (hbox); have n5_ := Aside0.mk ((by rw [hg]; exact (below_size (by repeat (first | (with_reducible first | exact HB.out | apply below_alloc | apply pw_below_drewN | apply below_drew1 | refine below_set ?_ r8.out | refine below_set ?_ r9.out) | exact HB.out))) : w.heap.size ≤ p5)); have n6_ := Aside0.mk ((by rw [hg]; exact (below_size (by repeat (first | (with_reducible first | exact HB.out | apply below_alloc | apply pw_below_drewN | apply below_drew1 | refine below_set ?_ r8.out | refine below_set ?_ r9.out) | exact HB.out))) : w.heap.size ≤ p5)); have n7_ := Aside0.mk ((by rw [hg]; exact Nat.ne_of_lt (blk_lt (g := q1) (o := .cells #[.int .i64 a0_0, .slice (some r0) l0_1.length c0_1] 25 (0, 0)) (by refine blk_far ?_ p4.out _; refine blk_far ?_ p4.out _; refine blk_far ?_ p4.out _; refine blk_far ?_ p4.out _; refine blk_far ?_ p4.out _; exact p7.out)) : q1 ≠ p5)); have n8_ := Aside0.mk ((by rw [hg]; exact Nat.ne_of_gt (blk_lt (g := q1) (o := .cells #[.int .i64 a0_0, .slice (some r0) l0_1.length c0_1] 25 (0, 0)) (by refine blk_far ?_ p4.out _; refine blk_far ?_ p4.out _; refine blk_far ?_ p4.out _; refine blk_far ?_ p4.out _; refine blk_far ?_ p4.out _; exact p7.out)) : p5 ≠ q1)); have n9_ := Aside0.mk ((by rw [hg]; exact Nat.ne_of_lt (blk_lt (g := p3) (o := .cells #[.int .i64 ((rd_T34 l0_1 p0).f0), .int .i64 ((rd_T34 l0_1 p0).f1), .int .i64 ((rd_T34 l0_1 p0).f2), .int .i64 ((rd_T34 l0_1 p0).f3), .int .i64 ((rd_T34 l0_1 p0).f4)] 34 (0, 0)) (by refine blk_put (cs := #[.int .i64 ((rd_T34 l0_1 p0).f0), .int .i64 ((rd_T34 l0_1 p0).f1), .int .i64 ((rd_T34 l0_1 p0).f2), .int .i64 ((rd_T34 l0_1 p0).f3), .int .i64 0]) ?_ 4 _ rfl; refine blk_put (cs := #[.int .i64 ((rd_T34 l0_1 p0).f0), .int .i64 ((rd_T34 l0_1 p0).f1), .int .i64 ((rd_T34 l0_1 p0).f2), .int .i64 0, .int .i64 0]) ?_ 3 _ rfl; refine blk_put (cs := #[.int .i64 ((rd_T34 l0_1 p0).f0), .int .i64 ((rd_T34 l0_1 p0).f1), .int .i64 0, .int .i64 0, .int .i64 0]) ?_ 2 _ rfl; refine blk_put (cs := #[.int .i64 ((rd_T34 l0_1 p0).f0), .int .i64 0, .int .i64 0, .int .i64 0, .int .i64 0]) ?_ 1 _ rfl; refine blk_put (cs := #[.int .i64 0, .int .i64 0, .int .i64 0, .int .i64 0, .int .i64 0]) ?_ 0 _ rfl; exact p1.out)) : p3 ≠ p5)); have n10_ := Aside0.mk ((by rw [hg]; exact Nat.ne_of_gt (blk_lt (g := p3) (o := .cells #[.int .i64 ((rd_T34 l0_1 p0).f0), .int .i64 ((rd_T34 l0_1 p0).f1), .int .i64 ((rd_T34 l0_1 p0).f2), .int .i64 ((rd_T34 l0_1 p0).f3), .int .i64 ((rd_T34 l0_1 p0).f4)] 34 (0, 0)) (by refine blk_put (cs := #[.int .i64 ((rd_T34 l0_1 p0).f0), .int .i64 ((rd_T34 l0_1 p0).f1), .int .i64 ((rd_T34 l0_1 p0).f2), .int .i64 ((rd_T34 l0_1 p0).f3), .int .i64 0]) ?_ 4 _ rfl; refine blk_put (cs := #[.int .i64 ((rd_T34 l0_1 p0).f0), .int .i64 ((rd_T34 l0_1 p0).f1), .int .i64 ((rd_T34 l0_1 p0).f2), .int .i64 0, .int .i64 0]) ?_ 3 _ rfl; refine blk_put (cs := #[.int .i64 ((rd_T34 l0_1 p0).f0), .int .i64 ((rd_T34 l0_1 p0).f1), .int .i64 0, .int .i64 0, .int .i64 0]) ?_ 2 _ rfl; refine blk_put (cs := #[.int .i64 ((rd_T34 l0_1 p0).f0), .int .i64 0, .int .i64 0, .int .i64 0, .int .i64 0]) ?_ 1 _ rfl; refine blk_put (cs := #[.int .i64 0, .int .i64 0, .int .i64 0, .int .i64 0, .int .i64 0]) ?_ 0 _ rfl; exact p1.out)) : p5 ≠ p3)); clear HO_5; clear p7; clear p1; clear HB; have HO_5 := n0_; have p7 := n1_; have p1 := n2_; have HB := n3_; have q0 := n4_; have GW234 := n5_; have t4 := n6_; have q8 := n7_; have t1 := n8_; have q9 := n9_; have t2 := n10_; clear n0_ n1_ n2_ n3_ n4_ n5_ n6_ n7_ n8_ n9_ n10_; clear hb hbox hg; have hnb27 := t1.out; have hnc27 := q8.out; have hnb28 := t2.out; have hnc28 := q9.out; have hcz29_0 : w26.cell? ⟨p5, 0, none⟩ = some (.int .i64 0) := (blk_cell q0.out 0).trans rfl; have hcz29_1 : w26.cell? ⟨p5, 1, none⟩ = some (.int .i64 0) := (blk_cell q0.out 1).trans rfl; have hfz29_0 := blk_frozen q0.out 0; have hfz29_1 := blk_frozen q0.out 1))
      (try simp only [← hl5_2])
      go_roundg k2
      case measure => have := HK1.out; have := HK2.out; omega
      case rel => exact ⟨(x5_2), (x6_2), (wrap64 (p0 + 1)), (by first | rfl | (simp; done) | (simp [*]; done)), (by first | rfl | (simp; done) | (simp [*]; done)), H', ⟨by have := HK1.out; have := HK2.out; omega⟩, ⟨by (try simp only [hl5_1]); (try simp only [hl5_2]); exact Kd.R_mono (Kd.R_far (p := ⟨p5, 1, none⟩) (Kd.R_far (p := ⟨p5, 0, none⟩) (Kd.R_mono HO_5.out (fun k_ hk => (⟨hk, hk.2⟩ : _ ∧ k_ ≠ p5))) (fun _ hk => hk.2) (.int .i64 ((rd_T104 x5_2 ((rd_T34 l0_1 p0).f1)).f0))) (fun _ hk => hk.2) (.int .i64 ((rd_T104 x5_2 ((rd_T34 l0_1 p0).f1)).f1))) (fun _ hk => trivial)⟩, ⟨by (try simp only [hl5_1]); (try simp only [hl5_2]); refine blk_far ?_ q8.out _; refine blk_far ?_ q8.out _; exact p7.out⟩, ⟨by repeat (first | (with_reducible first | exact HB.out | apply below_alloc | apply pw_below_drewN | apply below_drew1 | refine below_set ?_ r8.out | refine below_set ?_ r9.out | refine below_set ?_ t4.out) | exact HB.out)⟩⟩
     rw [if_neg c22] at H
     have c22b0 : (((rd_T104 x5_2 ((rd_T34 l0_1 p0).f1)).f0) == 99999) = false := beq_eq_false_iff_ne.mpr c22
     have c22b1 : (((rd_T104 x5_2 ((rd_T34 l0_1 p0).f1)).f0) != 99999) = true := bne_iff_ne.mpr c22
     by_cases c30 : 0 ≤ ((rd_T34 l0_1 p0).f0)
     case neg =>
      rw [if_neg c30] at H
      exact absurd H (by simp)
     rw [if_pos c30] at H
     have c30b0 : decide (0 ≤ ((rd_T34 l0_1 p0).f0)) = true := decide_eq_true c30
     clear c30
     by_cases c31 : ((rd_T34 l0_1 p0).f0) < (x5_2.length : Int)
     case neg =>
      rw [if_neg c31] at H
      exact absurd H (by simp)
     rw [if_pos c31] at H
     have c31b0 : decide (((rd_T34 l0_1 p0).f0) < (x5_2.length : Int)) = true := decide_eq_true c31
     clear c31
     replace H := Option.bind_eq_some_iff.mp H
     obtain ⟨t236, A320, H⟩ := H
     replace H : (if t236 = true then (impl_Net_toward.l1 k2 (x5_2.set (((rd_T34 l0_1 p0).f0) : Int).toNat (⟨wrap64 (((rd_T104 x5_2 ((rd_T34 l0_1 p0).f1)).f0) + ((rd_T34 l0_1 p0).f2)), wrap64 (((rd_T104 x5_2 ((rd_T34 l0_1 p0).f1)).f1) + 1)⟩ : S104)) true l0_1 (l0_1.length : Int) (wrap64 (p0 + 1)) a0_0 l0_1) else (impl_Net_toward.l1 k2 x5_2 x6_2 l0_1 (l0_1.length : Int) (wrap64 (p0 + 1)) a0_0 l0_1)) = some r := H
     have A32 := Aside0.mk A320
     clear A320
     by_cases c33 : t236 = true
     case neg =>
      replace c33 := Bool.eq_false_iff.mpr c33
      subst c33
      have H1 : (impl_Net_toward.l1 k2 x5_2 x6_2 l0_1 (l0_1.length : Int) (wrap64 (p0 + 1)) a0_0 l0_1) = some r := by rw [if_neg (show ¬ (false = true) by decide)] at H; exact H
      clear H
      have H := H1
      clear H1
      have H' := Aside0.mk H
      clear H
      have p231 : 0 ≤ (p0 : Int) := of_decide_eq_true (by first | (with_reducible assumption) | assumption)
      have q231 : p0 < (l0_1.length : Int) := of_decide_eq_true (by first | (with_reducible assumption) | assumption)
      obtain ⟨r0, e231, r1, r2, r3, r4, r5⟩ := at_T34 u4.out p0 p231 q231
      cases e231
      replace r1 := (HB.out.cell (World.block_lt_of_cell? w _ r1)).trans r1
      replace r2 := (HB.out.cell (World.block_lt_of_cell? w _ r2)).trans r2
      replace r3 := (HB.out.cell (World.block_lt_of_cell? w _ r3)).trans r3
      replace r4 := (HB.out.cell (World.block_lt_of_cell? w _ r4)).trans r4
      replace r5 := (HB.out.cell (World.block_lt_of_cell? w _ r5)).trans r5
      replace p231 := eq_true p231
      replace q231 := eq_true q231
      try go_wp2_with (first | ((with_reducible refine gate_dst (N := 8) rfl ?_); refine box_event ?hg (N := 8) ?hd (cs := #[.int .i64 0, .int .i64 0, .int .i64 0, .int .i64 0, .int .i64 0]) (t := 34) ?hr ?_; (case hd => rfl); (case hg => rfl); (case hr => first | (go_simp; done) | (go_simp; rfl)); intro p3 hg w50 hbox hb; have n0_ := Aside0.mk (Kd.R_below HO_5.out hb); have n1_ := Aside0.mk (blk_below (g := q1) (o := .cells #[.int .i64 a0_0, .slice (some r0) l0_1.length c0_1] 25 (0, 0)) p7.out hb); have n2_ := Aside0.mk (below_step HB.out hb); have n3_ := Aside0.mk (hbox); have n4_ := Aside0.mk ((by rw [hg]; exact (below_size HB.out) : w.heap.size ≤ p3)); have n5_ := Aside0.mk ((by rw [hg]; exact (below_size HB.out) : w.heap.size ≤ p3)); have n6_ := Aside0.mk ((by rw [hg]; exact Nat.ne_of_lt (blk_lt (g := q1) (o := .cells #[.int .i64 a0_0, .slice (some r0) l0_1.length c0_1] 25 (0, 0)) p7.out) : q1 ≠ p3)); have n7_ := Aside0.mk ((by rw [hg]; exact Nat.ne_of_gt (blk_lt (g := q1) (o := .cells #[.int .i64 a0_0, .slice (some r0) l0_1.length c0_1] 25 (0, 0)) p7.out) : p3 ≠ q1)); clear HO_5; clear p7; clear HB; have HO_5 := n0_; have p7 := n1_; have HB := n2_; have p1 := n3_; have GW232 := n4_; have r9 := n5_; have p4 := n6_; have t0 := n7_; clear n0_ n1_ n2_ n3_ n4_ n5_ n6_ n7_; clear hb hbox hg; have hnb51 := t0.out; have hnc51 := p4.out; have hcz52_0 : w50.cell? ⟨p3, 0, none⟩ = some (.int .i64 0) := (blk_cell p1.out 0).trans rfl; have hcz52_1 : w50.cell? ⟨p3, 1, none⟩ = some (.int .i64 0) := (blk_cell p1.out 1).trans rfl; have hcz52_2 : w50.cell? ⟨p3, 2, none⟩ = some (.int .i64 0) := (blk_cell p1.out 2).trans rfl; have hcz52_3 : w50.cell? ⟨p3, 3, none⟩ = some (.int .i64 0) := (blk_cell p1.out 3).trans rfl; have hcz52_4 : w50.cell? ⟨p3, 4, none⟩ = some (.int .i64 0) := (blk_cell p1.out 4).trans rfl; have hfz52_0 := blk_frozen p1.out 0; have hfz52_1 := blk_frozen p1.out 1; have hfz52_2 := blk_frozen p1.out 2; have hfz52_3 := blk_frozen p1.out 3; have hfz52_4 := blk_frozen p1.out 4; have p233 : 0 ≤ (((rd_T34 l0_1 p0).f1) : Int) := of_decide_eq_true (by first | (with_reducible assumption) | assumption); have q233 : ((rd_T34 l0_1 p0).f1) < (x5_2.length : Int) := of_decide_eq_true (by first | (with_reducible assumption) | assumption); obtain ⟨t5, e233, p8, p9⟩ := at_T104 (Kd.R_reads' HO_5.out).2.2 ((rd_T34 l0_1 p0).f1) p233 q233; obtain rfl : (⟨go6, 0, none⟩ : Addr) = t5 := (by injection e233); (first | simp only [add_plain] at p8 | simp only [add_at] at p8 | simp only [Addr.add, Nat.zero_add] at p8 | skip); (first | simp only [add_plain] at p9 | simp only [add_at] at p9 | simp only [Addr.add, Nat.zero_add] at p9 | skip); have q2 : (⟨go6, 0, none⟩ : Addr).block ≠ p3 := Kd.own_blk (Kd.R_ne HO_5.out p1.out (by decide)); have q3 : (⟨go6, 0, none⟩ : Addr).block ≠ p3 := Kd.own_blk (Kd.R_ne HO_5.out p1.out (by decide)); have q4 : (⟨go6, 0, none⟩ : Addr).block ≠ p3 := Kd.own_blk (Kd.R_ne HO_5.out p1.out (by decide)); have q5 : (⟨go6, 0, none⟩ : Addr).block ≠ p3 := Kd.own_blk (Kd.R_ne HO_5.out p1.out (by decide)); have q7 : (⟨go6, 0, none⟩ : Addr).block ≠ p3 := Kd.own_blk (Kd.R_ne HO_5.out p1.out (by decide)); replace p8 := (cell_far (p := ⟨p3, 0, none⟩) (by first | (rw [add_block]; exact q2) | (show (Addr.add _ _).block ≠ _; rw [add_block]; exact q2) | exact q2) (.int .i64 ((rd_T34 l0_1 p0).f0))).trans p8; replace p9 := (cell_far (p := ⟨p3, 0, none⟩) (by first | (rw [add_block]; exact q2) | (show (Addr.add _ _).block ≠ _; rw [add_block]; exact q2) | exact q2) (.int .i64 ((rd_T34 l0_1 p0).f0))).trans p9; replace p8 := (cell_far (p := ⟨p3, 1, none⟩) (by first | (rw [add_block]; exact q3) | (show (Addr.add _ _).block ≠ _; rw [add_block]; exact q3) | exact q3) (.int .i64 ((rd_T34 l0_1 p0).f1))).trans p8; replace p9 := (cell_far (p := ⟨p3, 1, none⟩) (by first | (rw [add_block]; exact q3) | (show (Addr.add _ _).block ≠ _; rw [add_block]; exact q3) | exact q3) (.int .i64 ((rd_T34 l0_1 p0).f1))).trans p9; replace p8 := (cell_far (p := ⟨p3, 2, none⟩) (by first | (rw [add_block]; exact q4) | (show (Addr.add _ _).block ≠ _; rw [add_block]; exact q4) | exact q4) (.int .i64 ((rd_T34 l0_1 p0).f2))).trans p8; replace p9 := (cell_far (p := ⟨p3, 2, none⟩) (by first | (rw [add_block]; exact q4) | (show (Addr.add _ _).block ≠ _; rw [add_block]; exact q4) | exact q4) (.int .i64 ((rd_T34 l0_1 p0).f2))).trans p9; replace p8 := (cell_far (p := ⟨p3, 3, none⟩) (by first | (rw [add_block]; exact q5) | (show (Addr.add _ _).block ≠ _; rw [add_block]; exact q5) | exact q5) (.int .i64 ((rd_T34 l0_1 p0).f3))).trans p8; replace p9 := (cell_far (p := ⟨p3, 3, none⟩) (by first | (rw [add_block]; exact q5) | (show (Addr.add _ _).block ≠ _; rw [add_block]; exact q5) | exact q5) (.int .i64 ((rd_T34 l0_1 p0).f3))).trans p9; replace p8 := (cell_far (p := ⟨p3, 4, none⟩) (by first | (rw [add_block]; exact q7) | (show (Addr.add _ _).block ≠ _; rw [add_block]; exact q7) | exact q7) (.int .i64 ((rd_T34 l0_1 p0).f4))).trans p8; replace p9 := (cell_far (p := ⟨p3, 4, none⟩) (by first | (rw [add_block]; exact q7) | (show (Addr.add _ _).block ≠ _; rw [add_block]; exact q7) | exact q7) (.int .i64 ((rd_T34 l0_1 p0).f4))).trans p9; clear q2; clear q3; clear q4; clear q5; clear q7; replace p233 := eq_true p233; replace q233 := eq_true q233) | ((with_reducible refine gate_dst (N := 9) rfl ?_); refine box_event ?hg (N := 9) ?hd (cs := #[.int .i64 0, .int .i64 0]) (t := 104) ?hr ?_; (case hd => rfl); (case hg => rfl); (case hr => first | (go_simp; done) | (go_simp; rfl)); intro p5 hg w53 hbox hb; have n0_ := Aside0.mk (Kd.R_below (Kd.R_elderB (Kd.R_mono (Kd.R_far (p := ⟨p3, 4, none⟩) (Kd.R_far (p := ⟨p3, 3, none⟩) (Kd.R_far (p := ⟨p3, 2, none⟩) (Kd.R_far (p := ⟨p3, 1, none⟩) (Kd.R_far (p := ⟨p3, 0, none⟩) (Kd.R_types HO_5.out p1.out (by decide)) (fun _ hk => hk.2) (.int .i64 ((rd_T34 l0_1 p0).f0))) (fun _ hk => hk.2) (.int .i64 ((rd_T34 l0_1 p0).f1))) (fun _ hk => hk.2) (.int .i64 ((rd_T34 l0_1 p0).f2))) (fun _ hk => hk.2) (.int .i64 ((rd_T34 l0_1 p0).f3))) (fun _ hk => hk.2) (.int .i64 ((rd_T34 l0_1 p0).f4))) (fun _ h_ => h_.1)) p5 (Nat.le_of_eq hg.symm)) hb); have n1_ := Aside0.mk (blk_below (g := q1) (o := .cells #[.int .i64 a0_0, .slice (some r0) l0_1.length c0_1] 25 (0, 0)) (by refine blk_far ?_ p4.out _; refine blk_far ?_ p4.out _; refine blk_far ?_ p4.out _; refine blk_far ?_ p4.out _; refine blk_far ?_ p4.out _; exact p7.out) hb); have n2_ := Aside0.mk (blk_below (g := p3) (o := .cells #[.int .i64 ((rd_T34 l0_1 p0).f0), .int .i64 ((rd_T34 l0_1 p0).f1), .int .i64 ((rd_T34 l0_1 p0).f2), .int .i64 ((rd_T34 l0_1 p0).f3), .int .i64 ((rd_T34 l0_1 p0).f4)] 34 (0, 0)) (by refine blk_put (cs := #[.int .i64 ((rd_T34 l0_1 p0).f0), .int .i64 ((rd_T34 l0_1 p0).f1), .int .i64 ((rd_T34 l0_1 p0).f2), .int .i64 ((rd_T34 l0_1 p0).f3), .int .i64 0]) ?_ 4 _ rfl; refine blk_put (cs := #[.int .i64 ((rd_T34 l0_1 p0).f0), .int .i64 ((rd_T34 l0_1 p0).f1), .int .i64 ((rd_T34 l0_1 p0).f2), .int .i64 0, .int .i64 0]) ?_ 3 _ rfl; refine blk_put (cs := #[.int .i64 ((rd_T34 l0_1 p0).f0), .int .i64 ((rd_T34 l0_1 p0).f1), .int .i64 0, .int .i64 0, .int .i64 0]) ?_ 2 _ rfl; refine blk_put (cs := #[.int .i64 ((rd_T34 l0_1 p0).f0), .int .i64 0, .int .i64 0, .int .i64 0, .int .i64 0]) ?_ 1 _ rfl; refine blk_put (cs := #[.int .i64 0, .int .i64 0, .int .i64 0, .int .i64 0, .int .i64 0]) ?_ 0 _ rfl; exact p1.out) hb); have n3_ := Aside0.mk (below_step (by repeat (first | (with_reducible first | exact HB.out | apply below_alloc | apply pw_below_drewN | apply below_drew1 | refine below_set ?_ r8.out | refine below_set ?_ r9.out) | exact HB.out)) hb); have n4_ := Aside0.mk (hbox); have n5_ := Aside0.mk ((by rw [hg]; exact (below_size (by repeat (first | (with_reducible first | exact HB.out | apply below_alloc | apply pw_below_drewN | apply below_drew1 | refine below_set ?_ r8.out | refine below_set ?_ r9.out) | exact HB.out))) : w.heap.size ≤ p5)); have n6_ := Aside0.mk ((by rw [hg]; exact (below_size (by repeat (first | (with_reducible first | exact HB.out | apply below_alloc | apply pw_below_drewN | apply below_drew1 | refine below_set ?_ r8.out | refine below_set ?_ r9.out) | exact HB.out))) : w.heap.size ≤ p5)); have n7_ := Aside0.mk ((by rw [hg]; exact Nat.ne_of_lt (blk_lt (g := q1) (o := .cells #[.int .i64 a0_0, .slice (some r0) l0_1.length c0_1] 25 (0, 0)) (by refine blk_far ?_ p4.out _; refine blk_far ?_ p4.out _; refine blk_far ?_ p4.out _; refine blk_far ?_ p4.out _; refine blk_far ?_ p4.out _; exact p7.out)) : q1 ≠ p5)); have n8_ := Aside0.mk ((by rw [hg]; exact Nat.ne_of_gt (blk_lt (g := q1) (o := .cells #[.int .i64 a0_0, .slice (some r0) l0_1.length c0_1] 25 (0, 0)) (by refine blk_far ?_ p4.out _; refine blk_far ?_ p4.out _; refine blk_far ?_ p4.out _; refine blk_far ?_ p4.out _; refine blk_far ?_ p4.out _; exact p7.out)) : p5 ≠ q1)); have n9_ := Aside0.mk ((by rw [hg]; exact Nat.ne_of_lt (blk_lt (g := p3) (o := .cells #[.int .i64 ((rd_T34 l0_1 p0).f0), .int .i64 ((rd_T34 l0_1 p0).f1), .int .i64 ((rd_T34 l0_1 p0).f2), .int .i64 ((rd_T34 l0_1 p0).f3), .int .i64 ((rd_T34 l0_1 p0).f4)] 34 (0, 0)) (by refine blk_put (cs := #[.int .i64 ((rd_T34 l0_1 p0).f0), .int .i64 ((rd_T34 l0_1 p0).f1), .int .i64 ((rd_T34 l0_1 p0).f2), .int .i64 ((rd_T34 l0_1 p0).f3), .int .i64 0]) ?_ 4 _ rfl; refine blk_put (cs := #[.int .i64 ((rd_T34 l0_1 p0).f0), .int .i64 ((rd_T34 l0_1 p0).f1), .int .i64 ((rd_T34 l0_1 p0).f2), .int .i64 0, .int .i64 0]) ?_ 3 _ rfl; refine blk_put (cs := #[.int .i64 ((rd_T34 l0_1 p0).f0), .int .i64 ((rd_T34 l0_1 p0).f1), .int .i64 0, .int .i64 0, .int .i64 0]) ?_ 2 _ rfl; refine blk_put (cs := #[.int .i64 ((rd_T34 l0_1 p0).f0), .int .i64 0, .int .i64 0, .int .i64 0, .int .i64 0]) ?_ 1 _ rfl; refine blk_put (cs := #[.int .i64 0, .int .i64 0, .int .i64 0, .int .i64 0, .int .i64 0]) ?_ 0 _ rfl; exact p1.out)) : p3 ≠ p5)); have n10_ := Aside0.mk ((by rw [hg]; exact Nat.ne_of_gt (blk_lt (g := p3) (o := .cells #[.int .i64 ((rd_T34 l0_1 p0).f0), .int .i64 ((rd_T34 l0_1 p0).f1), .int .i64 ((rd_T34 l0_1 p0).f2), .int .i64 ((rd_T34 l0_1 p0).f3), .int .i64 ((rd_T34 l0_1 p0).f4)] 34 (0, 0)) (by refine blk_put (cs := #[.int .i64 ((rd_T34 l0_1 p0).f0), .int .i64 ((rd_T34 l0_1 p0).f1), .int .i64 ((rd_T34 l0_1 p0).f2), .int .i64 ((rd_T34 l0_1 p0).f3), .int .i64 0]) ?_ 4 _ rfl; refine blk_put (cs := #[.int .i64 ((rd_T34 l0_1 p0).f0), .int .i64 ((rd_T34 l0_1 p0).f1), .int .i64 ((rd_T34 l0_1 p0).f2), .int .i64 0, .int .i64 0]) ?_ 3 _ rfl; refine blk_put (cs := #[.int .i64 ((rd_T34 l0_1 p0).f0), .int .i64 ((rd_T34 l0_1 p0).f1), .int .i64 0, .int .i64 0, .int .i64 0]) ?_ 2 _ rfl; refine blk_put (cs := #[.int .i64 ((rd_T34 l0_1 p0).f0), .int .i64 0, .int .i64 0, .int .i64 0, .int .i64 0]) ?_ 1 _ rfl; refine blk_put (cs := #[.int .i64 0, .int .i64 0, .int .i64 0, .int .i64 0, .int .i64 0]) ?_ 0 _ rfl; exact p1.out)) : p5 ≠ p3)); clear HO_5; clear p7; clear p1; clear HB; have HO_5 := n0_; have p7 := n1_; have p1 := n2_; have HB := n3_; have q0 := n4_; have GW234 := n5_; have t4 := n6_; have q8 := n7_; have t1 := n8_; have q9 := n9_; have t2 := n10_; clear n0_ n1_ n2_ n3_ n4_ n5_ n6_ n7_ n8_ n9_ n10_; clear hb hbox hg; have hnb54 := t1.out; have hnc54 := q8.out; have hnb55 := t2.out; have hnc55 := q9.out; have hcz56_0 : w53.cell? ⟨p5, 0, none⟩ = some (.int .i64 0) := (blk_cell q0.out 0).trans rfl; have hcz56_1 : w53.cell? ⟨p5, 1, none⟩ = some (.int .i64 0) := (blk_cell q0.out 1).trans rfl; have hfz56_0 := blk_frozen q0.out 0; have hfz56_1 := blk_frozen q0.out 1; have hcz57_0 : w53.cell? ⟨p3, 0, none⟩ = some (.int .i64 ((rd_T34 l0_1 p0).f0)) := (blk_cell p1.out 0).trans rfl; have hcz57_1 : w53.cell? ⟨p3, 1, none⟩ = some (.int .i64 ((rd_T34 l0_1 p0).f1)) := (blk_cell p1.out 1).trans rfl; have hcz57_2 : w53.cell? ⟨p3, 2, none⟩ = some (.int .i64 ((rd_T34 l0_1 p0).f2)) := (blk_cell p1.out 2).trans rfl; have hcz57_3 : w53.cell? ⟨p3, 3, none⟩ = some (.int .i64 ((rd_T34 l0_1 p0).f3)) := (blk_cell p1.out 3).trans rfl; have hcz57_4 : w53.cell? ⟨p3, 4, none⟩ = some (.int .i64 ((rd_T34 l0_1 p0).f4)) := (blk_cell p1.out 4).trans rfl; have hfz57_0 := blk_frozen p1.out 0; have hfz57_1 := blk_frozen p1.out 1; have hfz57_2 := blk_frozen p1.out 2; have hfz57_3 := blk_frozen p1.out 3; have hfz57_4 := blk_frozen p1.out 4))
      have n0_ : Aside0 (Kd.R k104 104 ((((w53.setCell ⟨p5, 0, none⟩ (.int .i64 ((rd_T104 x5_2 ((rd_T34 l0_1 p0).f1)).f0))).setCell ⟨p5, 1, none⟩ (.int .i64 ((rd_T104 x5_2 ((rd_T34 l0_1 p0).f1)).f1))).setCell ⟨p5, 0, none⟩ (.int .i64 (wrap64 (((rd_T104 x5_2 ((rd_T34 l0_1 p0).f1)).f0) + ((rd_T34 l0_1 p0).f2))))).setCell ⟨p5, 1, none⟩ (.int .i64 (wrap64 (((rd_T104 x5_2 ((rd_T34 l0_1 p0).f1)).f1) + 1)))) w.heap.size (fun k_ => k_ ≠ p5) (.slice (some ⟨go6, 0, none⟩) x5_2.length co6) x5_2) := ⟨by exact Kd.R_mono (Kd.R_far (p := ⟨p5, 1, none⟩) (Kd.R_far (p := ⟨p5, 0, none⟩) (Kd.R_far (p := ⟨p5, 1, none⟩) (Kd.R_far (p := ⟨p5, 0, none⟩) (Kd.R_mono HO_5.out (fun k_ hk => (⟨hk, hk.2⟩ : _ ∧ k_ ≠ p5))) (fun _ hk => hk.2) (.int .i64 ((rd_T104 x5_2 ((rd_T34 l0_1 p0).f1)).f0))) (fun _ hk => hk.2) (.int .i64 ((rd_T104 x5_2 ((rd_T34 l0_1 p0).f1)).f1))) (fun _ hk => hk.2) (.int .i64 (wrap64 (((rd_T104 x5_2 ((rd_T34 l0_1 p0).f1)).f0) + ((rd_T34 l0_1 p0).f2))))) (fun _ hk => hk.2) (.int .i64 (wrap64 (((rd_T104 x5_2 ((rd_T34 l0_1 p0).f1)).f1) + 1)))) (fun _ hk => hk.1.2)⟩
      have n1_ : Aside0 (((((w53.setCell ⟨p5, 0, none⟩ (.int .i64 ((rd_T104 x5_2 ((rd_T34 l0_1 p0).f1)).f0))).setCell ⟨p5, 1, none⟩ (.int .i64 ((rd_T104 x5_2 ((rd_T34 l0_1 p0).f1)).f1))).setCell ⟨p5, 0, none⟩ (.int .i64 (wrap64 (((rd_T104 x5_2 ((rd_T34 l0_1 p0).f1)).f0) + ((rd_T34 l0_1 p0).f2))))).setCell ⟨p5, 1, none⟩ (.int .i64 (wrap64 (((rd_T104 x5_2 ((rd_T34 l0_1 p0).f1)).f1) + 1)))).heap[q1]? = some (.cells #[.int .i64 a0_0, .slice (some r0) l0_1.length c0_1] 25 (0, 0))) := ⟨by refine blk_far ?_ q8.out _; refine blk_far ?_ q8.out _; refine blk_far ?_ q8.out _; refine blk_far ?_ q8.out _; exact p7.out⟩
      have n2_ : Aside0 (((((w53.setCell ⟨p5, 0, none⟩ (.int .i64 ((rd_T104 x5_2 ((rd_T34 l0_1 p0).f1)).f0))).setCell ⟨p5, 1, none⟩ (.int .i64 ((rd_T104 x5_2 ((rd_T34 l0_1 p0).f1)).f1))).setCell ⟨p5, 0, none⟩ (.int .i64 (wrap64 (((rd_T104 x5_2 ((rd_T34 l0_1 p0).f1)).f0) + ((rd_T34 l0_1 p0).f2))))).setCell ⟨p5, 1, none⟩ (.int .i64 (wrap64 (((rd_T104 x5_2 ((rd_T34 l0_1 p0).f1)).f1) + 1)))).heap[p3]? = some (.cells #[.int .i64 ((rd_T34 l0_1 p0).f0), .int .i64 ((rd_T34 l0_1 p0).f1), .int .i64 ((rd_T34 l0_1 p0).f2), .int .i64 ((rd_T34 l0_1 p0).f3), .int .i64 ((rd_T34 l0_1 p0).f4)] 34 (0, 0))) := ⟨by refine blk_far ?_ q9.out _; refine blk_far ?_ q9.out _; refine blk_far ?_ q9.out _; refine blk_far ?_ q9.out _; exact p1.out⟩
      have n3_ : Aside0 (((((w53.setCell ⟨p5, 0, none⟩ (.int .i64 ((rd_T104 x5_2 ((rd_T34 l0_1 p0).f1)).f0))).setCell ⟨p5, 1, none⟩ (.int .i64 ((rd_T104 x5_2 ((rd_T34 l0_1 p0).f1)).f1))).setCell ⟨p5, 0, none⟩ (.int .i64 (wrap64 (((rd_T104 x5_2 ((rd_T34 l0_1 p0).f1)).f0) + ((rd_T34 l0_1 p0).f2))))).setCell ⟨p5, 1, none⟩ (.int .i64 (wrap64 (((rd_T104 x5_2 ((rd_T34 l0_1 p0).f1)).f1) + 1)))).heap[p5]? = some (.cells #[.int .i64 (wrap64 (((rd_T104 x5_2 ((rd_T34 l0_1 p0).f1)).f0) + ((rd_T34 l0_1 p0).f2))), .int .i64 (wrap64 (((rd_T104 x5_2 ((rd_T34 l0_1 p0).f1)).f1) + 1))] 104 (0, 0))) := ⟨by refine blk_put (cs := #[.int .i64 (wrap64 (((rd_T104 x5_2 ((rd_T34 l0_1 p0).f1)).f0) + ((rd_T34 l0_1 p0).f2))), .int .i64 ((rd_T104 x5_2 ((rd_T34 l0_1 p0).f1)).f1)]) ?_ 1 _ rfl; refine blk_put (cs := #[.int .i64 ((rd_T104 x5_2 ((rd_T34 l0_1 p0).f1)).f0), .int .i64 ((rd_T104 x5_2 ((rd_T34 l0_1 p0).f1)).f1)]) ?_ 0 _ rfl; refine blk_put (cs := #[.int .i64 ((rd_T104 x5_2 ((rd_T34 l0_1 p0).f1)).f0), .int .i64 0]) ?_ 1 _ rfl; refine blk_put (cs := #[.int .i64 0, .int .i64 0]) ?_ 0 _ rfl; exact q0.out⟩
      have n4_ : Aside0 (Below w.heap.size w ((((w53.setCell ⟨p5, 0, none⟩ (.int .i64 ((rd_T104 x5_2 ((rd_T34 l0_1 p0).f1)).f0))).setCell ⟨p5, 1, none⟩ (.int .i64 ((rd_T104 x5_2 ((rd_T34 l0_1 p0).f1)).f1))).setCell ⟨p5, 0, none⟩ (.int .i64 (wrap64 (((rd_T104 x5_2 ((rd_T34 l0_1 p0).f1)).f0) + ((rd_T34 l0_1 p0).f2))))).setCell ⟨p5, 1, none⟩ (.int .i64 (wrap64 (((rd_T104 x5_2 ((rd_T34 l0_1 p0).f1)).f1) + 1))))) := ⟨by repeat (first | (with_reducible first | exact HB.out | apply below_alloc | apply pw_below_drewN | apply below_drew1 | refine below_set ?_ r8.out | refine below_set ?_ r9.out | refine below_set ?_ t4.out) | exact HB.out)⟩
      (try clear HO_5)
      (try clear p7)
      (try clear p1)
      (try clear q0)
      (try clear HB)
      generalize ((((w53.setCell ⟨p5, 0, none⟩ (.int .i64 ((rd_T104 x5_2 ((rd_T34 l0_1 p0).f1)).f0))).setCell ⟨p5, 1, none⟩ (.int .i64 ((rd_T104 x5_2 ((rd_T34 l0_1 p0).f1)).f1))).setCell ⟨p5, 0, none⟩ (.int .i64 (wrap64 (((rd_T104 x5_2 ((rd_T34 l0_1 p0).f1)).f0) + ((rd_T34 l0_1 p0).f2))))).setCell ⟨p5, 1, none⟩ (.int .i64 (wrap64 (((rd_T104 x5_2 ((rd_T34 l0_1 p0).f1)).f1) + 1)))) = w58 at n0_ n1_ n2_ n3_ n4_ ⊢
      have HO_5 := n0_
      have p7 := n1_
      have p1 := n2_
      have q0 := n3_
      have HB := n4_
      clear n0_ n1_ n2_ n3_ n4_
      have n0_ := Aside0.mk (Kd.R_drew HO_5.out)
      have n1_ := Aside0.mk (blk_drew p7.out)
      have n2_ := Aside0.mk (blk_drew p1.out)
      have n3_ := Aside0.mk (blk_drew q0.out)
      have n4_ := Aside0.mk (below_drew1 HB.out)
      clear HO_5
      clear p7
      clear p1
      clear q0
      clear HB
      have HO_5 := n0_
      have p7 := n1_
      have p1 := n2_
      have q0 := n3_
      have HB := n4_
      clear n0_ n1_ n2_ n3_ n4_
      have p235 : 0 ≤ (((rd_T34 l0_1 p0).f0) : Int) := of_decide_eq_true (by first | (with_reducible assumption) | assumption)
      have q235 : ((rd_T34 l0_1 p0).f0) < (x5_2.length : Int) := of_decide_eq_true (by first | (with_reducible assumption) | assumption)
      obtain ⟨u5, e235, r6, r7⟩ := at_T104 (Kd.R_reads' HO_5.out).2.2 ((rd_T34 l0_1 p0).f0) p235 q235
      obtain rfl : (⟨go6, 0, none⟩ : Addr) = u5 := (by injection e235)
      (first | simp only [add_plain] at r6 | simp only [add_at] at r6 | simp only [Addr.add, Nat.zero_add] at r6 | skip)
      (first | simp only [add_plain] at r7 | simp only [add_at] at r7 | simp only [Addr.add, Nat.zero_add] at r7 | skip)
      replace p235 := eq_true p235
      replace q235 := eq_true q235
      refine start_ (n := 7) (S := fun w' => w'.cell? ⟨p5, 0, none⟩ = some (.int .i64 (wrap64 (((rd_T104 x5_2 ((rd_T34 l0_1 p0).f1)).f0) + ((rd_T34 l0_1 p0).f2)))) ∧ w'.cell? ⟨p5, 1, none⟩ = some (.int .i64 (wrap64 (((rd_T104 x5_2 ((rd_T34 l0_1 p0).f1)).f1) + 1))) ∧ w'.cell? ⟨p3, 0, none⟩ = some (.int .i64 ((rd_T34 l0_1 p0).f0)) ∧ w'.cell? ⟨p3, 1, none⟩ = some (.int .i64 ((rd_T34 l0_1 p0).f1)) ∧ w'.cell? ⟨p3, 2, none⟩ = some (.int .i64 ((rd_T34 l0_1 p0).f2)) ∧ w'.cell? ⟨p3, 3, none⟩ = some (.int .i64 ((rd_T34 l0_1 p0).f3)) ∧ w'.cell? ⟨p3, 4, none⟩ = some (.int .i64 ((rd_T34 l0_1 p0).f4)) ∧ w'.cell? ⟨go6, (((rd_T34 l0_1 p0).f0)).toNat * 2, none⟩ = some (.int .i64 ((rd_T104 x5_2 ((rd_T34 l0_1 p0).f0)).f0)) ∧ w'.cell? ⟨go6, (((rd_T34 l0_1 p0).f0)).toNat * 2 + 1, none⟩ = some (.int .i64 ((rd_T104 x5_2 ((rd_T34 l0_1 p0).f0)).f1))) (ds := []) #[false, false, false, false, false, false, false] (by kernel_rfl) rfl rfl ⟨(blk_cell q0.out 0).trans rfl, (blk_cell q0.out 1).trans rfl, (blk_cell p1.out 0).trans rfl, (blk_cell p1.out 1).trans rfl, (blk_cell p1.out 2).trans rfl, (blk_cell p1.out 3).trans rfl, (blk_cell p1.out 4).trans rfl, r6, r7⟩ (fun hHeld => ?_)
      generalize w58.drew = w59 at HO_5 p7 p1 q0 HB r6 r7 hHeld ⊢
      refine pure_ (i := 1) (N := some 45) (v := ?_) (a' := ?_) #[false, true, false, false, false, false, false] rfl rfl (by kernel_rfl) (fun _ _ _ h => h) (Or.inl ⟨by rfl, ?_⟩) ?_ ?_
      rotate_left
      ·intro w'
       go_simp
       with_reducible rfl
      rotate_left
      ·simp only [Act.put, List.setIfInBounds_toArray, List.set_cons_zero, List.set_cons_succ, i64_w, i32_w]
       rfl
      refine pure_ (i := 2) (N := some 46) (v := ?_) (a' := ?_) #[false, true, true, false, false, false, false] rfl rfl (by kernel_rfl) (fun _ _ _ h => h) (Or.inl ⟨by rfl, ?_⟩) ?_ ?_
      rotate_left
      ·intro w'
       go_simp
       with_reducible rfl
      rotate_left
      ·simp only [Act.put, List.setIfInBounds_toArray, List.set_cons_zero, List.set_cons_succ, i64_w, i32_w]
       rfl
      refine take_ (i := 0) (N := some 44) (v := ?_) (a' := ?_) #[true, true, true, false, false, false, false] rfl rfl (by kernel_rfl) (fun _ _ _ h => h) (Or.inl ⟨by rfl, ?_⟩) hHeld ?_ ?_
      rotate_left
      ·rintro w' ⟨s0, s1, s2, s3, s4, s5, s6, s7, s8⟩
       go_simp
       with_reducible rfl
      rotate_left
      ·simp only [Act.put, List.setIfInBounds_toArray, List.set_cons_zero, List.set_cons_succ, i64_w, i32_w]
       rfl
      refine take_ (i := 3) (N := some 47) (v := ?_) (a' := ?_) #[true, true, true, true, false, false, false] rfl rfl (by kernel_rfl) (fun _ _ _ h => h) (Or.inl ⟨by rfl, ?_⟩) hHeld ?_ ?_
      rotate_left
      ·rintro w' ⟨s0, s1, s2, s3, s4, s5, s6, s7, s8⟩
       go_simp
       with_reducible rfl
      rotate_left
      ·simp only [Act.put, List.setIfInBounds_toArray, List.set_cons_zero, List.set_cons_succ, i64_w, i32_w]
       rfl
      refine pure_ (i := 4) (N := some 48) (v := ?_) (a' := ?_) #[true, true, true, true, true, false, false] rfl rfl (by kernel_rfl) (fun _ _ _ h => h) (Or.inl ⟨by rfl, ?_⟩) ?_ ?_
      rotate_left
      ·intro w'
       go_simp
       with_reducible rfl
      rotate_left
      ·simp only [Act.put, List.setIfInBounds_toArray, List.set_cons_zero, List.set_cons_succ, i64_w, i32_w]
       rfl
      refine take_ (i := 5) (N := some 49) (v := ?_) (a' := ?_) #[true, true, true, true, true, true, false] rfl rfl (by kernel_rfl) (fun _ _ _ h => h) (Or.inl ⟨by rfl, ?_⟩) hHeld ?_ ?_
      rotate_left
      ·rintro w' ⟨s0, s1, s2, s3, s4, s5, s6, s7, s8⟩
       go_simp
       with_reducible rfl
      rotate_left
      ·simp only [Act.put, List.setIfInBounds_toArray, List.set_cons_zero, List.set_cons_succ, i64_w, i32_w]
       rfl
      refine one_ (i := 6) (N := some 50) #[true, true, true, true, true, true, true] rfl rfl (by kernel_rfl) (by decide) (fun K hK => ?_)
      refine goes_ Try.func127 (by kernel_rfl) rfl #[.agg #[.int .i64 (wrap64 (((rd_T104 x5_2 ((rd_T34 l0_1 p0).f1)).f0) + ((rd_T34 l0_1 p0).f2))), .int .i64 (wrap64 (((rd_T104 x5_2 ((rd_T34 l0_1 p0).f1)).f1) + 1))], .agg #[.int .i64 ((rd_T104 x5_2 ((rd_T34 l0_1 p0).f0)).f0), .int .i64 ((rd_T104 x5_2 ((rd_T34 l0_1 p0).f0)).f1)]] (by rfl) rfl rfl (by (try simp only [List.map_toArray, List.map_cons, List.map_nil]); first | done | rfl | (simp only [List.length_drop, List.length_take]; rfl)) ?_
      with_reducible refine (impl_measure_less.calls (wrap64 (((rd_T104 x5_2 ((rd_T34 l0_1 p0).f1)).f0) + ((rd_T34 l0_1 p0).f2))) (wrap64 (((rd_T104 x5_2 ((rd_T34 l0_1 p0).f1)).f1) + 1)) ((rd_T104 x5_2 ((rd_T34 l0_1 p0).f0)).f0) ((rd_T104 x5_2 ((rd_T34 l0_1 p0).f0)).f1) false _ A32.out).mono ?_
      rintro e w60 ⟨rfl, hb⟩
      have HS7_ := (hb.cell (World.block_lt_of_cell? _ _ (hHeld.2.2.2.2.2.2.2.1))).trans (hHeld.2.2.2.2.2.2.2.1)
      have HS8_ := (hb.cell (World.block_lt_of_cell? _ _ (hHeld.2.2.2.2.2.2.2.2))).trans (hHeld.2.2.2.2.2.2.2.2)
      refine ⟨_, rfl, ?_⟩
      have n0_ := Aside0.mk (Kd.R_below HO_5.out hb)
      have n1_ := Aside0.mk (blk_below (g := q1) (o := .cells #[.int .i64 a0_0, .slice (some r0) l0_1.length c0_1] 25 (0, 0)) p7.out hb)
      have n2_ := Aside0.mk (blk_below (g := p3) (o := .cells #[.int .i64 ((rd_T34 l0_1 p0).f0), .int .i64 ((rd_T34 l0_1 p0).f1), .int .i64 ((rd_T34 l0_1 p0).f2), .int .i64 ((rd_T34 l0_1 p0).f3), .int .i64 ((rd_T34 l0_1 p0).f4)] 34 (0, 0)) p1.out hb)
      have n3_ := Aside0.mk (blk_below (g := p5) (o := .cells #[.int .i64 (wrap64 (((rd_T104 x5_2 ((rd_T34 l0_1 p0).f1)).f0) + ((rd_T34 l0_1 p0).f2))), .int .i64 (wrap64 (((rd_T104 x5_2 ((rd_T34 l0_1 p0).f1)).f1) + 1))] 104 (0, 0)) q0.out hb)
      have n4_ := Aside0.mk (below_step HB.out hb)
      clear HO_5
      clear p7
      clear p1
      clear q0
      clear HB
      have HO_5 := n0_
      have p7 := n1_
      have p1 := n2_
      have q0 := n3_
      have HB := n4_
      clear n0_ n1_ n2_ n3_ n4_
      (try clear hb)
      (try clear hb2)
      (try clear hk)
      (try clear hi)
      refine hK.out _ _ ⟨(blk_cell q0.out 0).trans rfl, (blk_cell q0.out 1).trans rfl, (blk_cell p1.out 0).trans rfl, (blk_cell p1.out 1).trans rfl, (blk_cell p1.out 2).trans rfl, (blk_cell p1.out 3).trans rfl, (blk_cell p1.out 4).trans rfl, HS7_, HS8_⟩ (fun hHeld => ?_)
      clear hK K
      refine norm_ (a' := ?_) ?_ ?_
      rotate_left
      ·show Act.put _ (some 50) _ = _
       simp only [Act.put, List.setIfInBounds_toArray, List.set_cons_zero, List.set_cons_succ, i64_w, i32_w]
       rfl
      refine done_ (by kernel_rfl) ?_
      try go_wp2
      (try simp only [← hl5_2])
      go_roundg k2
      case measure => have := HK1.out; have := HK2.out; omega
      case rel => exact ⟨(x5_2), (x6_2), (wrap64 (p0 + 1)), (by first | rfl | (simp; done) | (simp [*]; done)), (by first | rfl | (simp; done) | (simp [*]; done)), H', ⟨by have := HK1.out; have := HK2.out; omega⟩, ⟨by (try simp only [hl5_1]); (try simp only [hl5_2]); exact Kd.R_mono HO_5.out (fun _ hk => trivial)⟩, ⟨by (try simp only [hl5_1]); (try simp only [hl5_2]); exact p7.out⟩, ⟨by repeat (first | (with_reducible first | exact HB.out | apply below_alloc | apply pw_below_drewN | apply below_drew1 | refine below_set ?_ r8.out | refine below_set ?_ r9.out | refine below_set ?_ t4.out) | exact HB.out)⟩⟩
     subst c33
     have H1 : (impl_Net_toward.l1 k2 (x5_2.set (((rd_T34 l0_1 p0).f0) : Int).toNat (⟨wrap64 (((rd_T104 x5_2 ((rd_T34 l0_1 p0).f1)).f0) + ((rd_T34 l0_1 p0).f2)), wrap64 (((rd_T104 x5_2 ((rd_T34 l0_1 p0).f1)).f1) + 1)⟩ : S104)) true l0_1 (l0_1.length : Int) (wrap64 (p0 + 1)) a0_0 l0_1) = some r := by rw [if_pos rfl] at H; exact H
     clear H
     have H := H1
     clear H1
     obtain ⟨y237, hy237⟩ : ∃ y_ : List (S104), y_ = (x5_2.set (((rd_T34 l0_1 p0).f0) : Int).toNat (⟨wrap64 (((rd_T104 x5_2 ((rd_T34 l0_1 p0).f1)).f0) + ((rd_T34 l0_1 p0).f2)), wrap64 (((rd_T104 x5_2 ((rd_T34 l0_1 p0).f1)).f1) + 1)⟩ : S104)) := ⟨_, rfl⟩
     replace H : (impl_Net_toward.l1 k2 y237 true l0_1 (l0_1.length : Int) (wrap64 (p0 + 1)) a0_0 l0_1) = some r := by first | (rw [hy237]; with_reducible exact H) | (have H2_ := (Option.bind_some _ _).symm.trans H; rw [hy237]; with_reducible exact H2_) | (have H2_ := (Option.bind_some _ _).symm.trans H; with_reducible exact H2_) | with_reducible exact H | (rw [hy237]; exact H) | exact H
     have Ny237 := Aside0.mk hy237
     clear hy237
     have H' := Aside0.mk H
     clear H
     have p231 : 0 ≤ (p0 : Int) := of_decide_eq_true (by first | (with_reducible assumption) | assumption)
     have q231 : p0 < (l0_1.length : Int) := of_decide_eq_true (by first | (with_reducible assumption) | assumption)
     obtain ⟨r0, e231, r1, r2, r3, r4, r5⟩ := at_T34 u4.out p0 p231 q231
     cases e231
     replace r1 := (HB.out.cell (World.block_lt_of_cell? w _ r1)).trans r1
     replace r2 := (HB.out.cell (World.block_lt_of_cell? w _ r2)).trans r2
     replace r3 := (HB.out.cell (World.block_lt_of_cell? w _ r3)).trans r3
     replace r4 := (HB.out.cell (World.block_lt_of_cell? w _ r4)).trans r4
     replace r5 := (HB.out.cell (World.block_lt_of_cell? w _ r5)).trans r5
     replace p231 := eq_true p231
     replace q231 := eq_true q231
     try go_wp2_with (first | ((with_reducible refine gate_dst (N := 8) rfl ?_); refine box_event ?hg (N := 8) ?hd (cs := #[.int .i64 0, .int .i64 0, .int .i64 0, .int .i64 0, .int .i64 0]) (t := 34) ?hr ?_; (case hd => rfl); (case hg => rfl); (case hr => first | (go_simp; done) | (go_simp; rfl)); intro p3 hg w35 hbox hb; have n0_ := Aside0.mk (Kd.R_below HO_5.out hb); have n1_ := Aside0.mk (blk_below (g := q1) (o := .cells #[.int .i64 a0_0, .slice (some r0) l0_1.length c0_1] 25 (0, 0)) p7.out hb); have n2_ := Aside0.mk (below_step HB.out hb); have n3_ := Aside0.mk (hbox); have n4_ := Aside0.mk ((by rw [hg]; exact (below_size HB.out) : w.heap.size ≤ p3)); have n5_ := Aside0.mk ((by rw [hg]; exact (below_size HB.out) : w.heap.size ≤ p3)); have n6_ := Aside0.mk ((by rw [hg]; exact Nat.ne_of_lt (blk_lt (g := q1) (o := .cells #[.int .i64 a0_0, .slice (some r0) l0_1.length c0_1] 25 (0, 0)) p7.out) : q1 ≠ p3)); have n7_ := Aside0.mk ((by rw [hg]; exact Nat.ne_of_gt (blk_lt (g := q1) (o := .cells #[.int .i64 a0_0, .slice (some r0) l0_1.length c0_1] 25 (0, 0)) p7.out) : p3 ≠ q1)); clear HO_5; clear p7; clear HB; have HO_5 := n0_; have p7 := n1_; have HB := n2_; have p1 := n3_; have GW232 := n4_; have r9 := n5_; have p4 := n6_; have t0 := n7_; clear n0_ n1_ n2_ n3_ n4_ n5_ n6_ n7_; clear hb hbox hg; have hnb36 := t0.out; have hnc36 := p4.out; have hcz37_0 : w35.cell? ⟨p3, 0, none⟩ = some (.int .i64 0) := (blk_cell p1.out 0).trans rfl; have hcz37_1 : w35.cell? ⟨p3, 1, none⟩ = some (.int .i64 0) := (blk_cell p1.out 1).trans rfl; have hcz37_2 : w35.cell? ⟨p3, 2, none⟩ = some (.int .i64 0) := (blk_cell p1.out 2).trans rfl; have hcz37_3 : w35.cell? ⟨p3, 3, none⟩ = some (.int .i64 0) := (blk_cell p1.out 3).trans rfl; have hcz37_4 : w35.cell? ⟨p3, 4, none⟩ = some (.int .i64 0) := (blk_cell p1.out 4).trans rfl; have hfz37_0 := blk_frozen p1.out 0; have hfz37_1 := blk_frozen p1.out 1; have hfz37_2 := blk_frozen p1.out 2; have hfz37_3 := blk_frozen p1.out 3; have hfz37_4 := blk_frozen p1.out 4; have p233 : 0 ≤ (((rd_T34 l0_1 p0).f1) : Int) := of_decide_eq_true (by first | (with_reducible assumption) | assumption); have q233 : ((rd_T34 l0_1 p0).f1) < (x5_2.length : Int) := of_decide_eq_true (by first | (with_reducible assumption) | assumption); obtain ⟨t5, e233, p8, p9⟩ := at_T104 (Kd.R_reads' HO_5.out).2.2 ((rd_T34 l0_1 p0).f1) p233 q233; obtain rfl : (⟨go6, 0, none⟩ : Addr) = t5 := (by injection e233); (first | simp only [add_plain] at p8 | simp only [add_at] at p8 | simp only [Addr.add, Nat.zero_add] at p8 | skip); (first | simp only [add_plain] at p9 | simp only [add_at] at p9 | simp only [Addr.add, Nat.zero_add] at p9 | skip); have q2 : (⟨go6, 0, none⟩ : Addr).block ≠ p3 := Kd.own_blk (Kd.R_ne HO_5.out p1.out (by decide)); have q3 : (⟨go6, 0, none⟩ : Addr).block ≠ p3 := Kd.own_blk (Kd.R_ne HO_5.out p1.out (by decide)); have q4 : (⟨go6, 0, none⟩ : Addr).block ≠ p3 := Kd.own_blk (Kd.R_ne HO_5.out p1.out (by decide)); have q5 : (⟨go6, 0, none⟩ : Addr).block ≠ p3 := Kd.own_blk (Kd.R_ne HO_5.out p1.out (by decide)); have q7 : (⟨go6, 0, none⟩ : Addr).block ≠ p3 := Kd.own_blk (Kd.R_ne HO_5.out p1.out (by decide)); replace p8 := (cell_far (p := ⟨p3, 0, none⟩) (by first | (rw [add_block]; exact q2) | (show (Addr.add _ _).block ≠ _; rw [add_block]; exact q2) | exact q2) (.int .i64 ((rd_T34 l0_1 p0).f0))).trans p8; replace p9 := (cell_far (p := ⟨p3, 0, none⟩) (by first | (rw [add_block]; exact q2) | (show (Addr.add _ _).block ≠ _; rw [add_block]; exact q2) | exact q2) (.int .i64 ((rd_T34 l0_1 p0).f0))).trans p9; replace p8 := (cell_far (p := ⟨p3, 1, none⟩) (by first | (rw [add_block]; exact q3) | (show (Addr.add _ _).block ≠ _; rw [add_block]; exact q3) | exact q3) (.int .i64 ((rd_T34 l0_1 p0).f1))).trans p8; replace p9 := (cell_far (p := ⟨p3, 1, none⟩) (by first | (rw [add_block]; exact q3) | (show (Addr.add _ _).block ≠ _; rw [add_block]; exact q3) | exact q3) (.int .i64 ((rd_T34 l0_1 p0).f1))).trans p9; replace p8 := (cell_far (p := ⟨p3, 2, none⟩) (by first | (rw [add_block]; exact q4) | (show (Addr.add _ _).block ≠ _; rw [add_block]; exact q4) | exact q4) (.int .i64 ((rd_T34 l0_1 p0).f2))).trans p8; replace p9 := (cell_far (p := ⟨p3, 2, none⟩) (by first | (rw [add_block]; exact q4) | (show (Addr.add _ _).block ≠ _; rw [add_block]; exact q4) | exact q4) (.int .i64 ((rd_T34 l0_1 p0).f2))).trans p9; replace p8 := (cell_far (p := ⟨p3, 3, none⟩) (by first | (rw [add_block]; exact q5) | (show (Addr.add _ _).block ≠ _; rw [add_block]; exact q5) | exact q5) (.int .i64 ((rd_T34 l0_1 p0).f3))).trans p8; replace p9 := (cell_far (p := ⟨p3, 3, none⟩) (by first | (rw [add_block]; exact q5) | (show (Addr.add _ _).block ≠ _; rw [add_block]; exact q5) | exact q5) (.int .i64 ((rd_T34 l0_1 p0).f3))).trans p9; replace p8 := (cell_far (p := ⟨p3, 4, none⟩) (by first | (rw [add_block]; exact q7) | (show (Addr.add _ _).block ≠ _; rw [add_block]; exact q7) | exact q7) (.int .i64 ((rd_T34 l0_1 p0).f4))).trans p8; replace p9 := (cell_far (p := ⟨p3, 4, none⟩) (by first | (rw [add_block]; exact q7) | (show (Addr.add _ _).block ≠ _; rw [add_block]; exact q7) | exact q7) (.int .i64 ((rd_T34 l0_1 p0).f4))).trans p9; clear q2; clear q3; clear q4; clear q5; clear q7; replace p233 := eq_true p233; replace q233 := eq_true q233) | ((with_reducible refine gate_dst (N := 9) rfl ?_); refine box_event ?hg (N := 9) ?hd (cs := #[.int .i64 0, .int .i64 0]) (t := 104) ?hr ?_; (case hd => rfl); (case hg => rfl); (case hr => first | (go_simp; done) | (go_simp; rfl)); intro p5 hg w38 hbox hb; have n0_ := Aside0.mk (Kd.R_below (Kd.R_elderB (Kd.R_mono (Kd.R_far (p := ⟨p3, 4, none⟩) (Kd.R_far (p := ⟨p3, 3, none⟩) (Kd.R_far (p := ⟨p3, 2, none⟩) (Kd.R_far (p := ⟨p3, 1, none⟩) (Kd.R_far (p := ⟨p3, 0, none⟩) (Kd.R_types HO_5.out p1.out (by decide)) (fun _ hk => hk.2) (.int .i64 ((rd_T34 l0_1 p0).f0))) (fun _ hk => hk.2) (.int .i64 ((rd_T34 l0_1 p0).f1))) (fun _ hk => hk.2) (.int .i64 ((rd_T34 l0_1 p0).f2))) (fun _ hk => hk.2) (.int .i64 ((rd_T34 l0_1 p0).f3))) (fun _ hk => hk.2) (.int .i64 ((rd_T34 l0_1 p0).f4))) (fun _ h_ => h_.1)) p5 (Nat.le_of_eq hg.symm)) hb); have n1_ := Aside0.mk (blk_below (g := q1) (o := .cells #[.int .i64 a0_0, .slice (some r0) l0_1.length c0_1] 25 (0, 0)) (by refine blk_far ?_ p4.out _; refine blk_far ?_ p4.out _; refine blk_far ?_ p4.out _; refine blk_far ?_ p4.out _; refine blk_far ?_ p4.out _; exact p7.out) hb); have n2_ := Aside0.mk (blk_below (g := p3) (o := .cells #[.int .i64 ((rd_T34 l0_1 p0).f0), .int .i64 ((rd_T34 l0_1 p0).f1), .int .i64 ((rd_T34 l0_1 p0).f2), .int .i64 ((rd_T34 l0_1 p0).f3), .int .i64 ((rd_T34 l0_1 p0).f4)] 34 (0, 0)) (by refine blk_put (cs := #[.int .i64 ((rd_T34 l0_1 p0).f0), .int .i64 ((rd_T34 l0_1 p0).f1), .int .i64 ((rd_T34 l0_1 p0).f2), .int .i64 ((rd_T34 l0_1 p0).f3), .int .i64 0]) ?_ 4 _ rfl; refine blk_put (cs := #[.int .i64 ((rd_T34 l0_1 p0).f0), .int .i64 ((rd_T34 l0_1 p0).f1), .int .i64 ((rd_T34 l0_1 p0).f2), .int .i64 0, .int .i64 0]) ?_ 3 _ rfl; refine blk_put (cs := #[.int .i64 ((rd_T34 l0_1 p0).f0), .int .i64 ((rd_T34 l0_1 p0).f1), .int .i64 0, .int .i64 0, .int .i64 0]) ?_ 2 _ rfl; refine blk_put (cs := #[.int .i64 ((rd_T34 l0_1 p0).f0), .int .i64 0, .int .i64 0, .int .i64 0, .int .i64 0]) ?_ 1 _ rfl; refine blk_put (cs := #[.int .i64 0, .int .i64 0, .int .i64 0, .int .i64 0, .int .i64 0]) ?_ 0 _ rfl; exact p1.out) hb); have n3_ := Aside0.mk (below_step (by repeat (first | (with_reducible first | exact HB.out | apply below_alloc | apply pw_below_drewN | apply below_drew1 | refine below_set ?_ r8.out | refine below_set ?_ r9.out) | exact HB.out)) hb); have n4_ := Aside0.mk (hbox); have n5_ := Aside0.mk ((by rw [hg]; exact (below_size (by repeat (first | (with_reducible first | exact HB.out | apply below_alloc | apply pw_below_drewN | apply below_drew1 | refine below_set ?_ r8.out | refine below_set ?_ r9.out) | exact HB.out))) : w.heap.size ≤ p5)); have n6_ := Aside0.mk ((by rw [hg]; exact (below_size (by repeat (first | (with_reducible first | exact HB.out | apply below_alloc | apply pw_below_drewN | apply below_drew1 | refine below_set ?_ r8.out | refine below_set ?_ r9.out) | exact HB.out))) : w.heap.size ≤ p5)); have n7_ := Aside0.mk ((by rw [hg]; exact Nat.ne_of_lt (blk_lt (g := q1) (o := .cells #[.int .i64 a0_0, .slice (some r0) l0_1.length c0_1] 25 (0, 0)) (by refine blk_far ?_ p4.out _; refine blk_far ?_ p4.out _; refine blk_far ?_ p4.out _; refine blk_far ?_ p4.out _; refine blk_far ?_ p4.out _; exact p7.out)) : q1 ≠ p5)); have n8_ := Aside0.mk ((by rw [hg]; exact Nat.ne_of_gt (blk_lt (g := q1) (o := .cells #[.int .i64 a0_0, .slice (some r0) l0_1.length c0_1] 25 (0, 0)) (by refine blk_far ?_ p4.out _; refine blk_far ?_ p4.out _; refine blk_far ?_ p4.out _; refine blk_far ?_ p4.out _; refine blk_far ?_ p4.out _; exact p7.out)) : p5 ≠ q1)); have n9_ := Aside0.mk ((by rw [hg]; exact Nat.ne_of_lt (blk_lt (g := p3) (o := .cells #[.int .i64 ((rd_T34 l0_1 p0).f0), .int .i64 ((rd_T34 l0_1 p0).f1), .int .i64 ((rd_T34 l0_1 p0).f2), .int .i64 ((rd_T34 l0_1 p0).f3), .int .i64 ((rd_T34 l0_1 p0).f4)] 34 (0, 0)) (by refine blk_put (cs := #[.int .i64 ((rd_T34 l0_1 p0).f0), .int .i64 ((rd_T34 l0_1 p0).f1), .int .i64 ((rd_T34 l0_1 p0).f2), .int .i64 ((rd_T34 l0_1 p0).f3), .int .i64 0]) ?_ 4 _ rfl; refine blk_put (cs := #[.int .i64 ((rd_T34 l0_1 p0).f0), .int .i64 ((rd_T34 l0_1 p0).f1), .int .i64 ((rd_T34 l0_1 p0).f2), .int .i64 0, .int .i64 0]) ?_ 3 _ rfl; refine blk_put (cs := #[.int .i64 ((rd_T34 l0_1 p0).f0), .int .i64 ((rd_T34 l0_1 p0).f1), .int .i64 0, .int .i64 0, .int .i64 0]) ?_ 2 _ rfl; refine blk_put (cs := #[.int .i64 ((rd_T34 l0_1 p0).f0), .int .i64 0, .int .i64 0, .int .i64 0, .int .i64 0]) ?_ 1 _ rfl; refine blk_put (cs := #[.int .i64 0, .int .i64 0, .int .i64 0, .int .i64 0, .int .i64 0]) ?_ 0 _ rfl; exact p1.out)) : p3 ≠ p5)); have n10_ := Aside0.mk ((by rw [hg]; exact Nat.ne_of_gt (blk_lt (g := p3) (o := .cells #[.int .i64 ((rd_T34 l0_1 p0).f0), .int .i64 ((rd_T34 l0_1 p0).f1), .int .i64 ((rd_T34 l0_1 p0).f2), .int .i64 ((rd_T34 l0_1 p0).f3), .int .i64 ((rd_T34 l0_1 p0).f4)] 34 (0, 0)) (by refine blk_put (cs := #[.int .i64 ((rd_T34 l0_1 p0).f0), .int .i64 ((rd_T34 l0_1 p0).f1), .int .i64 ((rd_T34 l0_1 p0).f2), .int .i64 ((rd_T34 l0_1 p0).f3), .int .i64 0]) ?_ 4 _ rfl; refine blk_put (cs := #[.int .i64 ((rd_T34 l0_1 p0).f0), .int .i64 ((rd_T34 l0_1 p0).f1), .int .i64 ((rd_T34 l0_1 p0).f2), .int .i64 0, .int .i64 0]) ?_ 3 _ rfl; refine blk_put (cs := #[.int .i64 ((rd_T34 l0_1 p0).f0), .int .i64 ((rd_T34 l0_1 p0).f1), .int .i64 0, .int .i64 0, .int .i64 0]) ?_ 2 _ rfl; refine blk_put (cs := #[.int .i64 ((rd_T34 l0_1 p0).f0), .int .i64 0, .int .i64 0, .int .i64 0, .int .i64 0]) ?_ 1 _ rfl; refine blk_put (cs := #[.int .i64 0, .int .i64 0, .int .i64 0, .int .i64 0, .int .i64 0]) ?_ 0 _ rfl; exact p1.out)) : p5 ≠ p3)); clear HO_5; clear p7; clear p1; clear HB; have HO_5 := n0_; have p7 := n1_; have p1 := n2_; have HB := n3_; have q0 := n4_; have GW234 := n5_; have t4 := n6_; have q8 := n7_; have t1 := n8_; have q9 := n9_; have t2 := n10_; clear n0_ n1_ n2_ n3_ n4_ n5_ n6_ n7_ n8_ n9_ n10_; clear hb hbox hg; have hnb39 := t1.out; have hnc39 := q8.out; have hnb40 := t2.out; have hnc40 := q9.out; have hcz41_0 : w38.cell? ⟨p5, 0, none⟩ = some (.int .i64 0) := (blk_cell q0.out 0).trans rfl; have hcz41_1 : w38.cell? ⟨p5, 1, none⟩ = some (.int .i64 0) := (blk_cell q0.out 1).trans rfl; have hfz41_0 := blk_frozen q0.out 0; have hfz41_1 := blk_frozen q0.out 1; have hcz42_0 : w38.cell? ⟨p3, 0, none⟩ = some (.int .i64 ((rd_T34 l0_1 p0).f0)) := (blk_cell p1.out 0).trans rfl; have hcz42_1 : w38.cell? ⟨p3, 1, none⟩ = some (.int .i64 ((rd_T34 l0_1 p0).f1)) := (blk_cell p1.out 1).trans rfl; have hcz42_2 : w38.cell? ⟨p3, 2, none⟩ = some (.int .i64 ((rd_T34 l0_1 p0).f2)) := (blk_cell p1.out 2).trans rfl; have hcz42_3 : w38.cell? ⟨p3, 3, none⟩ = some (.int .i64 ((rd_T34 l0_1 p0).f3)) := (blk_cell p1.out 3).trans rfl; have hcz42_4 : w38.cell? ⟨p3, 4, none⟩ = some (.int .i64 ((rd_T34 l0_1 p0).f4)) := (blk_cell p1.out 4).trans rfl; have hfz42_0 := blk_frozen p1.out 0; have hfz42_1 := blk_frozen p1.out 1; have hfz42_2 := blk_frozen p1.out 2; have hfz42_3 := blk_frozen p1.out 3; have hfz42_4 := blk_frozen p1.out 4))
     have n0_ : Aside0 (Kd.R k104 104 ((((w38.setCell ⟨p5, 0, none⟩ (.int .i64 ((rd_T104 x5_2 ((rd_T34 l0_1 p0).f1)).f0))).setCell ⟨p5, 1, none⟩ (.int .i64 ((rd_T104 x5_2 ((rd_T34 l0_1 p0).f1)).f1))).setCell ⟨p5, 0, none⟩ (.int .i64 (wrap64 (((rd_T104 x5_2 ((rd_T34 l0_1 p0).f1)).f0) + ((rd_T34 l0_1 p0).f2))))).setCell ⟨p5, 1, none⟩ (.int .i64 (wrap64 (((rd_T104 x5_2 ((rd_T34 l0_1 p0).f1)).f1) + 1)))) w.heap.size (fun k_ => k_ ≠ p5) (.slice (some ⟨go6, 0, none⟩) x5_2.length co6) x5_2) := ⟨by exact Kd.R_mono (Kd.R_far (p := ⟨p5, 1, none⟩) (Kd.R_far (p := ⟨p5, 0, none⟩) (Kd.R_far (p := ⟨p5, 1, none⟩) (Kd.R_far (p := ⟨p5, 0, none⟩) (Kd.R_mono HO_5.out (fun k_ hk => (⟨hk, hk.2⟩ : _ ∧ k_ ≠ p5))) (fun _ hk => hk.2) (.int .i64 ((rd_T104 x5_2 ((rd_T34 l0_1 p0).f1)).f0))) (fun _ hk => hk.2) (.int .i64 ((rd_T104 x5_2 ((rd_T34 l0_1 p0).f1)).f1))) (fun _ hk => hk.2) (.int .i64 (wrap64 (((rd_T104 x5_2 ((rd_T34 l0_1 p0).f1)).f0) + ((rd_T34 l0_1 p0).f2))))) (fun _ hk => hk.2) (.int .i64 (wrap64 (((rd_T104 x5_2 ((rd_T34 l0_1 p0).f1)).f1) + 1)))) (fun _ hk => hk.1.2)⟩
     have n1_ : Aside0 (((((w38.setCell ⟨p5, 0, none⟩ (.int .i64 ((rd_T104 x5_2 ((rd_T34 l0_1 p0).f1)).f0))).setCell ⟨p5, 1, none⟩ (.int .i64 ((rd_T104 x5_2 ((rd_T34 l0_1 p0).f1)).f1))).setCell ⟨p5, 0, none⟩ (.int .i64 (wrap64 (((rd_T104 x5_2 ((rd_T34 l0_1 p0).f1)).f0) + ((rd_T34 l0_1 p0).f2))))).setCell ⟨p5, 1, none⟩ (.int .i64 (wrap64 (((rd_T104 x5_2 ((rd_T34 l0_1 p0).f1)).f1) + 1)))).heap[q1]? = some (.cells #[.int .i64 a0_0, .slice (some r0) l0_1.length c0_1] 25 (0, 0))) := ⟨by refine blk_far ?_ q8.out _; refine blk_far ?_ q8.out _; refine blk_far ?_ q8.out _; refine blk_far ?_ q8.out _; exact p7.out⟩
     have n2_ : Aside0 (((((w38.setCell ⟨p5, 0, none⟩ (.int .i64 ((rd_T104 x5_2 ((rd_T34 l0_1 p0).f1)).f0))).setCell ⟨p5, 1, none⟩ (.int .i64 ((rd_T104 x5_2 ((rd_T34 l0_1 p0).f1)).f1))).setCell ⟨p5, 0, none⟩ (.int .i64 (wrap64 (((rd_T104 x5_2 ((rd_T34 l0_1 p0).f1)).f0) + ((rd_T34 l0_1 p0).f2))))).setCell ⟨p5, 1, none⟩ (.int .i64 (wrap64 (((rd_T104 x5_2 ((rd_T34 l0_1 p0).f1)).f1) + 1)))).heap[p3]? = some (.cells #[.int .i64 ((rd_T34 l0_1 p0).f0), .int .i64 ((rd_T34 l0_1 p0).f1), .int .i64 ((rd_T34 l0_1 p0).f2), .int .i64 ((rd_T34 l0_1 p0).f3), .int .i64 ((rd_T34 l0_1 p0).f4)] 34 (0, 0))) := ⟨by refine blk_far ?_ q9.out _; refine blk_far ?_ q9.out _; refine blk_far ?_ q9.out _; refine blk_far ?_ q9.out _; exact p1.out⟩
     have n3_ : Aside0 (((((w38.setCell ⟨p5, 0, none⟩ (.int .i64 ((rd_T104 x5_2 ((rd_T34 l0_1 p0).f1)).f0))).setCell ⟨p5, 1, none⟩ (.int .i64 ((rd_T104 x5_2 ((rd_T34 l0_1 p0).f1)).f1))).setCell ⟨p5, 0, none⟩ (.int .i64 (wrap64 (((rd_T104 x5_2 ((rd_T34 l0_1 p0).f1)).f0) + ((rd_T34 l0_1 p0).f2))))).setCell ⟨p5, 1, none⟩ (.int .i64 (wrap64 (((rd_T104 x5_2 ((rd_T34 l0_1 p0).f1)).f1) + 1)))).heap[p5]? = some (.cells #[.int .i64 (wrap64 (((rd_T104 x5_2 ((rd_T34 l0_1 p0).f1)).f0) + ((rd_T34 l0_1 p0).f2))), .int .i64 (wrap64 (((rd_T104 x5_2 ((rd_T34 l0_1 p0).f1)).f1) + 1))] 104 (0, 0))) := ⟨by refine blk_put (cs := #[.int .i64 (wrap64 (((rd_T104 x5_2 ((rd_T34 l0_1 p0).f1)).f0) + ((rd_T34 l0_1 p0).f2))), .int .i64 ((rd_T104 x5_2 ((rd_T34 l0_1 p0).f1)).f1)]) ?_ 1 _ rfl; refine blk_put (cs := #[.int .i64 ((rd_T104 x5_2 ((rd_T34 l0_1 p0).f1)).f0), .int .i64 ((rd_T104 x5_2 ((rd_T34 l0_1 p0).f1)).f1)]) ?_ 0 _ rfl; refine blk_put (cs := #[.int .i64 ((rd_T104 x5_2 ((rd_T34 l0_1 p0).f1)).f0), .int .i64 0]) ?_ 1 _ rfl; refine blk_put (cs := #[.int .i64 0, .int .i64 0]) ?_ 0 _ rfl; exact q0.out⟩
     have n4_ : Aside0 (Below w.heap.size w ((((w38.setCell ⟨p5, 0, none⟩ (.int .i64 ((rd_T104 x5_2 ((rd_T34 l0_1 p0).f1)).f0))).setCell ⟨p5, 1, none⟩ (.int .i64 ((rd_T104 x5_2 ((rd_T34 l0_1 p0).f1)).f1))).setCell ⟨p5, 0, none⟩ (.int .i64 (wrap64 (((rd_T104 x5_2 ((rd_T34 l0_1 p0).f1)).f0) + ((rd_T34 l0_1 p0).f2))))).setCell ⟨p5, 1, none⟩ (.int .i64 (wrap64 (((rd_T104 x5_2 ((rd_T34 l0_1 p0).f1)).f1) + 1))))) := ⟨by repeat (first | (with_reducible first | exact HB.out | apply below_alloc | apply pw_below_drewN | apply below_drew1 | refine below_set ?_ r8.out | refine below_set ?_ r9.out | refine below_set ?_ t4.out) | exact HB.out)⟩
     (try clear HO_5)
     (try clear p7)
     (try clear p1)
     (try clear q0)
     (try clear HB)
     generalize ((((w38.setCell ⟨p5, 0, none⟩ (.int .i64 ((rd_T104 x5_2 ((rd_T34 l0_1 p0).f1)).f0))).setCell ⟨p5, 1, none⟩ (.int .i64 ((rd_T104 x5_2 ((rd_T34 l0_1 p0).f1)).f1))).setCell ⟨p5, 0, none⟩ (.int .i64 (wrap64 (((rd_T104 x5_2 ((rd_T34 l0_1 p0).f1)).f0) + ((rd_T34 l0_1 p0).f2))))).setCell ⟨p5, 1, none⟩ (.int .i64 (wrap64 (((rd_T104 x5_2 ((rd_T34 l0_1 p0).f1)).f1) + 1)))) = w43 at n0_ n1_ n2_ n3_ n4_ ⊢
     have HO_5 := n0_
     have p7 := n1_
     have p1 := n2_
     have q0 := n3_
     have HB := n4_
     clear n0_ n1_ n2_ n3_ n4_
     have n0_ := Aside0.mk (Kd.R_drew HO_5.out)
     have n1_ := Aside0.mk (blk_drew p7.out)
     have n2_ := Aside0.mk (blk_drew p1.out)
     have n3_ := Aside0.mk (blk_drew q0.out)
     have n4_ := Aside0.mk (below_drew1 HB.out)
     clear HO_5
     clear p7
     clear p1
     clear q0
     clear HB
     have HO_5 := n0_
     have p7 := n1_
     have p1 := n2_
     have q0 := n3_
     have HB := n4_
     clear n0_ n1_ n2_ n3_ n4_
     have p235 : 0 ≤ (((rd_T34 l0_1 p0).f0) : Int) := of_decide_eq_true (by first | (with_reducible assumption) | assumption)
     have q235 : ((rd_T34 l0_1 p0).f0) < (x5_2.length : Int) := of_decide_eq_true (by first | (with_reducible assumption) | assumption)
     obtain ⟨u5, e235, r6, r7⟩ := at_T104 (Kd.R_reads' HO_5.out).2.2 ((rd_T34 l0_1 p0).f0) p235 q235
     obtain rfl : (⟨go6, 0, none⟩ : Addr) = u5 := (by injection e235)
     (first | simp only [add_plain] at r6 | simp only [add_at] at r6 | simp only [Addr.add, Nat.zero_add] at r6 | skip)
     (first | simp only [add_plain] at r7 | simp only [add_at] at r7 | simp only [Addr.add, Nat.zero_add] at r7 | skip)
     replace p235 := eq_true p235
     replace q235 := eq_true q235
     refine start_ (n := 7) (S := fun w' => w'.cell? ⟨p5, 0, none⟩ = some (.int .i64 (wrap64 (((rd_T104 x5_2 ((rd_T34 l0_1 p0).f1)).f0) + ((rd_T34 l0_1 p0).f2)))) ∧ w'.cell? ⟨p5, 1, none⟩ = some (.int .i64 (wrap64 (((rd_T104 x5_2 ((rd_T34 l0_1 p0).f1)).f1) + 1))) ∧ w'.cell? ⟨p3, 0, none⟩ = some (.int .i64 ((rd_T34 l0_1 p0).f0)) ∧ w'.cell? ⟨p3, 1, none⟩ = some (.int .i64 ((rd_T34 l0_1 p0).f1)) ∧ w'.cell? ⟨p3, 2, none⟩ = some (.int .i64 ((rd_T34 l0_1 p0).f2)) ∧ w'.cell? ⟨p3, 3, none⟩ = some (.int .i64 ((rd_T34 l0_1 p0).f3)) ∧ w'.cell? ⟨p3, 4, none⟩ = some (.int .i64 ((rd_T34 l0_1 p0).f4)) ∧ w'.cell? ⟨go6, (((rd_T34 l0_1 p0).f0)).toNat * 2, none⟩ = some (.int .i64 ((rd_T104 x5_2 ((rd_T34 l0_1 p0).f0)).f0)) ∧ w'.cell? ⟨go6, (((rd_T34 l0_1 p0).f0)).toNat * 2 + 1, none⟩ = some (.int .i64 ((rd_T104 x5_2 ((rd_T34 l0_1 p0).f0)).f1))) (ds := []) #[false, false, false, false, false, false, false] (by kernel_rfl) rfl rfl ⟨(blk_cell q0.out 0).trans rfl, (blk_cell q0.out 1).trans rfl, (blk_cell p1.out 0).trans rfl, (blk_cell p1.out 1).trans rfl, (blk_cell p1.out 2).trans rfl, (blk_cell p1.out 3).trans rfl, (blk_cell p1.out 4).trans rfl, r6, r7⟩ (fun hHeld => ?_)
     generalize w43.drew = w44 at HO_5 p7 p1 q0 HB r6 r7 hHeld ⊢
     refine pure_ (i := 1) (N := some 45) (v := ?_) (a' := ?_) #[false, true, false, false, false, false, false] rfl rfl (by kernel_rfl) (fun _ _ _ h => h) (Or.inl ⟨by rfl, ?_⟩) ?_ ?_
     rotate_left
     ·intro w'
      go_simp
      with_reducible rfl
     rotate_left
     ·simp only [Act.put, List.setIfInBounds_toArray, List.set_cons_zero, List.set_cons_succ, i64_w, i32_w]
      rfl
     refine pure_ (i := 2) (N := some 46) (v := ?_) (a' := ?_) #[false, true, true, false, false, false, false] rfl rfl (by kernel_rfl) (fun _ _ _ h => h) (Or.inl ⟨by rfl, ?_⟩) ?_ ?_
     rotate_left
     ·intro w'
      go_simp
      with_reducible rfl
     rotate_left
     ·simp only [Act.put, List.setIfInBounds_toArray, List.set_cons_zero, List.set_cons_succ, i64_w, i32_w]
      rfl
     refine take_ (i := 0) (N := some 44) (v := ?_) (a' := ?_) #[true, true, true, false, false, false, false] rfl rfl (by kernel_rfl) (fun _ _ _ h => h) (Or.inl ⟨by rfl, ?_⟩) hHeld ?_ ?_
     rotate_left
     ·rintro w' ⟨s0, s1, s2, s3, s4, s5, s6, s7, s8⟩
      go_simp
      with_reducible rfl
     rotate_left
     ·simp only [Act.put, List.setIfInBounds_toArray, List.set_cons_zero, List.set_cons_succ, i64_w, i32_w]
      rfl
     refine take_ (i := 3) (N := some 47) (v := ?_) (a' := ?_) #[true, true, true, true, false, false, false] rfl rfl (by kernel_rfl) (fun _ _ _ h => h) (Or.inl ⟨by rfl, ?_⟩) hHeld ?_ ?_
     rotate_left
     ·rintro w' ⟨s0, s1, s2, s3, s4, s5, s6, s7, s8⟩
      go_simp
      with_reducible rfl
     rotate_left
     ·simp only [Act.put, List.setIfInBounds_toArray, List.set_cons_zero, List.set_cons_succ, i64_w, i32_w]
      rfl
     refine pure_ (i := 4) (N := some 48) (v := ?_) (a' := ?_) #[true, true, true, true, true, false, false] rfl rfl (by kernel_rfl) (fun _ _ _ h => h) (Or.inl ⟨by rfl, ?_⟩) ?_ ?_
     rotate_left
     ·intro w'
      go_simp
      with_reducible rfl
     rotate_left
     ·simp only [Act.put, List.setIfInBounds_toArray, List.set_cons_zero, List.set_cons_succ, i64_w, i32_w]
      rfl
     refine take_ (i := 5) (N := some 49) (v := ?_) (a' := ?_) #[true, true, true, true, true, true, false] rfl rfl (by kernel_rfl) (fun _ _ _ h => h) (Or.inl ⟨by rfl, ?_⟩) hHeld ?_ ?_
     rotate_left
     ·rintro w' ⟨s0, s1, s2, s3, s4, s5, s6, s7, s8⟩
      go_simp
      with_reducible rfl
     rotate_left
     ·simp only [Act.put, List.setIfInBounds_toArray, List.set_cons_zero, List.set_cons_succ, i64_w, i32_w]
      rfl
     refine one_ (i := 6) (N := some 50) #[true, true, true, true, true, true, true] rfl rfl (by kernel_rfl) (by decide) (fun K hK => ?_)
     refine goes_ Try.func127 (by kernel_rfl) rfl #[.agg #[.int .i64 (wrap64 (((rd_T104 x5_2 ((rd_T34 l0_1 p0).f1)).f0) + ((rd_T34 l0_1 p0).f2))), .int .i64 (wrap64 (((rd_T104 x5_2 ((rd_T34 l0_1 p0).f1)).f1) + 1))], .agg #[.int .i64 ((rd_T104 x5_2 ((rd_T34 l0_1 p0).f0)).f0), .int .i64 ((rd_T104 x5_2 ((rd_T34 l0_1 p0).f0)).f1)]] (by rfl) rfl rfl (by (try simp only [List.map_toArray, List.map_cons, List.map_nil]); first | done | rfl | (simp only [List.length_drop, List.length_take]; rfl)) ?_
     with_reducible refine (impl_measure_less.calls (wrap64 (((rd_T104 x5_2 ((rd_T34 l0_1 p0).f1)).f0) + ((rd_T34 l0_1 p0).f2))) (wrap64 (((rd_T104 x5_2 ((rd_T34 l0_1 p0).f1)).f1) + 1)) ((rd_T104 x5_2 ((rd_T34 l0_1 p0).f0)).f0) ((rd_T104 x5_2 ((rd_T34 l0_1 p0).f0)).f1) true _ A32.out).mono ?_
     rintro e w45 ⟨rfl, hb⟩
     have HS7_ := (hb.cell (World.block_lt_of_cell? _ _ (hHeld.2.2.2.2.2.2.2.1))).trans (hHeld.2.2.2.2.2.2.2.1)
     have HS8_ := (hb.cell (World.block_lt_of_cell? _ _ (hHeld.2.2.2.2.2.2.2.2))).trans (hHeld.2.2.2.2.2.2.2.2)
     refine ⟨_, rfl, ?_⟩
     have n0_ := Aside0.mk (Kd.R_below HO_5.out hb)
     have n1_ := Aside0.mk (blk_below (g := q1) (o := .cells #[.int .i64 a0_0, .slice (some r0) l0_1.length c0_1] 25 (0, 0)) p7.out hb)
     have n2_ := Aside0.mk (blk_below (g := p3) (o := .cells #[.int .i64 ((rd_T34 l0_1 p0).f0), .int .i64 ((rd_T34 l0_1 p0).f1), .int .i64 ((rd_T34 l0_1 p0).f2), .int .i64 ((rd_T34 l0_1 p0).f3), .int .i64 ((rd_T34 l0_1 p0).f4)] 34 (0, 0)) p1.out hb)
     have n3_ := Aside0.mk (blk_below (g := p5) (o := .cells #[.int .i64 (wrap64 (((rd_T104 x5_2 ((rd_T34 l0_1 p0).f1)).f0) + ((rd_T34 l0_1 p0).f2))), .int .i64 (wrap64 (((rd_T104 x5_2 ((rd_T34 l0_1 p0).f1)).f1) + 1))] 104 (0, 0)) q0.out hb)
     have n4_ := Aside0.mk (below_step HB.out hb)
     clear HO_5
     clear p7
     clear p1
     clear q0
     clear HB
     have HO_5 := n0_
     have p7 := n1_
     have p1 := n2_
     have q0 := n3_
     have HB := n4_
     clear n0_ n1_ n2_ n3_ n4_
     (try clear hb)
     (try clear hb2)
     (try clear hk)
     (try clear hi)
     refine hK.out _ _ ⟨(blk_cell q0.out 0).trans rfl, (blk_cell q0.out 1).trans rfl, (blk_cell p1.out 0).trans rfl, (blk_cell p1.out 1).trans rfl, (blk_cell p1.out 2).trans rfl, (blk_cell p1.out 3).trans rfl, (blk_cell p1.out 4).trans rfl, HS7_, HS8_⟩ (fun hHeld => ?_)
     clear hK K
     refine norm_ (a' := ?_) ?_ ?_
     rotate_left
     ·show Act.put _ (some 50) _ = _
      simp only [Act.put, List.setIfInBounds_toArray, List.set_cons_zero, List.set_cons_succ, i64_w, i32_w]
      rfl
     refine done_ (by kernel_rfl) ?_
     have hcz46_0 : w45.cell? ⟨p3, 0, none⟩ = some (.int .i64 ((rd_T34 l0_1 p0).f0)) := (blk_cell p1.out 0).trans rfl
     have hcz46_1 : w45.cell? ⟨p3, 1, none⟩ = some (.int .i64 ((rd_T34 l0_1 p0).f1)) := (blk_cell p1.out 1).trans rfl
     have hcz46_2 : w45.cell? ⟨p3, 2, none⟩ = some (.int .i64 ((rd_T34 l0_1 p0).f2)) := (blk_cell p1.out 2).trans rfl
     have hcz46_3 : w45.cell? ⟨p3, 3, none⟩ = some (.int .i64 ((rd_T34 l0_1 p0).f3)) := (blk_cell p1.out 3).trans rfl
     have hcz46_4 : w45.cell? ⟨p3, 4, none⟩ = some (.int .i64 ((rd_T34 l0_1 p0).f4)) := (blk_cell p1.out 4).trans rfl
     have hfz46_0 := blk_frozen p1.out 0
     have hfz46_1 := blk_frozen p1.out 1
     have hfz46_2 := blk_frozen p1.out 2
     have hfz46_3 := blk_frozen p1.out 3
     have hfz46_4 := blk_frozen p1.out 4
     have hcz47_0 : w45.cell? ⟨p5, 0, none⟩ = some (.int .i64 (wrap64 (((rd_T104 x5_2 ((rd_T34 l0_1 p0).f1)).f0) + ((rd_T34 l0_1 p0).f2)))) := (blk_cell q0.out 0).trans rfl
     have hcz47_1 : w45.cell? ⟨p5, 1, none⟩ = some (.int .i64 (wrap64 (((rd_T104 x5_2 ((rd_T34 l0_1 p0).f1)).f1) + 1))) := (blk_cell q0.out 1).trans rfl
     have hfz47_0 := blk_frozen q0.out 0
     have hfz47_1 := blk_frozen q0.out 1
     have p34 : 0 ≤ (((rd_T34 l0_1 p0).f0) : Int) := of_decide_eq_true (by first | (with_reducible assumption) | assumption)
     have q34 : (((rd_T34 l0_1 p0).f0) : Int) < ((x5_2.length : Int) : Int) := of_decide_eq_true (by first | (with_reducible assumption) | assumption)
     obtain ⟨ce34, hcl34, hM34, u6, hfr34⟩ := Kd.R_elem HO_5.out z104 (((rd_T34 l0_1 p0).f0) : Int) p34 q34
     obtain rfl := k104_openM hM34
     have hx34_0 : w45.cell? ⟨go6, (((rd_T34 l0_1 p0).f0) : Int).toNat * 2, none⟩ = some (.int .i64 ((rd_T104 x5_2 ((rd_T34 l0_1 p0).f0)).f0)) := u6 0 _ rfl
     have hx34_1 : w45.cell? ⟨go6, (((rd_T34 l0_1 p0).f0) : Int).toNat * 2 + 1, none⟩ = some (.int .i64 ((rd_T104 x5_2 ((rd_T34 l0_1 p0).f0)).f1)) := u6 1 _ rfl
     have hf34_0 : w45.frozen? ⟨go6, (((rd_T34 l0_1 p0).f0) : Int).toNat * 2, none⟩ = false := hfr34 0
     have hf34_1 : w45.frozen? ⟨go6, (((rd_T34 l0_1 p0).f0) : Int).toNat * 2 + 1, none⟩ = false := hfr34 1
     clear hcl34 u6 hfr34; (try clear hM34)
     replace p34 := eq_true p34
     replace q34 := eq_true q34
     have HX48 := Aside0.mk (show Kd.R k104 104 w45 w.heap.size (fun k_ => k_ ≠ p5) (.slice (some ⟨go6, 0, none⟩) x5_2.length co6) x5_2 from HO_5.out)
     obtain ⟨ce48, hcl48, hM48, u3, hfr48⟩ := Kd.R_elem HX48.out z104 (((rd_T34 l0_1 p0).f0) : Int) (of_decide_eq_true (by first | (with_reducible assumption) | assumption)) (by have h_ : (((rd_T34 l0_1 p0).f0) : Int) < ((x5_2.length : Int) : Int) := of_decide_eq_true (by first | (with_reducible assumption) | assumption); first | exact h_ | (have e_ := (Kd.R_reads' HO_5.out).1; omega) | simpa using h_)
     obtain rfl := k104_openM hM48
     have HP48 := Kd.R_seg HX48.out (((rd_T34 l0_1 p0).f0) : Int) (of_decide_eq_true (by first | (with_reducible assumption) | assumption)) (by have h_ : (((rd_T34 l0_1 p0).f0) : Int) < ((x5_2.length : Int) : Int) := of_decide_eq_true (by first | (with_reducible assumption) | assumption); first | exact h_ | (have e_ := (Kd.R_reads' HO_5.out).1; omega) | simpa using h_) (seg := [.int .i64 (wrap64 (((rd_T104 x5_2 ((rd_T34 l0_1 p0).f1)).f0) + ((rd_T34 l0_1 p0).f2))), .int .i64 (wrap64 (((rd_T104 x5_2 ((rd_T34 l0_1 p0).f1)).f1) + 1))]) (j := 0) hcl48 u3 (show 2 ≤ 2 from by decide) (x' := (⟨wrap64 (((rd_T104 x5_2 ((rd_T34 l0_1 p0).f1)).f0) + ((rd_T34 l0_1 p0).f2)), wrap64 (((rd_T104 x5_2 ((rd_T34 l0_1 p0).f1)).f1) + 1)⟩ : S104)) (k104_mkM _ _ _ (⟨wrap64 (((rd_T104 x5_2 ((rd_T34 l0_1 p0).f1)).f0) + ((rd_T34 l0_1 p0).f2)), wrap64 (((rd_T104 x5_2 ((rd_T34 l0_1 p0).f1)).f1) + 1)⟩ : S104) ) (fun _ hk => hk)
     have hx48_0 := u3 0 _ rfl
     (try simp only [show (k104).sz = 2 from rfl, Nat.mul_one, Nat.add_zero] at hx48_0)
     have hf48_0 := hfr48 0
     (try simp only [show (k104).sz = 2 from rfl, Nat.mul_one, Nat.add_zero] at hf48_0)
     have hx48_1 := u3 1 _ rfl
     (try simp only [show (k104).sz = 2 from rfl, Nat.mul_one, Nat.add_zero] at hx48_1)
     have hf48_1 := hfr48 1
     (try simp only [show (k104).sz = 2 from rfl, Nat.mul_one, Nat.add_zero] at hf48_1)
     clear hcl48 u3 hfr48; (try clear hM48)
     try go_wp2_with (first | ((with_reducible refine gate_store (t := 104) (p := 55) rfl ?_); refine store_event (t := 104) (p := 55) (v := ?vo_w49) (w1 := ((w45.setCell ⟨go6, (((rd_T34 l0_1 p0).f0) : Int).toNat * 2, none⟩ (.int .i64 (wrap64 (((rd_T104 x5_2 ((rd_T34 l0_1 p0).f1)).f0) + ((rd_T34 l0_1 p0).f2))))).setCell ⟨go6, (((rd_T34 l0_1 p0).f0) : Int).toNat * 2 + 1, none⟩ (.int .i64 (wrap64 (((rd_T104 x5_2 ((rd_T34 l0_1 p0).f1)).f1) + 1))))) ?hg ?ho ?hn ?hr ?_; (case ho => rfl); (case hg => rfl); (case hn => rfl); (case hr => first | (go_simp; done) | (go_simp; rfl)); intro w49 hw; have hg : w45.grownBy w49 (some go6) := (by rw [hw]; exact HP48.2); have hp_ : Kd.R k104 104 w49 w.heap.size (fun k_ => k_ ≠ p5) (.slice (some ⟨go6, 0, none⟩) x5_2.length co6) y237 := (by rw [hw, Ny237.out]; exact HP48.1); clear HP48; have n0_ := Aside0.mk (hp_); have n1_ := Aside0.mk (blk_grown (g := q1) (o := .cells #[.int .i64 a0_0, .slice (some r0) l0_1.length c0_1] 25 (0, 0)) p7.out hg (Kd.R_ne HO_5.out p7.out (by decide))); have n2_ := Aside0.mk (blk_grown (g := p3) (o := .cells #[.int .i64 ((rd_T34 l0_1 p0).f0), .int .i64 ((rd_T34 l0_1 p0).f1), .int .i64 ((rd_T34 l0_1 p0).f2), .int .i64 ((rd_T34 l0_1 p0).f3), .int .i64 ((rd_T34 l0_1 p0).f4)] 34 (0, 0)) p1.out hg (Kd.R_ne HO_5.out p1.out (by decide))); have n3_ := Aside0.mk (blk_grown (g := p5) (o := .cells #[.int .i64 (wrap64 (((rd_T104 x5_2 ((rd_T34 l0_1 p0).f1)).f0) + ((rd_T34 l0_1 p0).f2))), .int .i64 (wrap64 (((rd_T104 x5_2 ((rd_T34 l0_1 p0).f1)).f1) + 1))] 104 (0, 0)) q0.out hg (Kd.R_away HO_5.out (fun _ hk => hk))); have n4_ := Aside0.mk ((by rw [hw]; exact below_set (below_set (HB.out) GB6.out) GB6.out : Below w.heap.size w w49)); clear HO_5; clear p7; clear p1; clear q0; clear HB; have HO_5 := n0_; have p7 := n1_; have p1 := n2_; have q0 := n3_; have HB := n4_; clear n0_ n1_ n2_ n3_ n4_; clear hg hw hp_))
     (try simp only [← hl5_2])
     go_roundg k2
     case measure => have := HK1.out; have := HK2.out; omega
     case rel => exact ⟨(y237), (true), (wrap64 (p0 + 1)), (by first | rfl | (simp; done) | (simp [*]; done)), (by first | rfl | (simp; done) | (simp [*]; done)), H', ⟨by have := HK1.out; have := HK2.out; omega⟩, ⟨by (try simp only [hl5_1]); (try simp only [hl5_2]); exact Kd.R_mono HO_5.out (fun _ hk => trivial)⟩, ⟨by (try simp only [hl5_1]); (try simp only [hl5_2]); exact p7.out⟩, ⟨by repeat (first | (with_reducible first | exact HB.out | apply below_alloc | apply pw_below_drewN | apply below_drew1 | refine below_set ?_ r8.out | refine below_set ?_ r9.out | refine below_set ?_ t4.out) | exact HB.out)⟩⟩
end Go.Proofs.Ytljdcinpjnijcaa.Pr
end
section
namespace Go.Proofs.Ytljdcinpjnijcaa.Pr
open Go.RowKit Go.Proofs.YtljdcinpjnijcaaW.PrintWords Go.Proofs.YtljdcinpjnijcaaW.PrintLast Go.Proofs.YtljdcinpjnijcaaW.PrintMore
attribute [local go_sem] max2_int min2_int max_two min_two max_three min_three max_four min_four
set_option linter.unusedVariables false
set_option linter.unusedSimpArgs false
def impl_Net_best.l0 : Nat → Int → Int → List (S104) → List Int → Int → List (S34) → Option (List Int × Bool)
 | 0, _, _, _, _, _, _ => none
 | k + 1, x1, x2, x8, x9, q1, p4 => if x1 = x2 then (some (x9, true)) else ((impl_Net_firstArc.f q1 p4 x8 x1).bind fun t314 => (if x9.length < 17592186044416 then (if 0 ≤ t314 then (if t314 < (p4.length : Int) then (impl_Net_best.l0 k ((rd_T34 p4 t314).f1) x2 x8 (x9 ++ [t314]) q1 p4) else (none)) else (none)) else (none)))
def impl_Net_best.f (k : Nat) (a0_0 : Int) (l0_1 : List (S34)) (a1 : Int) (a2 : Int) : Option (List Int × Bool) := (impl_Net_toward.f k a0_0 l0_1 a2).bind fun t306 => (if 0 ≤ a1 then (if a1 < (t306.length : Int) then (if ((rd_T104 t306 a1).f0) = 99999 then (some (([] : List Int), false)) else (if 0 ≤ ((rd_T104 t306 a1).f1) then (if ((rd_T104 t306 a1).f1 : Int).toNat ≤ 35184372088832 then (impl_Net_best.l0 k a1 a2 t306 (([] : List Int)) a0_0 l0_1) else (none)) else (none))) else (none)) else (none))
set_option maxHeartbeats 8000000 in
set_option maxRecDepth 100000 in
theorem impl_Net_best.calls (k : Nat) (a0_0 : Int) (A0_1 : Option Addr) (c0_1 : Nat) (l0_1 : List (S34)) (a1 : Int) (a2 : Int) (r1 : List Int) (r2 : Bool) (w : World) (hr0_1 : Kd.C k34 w A0_1 l0_1.length l0_1) (hc0_1 : l0_1.length ≤ c0_1) (h : impl_Net_best.f k a0_0 l0_1 a1 a2 = some (r1, r2)) :
  Calls Try.prog 56 #[.agg #[.int .i64 a0_0, .slice A0_1 l0_1.length c0_1], .int .i64 a1, .int .i64 a2] w fun e w' => ∃ v0_ : Value, e = .returned (.tuple #[v0_, .bool r2]) ∧ Kd.R (Kd.int .i64) 3 w' w.heap.size (fun _ => True) v0_ r1 ∧ Below w.heap.size w w' := by
 have hu25 := Try.underlying25
 have q2 := Aside0.mk hr0_1
 have q7 := Aside0.mk hc0_1
 clear hr0_1 hc0_1
 have HB := Aside0.mk (Below.refl w.heap.size w)
 have H : ((impl_Net_toward.f k a0_0 l0_1 a2).bind fun t306 => (if 0 ≤ a1 then (if a1 < (t306.length : Int) then (if ((rd_T104 t306 a1).f0) = 99999 then (some (([] : List Int), false)) else (if 0 ≤ ((rd_T104 t306 a1).f1) then (if ((rd_T104 t306 a1).f1 : Int).toNat ≤ 35184372088832 then (impl_Net_best.l0 k a1 a2 t306 (([] : List Int)) a0_0 l0_1) else (none)) else (none))) else (none)) else (none))) = some (r1, r2) := h
 clear h
 replace H := Option.bind_eq_some_iff.mp H
 obtain ⟨t306, A40, H⟩ := H
 replace H : (if 0 ≤ a1 then (if a1 < (t306.length : Int) then (if ((rd_T104 t306 a1).f0) = 99999 then (some (([] : List Int), false)) else (if 0 ≤ ((rd_T104 t306 a1).f1) then (if ((rd_T104 t306 a1).f1 : Int).toNat ≤ 35184372088832 then (impl_Net_best.l0 k a1 a2 t306 (([] : List Int)) a0_0 l0_1) else (none)) else (none))) else (none)) else (none)) = some (r1, r2) := H
 have A4 := Aside0.mk A40
 clear A40
 by_cases c5 : 0 ≤ a1
 case neg =>
  rw [if_neg c5] at H
  exact absurd H (by simp)
 rw [if_pos c5] at H
 have c5b0 : decide (0 ≤ a1) = true := decide_eq_true c5
 clear c5
 by_cases c6 : a1 < (t306.length : Int)
 case neg =>
  rw [if_neg c6] at H
  exact absurd H (by simp)
 rw [if_pos c6] at H
 have c6b0 : decide (a1 < (t306.length : Int)) = true := decide_eq_true c6
 clear c6
 by_cases c7 : ((rd_T104 t306 a1).f0) = 99999
 case pos =>
  rw [if_pos c7] at H
  have c7b0 : (((rd_T104 t306 a1).f0) == 99999) = true := beq_iff_eq.mpr c7
  have c7b1 : (((rd_T104 t306 a1).f0) != 99999) = false := bne_eq_false_iff_eq.mpr c7
  clear c7
  simp only [Option.some.injEq, Prod.mk.injEq] at H
  obtain ⟨rfl, rfl⟩ := H
  go_enter Try.func56, Try.ntmps56
  go_wp2_with (first | ((with_reducible refine gate_dst (N := 3) rfl ?_); refine box_event ?hg (N := 3) ?hd (cs := #[.int .i64 a0_0, .slice A0_1 l0_1.length c0_1]) (t := 25) ?hr ?_; (case hd => rfl); (case hg => rfl); (case hr => first | (go_simp; done) | (go_simp; rfl)); intro p1 hg w8 hbox hb; have n0_ := Aside0.mk (below_step HB.out hb); have n1_ := Aside0.mk (hbox); have n2_ := Aside0.mk ((by rw [hg]; exact (below_size HB.out) : w.heap.size ≤ p1)); have n3_ := Aside0.mk ((by rw [hg]; exact (below_size HB.out) : w.heap.size ≤ p1)); clear HB; have HB := n0_; have p0 := n1_; have GW305 := n2_; have q0 := n3_; clear n0_ n1_ n2_ n3_; clear hb hbox hg; have hcz9_0 : w8.cell? ⟨p1, 0, none⟩ = some (.int .i64 a0_0) := (blk_cell p0.out 0).trans rfl; have hcz9_1 : w8.cell? ⟨p1, 1, none⟩ = some (.slice A0_1 l0_1.length c0_1) := (blk_cell p0.out 1).trans rfl; have hfz9_0 := blk_frozen p0.out 0; have hfz9_1 := blk_frozen p0.out 1) | ((with_reducible refine gate_callee (f := 93) rfl ?_); refine goesL_ (some 13) rfl rfl Try.func93 (by kernel_rfl) rfl #[.agg #[.int .i64 a0_0, .slice A0_1 l0_1.length c0_1], .int .i64 a2] rfl (by (try simp only [List.map_toArray, List.map_cons, List.map_nil]); first | done | rfl | (simp only [List.length_drop, List.length_take]; rfl)) ?_; (with_reducible refine (impl_Net_toward.calls k a0_0 _ _ l0_1 a2 t306 _ ?side1 ?side2 A4.out).mono ?_); (case side1 => repeat (first | exact (Kd.C_below q2.out HB.out) | (with_reducible refine Kd.C_alloc ?_ _) | (with_reducible refine Kd.C_drewN ?_ _) | (with_reducible refine Kd.C_drew ?_))); (case side2 => exact q7.out); rintro e w10 ⟨v307, rfl, ho0, hb⟩; refine ⟨_, rfl, ?_⟩; have n0_ := Aside0.mk (Kd.R_lower ho0 (below_size HB.out)); have n1_ := Aside0.mk (blk_below (g := p1) (o := .cells #[.int .i64 a0_0, .slice A0_1 l0_1.length c0_1] 25 (0, 0)) p0.out hb); have n2_ := Aside0.mk (below_step HB.out hb); clear p0; clear HB; have HO308 := n0_; have p0 := n1_; have HB := n2_; clear n0_ n1_ n2_; (try clear hb); (try clear hb2); (try clear hk); (try clear hi); (try clear ho0); obtain ⟨Ao11, co11, eo11⟩ := Kd.R_slice HO308.out; subst eo11; have p309 : 0 ≤ (a1 : Int) := of_decide_eq_true (by first | (with_reducible assumption) | assumption); have q309 : a1 < (t306.length : Int) := of_decide_eq_true (by first | (with_reducible assumption) | assumption); obtain ⟨q4, e309, q5, q6⟩ := at_T104 (Kd.R_reads' HO308.out).2.2 a1 p309 q309; cases e309; replace p309 := eq_true p309; replace q309 := eq_true q309))
  go_ret2
  exact ⟨_, by first | rfl | (simp [errW_none, errW_some] <;> rfl) | (simp [*, errW_none, errW_some] <;> rfl), by first | exact Kd.R_nil _ _ _ _ _ | exact Kd.N_nil _ _ _ _ _ | exact Kd.V_nil _ _ _ _ _ | exact Kd.Q_nil _ _ _ _ _ | exact Kd.S_nil _ _ _ _ _, by repeat (first | (with_reducible first | exact HB.out | apply below_alloc | apply pw_below_drewN | apply below_drew1 | refine below_set ?_ q0.out) | exact HB.out)⟩
 rw [if_neg c7] at H
 have c7b0 : (((rd_T104 t306 a1).f0) == 99999) = false := beq_eq_false_iff_ne.mpr c7
 have c7b1 : (((rd_T104 t306 a1).f0) != 99999) = true := bne_iff_ne.mpr c7
 by_cases c12 : 0 ≤ ((rd_T104 t306 a1).f1)
 case neg =>
  rw [if_neg c12] at H
  exact absurd H (by simp)
 rw [if_pos c12] at H
 have c12b0 := eq_true c12
 have c12b1 : decide (0 ≤ ((rd_T104 t306 a1).f1)) = true := decide_eq_true c12
 clear c12
 by_cases c13 : ((rd_T104 t306 a1).f1 : Int).toNat ≤ 35184372088832
 case neg =>
  rw [if_neg c13] at H
  exact absurd H (by simp)
 rw [if_pos c13] at H
 have c13b0 := eq_true c13
 have c13b1 : decide (((rd_T104 t306 a1).f1 : Int).toNat ≤ 35184372088832) = true := decide_eq_true c13
 clear c13
 obtain ⟨y311, hy311⟩ : ∃ y_ : List Int, y_ = (([] : List Int)) := ⟨_, rfl⟩
 replace H : (impl_Net_best.l0 k a1 a2 t306 y311 a0_0 l0_1) = some (r1, r2) := by first | (rw [hy311]; with_reducible exact H) | (have H2_ := (Option.bind_some _ _).symm.trans H; rw [hy311]; with_reducible exact H2_) | (have H2_ := (Option.bind_some _ _).symm.trans H; with_reducible exact H2_) | with_reducible exact H | (rw [hy311]; exact H) | exact H
 have Ny311 := Aside0.mk hy311
 clear hy311
 have H' := Aside0.mk H
 clear H
 go_enter Try.func56, Try.ntmps56
 go_wp2_with (first | ((with_reducible refine gate_dst (N := 3) rfl ?_); refine box_event ?hg (N := 3) ?hd (cs := #[.int .i64 a0_0, .slice A0_1 l0_1.length c0_1]) (t := 25) ?hr ?_; (case hd => rfl); (case hg => rfl); (case hr => first | (go_simp; done) | (go_simp; rfl)); intro p1 hg w14 hbox hb; have n0_ := Aside0.mk (below_step HB.out hb); have n1_ := Aside0.mk (hbox); have n2_ := Aside0.mk ((by rw [hg]; exact (below_size HB.out) : w.heap.size ≤ p1)); have n3_ := Aside0.mk ((by rw [hg]; exact (below_size HB.out) : w.heap.size ≤ p1)); clear HB; have HB := n0_; have p0 := n1_; have GW305 := n2_; have q0 := n3_; clear n0_ n1_ n2_ n3_; clear hb hbox hg; have q8 : w14.cell? ⟨p1, 0, none⟩ = some (.int .i64 a0_0) := (blk_cell p0.out 0).trans rfl; have q9 : w14.cell? ⟨p1, 1, none⟩ = some (.slice A0_1 l0_1.length c0_1) := (blk_cell p0.out 1).trans rfl; have r0 := blk_frozen p0.out 0; have r3 := blk_frozen p0.out 1) | ((with_reducible refine gate_callee (f := 93) rfl ?_); refine goesL_ (some 13) rfl rfl Try.func93 (by kernel_rfl) rfl #[.agg #[.int .i64 a0_0, .slice A0_1 l0_1.length c0_1], .int .i64 a2] rfl (by (try simp only [List.map_toArray, List.map_cons, List.map_nil]); first | done | rfl | (simp only [List.length_drop, List.length_take]; rfl)) ?_; (with_reducible refine (impl_Net_toward.calls k a0_0 _ _ l0_1 a2 t306 _ ?side1 ?side2 A4.out).mono ?_); (case side1 => repeat (first | exact (Kd.C_below q2.out HB.out) | (with_reducible refine Kd.C_alloc ?_ _) | (with_reducible refine Kd.C_drewN ?_ _) | (with_reducible refine Kd.C_drew ?_))); (case side2 => exact q7.out); rintro e w16 ⟨v307, rfl, ho0, hb⟩; refine ⟨_, rfl, ?_⟩; have n0_ := Aside0.mk (Kd.R_lower ho0 (below_size HB.out)); have n1_ := Aside0.mk (blk_below (g := p1) (o := .cells #[.int .i64 a0_0, .slice A0_1 l0_1.length c0_1] 25 (0, 0)) p0.out hb); have n2_ := Aside0.mk (below_step HB.out hb); clear p0; clear HB; have HO308 := n0_; have p0 := n1_; have HB := n2_; clear n0_ n1_ n2_; (try clear hb); (try clear hb2); (try clear hk); (try clear hi); (try clear ho0); obtain ⟨Ao17, co17, eo17⟩ := Kd.R_slice HO308.out; subst eo17; have p309 : 0 ≤ (a1 : Int) := of_decide_eq_true (by first | (with_reducible assumption) | assumption); have q309 : a1 < (t306.length : Int) := of_decide_eq_true (by first | (with_reducible assumption) | assumption); obtain ⟨q4, e309, q5, q6⟩ := at_T104 (Kd.R_reads' HO308.out).2.2 a1 p309 q309; cases e309; replace p309 := eq_true p309; replace q309 := eq_true q309; have p310 : 0 ≤ (a1 : Int) := of_decide_eq_true (by first | (with_reducible assumption) | assumption); have q310 : a1 < (t306.length : Int) := of_decide_eq_true (by first | (with_reducible assumption) | assumption); obtain ⟨ad310, e310, r4, r5⟩ := at_T104 (Kd.R_reads' HO308.out).2.2 a1 p310 q310; obtain rfl : q4 = ad310 := (by injection e310); replace p310 := eq_true p310; replace q310 := eq_true q310) | ((with_reducible refine gate_dst (N := 25) rfl ?_); refine Kd.R_make0 (Kd.int .i64) _ 3 rfl (N := 25) rfl 29 _ _ rfl ((rd_T104 t306 a1).f1) (by first | rfl | (go_simp; done) | (go_simp; rfl)) (by first | rfl | (go_simp; done) | (go_simp; rfl)) Try.underlying29 (.int .i64 0) 8 info3 rfl (by decide) (by omega) 0 (ok := fun _ => True) (okp := fun _ => True) rfl (fun _ hk => hk) trivial (of_decide_eq_true (by first | (with_reducible assumption) | assumption)) (Nat.le_trans (Nat.mul_le_mul_right _ (of_decide_eq_true (by first | (with_reducible assumption) | assumption) : ((rd_T104 t306 a1).f1).toNat ≤ 35184372088832)) (by omega)) (Below.refl _ _) (Nat.le_refl _) ?_; intro v312 w18 ho19 hb hg_ hnew_; clear hg_ hnew_; (first | rw [← Ny311.out] at ho19 | (simp only [Int.reduceToNat] at ho19; rw [← Ny311.out] at ho19)); have n0_ := Aside0.mk (Kd.R_below HO308.out hb); have n1_ := Aside0.mk (Kd.R_lower ho19 (below_size HB.out)); have n2_ := Aside0.mk (blk_below (g := p1) (o := .cells #[.int .i64 a0_0, .slice A0_1 l0_1.length c0_1] 25 (0, 0)) p0.out hb); have n3_ := Aside0.mk (below_step HB.out hb); clear HO308; clear p0; clear HB; have HO308 := n0_; have HO313 := n1_; have p0 := n2_; have HB := n3_; clear n0_ n1_ n2_ n3_; clear hb ho19))
 go_loopg [1, 9] k (fun kq v1 v9 w' => ∃ (x1_1 : Int) (x9_1 : List Int), v1 = .int .i64 x1_1 ∧ Aside0 (impl_Net_best.l0 kq x1_1 a2 t306 x9_1 a0_0 l0_1 = some (r1, r2)) ∧ Aside0 (kq ≤ k) ∧ Aside0 (Kd.R k104 104 w' w.heap.size (fun _ => True) (.slice (some q4) t306.length co17) t306) ∧ Aside0 (Kd.R (Kd.int .i64) 3 w' w.heap.size (fun _ => True) v9 x9_1) ∧ Aside0 (w'.heap[p1]? = some (.cells #[.int .i64 a0_0, (.slice A0_1 l0_1.length c0_1)] 25 (0, 0))) ∧ Aside0 (Below w.heap.size w w'))
 case atStart => exact ⟨(a1), (y311), (by first | rfl | (simp; done) | (simp [*]; done)), H', ⟨Nat.le_refl _⟩, ⟨by (with_reducible repeat (first | apply Kd.R_alloc | apply Kd.R_drewN | apply Kd.R_drew)); exact HO308.out⟩, ⟨by (with_reducible repeat (first | apply Kd.R_alloc | apply Kd.R_drewN | apply Kd.R_drew)); exact HO313.out⟩, ⟨by (with_reducible repeat (first | refine blk_drewN ?_ _ | refine blk_drew ?_ | refine blk_alloc ?_ _)); exact p0.out⟩, ⟨by repeat (first | (with_reducible first | exact HB.out | apply below_alloc | apply pw_below_drewN | apply below_drew1 | refine below_set ?_ q0.out) | exact HB.out)⟩⟩
 case round =>
  clear H'
  try clear c1
  try clear p2
  try clear p3
  try clear q3
  try clear hx3
  try clear c5
  try clear c5b0
  try clear c6
  try clear c6b0
  try clear c7
  try clear c7b0
  try clear c7b1
  try clear c9
  try clear c12
  try clear c12b0
  try clear c12b1
  try clear c13
  try clear c13b0
  try clear c13b1
  try clear q8
  try clear q9
  try clear hcz9_0
  try clear hcz9_1
  try clear r0
  try clear r3
  try clear hfz9_0
  try clear hfz9_1
  try clear q5
  try clear q6
  try clear r4
  try clear r5
  try clear p309
  try clear p310
  try clear q309
  try clear q310
  obtain ⟨x1_1, x9_1, rfl, HA, HK1, HO_8, HO_9, p0, HB⟩ := hrel
  cases gk with
  | zero => exact absurd HA.out (by simp [impl_Net_best.l0])
  | succ k1 =>
   have H := HA.out
   clear HA
   simp only [impl_Net_best.l0] at H
   by_cases c20 : x1_1 = a2
   case pos =>
    rw [if_pos c20] at H
    have c20b0 : (x1_1 == a2) = true := beq_iff_eq.mpr c20
    have c20b1 : (x1_1 != a2) = false := bne_eq_false_iff_eq.mpr c20
    clear c20
    simp only [Option.some.injEq, Prod.mk.injEq] at H
    obtain ⟨rfl, rfl⟩ := H
    go_wp2
    go_ret2
    exact ⟨_, by first | rfl | (simp [errW_none, errW_some] <;> rfl) | (simp [*, errW_none, errW_some] <;> rfl), by (with_reducible repeat (first | apply Kd.R_alloc | apply Kd.R_drewN | apply Kd.R_drew)); exact HO_9.out, by repeat (first | (with_reducible first | exact HB.out | apply below_alloc | apply pw_below_drewN | apply below_drew1 | refine below_set ?_ q0.out) | exact HB.out)⟩
   rw [if_neg c20] at H
   have c20b0 : (x1_1 == a2) = false := beq_eq_false_iff_ne.mpr c20
   have c20b1 : (x1_1 != a2) = true := bne_iff_ne.mpr c20
   replace H := Option.bind_eq_some_iff.mp H
   obtain ⟨t314, A210, H⟩ := H
   replace H : (if x9_1.length < 17592186044416 then (if 0 ≤ t314 then (if t314 < (l0_1.length : Int) then (impl_Net_best.l0 k1 ((rd_T34 l0_1 t314).f1) a2 t306 (x9_1 ++ [t314]) a0_0 l0_1) else (none)) else (none)) else (none)) = some (r1, r2) := H
   have A21 := Aside0.mk A210
   clear A210
   by_cases c22 : x9_1.length < 17592186044416
   case neg =>
    rw [if_neg c22] at H
    exact absurd H (by simp)
   rw [if_pos c22] at H
   have LMc22 := Aside0.mk c22
   clear c22
   obtain ⟨y315, hy315⟩ : ∃ y_ : List Int, y_ = (x9_1 ++ [t314]) := ⟨_, rfl⟩
   replace H : (if 0 ≤ t314 then (if t314 < (l0_1.length : Int) then (impl_Net_best.l0 k1 ((rd_T34 l0_1 t314).f1) a2 t306 y315 a0_0 l0_1) else (none)) else (none)) = some (r1, r2) := by first | (rw [hy315]; with_reducible exact H) | (have H2_ := (Option.bind_some _ _).symm.trans H; rw [hy315]; with_reducible exact H2_) | (have H2_ := (Option.bind_some _ _).symm.trans H; with_reducible exact H2_) | with_reducible exact H | (rw [hy315]; exact H) | exact H
   have Ny315 := Aside0.mk hy315
   clear hy315
   by_cases c23 : 0 ≤ t314
   case neg =>
    rw [if_neg c23] at H
    exact absurd H (by simp)
   rw [if_pos c23] at H
   have c23b0 : decide (0 ≤ t314) = true := decide_eq_true c23
   clear c23
   by_cases c24 : t314 < (l0_1.length : Int)
   case neg =>
    rw [if_neg c24] at H
    exact absurd H (by simp)
   rw [if_pos c24] at H
   have c24b0 : decide (t314 < (l0_1.length : Int)) = true := decide_eq_true c24
   clear c24
   have H' := Aside0.mk H
   clear H
   have hcz25_0 : wr.cell? ⟨p1, 0, none⟩ = some (.int .i64 a0_0) := (blk_cell p0.out 0).trans rfl
   have hcz25_1 : wr.cell? ⟨p1, 1, none⟩ = some (.slice A0_1 l0_1.length c0_1) := (blk_cell p0.out 1).trans rfl
   have hfz25_0 := blk_frozen p0.out 0
   have hfz25_1 := blk_frozen p0.out 1
   go_wp2_with (first | ((with_reducible refine gate_callee (f := 94) rfl ?_); refine goesL_ (some 32) rfl rfl Try.func94 (by kernel_rfl) rfl #[.agg #[.int .i64 a0_0, .slice A0_1 l0_1.length c0_1], .slice (some q4) t306.length co17, .int .i64 x1_1] rfl (by (try simp only [List.map_toArray, List.map_cons, List.map_nil]); first | done | rfl | (simp only [List.length_drop, List.length_take]; rfl)) ?_; (with_reducible refine (impl_Net_firstArc.calls a0_0 _ _ l0_1 _ _ t306 x1_1 t314 _ ?side1 ?side2 ?side3 ?side4 A21.out).mono ?_); (case side1 => repeat (first | exact (Kd.C_below q2.out HB.out) | (with_reducible refine Kd.C_alloc ?_ _) | (with_reducible refine Kd.C_drewN ?_ _) | (with_reducible refine Kd.C_drew ?_))); (case side2 => exact q7.out); (case side3 => repeat (first | exact (Kd.R_reads' HO_8.out).2.2 | (with_reducible refine Kd.C_alloc ?_ _) | (with_reducible refine Kd.C_drewN ?_ _) | (with_reducible refine Kd.C_drew ?_))); (case side4 => exact (Kd.R_reads' HO_8.out).2.1); rintro e w26 ⟨rfl, hb⟩; refine ⟨_, rfl, ?_⟩; have n0_ := Aside0.mk (Kd.R_below HO_8.out hb); have n1_ := Aside0.mk (Kd.R_below HO_9.out hb); have n2_ := Aside0.mk (blk_below (g := p1) (o := .cells #[.int .i64 a0_0, .slice A0_1 l0_1.length c0_1] 25 (0, 0)) p0.out hb); have n3_ := Aside0.mk (below_step HB.out hb); clear HO_8; clear HO_9; clear p0; clear HB; have HO_8 := n0_; have HO_9 := n1_; have p0 := n2_; have HB := n3_; clear n0_ n1_ n2_ n3_; (try clear hb); (try clear hb2); (try clear hk); (try clear hi)) | ((with_reducible refine gate_builtin (b := .append) (xs := #[.tmp 33, .tmp 35]) rfl ?_); at_builtin; refine Kd.R_append (Kd.int .i64) (w0 := w) w.heap.size rfl (.tmp 33) (.tmp 35) 29 3 (.int .i64 0) 8 rfl Try.underlying29 info3 rfl (by decide) (by omega) u9 x9_1 t314 [.int .i64 t314] (fun _ => True) (fun _ => False) rfl rfl ?aP (fun _ hk => hk.elim) ?aF ?aO ?aB ?aS ?aL ?_; (case aP => exact rfl); (case aB => exact HB.out); (case aF => exact (fun _ _ => trivial)); (case aO => exact HO_9.out); (case aS => exact (below_size HB.out)); (case aL => have := LMc22.out; omega); intro v316 w27 ho hb hg hat; rw [← Ny315.out] at ho; have n0_ := Aside0.mk (Kd.R_over' HO_8.out (Kd.R_typed HO_9.out) (by decide) hg); have n1_ := Aside0.mk (blk_grown (g := p1) (o := .cells #[.int .i64 a0_0, .slice A0_1 l0_1.length c0_1] 25 (0, 0)) p0.out hg (Kd.R_ne HO_9.out p0.out (by decide))); have n2_ := Aside0.mk (hb); have n3_ := Aside0.mk (ho); clear HO_8; clear p0; clear HB; clear HO_9; have HO_8 := n0_; have p0 := n1_; have HB := n2_; have HO317 := n3_; clear n0_ n1_ n2_ n3_; clear ho hb hg hat; have hcz28_0 : w27.cell? ⟨p1, 0, none⟩ = some (.int .i64 a0_0) := (blk_cell p0.out 0).trans rfl; have hcz28_1 : w27.cell? ⟨p1, 1, none⟩ = some (.slice A0_1 l0_1.length c0_1) := (blk_cell p0.out 1).trans rfl; have hfz28_0 := blk_frozen p0.out 0; have hfz28_1 := blk_frozen p0.out 1; have p318 : 0 ≤ (t314 : Int) := of_decide_eq_true (by first | (with_reducible assumption) | assumption); have q318 : t314 < (l0_1.length : Int) := of_decide_eq_true (by first | (with_reducible assumption) | assumption); obtain ⟨ad318, e318, p5, p6, p7, p8, p9⟩ := at_T34 q2.out t314 p318 q318; cases e318; replace p5 := (HB.out.cell (World.block_lt_of_cell? w _ p5)).trans p5; replace p6 := (HB.out.cell (World.block_lt_of_cell? w _ p6)).trans p6; replace p7 := (HB.out.cell (World.block_lt_of_cell? w _ p7)).trans p7; replace p8 := (HB.out.cell (World.block_lt_of_cell? w _ p8)).trans p8; replace p9 := (HB.out.cell (World.block_lt_of_cell? w _ p9)).trans p9; replace p318 := eq_true p318; replace q318 := eq_true q318))
   go_roundg k1
   case measure => have := HK1.out; omega
   case rel => exact ⟨((rd_T34 l0_1 t314).f1), (y315), (by first | rfl | (simp; done) | (simp [*]; done)), H', ⟨by have := HK1.out; omega⟩, ⟨by (with_reducible repeat (first | apply Kd.R_alloc | apply Kd.R_drewN | apply Kd.R_drew)); exact HO_8.out⟩, ⟨by (with_reducible repeat (first | apply Kd.R_alloc | apply Kd.R_drewN | apply Kd.R_drew)); exact HO317.out⟩, ⟨by (with_reducible repeat (first | refine blk_drewN ?_ _ | refine blk_drew ?_ | refine blk_alloc ?_ _)); exact p0.out⟩, ⟨by repeat (first | (with_reducible first | exact HB.out | apply below_alloc | apply pw_below_drewN | apply below_drew1 | refine below_set ?_ q0.out) | exact HB.out)⟩⟩
end Go.Proofs.Ytljdcinpjnijcaa.Pr
end
section
namespace Go.Proofs.Ytljdcinpjnijcaa.Pr
open Go.RowKit Go.Proofs.YtljdcinpjnijcaaW.PrintWords Go.Proofs.YtljdcinpjnijcaaW.PrintLast Go.Proofs.YtljdcinpjnijcaaW.PrintMore
attribute [local go_sem] max2_int min2_int max_two min_two max_three min_three max_four min_four
set_option linter.unusedVariables false
set_option linter.unusedSimpArgs false
def impl_NearWalk.f (k : Nat) (a0_0 : Int) (l0_1 : List (S34)) (a1 : Int) (a2 : Int) : Option (List Int × Bool) := (impl_nodesIn.f a0_0 l0_1 (([a1, a2] : List Int))).bind fun t323 => (if t323 = true then ((impl_Net_best.f k a0_0 l0_1 a1 a2).bind fun bt324 => (some (bt324.1, bt324.2))) else (some (([] : List Int), false)))
set_option maxHeartbeats 8000000 in
set_option maxRecDepth 100000 in
theorem impl_NearWalk.calls (k : Nat) (a0_0 : Int) (A0_1 : Option Addr) (c0_1 : Nat) (l0_1 : List (S34)) (a1 : Int) (a2 : Int) (r1 : List Int) (r2 : Bool) (w : World) (hr0_1 : Kd.C k34 w A0_1 l0_1.length l0_1) (hc0_1 : l0_1.length ≤ c0_1) (h : impl_NearWalk.f k a0_0 l0_1 a1 a2 = some (r1, r2)) :
  Calls Try.prog 18 #[.agg #[.int .i64 a0_0, .slice A0_1 l0_1.length c0_1], .int .i64 a1, .int .i64 a2] w fun e w' => ∃ v0_ : Value, e = .returned (.tuple #[v0_, .bool r2]) ∧ Kd.R (Kd.int .i64) 3 w' w.heap.size (fun _ => True) v0_ r1 ∧ Below w.heap.size w w' := by
 have hu25 := Try.underlying25
 have p3 := Aside0.mk hr0_1
 have p4 := Aside0.mk hc0_1
 clear hr0_1 hc0_1
 have HB := Aside0.mk (Below.refl w.heap.size w)
 have H : ((impl_nodesIn.f a0_0 l0_1 (([a1, a2] : List Int))).bind fun t323 => (if t323 = true then ((impl_Net_best.f k a0_0 l0_1 a1 a2).bind fun bt324 => (some (bt324.1, bt324.2))) else (some (([] : List Int), false)))) = some (r1, r2) := h
 clear h
 obtain ⟨y320, hy320⟩ : ∃ y_ : List Int, y_ = (([a1, a2] : List Int)) := ⟨_, rfl⟩
 replace H : ((impl_nodesIn.f a0_0 l0_1 y320).bind fun t323 => (if t323 = true then ((impl_Net_best.f k a0_0 l0_1 a1 a2).bind fun bt324 => (some (bt324.1, bt324.2))) else (some (([] : List Int), false)))) = some (r1, r2) := by first | (rw [hy320]; with_reducible exact H) | (have H2_ := (Option.bind_some _ _).symm.trans H; rw [hy320]; with_reducible exact H2_) | (have H2_ := (Option.bind_some _ _).symm.trans H; with_reducible exact H2_) | with_reducible exact H | (rw [hy320]; exact H) | exact H
 have p2 := Aside0.mk hy320
 clear hy320
 replace H := Option.bind_eq_some_iff.mp H
 obtain ⟨t323, A40, H⟩ := H
 replace H : (if t323 = true then ((impl_Net_best.f k a0_0 l0_1 a1 a2).bind fun bt324 => (some (bt324.1, bt324.2))) else (some (([] : List Int), false))) = some (r1, r2) := H
 have A4 := Aside0.mk A40
 clear A40
 by_cases c5 : t323 = true
 case neg =>
  replace c5 := Bool.eq_false_iff.mpr c5
  subst c5
  have H1 : (some (([] : List Int), false)) = some (r1, r2) := by rw [if_neg (show ¬ (false = true) by decide)] at H; exact H
  clear H
  have H := H1
  clear H1
  simp only [Option.some.injEq, Prod.mk.injEq] at H
  obtain ⟨rfl, rfl⟩ := H
  go_enter Try.func18, Try.ntmps18
  go_wp2_with (first | ((with_reducible refine gate_dst (N := 3) rfl ?_); refine box_event ?hg (N := 3) ?hd (cs := #[.int .i64 a0_0, .slice A0_1 l0_1.length c0_1]) (t := 25) ?hr ?_; (case hd => rfl); (case hg => rfl); (case hr => first | (go_simp; done) | (go_simp; rfl)); intro p1 hg w15 hbox hb; have n0_ := Aside0.mk (below_step HB.out hb); have n1_ := Aside0.mk (hbox); have n2_ := Aside0.mk ((by rw [hg]; exact (below_size HB.out) : w.heap.size ≤ p1)); have n3_ := Aside0.mk ((by rw [hg]; exact (below_size HB.out) : w.heap.size ≤ p1)); clear HB; have HB := n0_; have p0 := n1_; have GW319 := n2_; have p5 := n3_; clear n0_ n1_ n2_ n3_; clear hb hbox hg; have hcz16_0 : w15.cell? ⟨p1, 0, none⟩ = some (.int .i64 a0_0) := (blk_cell p0.out 0).trans rfl; have hcz16_1 : w15.cell? ⟨p1, 1, none⟩ = some (.slice A0_1 l0_1.length c0_1) := (blk_cell p0.out 1).trans rfl; have hfz16_0 := blk_frozen p0.out 0; have hfz16_1 := blk_frozen p0.out 1) | ((with_reducible refine gate_dst (N := 11) rfl ?_); refine Kd.R_lit (Kd.int .i64) _ 3 ?hg (N := 11) ?hd (xs := ([a1, a2] : List Int)) (inner := [.int .i64 a1, .int .i64 a2]) (ok := fun _ => True) (okp := fun _ => True) ?hr ?hp (fun _ hk => hk) trivial (Below.refl _ _) (Nat.le_refl _) (by simp) ?_; (case hd => rfl); (case hg => rfl); (case hr => first | (go_simp; done) | (go_simp; rfl)); (case hp => exact (Reps.one (show Kd.M (Kd.int .i64) _ _ _ a1 [.int .i64 a1] from rfl) (Reps.one (show Kd.M (Kd.int .i64) _ _ _ a2 [.int .i64 a2] from rfl) (Reps.none _ _)))); intro v321 w17 ho18 hb hg_ hnew_; clear hg_ hnew_; (first | rw [← p2.out] at ho18 | (simp only [Int.reduceToNat] at ho18; rw [← p2.out] at ho18)); have n0_ := Aside0.mk (Kd.R_lower ho18 (below_size HB.out)); have n1_ := Aside0.mk (blk_below (g := p1) (o := .cells #[.int .i64 a0_0, .slice A0_1 l0_1.length c0_1] 25 (0, 0)) p0.out hb); have n2_ := Aside0.mk (below_step HB.out hb); clear p0; clear HB; have HO322 := n0_; have p0 := n1_; have HB := n2_; clear n0_ n1_ n2_; clear hb ho18; obtain ⟨Ao19, co19, eo19⟩ := Kd.R_slice HO322.out; subst eo19) | ((with_reducible refine gate_callee (f := 51) rfl ?_); refine goesL_ (some 12) rfl rfl Try.func51 (by kernel_rfl) rfl #[.agg #[.int .i64 a0_0, .slice A0_1 l0_1.length c0_1], .slice Ao19 y320.length co19] rfl (by (try simp only [List.map_toArray, List.map_cons, List.map_nil]); first | done | rfl | (simp only [List.length_drop, List.length_take]; rfl)) ?_; (with_reducible refine (impl_nodesIn.calls a0_0 _ _ l0_1 _ _ y320 false _ ?side1 ?side2 ?side3 ?side4 A4.out).mono ?_); (case side1 => repeat (first | exact (Kd.C_below p3.out HB.out) | (with_reducible refine Kd.C_alloc ?_ _) | (with_reducible refine Kd.C_drewN ?_ _) | (with_reducible refine Kd.C_drew ?_))); (case side2 => exact p4.out); (case side3 => repeat (first | exact (Kd.R_reads' HO322.out).2.2 | (with_reducible refine Kd.C_alloc ?_ _) | (with_reducible refine Kd.C_drewN ?_ _) | (with_reducible refine Kd.C_drew ?_))); (case side4 => exact (Kd.R_reads' HO322.out).2.1); rintro e w20 ⟨rfl, hb⟩; refine ⟨_, rfl, ?_⟩; have n0_ := Aside0.mk (Kd.R_below HO322.out hb); have n1_ := Aside0.mk (blk_below (g := p1) (o := .cells #[.int .i64 a0_0, .slice A0_1 l0_1.length c0_1] 25 (0, 0)) p0.out hb); have n2_ := Aside0.mk (below_step HB.out hb); clear HO322; clear p0; clear HB; have HO322 := n0_; have p0 := n1_; have HB := n2_; clear n0_ n1_ n2_; (try clear hb); (try clear hb2); (try clear hk); (try clear hi)))
  go_ret2
  exact ⟨_, by first | rfl | (simp [errW_none, errW_some] <;> rfl) | (simp [*, errW_none, errW_some] <;> rfl), by first | exact Kd.R_nil _ _ _ _ _ | exact Kd.N_nil _ _ _ _ _ | exact Kd.V_nil _ _ _ _ _ | exact Kd.Q_nil _ _ _ _ _ | exact Kd.S_nil _ _ _ _ _, by repeat (first | (with_reducible first | exact HB.out | apply below_alloc | apply pw_below_drewN | apply below_drew1 | refine below_set ?_ p5.out) | exact HB.out)⟩
 subst c5
 have H1 : ((impl_Net_best.f k a0_0 l0_1 a1 a2).bind fun bt324 => (some (bt324.1, bt324.2))) = some (r1, r2) := by rw [if_pos rfl] at H; exact H
 clear H
 have H := H1
 clear H1
 replace H := Option.bind_eq_some_iff.mp H
 obtain ⟨⟨t324, t327⟩, A60, H⟩ := H
 replace H : (some (t324, t327)) = some (r1, r2) := H
 have A6 := Aside0.mk A60
 clear A60
 simp only [Option.some.injEq, Prod.mk.injEq] at H
 obtain ⟨rfl, rfl⟩ := H
 go_enter Try.func18, Try.ntmps18
 go_wp2_with (first | ((with_reducible refine gate_dst (N := 3) rfl ?_); refine box_event ?hg (N := 3) ?hd (cs := #[.int .i64 a0_0, .slice A0_1 l0_1.length c0_1]) (t := 25) ?hr ?_; (case hd => rfl); (case hg => rfl); (case hr => first | (go_simp; done) | (go_simp; rfl)); intro p1 hg w7 hbox hb; have n0_ := Aside0.mk (below_step HB.out hb); have n1_ := Aside0.mk (hbox); have n2_ := Aside0.mk ((by rw [hg]; exact (below_size HB.out) : w.heap.size ≤ p1)); have n3_ := Aside0.mk ((by rw [hg]; exact (below_size HB.out) : w.heap.size ≤ p1)); clear HB; have HB := n0_; have p0 := n1_; have GW319 := n2_; have p5 := n3_; clear n0_ n1_ n2_ n3_; clear hb hbox hg; have hcz8_0 : w7.cell? ⟨p1, 0, none⟩ = some (.int .i64 a0_0) := (blk_cell p0.out 0).trans rfl; have hcz8_1 : w7.cell? ⟨p1, 1, none⟩ = some (.slice A0_1 l0_1.length c0_1) := (blk_cell p0.out 1).trans rfl; have hfz8_0 := blk_frozen p0.out 0; have hfz8_1 := blk_frozen p0.out 1) | ((with_reducible refine gate_dst (N := 11) rfl ?_); refine Kd.R_lit (Kd.int .i64) _ 3 ?hg (N := 11) ?hd (xs := ([a1, a2] : List Int)) (inner := [.int .i64 a1, .int .i64 a2]) (ok := fun _ => True) (okp := fun _ => True) ?hr ?hp (fun _ hk => hk) trivial (Below.refl _ _) (Nat.le_refl _) (by simp) ?_; (case hd => rfl); (case hg => rfl); (case hr => first | (go_simp; done) | (go_simp; rfl)); (case hp => exact (Reps.one (show Kd.M (Kd.int .i64) _ _ _ a1 [.int .i64 a1] from rfl) (Reps.one (show Kd.M (Kd.int .i64) _ _ _ a2 [.int .i64 a2] from rfl) (Reps.none _ _)))); intro v321 w9 ho10 hb hg_ hnew_; clear hg_ hnew_; (first | rw [← p2.out] at ho10 | (simp only [Int.reduceToNat] at ho10; rw [← p2.out] at ho10)); have n0_ := Aside0.mk (Kd.R_lower ho10 (below_size HB.out)); have n1_ := Aside0.mk (blk_below (g := p1) (o := .cells #[.int .i64 a0_0, .slice A0_1 l0_1.length c0_1] 25 (0, 0)) p0.out hb); have n2_ := Aside0.mk (below_step HB.out hb); clear p0; clear HB; have HO322 := n0_; have p0 := n1_; have HB := n2_; clear n0_ n1_ n2_; clear hb ho10; obtain ⟨Ao11, co11, eo11⟩ := Kd.R_slice HO322.out; subst eo11) | ((with_reducible refine gate_callee (f := 51) rfl ?_); refine goesL_ (some 12) rfl rfl Try.func51 (by kernel_rfl) rfl #[.agg #[.int .i64 a0_0, .slice A0_1 l0_1.length c0_1], .slice Ao11 y320.length co11] rfl (by (try simp only [List.map_toArray, List.map_cons, List.map_nil]); first | done | rfl | (simp only [List.length_drop, List.length_take]; rfl)) ?_; (with_reducible refine (impl_nodesIn.calls a0_0 _ _ l0_1 _ _ y320 true _ ?side1 ?side2 ?side3 ?side4 A4.out).mono ?_); (case side1 => repeat (first | exact (Kd.C_below p3.out HB.out) | (with_reducible refine Kd.C_alloc ?_ _) | (with_reducible refine Kd.C_drewN ?_ _) | (with_reducible refine Kd.C_drew ?_))); (case side2 => exact p4.out); (case side3 => repeat (first | exact (Kd.R_reads' HO322.out).2.2 | (with_reducible refine Kd.C_alloc ?_ _) | (with_reducible refine Kd.C_drewN ?_ _) | (with_reducible refine Kd.C_drew ?_))); (case side4 => exact (Kd.R_reads' HO322.out).2.1); rintro e w12 ⟨rfl, hb⟩; refine ⟨_, rfl, ?_⟩; have n0_ := Aside0.mk (Kd.R_below HO322.out hb); have n1_ := Aside0.mk (blk_below (g := p1) (o := .cells #[.int .i64 a0_0, .slice A0_1 l0_1.length c0_1] 25 (0, 0)) p0.out hb); have n2_ := Aside0.mk (below_step HB.out hb); clear HO322; clear p0; clear HB; have HO322 := n0_; have p0 := n1_; have HB := n2_; clear n0_ n1_ n2_; (try clear hb); (try clear hb2); (try clear hk); (try clear hi); have hcz13_0 : w12.cell? ⟨p1, 0, none⟩ = some (.int .i64 a0_0) := (blk_cell p0.out 0).trans rfl; have hcz13_1 : w12.cell? ⟨p1, 1, none⟩ = some (.slice A0_1 l0_1.length c0_1) := (blk_cell p0.out 1).trans rfl; have hfz13_0 := blk_frozen p0.out 0; have hfz13_1 := blk_frozen p0.out 1) | ((with_reducible refine gate_callee (f := 56) rfl ?_); refine goesL_ (some 17) rfl rfl Try.func56 (by kernel_rfl) rfl #[.agg #[.int .i64 a0_0, .slice A0_1 l0_1.length c0_1], .int .i64 a1, .int .i64 a2] rfl (by (try simp only [List.map_toArray, List.map_cons, List.map_nil]); first | done | rfl | (simp only [List.length_drop, List.length_take]; rfl)) ?_; (with_reducible refine (impl_Net_best.calls k a0_0 _ _ l0_1 a1 a2 t324 t327 _ ?side1 ?side2 A6.out).mono ?_); (case side1 => repeat (first | exact (Kd.C_below p3.out HB.out) | (with_reducible refine Kd.C_alloc ?_ _) | (with_reducible refine Kd.C_drewN ?_ _) | (with_reducible refine Kd.C_drew ?_))); (case side2 => exact p4.out); rintro e w14 ⟨v325, rfl, ho0, hb⟩; refine ⟨_, rfl, ?_⟩; have n0_ := Aside0.mk (Kd.R_elder' HO322.out (Kd.R_base ho0) hb); have n1_ := Aside0.mk (Kd.R_lower (Kd.R_new' ho0 (Kd.R_lt HO322.out)) (below_size HB.out)); have n2_ := Aside0.mk (blk_below (g := p1) (o := .cells #[.int .i64 a0_0, .slice A0_1 l0_1.length c0_1] 25 (0, 0)) p0.out hb); have n3_ := Aside0.mk (below_step HB.out hb); clear HO322; clear p0; clear HB; have HO322 := n0_; have HO326 := n1_; have p0 := n2_; have HB := n3_; clear n0_ n1_ n2_ n3_; (try clear hb); (try clear hb2); (try clear hk); (try clear hi); (try clear ho0)))
 go_ret2
 exact ⟨_, by first | rfl | (simp [errW_none, errW_some] <;> rfl) | (simp [*, errW_none, errW_some] <;> rfl), by (with_reducible repeat (first | apply Kd.R_alloc | apply Kd.R_drewN | apply Kd.R_drew)); exact Kd.R_mono HO326.out (fun _ hk => trivial), by repeat (first | (with_reducible first | exact HB.out | apply below_alloc | apply pw_below_drewN | apply below_drew1 | refine below_set ?_ p5.out) | exact HB.out)⟩
end Go.Proofs.Ytljdcinpjnijcaa.Pr
end
section
namespace Go.Proofs.Ytljdcinpjnijcaa.Pr
open Go.RowKit Go.Proofs.YtljdcinpjnijcaaW.PrintWords Go.Proofs.YtljdcinpjnijcaaW.PrintLast Go.Proofs.YtljdcinpjnijcaaW.PrintMore
attribute [local go_sem] max2_int min2_int max_two min_two max_three min_three max_four min_four
set_option linter.unusedVariables false
set_option linter.unusedSimpArgs false
def IsS97 (w0 W : World) (g : Nat) (f0 : List Int) (f1 : Int) : Prop := ∃ A0 c0, W.heap[g]? = some (.cells #[.slice A0 f0.length c0, .int .i64 f1] 97 (0, 0)) ∧ w0.heap.size ≤ g ∧ Kd.C (Kd.int .u8) w0 A0 f0.length f0
theorem IsS97.grown {w0 W : World} {g : Nat} {f0 : List Int} {f1 : Int} {W1 : World} {row : Option Nat} (h : IsS97 w0 W g f0 f1) (hw : W.grownBy W1 row) (hne : some g ≠ row) : IsS97 w0 W1 g f0 f1 := by
 obtain ⟨A0, c0, hb, hg, hr0⟩ := h
 exact ⟨A0, c0, blk_grown hb hw hne, hg, hr0⟩
theorem IsS97.below {w0 W : World} {g : Nat} {f0 : List Int} {f1 : Int} {W1 : World} (h : IsS97 w0 W g f0 f1) (hw : Below W.heap.size W W1) : IsS97 w0 W1 g f0 f1 := h.grown (grown_of_below hw none) (by simp)
theorem IsS97.grown2 {w0 W : World} {g : Nat} {f0 : List Int} {f1 : Int} {W0 W1 : World} {row : Option Nat} (_h0 : IsS97 w0 W0 g f0 f1) (h : IsS97 w0 W g f0 f1) (hw : W.grownBy W1 row) (hne : some g ≠ row) : IsS97 w0 W1 g f0 f1 := h.grown hw hne
theorem IsS97.alloc {w0 W : World} {g : Nat} {f0 : List Int} {f1 : Int} (h : IsS97 w0 W g f0 f1) (o : Obj) : IsS97 w0 (W.alloc o) g f0 f1 := h.below (below_alloc (Below.refl _ _) o)
theorem IsS97.drewN {w0 W : World} {g : Nat} {f0 : List Int} {f1 : Int} (h : IsS97 w0 W g f0 f1) (m : Nat) : IsS97 w0 (W.drewN m) g f0 f1 := h
theorem IsS97.drew {w0 W : World} {g : Nat} {f0 : List Int} {f1 : Int} (h : IsS97 w0 W g f0 f1) : IsS97 w0 W.drew g f0 f1 := h
theorem IsS97.apart {w0 W : World} {g : Nat} {f0 : List Int} {f1 : Int} {α : Type} {d : Kd α} {e : Nat} {base : Nat} {ok : Nat → Prop} {v : Value} {xs : List α} (h : IsS97 w0 W g f0 f1) (ho : d.R e W base ok v xs) (ht : ∀ q, q ∈ e :: d.E → q ≠ 97) : d.R e W base (fun k => ok k ∧ k ≠ g) v xs := by
 obtain ⟨A0, c0, hb, hg, hr0⟩ := h
 exact Kd.R_types ho hb ht
theorem IsS97.own_ne {w0 W : World} {g : Nat} {f0 : List Int} {f1 : Int} {α : Type} {d : Kd α} {e : Nat} {base : Nat} {ok : Nat → Prop} {v : Value} {xs : List α} (h : IsS97 w0 W g f0 f1) (ho : d.R e W base ok v xs) (ht : e ≠ 97) : some g ≠ v.ownBlock := by
 obtain ⟨A0, c0, hb, hg, hr0⟩ := h
 exact Kd.R_ne ho hb ht
theorem IsS97.lt {w0 W : World} {g : Nat} {f0 : List Int} {f1 : Int} (h : IsS97 w0 W g f0 f1) : g < W.heap.size := by
 obtain ⟨A0, c0, hb, hg, hr0⟩ := h
 exact blk_lt hb
theorem IsS97.ge {w0 W : World} {g : Nat} {f0 : List Int} {f1 : Int} (h : IsS97 w0 W g f0 f1) : w0.heap.size ≤ g := by
 obtain ⟨A0, c0, hb, hg, hr0⟩ := h
 exact hg
theorem IsS97.ne_blk {w0 W : World} {g : Nat} {f0 : List Int} {f1 : Int} {a : Nat} {cs : Array Value} {t : TypeId} {fr : Nat × Nat} (h : IsS97 w0 W g f0 f1) (hb2 : W.heap[a]? = some (.cells cs t fr)) (ht : t ≠ 97) : g ≠ a := by
 obtain ⟨A0, c0, hb, hg, hr0⟩ := h
 rintro rfl
 rw [hb] at hb2
 injection hb2 with hb2
 injection hb2 with _ ht2
 exact ht ht2.symm
theorem IsS97.far {w0 W : World} {g : Nat} {f0 : List Int} {f1 : Int} {p : Addr} (h : IsS97 w0 W g f0 f1) (hne : g ≠ p.block) (u : Value) : IsS97 w0 (W.setCell p u) g f0 f1 := by
 obtain ⟨A0, c0, hb, hg, hr0⟩ := h
 exact ⟨A0, c0, blk_far hb hne u, hg, hr0⟩
theorem cellS97_0 {W : World} {g : Nat} {A0 : Option Addr} {c0 : Nat} {f0 : List Int} {f1 : Int} (h : W.heap[g]? = some (.cells #[.slice A0 f0.length c0, .int .i64 f1] 97 (0, 0))) : W.cell? ⟨g, 0, none⟩ = some (.slice A0 f0.length c0) := (blk_cell h 0).trans rfl
theorem cellS97_1 {W : World} {g : Nat} {A0 : Option Addr} {c0 : Nat} {f0 : List Int} {f1 : Int} (h : W.heap[g]? = some (.cells #[.slice A0 f0.length c0, .int .i64 f1] 97 (0, 0))) : W.cell? ⟨g, 1, none⟩ = some (.int .i64 f1) := (blk_cell h 1).trans rfl
theorem IsS97.set_1 {w0 W : World} {g : Nat} {f0 : List Int} {f1 : Int} (h : IsS97 w0 W g f0 f1) (x : Int) : IsS97 w0 (W.setCell ⟨g, 1, none⟩ (.int .i64 x)) g f0 x := by
 obtain ⟨A0, c0, hb, hg, hr0⟩ := h
 exact ⟨A0, c0, by simpa using blk_set hb 1 (.int .i64 x), hg, hr0⟩
def spec_l30Open.f (l0 : List Int) : Option (List Int × Int) := if (l0.length : Int) > 2000 then (if 2000 ≤ (l0.length : Int) then (some (l0.take 2000, 0)) else (none)) else (some (l0, 0))
set_option maxHeartbeats 8000000 in
set_option maxRecDepth 100000 in
theorem spec_l30Open.calls (A0 : Option Addr) (c0 : Nat) (l0 : List Int) (r1 : List Int) (r2 : Int) (w0 w : World) (hB : Below w0.heap.size w0 w) (hr0 : Kd.C (Kd.int .u8) w0 A0 l0.length l0) (hc0 : l0.length ≤ c0) (h : spec_l30Open.f l0 = some (r1, r2)) :
  Calls Try.prog 48 #[.slice A0 l0.length c0] w fun e w' => ∃ g_ : Nat, e = .returned (.pointer (some ⟨g_, 0, none⟩)) ∧ IsS97 w0 w' g_ r1 r2 ∧ Below w0.heap.size w0 w' ∧ Below w.heap.size w w' := by
 have hu97 := Try.underlying97
 have HR0 := Aside0.mk hr0
 have HC0 := Aside0.mk hc0
 clear hr0 hc0
 have HBW := Aside0.mk (Below.refl w.heap.size w)
 have HW0 := Aside0.mk hB.size
 have HB := Aside0.mk hB
 clear hB
 have H : (if (l0.length : Int) > 2000 then (if 2000 ≤ (l0.length : Int) then (some (l0.take 2000, 0)) else (none)) else (some (l0, 0))) = some (r1, r2) := h
 clear h
 by_cases c2 : (l0.length : Int) > 2000
 case neg =>
  rw [if_neg c2] at H
  have c2b0 : decide (2000 < (l0.length : Int)) = false := decide_eq_false c2
  have c2b1 : decide (2000 < l0.length) = false := decide_eq_false (by omega)
  clear c2
  simp only [Option.some.injEq, Prod.mk.injEq] at H
  obtain ⟨rfl, rfl⟩ := H
  go_enter Try.func48, Try.ntmps48
  go_wp2_with (first | ((with_reducible refine gate_dst (N := 10) rfl ?_); refine box_event ?hg (N := 10) ?hd (cs := #[.slice A0 l0.length c0, .int .i64 0]) (t := 97) ?hr ?_; (case hd => rfl); (case hg => rfl); (case hr => first | (go_simp; done) | (go_simp; rfl)); intro p1 hg w6 hbox hb; have n0_ := Aside0.mk (below_step HBW.out hb); have n1_ := Aside0.mk (below_step HB.out hb); have n2_ := Aside0.mk (hbox); have n3_ := Aside0.mk ((by rw [hg]; exact (below_size HBW.out) : w.heap.size ≤ p1)); have n4_ := Aside0.mk ((Nat.le_trans HW0.out (by rw [hg]; exact (below_size HBW.out) : w.heap.size ≤ p1) : w0.heap.size ≤ p1)); clear HBW; clear HB; have HBW := n0_; have HB := n1_; have BK103 := n2_; have GW103 := n3_; have GE103 := n4_; clear n0_ n1_ n2_ n3_ n4_; clear hb hbox hg))
  go_ret
  exact ⟨_, rfl, (show IsS97 w0 _ p1 l0 0 from ⟨_, _, by (with_reducible repeat (first | refine blk_drewN ?_ _ | refine blk_drew ?_ | refine blk_alloc ?_ _)); exact BK103.out, GE103.out, HR0.out⟩), by repeat (first | (with_reducible first | exact HB.out | apply below_alloc | apply pw_below_drewN | apply below_drew1 | refine below_set ?_ GE103.out) | exact HB.out), by repeat (first | (with_reducible first | exact HBW.out | apply below_alloc | apply pw_below_drewN | apply below_drew1 | refine below_set ?_ GW103.out) | exact HBW.out)⟩
 rw [if_pos c2] at H
 have c2b0 : decide (2000 < (l0.length : Int)) = true := decide_eq_true c2
 have c2b1 : decide (2000 < l0.length) = true := decide_eq_true (by omega)
 clear c2
 by_cases c3 : 2000 ≤ (l0.length : Int)
 case neg =>
  rw [if_neg c3] at H
  exact absurd H (by simp)
 rw [if_pos c3] at H
 have c3b0 := eq_true c3
 have c3b1 : decide (2000 ≤ (l0.length : Int)) = true := decide_eq_true c3
 clear c3
 simp only [Option.some.injEq, Prod.mk.injEq] at H
 obtain ⟨rfl, rfl⟩ := H
 obtain ⟨i04, hi04, _, hsz4, _⟩ := info_parts info5
 obtain ⟨hcut4, hA4, hC4⟩ := print_take_of (P := Try.prog) (Value.int .u8) 0 22 5 .i64 Try.underlying22 hi04 hsz4 A0 c0 l0 2000 (by omega) (of_decide_eq_true (by first | (with_reducible assumption) | assumption)) HC0.out
 have HR101 := Aside0.mk (Kd.C_of_reads (h1 := fun _ => rfl) (hA4 _ (Kd.reads_of_C HR0.out)))
 have HC101 := Aside0.mk hC4
 clear hA4 hC4 hi04 hsz4
 go_enter Try.func48, Try.ntmps48
 go_wp2_with (first | ((with_reducible refine gate_dst (N := 10) rfl ?_); refine box_event ?hg (N := 10) ?hd (cs := #[.slice A0 (l0.take 2000).length c0, .int .i64 0]) (t := 97) ?hr ?_; (case hd => rfl); (case hg => rfl); (case hr => first | (go_simp; done) | (go_simp; rfl)); intro p0 hg w5 hbox hb; have n0_ := Aside0.mk (below_step HBW.out hb); have n1_ := Aside0.mk (below_step HB.out hb); have n2_ := Aside0.mk (hbox); have n3_ := Aside0.mk ((by rw [hg]; exact (below_size HBW.out) : w.heap.size ≤ p0)); have n4_ := Aside0.mk ((Nat.le_trans HW0.out (by rw [hg]; exact (below_size HBW.out) : w.heap.size ≤ p0) : w0.heap.size ≤ p0)); clear HBW; clear HB; have HBW := n0_; have HB := n1_; have BK102 := n2_; have GW102 := n3_; have GE102 := n4_; clear n0_ n1_ n2_ n3_ n4_; clear hb hbox hg))
 go_ret
 exact ⟨_, rfl, (show IsS97 w0 _ p0 (l0.take 2000) 0 from ⟨_, _, by (with_reducible repeat (first | refine blk_drewN ?_ _ | refine blk_drew ?_ | refine blk_alloc ?_ _)); exact BK102.out, GE102.out, HR101.out⟩), by repeat (first | (with_reducible first | exact HB.out | apply below_alloc | apply pw_below_drewN | apply below_drew1 | refine below_set ?_ GE102.out) | exact HB.out), by repeat (first | (with_reducible first | exact HBW.out | apply below_alloc | apply pw_below_drewN | apply below_drew1 | refine below_set ?_ GW102.out) | exact HBW.out)⟩
end Go.Proofs.Ytljdcinpjnijcaa.Pr
end
section
namespace Go.Proofs.Ytljdcinpjnijcaa.Pr
open Go.RowKit Go.Proofs.YtljdcinpjnijcaaW.PrintWords Go.Proofs.YtljdcinpjnijcaaW.PrintLast Go.Proofs.YtljdcinpjnijcaaW.PrintMore
attribute [local go_sem] max2_int min2_int max_two min_two max_three min_three max_four min_four
set_option linter.unusedVariables false
set_option linter.unusedSimpArgs false
def spec_l30Rd_pick.j0 : Nat → Int → Bool → List Int → Int → Option (Int × Int)
 | 0, _, _, _, _ => none
 | k + 1, x1, x24, p0, p1 => if x24 = true then (some (0, p1)) else (if (wrap64 (p1 - 1)) < (p0.length : Int) then (if 0 ≤ (wrap64 (p1 - 1)) then (if x1 = 0 then (none) else (some (Int.tmod (wrap64 (rd p0 (wrap64 (p1 - 1)))) x1, p1))) else (none)) else (if (p0.length : Int) = 0 then (none) else (if 0 ≤ (Int.tmod (wrap64 (p1 - 1)) (p0.length : Int)) then (if (Int.tmod (wrap64 (p1 - 1)) (p0.length : Int)) < (p0.length : Int) then (if 0 ≤ (Int.tmod (wrap64 ((wrap64 ((wrap64 (p1 - 1)) * 7)) + 3)) (p0.length : Int)) then (if (Int.tmod (wrap64 ((wrap64 ((wrap64 (p1 - 1)) * 7)) + 3)) (p0.length : Int)) < (p0.length : Int) then (if x1 = 0 then (none) else (some (Int.tmod (Go.bits .xor .i64 (wrap64 ((wrap64 ((wrap64 ((wrap64 ((wrap64 (rd p0 (Int.tmod (wrap64 (p1 - 1)) (p0.length : Int)))) * 131)) + (wrap64 ((wrap64 (rd p0 (Int.tmod (wrap64 ((wrap64 ((wrap64 (p1 - 1)) * 7)) + 3)) (p0.length : Int)))) * 1117)))) + (wrap64 ((wrap64 (p1 - 1)) * 29)))) + (wrap64 ((wrap64 (Int.tdiv (wrap64 (p1 - 1)) (p0.length : Int))) * 53)))) (wrap64 (Int.tdiv (wrap64 ((wrap64 ((wrap64 ((wrap64 ((wrap64 (rd p0 (Int.tmod (wrap64 (p1 - 1)) (p0.length : Int)))) * 131)) + (wrap64 ((wrap64 (rd p0 (Int.tmod (wrap64 ((wrap64 ((wrap64 (p1 - 1)) * 7)) + 3)) (p0.length : Int)))) * 1117)))) + (wrap64 ((wrap64 (p1 - 1)) * 29)))) + (wrap64 ((wrap64 (Int.tdiv (wrap64 (p1 - 1)) (p0.length : Int))) * 53)))) 64))) x1, p1))) else (none)) else (none)) else (none)) else (none))))
def spec_l30Rd_pick.f (k : Nat) (s0_0 : List Int) (s0_1 : Int) (a1 : Int) : Option (Int × Int) := if a1 < 1 then (spec_l30Rd_pick.j0 k a1 true s0_0 (wrap64 (s0_1 + 1))) else (spec_l30Rd_pick.j0 k a1 ((s0_0.length : Int) == 0) s0_0 (wrap64 (s0_1 + 1)))
set_option maxHeartbeats 8000000 in
set_option maxRecDepth 100000 in
theorem spec_l30Rd_pick.calls (k : Nat) (g : Nat) (s0_0 : List Int) (s0_1 : Int) (a1 : Int) (r1 : Int) (r2 : Int) (w0 w : World) (hI : IsS97 w0 w g s0_0 s0_1) (hB : Below w0.heap.size w0 w) (h : spec_l30Rd_pick.f k s0_0 s0_1 a1 = some (r1, r2)) :
  Calls Try.prog 89 #[.pointer (some ⟨g, 0, none⟩), .int .i64 a1] w fun e w' => e = .returned (.int .i64 r1) ∧ IsS97 w0 w' g s0_0 r2 ∧ Below w0.heap.size w0 w' ∧ KeepBut w w' g none := by
 have HI0 := Aside0.mk hI
 have HK := Aside0.mk (KeepBut.refl w g none)
 have HL := Aside0.mk hB.size
 clear hI
 have HW0 := Aside0.mk hB.size
 have HB := Aside0.mk hB
 clear hB
 have H : (if a1 < 1 then (spec_l30Rd_pick.j0 k a1 true s0_0 (wrap64 (s0_1 + 1))) else (spec_l30Rd_pick.j0 k a1 ((s0_0.length : Int) == 0) s0_0 (wrap64 (s0_1 + 1)))) = some (r1, r2) := h
 clear h
 have HC3 := Aside0.mk H
 clear H
 obtain ⟨ASz4_0, cSz4_0, HGz4, hgz4, HSz4_0⟩ := HI0.out
 have hcz4_0 := cellS97_0 HGz4
 have hcz4_1 := cellS97_1 HGz4
 have hfz4_1 := blk_frozen HGz4 1
 clear HGz4 hgz4
 go_enter Try.func89, Try.ntmps89
 go_upto_region 2 with (fail)
 repeat (go_quiet (fail); go_upto_region 2 with (fail))
 go_cut [24] (fun v24 wc => ∃ (kq : Nat) (p3 : Bool), v24 = .bool p3 ∧ Aside0 (spec_l30Rd_pick.j0 kq a1 p3 s0_0 (wrap64 (s0_1 + 1)) = some (r1, r2)) ∧ Aside0 (kq ≤ k) ∧ Aside0 (IsS97 w0 wc g s0_0 (wrap64 (s0_1 + 1))) ∧ Aside0 (KeepBut w wc g none) ∧ Aside0 (Below w0.heap.size w0 wc))
 case first =>
  have H := HC3.out
  clear HC3
  by_cases c5 : a1 < 1
  case pos =>
   rw [if_pos c5] at H
   have c5b0 : decide (a1 < 1) = true := decide_eq_true c5
   clear c5
   (first | rw [c5b0] | (simp only [i64_w, i32_w]; rw [c5b0]) | skip)
   have H' := Aside0.mk H
   clear H
   go_wp2
   repeat (go_quiet (fail); try go_wp2)
   go_meet
   case rel => exact ⟨_, (true), (by first | rfl | (simp; done) | (simp [*]; done)), H', ⟨by first | omega | exact Nat.le_refl _⟩, ⟨by repeat (first | (with_reducible first | exact HI0.out | apply IsS97.alloc | apply IsS97.drewN | apply IsS97.drew | apply IsS97.set_1) | exact HI0.out)⟩, ⟨by repeat (first | (with_reducible first | exact HK.out | apply KeepBut.set_ | apply keep_drewN | apply keep_drew | apply keep_alloc) | exact HK.out)⟩, ⟨by repeat (first | (with_reducible first | exact HB.out | apply below_alloc | apply pw_below_drewN | apply below_drew1 | refine below_set ?_ (IsS97.ge HI0.out)) | exact HB.out)⟩⟩
  rw [if_neg c5] at H
  have c5b0 : decide (a1 < 1) = false := decide_eq_false c5
  clear c5
  (first | rw [c5b0] | (simp only [i64_w, i32_w]; rw [c5b0]) | skip)
  have H' := Aside0.mk H
  clear H
  obtain ⟨ASz6_0, cSz6_0, HGz6, hgz6, HSz6_0⟩ := HI0.out
  have hcz6_0 := cellS97_0 HGz6
  have hcz6_1 := cellS97_1 HGz6
  have hfz6_1 := blk_frozen HGz6 1
  clear HGz6 hgz6
  go_wp2
  repeat (go_quiet (fail); try go_wp2)
  go_meet
  case rel => exact ⟨_, (((s0_0.length : Int) == 0)), (by first | rfl | (simp; done) | (simp [*]; done)), H', ⟨by first | omega | exact Nat.le_refl _⟩, ⟨by repeat (first | (with_reducible first | exact HI0.out | apply IsS97.alloc | apply IsS97.drewN | apply IsS97.drew | apply IsS97.set_1) | exact HI0.out)⟩, ⟨by repeat (first | (with_reducible first | exact HK.out | apply KeepBut.set_ | apply keep_drewN | apply keep_drew | apply keep_alloc) | exact HK.out)⟩, ⟨by repeat (first | (with_reducible first | exact HB.out | apply below_alloc | apply pw_below_drewN | apply below_drew1 | refine below_set ?_ (IsS97.ge HI0.out)) | exact HB.out)⟩⟩
 case rest =>
  clear HC3
  try clear p2
  try clear c5
  try clear c5b0
  try clear p6
  try clear hcz4_0
  try clear hcz4_1
  try clear hcz6_0
  try clear hcz6_1
  try clear hfz4_1
  try clear hfz6_1
  obtain ⟨kq, p3, rfl, HA, HJ2, HI0, HK, HB⟩ := hcut
  cases kq with
  | zero => exact absurd HA.out (by simp [spec_l30Rd_pick.j0])
  | succ kj2 =>
   have H := HA.out
   clear HA
   simp only [spec_l30Rd_pick.j0] at H
   by_cases c7 : p3 = true
   case pos =>
    subst c7
    have H1 : (some (0, (wrap64 (s0_1 + 1)))) = some (r1, r2) := by rw [if_pos rfl] at H; exact H
    clear H
    have H := H1
    clear H1
    simp only [Option.some.injEq, Prod.mk.injEq] at H
    obtain ⟨rfl, rfl⟩ := H
    go_wp2
    repeat (go_quiet (fail); try go_wp2)
    go_ret
    exact ⟨by first | rfl | (simp [errW_none, errW_some] <;> rfl) | (simp [*, errW_none, errW_some] <;> rfl), by repeat (first | (with_reducible first | exact HI0.out | apply IsS97.alloc | apply IsS97.drewN | apply IsS97.drew | apply IsS97.set_1) | exact HI0.out), by repeat (first | (with_reducible first | exact HB.out | apply below_alloc | apply pw_below_drewN | apply below_drew1 | refine below_set ?_ (IsS97.ge HI0.out)) | exact HB.out), by repeat (first | (with_reducible first | exact HK.out | apply KeepBut.set_ | apply keep_drewN | apply keep_drew | apply keep_alloc) | exact HK.out)⟩
   replace c7 := Bool.eq_false_iff.mpr c7
   subst c7
   have H1 : (if (wrap64 ((wrap64 (s0_1 + 1)) - 1)) < (s0_0.length : Int) then (if 0 ≤ (wrap64 ((wrap64 (s0_1 + 1)) - 1)) then (if a1 = 0 then (none) else (some (Int.tmod (wrap64 (rd s0_0 (wrap64 ((wrap64 (s0_1 + 1)) - 1)))) a1, (wrap64 (s0_1 + 1))))) else (none)) else (if (s0_0.length : Int) = 0 then (none) else (if 0 ≤ (Int.tmod (wrap64 ((wrap64 (s0_1 + 1)) - 1)) (s0_0.length : Int)) then (if (Int.tmod (wrap64 ((wrap64 (s0_1 + 1)) - 1)) (s0_0.length : Int)) < (s0_0.length : Int) then (if 0 ≤ (Int.tmod (wrap64 ((wrap64 ((wrap64 ((wrap64 (s0_1 + 1)) - 1)) * 7)) + 3)) (s0_0.length : Int)) then (if (Int.tmod (wrap64 ((wrap64 ((wrap64 ((wrap64 (s0_1 + 1)) - 1)) * 7)) + 3)) (s0_0.length : Int)) < (s0_0.length : Int) then (if a1 = 0 then (none) else (some (Int.tmod (Go.bits .xor .i64 (wrap64 ((wrap64 ((wrap64 ((wrap64 ((wrap64 (rd s0_0 (Int.tmod (wrap64 ((wrap64 (s0_1 + 1)) - 1)) (s0_0.length : Int)))) * 131)) + (wrap64 ((wrap64 (rd s0_0 (Int.tmod (wrap64 ((wrap64 ((wrap64 ((wrap64 (s0_1 + 1)) - 1)) * 7)) + 3)) (s0_0.length : Int)))) * 1117)))) + (wrap64 ((wrap64 ((wrap64 (s0_1 + 1)) - 1)) * 29)))) + (wrap64 ((wrap64 (Int.tdiv (wrap64 ((wrap64 (s0_1 + 1)) - 1)) (s0_0.length : Int))) * 53)))) (wrap64 (Int.tdiv (wrap64 ((wrap64 ((wrap64 ((wrap64 ((wrap64 (rd s0_0 (Int.tmod (wrap64 ((wrap64 (s0_1 + 1)) - 1)) (s0_0.length : Int)))) * 131)) + (wrap64 ((wrap64 (rd s0_0 (Int.tmod (wrap64 ((wrap64 ((wrap64 ((wrap64 (s0_1 + 1)) - 1)) * 7)) + 3)) (s0_0.length : Int)))) * 1117)))) + (wrap64 ((wrap64 ((wrap64 (s0_1 + 1)) - 1)) * 29)))) + (wrap64 ((wrap64 (Int.tdiv (wrap64 ((wrap64 (s0_1 + 1)) - 1)) (s0_0.length : Int))) * 53)))) 64))) a1, (wrap64 (s0_1 + 1))))) else (none)) else (none)) else (none)) else (none)))) = some (r1, r2) := by rw [if_neg (show ¬ (false = true) by decide)] at H; exact H
   clear H
   have H := H1
   clear H1
   by_cases c8 : (wrap64 ((wrap64 (s0_1 + 1)) - 1)) < (s0_0.length : Int)
   case pos =>
    rw [if_pos c8] at H
    have c8b0 : decide ((wrap64 ((wrap64 (s0_1 + 1)) - 1)) < (s0_0.length : Int)) = true := decide_eq_true c8
    clear c8
    obtain ⟨ji9, hji9⟩ : ∃ j_ : Int, (wrap64 ((wrap64 (s0_1 + 1)) - 1)) = j_ := ⟨_, rfl⟩
    replace H : (if 0 ≤ (ji9) then (if a1 = 0 then (none) else (some (Int.tmod (wrap64 (rd s0_0 (ji9))) a1, (wrap64 (s0_1 + 1))))) else (none)) = some (r1, r2) := by first | (rw [hji9] at H; exact H) | (simp only [hji9] at H ⊢; exact H)
    (try rw [hji9] at c8b0)
    have hji9w : (IntKind.i64.wrap ((wrap64 (s0_1 + 1)) - 1)) = ji9 := (i64_w _).trans hji9
    by_cases c10 : 0 ≤ (ji9)
    case neg =>
     rw [if_neg c10] at H
     exact absurd H (by simp)
    rw [if_pos c10] at H
    have c10b0 : decide (0 ≤ (ji9)) = true := decide_eq_true c10
    clear c10
    by_cases c11 : a1 = 0
    case pos =>
     rw [if_pos c11] at H
     exact absurd H (by simp)
    rw [if_neg c11] at H
    have c11b0 : (a1 == 0) = false := beq_eq_false_iff_ne.mpr c11
    have c11b1 : (a1 != 0) = true := bne_iff_ne.mpr c11
    simp only [Option.some.injEq, Prod.mk.injEq] at H
    obtain ⟨rfl, rfl⟩ := H
    obtain ⟨ASz12_0, cSz12_0, HGz12, hgz12, HSz12_0⟩ := HI0.out
    have hcz12_0 := cellS97_0 HGz12
    have hcz12_1 := cellS97_1 HGz12
    have hfz12_1 := blk_frozen HGz12 1
    clear HGz12 hgz12
    have p104 : 0 ≤ ((ji9) : Int) := of_decide_eq_true (by first | (with_reducible assumption) | assumption)
    have q104 : (ji9) < (s0_0.length : Int) := of_decide_eq_true (by first | (with_reducible assumption) | assumption)
    obtain ⟨ad104, e104, p4⟩ := Kd.at_int HSz12_0 (ji9) p104 q104
    cases e104
    replace p4 := pw_cell_below HB.out p4
    replace p104 := eq_true p104
    replace q104 := eq_true q104
    go_wp2
    repeat (go_quiet (fail); try go_wp2)
    go_ret
    exact ⟨by first | rfl | (simp [errW_none, errW_some] <;> rfl) | (simp only [← hji9]; first | rfl | (simp [errW_none, errW_some] <;> rfl)) | (simp [*, errW_none, errW_some] <;> rfl), by repeat (first | (with_reducible first | exact HI0.out | apply IsS97.alloc | apply IsS97.drewN | apply IsS97.drew | apply IsS97.set_1) | exact HI0.out), by repeat (first | (with_reducible first | exact HB.out | apply below_alloc | apply pw_below_drewN | apply below_drew1 | refine below_set ?_ (IsS97.ge HI0.out)) | exact HB.out), by repeat (first | (with_reducible first | exact HK.out | apply KeepBut.set_ | apply keep_drewN | apply keep_drew | apply keep_alloc) | exact HK.out)⟩
   rw [if_neg c8] at H
   have c8b0 : decide ((wrap64 ((wrap64 (s0_1 + 1)) - 1)) < (s0_0.length : Int)) = false := decide_eq_false c8
   clear c8
   by_cases c13 : (s0_0.length : Int) = 0
   case pos =>
    rw [if_pos c13] at H
    exact absurd H (by simp)
   rw [if_neg c13] at H
   have c13b0 : ((s0_0.length : Int) == 0) = false := beq_eq_false_iff_ne.mpr c13
   have c13b1 : ((s0_0.length : Int) != 0) = true := bne_iff_ne.mpr c13
   have c13b2 : ¬ (s0_0 = []) := fun h_ => c13 (by rw [h_]; rfl)
   obtain ⟨ji14, hji14⟩ : ∃ j_ : Int, (Int.tmod (wrap64 ((wrap64 (s0_1 + 1)) - 1)) (s0_0.length : Int)) = j_ := ⟨_, rfl⟩
   replace H : (if 0 ≤ (ji14) then (if (ji14) < (s0_0.length : Int) then (if 0 ≤ (Int.tmod (wrap64 ((wrap64 ((wrap64 ((wrap64 (s0_1 + 1)) - 1)) * 7)) + 3)) (s0_0.length : Int)) then (if (Int.tmod (wrap64 ((wrap64 ((wrap64 ((wrap64 (s0_1 + 1)) - 1)) * 7)) + 3)) (s0_0.length : Int)) < (s0_0.length : Int) then (if a1 = 0 then (none) else (some (Int.tmod (Go.bits .xor .i64 (wrap64 ((wrap64 ((wrap64 ((wrap64 ((wrap64 (rd s0_0 (ji14))) * 131)) + (wrap64 ((wrap64 (rd s0_0 (Int.tmod (wrap64 ((wrap64 ((wrap64 ((wrap64 (s0_1 + 1)) - 1)) * 7)) + 3)) (s0_0.length : Int)))) * 1117)))) + (wrap64 ((wrap64 ((wrap64 (s0_1 + 1)) - 1)) * 29)))) + (wrap64 ((wrap64 (Int.tdiv (wrap64 ((wrap64 (s0_1 + 1)) - 1)) (s0_0.length : Int))) * 53)))) (wrap64 (Int.tdiv (wrap64 ((wrap64 ((wrap64 ((wrap64 ((wrap64 (rd s0_0 (ji14))) * 131)) + (wrap64 ((wrap64 (rd s0_0 (Int.tmod (wrap64 ((wrap64 ((wrap64 ((wrap64 (s0_1 + 1)) - 1)) * 7)) + 3)) (s0_0.length : Int)))) * 1117)))) + (wrap64 ((wrap64 ((wrap64 (s0_1 + 1)) - 1)) * 29)))) + (wrap64 ((wrap64 (Int.tdiv (wrap64 ((wrap64 (s0_1 + 1)) - 1)) (s0_0.length : Int))) * 53)))) 64))) a1, (wrap64 (s0_1 + 1))))) else (none)) else (none)) else (none)) else (none)) = some (r1, r2) := by first | (rw [hji14] at H; exact H) | (simp only [hji14] at H ⊢; exact H)
   by_cases c15 : 0 ≤ (ji14)
   case neg =>
    rw [if_neg c15] at H
    exact absurd H (by simp)
   rw [if_pos c15] at H
   have c15b0 : decide (0 ≤ (ji14)) = true := decide_eq_true c15
   clear c15
   by_cases c16 : (ji14) < (s0_0.length : Int)
   case neg =>
    rw [if_neg c16] at H
    exact absurd H (by simp)
   rw [if_pos c16] at H
   have c16b0 : decide ((ji14) < (s0_0.length : Int)) = true := decide_eq_true c16
   clear c16
   obtain ⟨ji17, hji17⟩ : ∃ j_ : Int, (Int.tmod (wrap64 ((wrap64 ((wrap64 ((wrap64 (s0_1 + 1)) - 1)) * 7)) + 3)) (s0_0.length : Int)) = j_ := ⟨_, rfl⟩
   replace H : (if 0 ≤ (ji17) then (if (ji17) < (s0_0.length : Int) then (if a1 = 0 then (none) else (some (Int.tmod (Go.bits .xor .i64 (wrap64 ((wrap64 ((wrap64 ((wrap64 ((wrap64 (rd s0_0 (ji14))) * 131)) + (wrap64 ((wrap64 (rd s0_0 (ji17))) * 1117)))) + (wrap64 ((wrap64 ((wrap64 (s0_1 + 1)) - 1)) * 29)))) + (wrap64 ((wrap64 (Int.tdiv (wrap64 ((wrap64 (s0_1 + 1)) - 1)) (s0_0.length : Int))) * 53)))) (wrap64 (Int.tdiv (wrap64 ((wrap64 ((wrap64 ((wrap64 ((wrap64 (rd s0_0 (ji14))) * 131)) + (wrap64 ((wrap64 (rd s0_0 (ji17))) * 1117)))) + (wrap64 ((wrap64 ((wrap64 (s0_1 + 1)) - 1)) * 29)))) + (wrap64 ((wrap64 (Int.tdiv (wrap64 ((wrap64 (s0_1 + 1)) - 1)) (s0_0.length : Int))) * 53)))) 64))) a1, (wrap64 (s0_1 + 1))))) else (none)) else (none)) = some (r1, r2) := by first | (rw [hji17] at H; exact H) | (simp only [hji17] at H ⊢; exact H)
   by_cases c18 : 0 ≤ (ji17)
   case neg =>
    rw [if_neg c18] at H
    exact absurd H (by simp)
   rw [if_pos c18] at H
   have c18b0 : decide (0 ≤ (ji17)) = true := decide_eq_true c18
   clear c18
   by_cases c19 : (ji17) < (s0_0.length : Int)
   case neg =>
    rw [if_neg c19] at H
    exact absurd H (by simp)
   rw [if_pos c19] at H
   have c19b0 : decide ((ji17) < (s0_0.length : Int)) = true := decide_eq_true c19
   clear c19
   by_cases c20 : a1 = 0
   case pos =>
    rw [if_pos c20] at H
    exact absurd H (by simp)
   rw [if_neg c20] at H
   have c20b0 : (a1 == 0) = false := beq_eq_false_iff_ne.mpr c20
   have c20b1 : (a1 != 0) = true := bne_iff_ne.mpr c20
   simp only [Option.some.injEq, Prod.mk.injEq] at H
   obtain ⟨rfl, rfl⟩ := H
   obtain ⟨ASz21_0, cSz21_0, HGz21, hgz21, HSz21_0⟩ := HI0.out
   have hcz21_0 := cellS97_0 HGz21
   have hcz21_1 := cellS97_1 HGz21
   have hfz21_1 := blk_frozen HGz21 1
   clear HGz21 hgz21
   have p105 : 0 ≤ ((ji14) : Int) := of_decide_eq_true (by first | (with_reducible assumption) | assumption)
   have q105 : (ji14) < (s0_0.length : Int) := of_decide_eq_true (by first | (with_reducible assumption) | assumption)
   obtain ⟨ad105, e105, p5⟩ := Kd.at_int HSz21_0 (ji14) p105 q105
   cases e105
   replace p5 := pw_cell_below HB.out p5
   replace p105 := eq_true p105
   replace q105 := eq_true q105
   have p106 : 0 ≤ ((ji17) : Int) := of_decide_eq_true (by first | (with_reducible assumption) | assumption)
   have q106 : (ji17) < (s0_0.length : Int) := of_decide_eq_true (by first | (with_reducible assumption) | assumption)
   obtain ⟨ad106, e106, p7⟩ := Kd.at_int HSz21_0 (ji17) p106 q106
   obtain rfl : ad105 = ad106 := (by injection e106)
   replace p7 := pw_cell_below HB.out p7
   replace p106 := eq_true p106
   replace q106 := eq_true q106
   go_wp2
   repeat (go_quiet (fail); try go_wp2)
   go_ret
   exact ⟨by first | rfl | (simp [errW_none, errW_some] <;> rfl) | (simp only [← hji14, ← hji17]; first | rfl | (simp [errW_none, errW_some] <;> rfl)) | (simp [*, errW_none, errW_some] <;> rfl), by repeat (first | (with_reducible first | exact HI0.out | apply IsS97.alloc | apply IsS97.drewN | apply IsS97.drew | apply IsS97.set_1) | exact HI0.out), by repeat (first | (with_reducible first | exact HB.out | apply below_alloc | apply pw_below_drewN | apply below_drew1 | refine below_set ?_ (IsS97.ge HI0.out)) | exact HB.out), by repeat (first | (with_reducible first | exact HK.out | apply KeepBut.set_ | apply keep_drewN | apply keep_drew | apply keep_alloc) | exact HK.out)⟩
end Go.Proofs.Ytljdcinpjnijcaa.Pr
end
section
namespace Go.Proofs.Ytljdcinpjnijcaa.Pr
open Go.RowKit Go.Proofs.YtljdcinpjnijcaaW.PrintWords Go.Proofs.YtljdcinpjnijcaaW.PrintLast Go.Proofs.YtljdcinpjnijcaaW.PrintMore
attribute [local go_sem] max2_int min2_int max_two min_two max_three min_three max_four min_four
set_option linter.unusedVariables false
set_option linter.unusedSimpArgs false
def spec_l30Rd_one.f (k : Nat) (s0_0 : List Int) (s0_1 : Int) (l1 : List Int) : Option (Int × Int) := (spec_l30Rd_pick.f k s0_0 s0_1 (l1.length : Int)).bind fun bt107 => (if 0 ≤ bt107.1 then (if bt107.1 < (l1.length : Int) then (some (rd l1 bt107.1, bt107.2)) else (none)) else (none))
set_option maxHeartbeats 8000000 in
set_option maxRecDepth 100000 in
theorem spec_l30Rd_one.calls (k : Nat) (g : Nat) (s0_0 : List Int) (s0_1 : Int) (A1 : Option Addr) (c1 : Nat) (l1 : List Int) (r1 : Int) (r2 : Int) (w0 w : World) (hI : IsS97 w0 w g s0_0 s0_1) (hB : Below w0.heap.size w0 w) (hr1 : Kd.C (Kd.int .i64) w A1 l1.length l1) (hc1 : l1.length ≤ c1) (hf1 : ∀ ad, A1 = some ad → 0 < l1.length → ad.block ≠ g) (h : spec_l30Rd_one.f k s0_0 s0_1 l1 = some (r1, r2)) :
  Calls Try.prog 90 #[.pointer (some ⟨g, 0, none⟩), .slice A1 l1.length c1] w fun e w' => e = .returned (.int .i64 r1) ∧ IsS97 w0 w' g s0_0 r2 ∧ Below w0.heap.size w0 w' ∧ KeepBut w w' g none := by
 have HR1 := Aside0.mk hr1
 have HC1 := Aside0.mk hc1
 clear hr1 hc1
 have HI0 := Aside0.mk hI
 have HK := Aside0.mk (KeepBut.refl w g none)
 have HL := Aside0.mk hB.size
 clear hI
 have HW0 := Aside0.mk hB.size
 have HB := Aside0.mk hB
 clear hB
 have H : ((spec_l30Rd_pick.f k s0_0 s0_1 (l1.length : Int)).bind fun bt107 => (if 0 ≤ bt107.1 then (if bt107.1 < (l1.length : Int) then (some (rd l1 bt107.1, bt107.2)) else (none)) else (none))) = some (r1, r2) := h
 clear h
 replace H := Option.bind_eq_some_iff.mp H
 obtain ⟨⟨t107, t108⟩, A30, H⟩ := H
 replace H : (if 0 ≤ t107 then (if t107 < (l1.length : Int) then (some (rd l1 t107, t108)) else (none)) else (none)) = some (r1, r2) := H
 have A3 := Aside0.mk A30
 clear A30
 by_cases c4 : 0 ≤ t107
 case neg =>
  rw [if_neg c4] at H
  exact absurd H (by simp)
 rw [if_pos c4] at H
 have c4b0 : decide (0 ≤ t107) = true := decide_eq_true c4
 clear c4
 by_cases c5 : t107 < (l1.length : Int)
 case neg =>
  rw [if_neg c5] at H
  exact absurd H (by simp)
 rw [if_pos c5] at H
 have c5b0 : decide (t107 < (l1.length : Int)) = true := decide_eq_true c5
 clear c5
 simp only [Option.some.injEq, Prod.mk.injEq] at H
 obtain ⟨rfl, rfl⟩ := H
 go_enter Try.func90, Try.ntmps90
 go_wp2_with (first | ((with_reducible refine gate_callee (f := 89) rfl ?_); refine goesL_ (some 9) rfl rfl Try.func89 (by kernel_rfl) rfl #[.pointer (some ⟨g, 0, none⟩), .int .i64 (l1.length : Int)] rfl (by (try simp only [List.map_toArray, List.map_cons, List.map_nil]); first | done | rfl | (simp only [List.length_drop, List.length_take]; rfl)) ?_; (with_reducible refine (spec_l30Rd_pick.calls k g s0_0 s0_1 (l1.length : Int) t107 t108 w0 _ ?side1 ?side2 A3.out).mono ?_); (case side1 => repeat (first | (with_reducible first | exact HI0.out | apply IsS97.alloc | apply IsS97.drewN | apply IsS97.drew | apply IsS97.set_1) | exact HI0.out)); (case side2 => repeat (first | (with_reducible first | exact HB.out | apply below_alloc | apply pw_below_drewN | apply below_drew1 | refine below_set ?_ (IsS97.ge HI0.out)) | exact HB.out)); rintro e w6 ⟨rfl, hi, hb, hk⟩; refine ⟨_, rfl, ?_⟩; have n0_ := Aside0.mk (KeepBut.trans (by repeat (first | (with_reducible first | exact HK.out | apply KeepBut.set_ | apply keep_drewN | apply keep_drew | apply keep_alloc) | exact HK.out)) hk (.inl rfl)); have n1_ := Aside0.mk (hb); have n2_ := Aside0.mk (hi); clear HK; clear HB; clear HI0; have HK := n0_; have HB := n1_; have HI0 := n2_; clear n0_ n1_ n2_; (try clear hb); (try clear hb2); (try clear hk); (try clear hi); have p109 : 0 ≤ (t107 : Int) := of_decide_eq_true (by first | (with_reducible assumption) | assumption); have q109 : t107 < (l1.length : Int) := of_decide_eq_true (by first | (with_reducible assumption) | assumption); obtain ⟨ad109, e109, hx109_0⟩ := Kd.at_int HR1.out t107 p109 q109; cases e109; replace hx109_0 := keep_cell HK.out hx109_0 (by first | (rw [add_block]; exact hf1 _ rfl (by omega)) | exact hf1 _ rfl (by omega) | exact hf1 ad109 rfl (by omega)); replace p109 := eq_true p109; replace q109 := eq_true q109))
 go_ret
 exact ⟨by first | rfl | (simp [errW_none, errW_some] <;> rfl) | (simp [*, errW_none, errW_some] <;> rfl), by repeat (first | (with_reducible first | exact HI0.out | apply IsS97.alloc | apply IsS97.drewN | apply IsS97.drew | apply IsS97.set_1) | exact HI0.out), by repeat (first | (with_reducible first | exact HB.out | apply below_alloc | apply pw_below_drewN | apply below_drew1 | refine below_set ?_ (IsS97.ge HI0.out)) | exact HB.out), by repeat (first | (with_reducible first | exact HK.out | apply KeepBut.set_ | apply keep_drewN | apply keep_drew | apply keep_alloc) | exact HK.out)⟩
end Go.Proofs.Ytljdcinpjnijcaa.Pr
end
section
namespace Go.Proofs.Ytljdcinpjnijcaa.Pr
open Go.RowKit Go.Proofs.YtljdcinpjnijcaaW.PrintWords Go.Proofs.YtljdcinpjnijcaaW.PrintLast Go.Proofs.YtljdcinpjnijcaaW.PrintMore
attribute [local go_sem] max2_int min2_int max_two min_two max_three min_three max_four min_four
set_option linter.unusedVariables false
set_option linter.unusedSimpArgs false
abbrev Y4 := true
abbrev N4 := false
def spec_l30Net.l0 : Nat → Int → List Int → Int → Int → List (S34) → Option (Int × (List (S34)) × Int)
 | 0, _, _, _, _, _ => none
 | k + 1, x4, v0, x1001, u3, u4 => if x4 > 0 then ((spec_l30Rd_pick.f k v0 x1001 u3).bind fun bt116 => ((spec_l30Rd_pick.f k v0 bt116.2 u3).bind fun bt118 => ((spec_l30Rd_pick.f k v0 bt118.2 100).bind fun bt120 => ((spec_l30Rd_one.f k v0 bt120.2 (([0, 1, 2, 5, 9, bt120.1] : List Int))).bind fun bt125 => ((spec_l30Rd_one.f k v0 bt125.2 (([0, 0, 3, 8] : List Int))).bind fun bt130 => ((spec_l30Rd_pick.f k v0 bt130.2 10).bind fun bt132 => (if bt116.1 = bt118.1 then (if u3 = 0 then (none) else (if u4.length < 3518437208883 then (spec_l30Net.l0 k (wrap64 (x4 - 1)) v0 bt132.2 u3 (u4 ++ [(⟨bt116.1, Int.tmod (wrap64 (bt118.1 + 1)) u3, bt125.1, bt130.1, bt132.1⟩ : S34)])) else (none))) else (if u4.length < 3518437208883 then (spec_l30Net.l0 k (wrap64 (x4 - 1)) v0 bt132.2 u3 (u4 ++ [(⟨bt116.1, bt118.1, bt125.1, bt130.1, bt132.1⟩ : S34)])) else (none))))))))) else (some (u3, u4, x1001))
def spec_l30Net.f (k : Nat) (s0_0 : List Int) (s0_1 : Int) : Option (Int × (List (S34)) × Int) := (spec_l30Rd_pick.f k s0_0 s0_1 5).bind fun bt111 => ((spec_l30Rd_pick.f k s0_0 bt111.2 14).bind fun bt114 => (spec_l30Net.l0 k bt114.1 s0_0 bt114.2 (wrap64 (2 + bt111.1)) ([] : List (S34))))
def spec_l30Net.T5 : Bool × List (List Nat × List Nat) := (true, [([], []), ([], []), ([1], [1]), ([0, 2], [0, 2]), ([], []), ([], []), ([5], [5]), ([4, 6, 3], [4, 6]), ([], []), ([], []), ([9, 7], [9]), ([10], [10]), ([8, 11, 10], [8, 11]), ([], []), ([], []), ([13, 14, 12], [13, 14]), ([], []), ([16, 15], [16]), ([3, 7, 12, 15, 17], [3, 7, 12, 15, 17]), ([], []), ([19, 18, 17, 0, 1, 2, 3, 4, 5, 6, 7, 8, 9, 10, 11, 12, 13, 14, 15, 16, 17, 18, 19], [18, 19])])
def spec_l30Net.B5 : List Nat := [0, 0, 2, 7, 0, 0, 32, 127, 0, 0, 767, 1791, 4095, 0, 0, 32767, 0, 131071, 262143, 0, 1048575]
theorem spec_l30Net.tab5 : rtab .any (opsOf Try.f88 5) = spec_l30Net.T5 := by kernel_rfl
theorem spec_l30Net.bits5 : waitsOk spec_l30Net.T5.2 spec_l30Net.B5 = true := by kernel_rfl
set_option maxHeartbeats 8000000 in
set_option maxRecDepth 100000 in
theorem spec_l30Net.calls (k : Nat) (g : Nat) (s0_0 : List Int) (s0_1 : Int) (r1 : Int) (r2 : List (S34)) (r3 : Int) (w0 w : World) (hI : IsS97 w0 w g s0_0 s0_1) (hB : Below w0.heap.size w0 w) (h : spec_l30Net.f k s0_0 s0_1 = some (r1, r2, r3)) :
  Calls Try.prog 88 #[.pointer (some ⟨g, 0, none⟩)] w fun e w' => ∃ v1_ : Value, e = .returned (.agg #[.int .i64 r1, v1_]) ∧ Kd.R k34 34 w' w.heap.size (fun _ => True) v1_ r2 ∧ IsS97 w0 w' g s0_0 r3 ∧ Below w0.heap.size w0 w' ∧ KeepBut w w' g none := by
 have hu25 := Try.underlying25
 have hu34 := Try.underlying34
 have HI0 := Aside0.mk hI
 have HLTg := Aside0.mk (IsS97.lt hI)
 have HK := Aside0.mk (KeepBut.refl w g none)
 have HL := Aside0.mk hB.size
 clear hI
 have HW0 := Aside0.mk hB.size
 have HB := Aside0.mk hB
 clear hB
 have H : ((spec_l30Rd_pick.f k s0_0 s0_1 5).bind fun bt111 => ((spec_l30Rd_pick.f k s0_0 bt111.2 14).bind fun bt114 => (spec_l30Net.l0 k bt114.1 s0_0 bt114.2 (wrap64 (2 + bt111.1)) ([] : List (S34))))) = some (r1, r2, r3) := h
 clear h
 replace H := Option.bind_eq_some_iff.mp H
 obtain ⟨⟨t111, t112⟩, A20, H⟩ := H
 replace H : ((spec_l30Rd_pick.f k s0_0 t112 14).bind fun bt114 => (spec_l30Net.l0 k bt114.1 s0_0 bt114.2 (wrap64 (2 + t111)) ([] : List (S34)))) = some (r1, r2, r3) := H
 have A2 := Aside0.mk A20
 clear A20
 replace H := Option.bind_eq_some_iff.mp H
 obtain ⟨⟨t114, t115⟩, A30, H⟩ := H
 replace H : (spec_l30Net.l0 k t114 s0_0 t115 (wrap64 (2 + t111)) ([] : List (S34))) = some (r1, r2, r3) := H
 have A3 := Aside0.mk A30
 clear A30
 have H' := Aside0.mk H
 clear H
 go_enter Try.func88, Try.ntmps88
 go_wp2_with (first | ((with_reducible refine gate_dst (N := 2) rfl ?_); refine box_event ?hg (N := 2) ?hd (cs := #[.int .i64 0, .slice none 0 0]) (t := 25) ?hr ?_; (case hd => rfl); (case hg => rfl); (case hr => first | (go_simp; done) | (go_simp; rfl)); intro t0 hg w4 hbox hb; have n0_ := Aside0.mk (IsS97.below HI0.out hb); have n1_ := Aside0.mk (KeepBut.trans HK.out (KeepBut.of_below hb g none) (.inl rfl)); have n2_ := Aside0.mk (below_step HB.out hb); have n3_ := Aside0.mk (hbox); have n4_ := Aside0.mk ((by rw [hg]; exact (keep_size (w := w) (g := g) (row := none) HK.out) : w.heap.size ≤ t0)); have n5_ := Aside0.mk ((Nat.le_trans HW0.out (by rw [hg]; exact (keep_size (w := w) (g := g) (row := none) HK.out) : w.heap.size ≤ t0) : w0.heap.size ≤ t0)); have n6_ := Aside0.mk ((by rw [hg]; exact Nat.ne_of_lt (IsS97.lt (show IsS97 w0 _ g s0_0 s0_1 from by repeat (first | (with_reducible first | exact HI0.out | apply IsS97.alloc | apply IsS97.drewN | apply IsS97.drew | apply IsS97.set_1) | exact HI0.out))) : g ≠ t0)); have n7_ := Aside0.mk ((by rw [hg]; exact Nat.ne_of_gt (IsS97.lt (show IsS97 w0 _ g s0_0 s0_1 from by repeat (first | (with_reducible first | exact HI0.out | apply IsS97.alloc | apply IsS97.drewN | apply IsS97.drew | apply IsS97.set_1) | exact HI0.out))) : t0 ≠ g)); clear HI0; clear HK; clear HB; have HI0 := n0_; have HK := n1_; have HB := n2_; have p5 := n3_; have v1 := n4_; have v5 := n5_; have q7 := n6_; have u1 := n7_; clear n0_ n1_ n2_ n3_ n4_ n5_ n6_ n7_; clear hb hbox hg) | ((with_reducible refine gate_callee (f := 89) rfl ?_); refine goesL_ (some 7) rfl rfl Try.func89 (by kernel_rfl) rfl #[.pointer (some ⟨g, 0, none⟩), .int .i64 5] rfl (by (try simp only [List.map_toArray, List.map_cons, List.map_nil]); first | done | rfl | (simp only [List.length_drop, List.length_take]; rfl)) ?_; (with_reducible refine (spec_l30Rd_pick.calls k g s0_0 s0_1 5 t111 t112 w0 _ ?side1 ?side2 A2.out).mono ?_); (case side1 => exact HI0.out); (case side2 => exact HB.out); rintro e w5 ⟨rfl, hi, hb, hk⟩; refine ⟨_, rfl, ?_⟩; have n0_ := Aside0.mk (KeepBut.blk hk (g' := t0) (o := .cells #[.int .i64 0, .slice none 0 0] 25 (0, 0)) p5.out u1.out (by simp)); have n1_ := Aside0.mk (KeepBut.trans HK.out hk (.inl rfl)); have n2_ := Aside0.mk (hb); have n3_ := Aside0.mk (hi); clear p5; clear HK; clear HB; clear HI0; have p5 := n0_; have HK := n1_; have HB := n2_; have HI0 := n3_; clear n0_ n1_ n2_ n3_; (try clear hb); (try clear hb2); (try clear hk); (try clear hi)) | ((with_reducible refine gate_dst (N := 3) rfl ?_); refine box_event ?hg (N := 3) ?hd (cs := #[.int .i64 0, .slice none 0 0]) (t := 25) ?hr ?_; (case hd => rfl); (case hg => rfl); (case hr => first | (go_simp; done) | (go_simp; rfl)); intro s0 hg w6 hbox hb; have n0_ := Aside0.mk (IsS97.below HI0.out hb); have n1_ := Aside0.mk (blk_below (g := t0) (o := .cells #[.int .i64 0, .slice none 0 0] 25 (0, 0)) p5.out hb); have n2_ := Aside0.mk (KeepBut.trans HK.out (KeepBut.of_below hb g none) (.inl rfl)); have n3_ := Aside0.mk (below_step HB.out hb); have n4_ := Aside0.mk (hbox); have n5_ := Aside0.mk ((by rw [hg]; exact (keep_size (w := w) (g := g) (row := none) HK.out) : w.heap.size ≤ s0)); have n6_ := Aside0.mk ((Nat.le_trans HW0.out (by rw [hg]; exact (keep_size (w := w) (g := g) (row := none) HK.out) : w.heap.size ≤ s0) : w0.heap.size ≤ s0)); have n7_ := Aside0.mk ((by rw [hg]; exact Nat.ne_of_lt (blk_lt (g := t0) (o := .cells #[.int .i64 0, .slice none 0 0] 25 (0, 0)) p5.out) : t0 ≠ s0)); have n8_ := Aside0.mk ((by rw [hg]; exact Nat.ne_of_gt (blk_lt (g := t0) (o := .cells #[.int .i64 0, .slice none 0 0] 25 (0, 0)) p5.out) : s0 ≠ t0)); have n9_ := Aside0.mk ((by rw [hg]; exact Nat.ne_of_lt (IsS97.lt (show IsS97 w0 _ g s0_0 t112 from by repeat (first | (with_reducible first | exact HI0.out | apply IsS97.alloc | apply IsS97.drewN | apply IsS97.drew | apply IsS97.set_1 | refine IsS97.far ?_ q7.out _) | exact HI0.out))) : g ≠ s0)); have n10_ := Aside0.mk ((by rw [hg]; exact Nat.ne_of_gt (IsS97.lt (show IsS97 w0 _ g s0_0 t112 from by repeat (first | (with_reducible first | exact HI0.out | apply IsS97.alloc | apply IsS97.drewN | apply IsS97.drew | apply IsS97.set_1 | refine IsS97.far ?_ q7.out _) | exact HI0.out))) : s0 ≠ g)); clear HI0; clear p5; clear HK; clear HB; have HI0 := n0_; have p5 := n1_; have HK := n2_; have HB := n3_; have p4 := n4_; have v2 := n5_; have v6 := n6_; have t8 := n7_; have u7 := n8_; have q8 := n9_; have t9 := n10_; clear n0_ n1_ n2_ n3_ n4_ n5_ n6_ n7_ n8_ n9_ n10_; clear hb hbox hg; have hnb7 := u7.out; have hnc7 := t8.out; have hnb8 := t9.out; have hnc8 := q8.out; have hcz9_0 : w6.cell? ⟨s0, 0, none⟩ = some (.int .i64 0) := (blk_cell p4.out 0).trans rfl; have hcz9_1 : w6.cell? ⟨s0, 1, none⟩ = some (.slice none 0 0) := (blk_cell p4.out 1).trans rfl; have hfz9_0 := blk_frozen p4.out 0; have hfz9_1 := blk_frozen p4.out 1) | ((with_reducible refine gate_callee (f := 89) rfl ?_); refine goesL_ (some 11) rfl rfl Try.func89 (by kernel_rfl) rfl #[.pointer (some ⟨g, 0, none⟩), .int .i64 14] rfl (by (try simp only [List.map_toArray, List.map_cons, List.map_nil]); first | done | rfl | (simp only [List.length_drop, List.length_take]; rfl)) ?_; (with_reducible refine (spec_l30Rd_pick.calls k g s0_0 t112 14 t114 t115 w0 _ ?side1 ?side2 A3.out).mono ?_); (case side1 => repeat (first | (with_reducible first | exact HI0.out | apply IsS97.alloc | apply IsS97.drewN | apply IsS97.drew | apply IsS97.set_1 | refine IsS97.far ?_ q7.out _ | refine IsS97.far ?_ q8.out _) | exact HI0.out)); (case side2 => repeat (first | (with_reducible first | exact HB.out | apply below_alloc | apply pw_below_drewN | apply below_drew1 | refine below_set ?_ (IsS97.ge HI0.out) | refine below_set ?_ v5.out | refine below_set ?_ v6.out) | exact HB.out)); rintro e w10 ⟨rfl, hi, hb, hk⟩; refine ⟨_, rfl, ?_⟩; have n0_ := Aside0.mk (KeepBut.blk hk (g' := t0) (o := .cells #[.int .i64 0, .slice none 0 0] 25 (0, 0)) (by refine blk_far ?_ t8.out _; refine blk_far ?_ t8.out _; exact p5.out) u1.out (by simp)); have n1_ := Aside0.mk (KeepBut.blk hk (g' := s0) (o := .cells #[.int .i64 (wrap64 (2 + t111)), .slice none 0 0] 25 (0, 0)) (by refine blk_put (cs := #[.int .i64 (wrap64 (2 + t111)), .slice none 0 0]) ?_ 1 _ rfl; refine blk_put (cs := #[.int .i64 0, .slice none 0 0]) ?_ 0 _ rfl; exact p4.out) t9.out (by simp)); have n2_ := Aside0.mk (KeepBut.trans (by repeat (first | (with_reducible first | exact HK.out | apply KeepBut.set_ | apply keep_drewN | apply keep_drew | apply keep_alloc | refine keep_far ?_ v1.out _ | refine keep_far ?_ v2.out _) | exact HK.out)) hk (.inl rfl)); have n3_ := Aside0.mk (hb); have n4_ := Aside0.mk (hi); clear p5; clear p4; clear HK; clear HB; clear HI0; have p5 := n0_; have p4 := n1_; have HK := n2_; have HB := n3_; have HI0 := n4_; clear n0_ n1_ n2_ n3_ n4_; (try clear hb); (try clear hb2); (try clear hk); (try clear hi)))
 go_loopg [4] k (fun kq v4 w' => ∃ (x4_1 : Int) (u0 : Int) (p0 : List (S34)) (q4 : Value), v4 = .int .i64 x4_1 ∧ Aside0 (spec_l30Net.l0 kq x4_1 s0_0 u0 (wrap64 (2 + t111)) p0 = some (r1, r2, r3)) ∧ Aside0 (kq ≤ k) ∧ Aside0 (Kd.R k34 34 w' w.heap.size (fun _ => True) q4 p0) ∧ Aside0 (w'.heap[t0]? = some (.cells #[.int .i64 0, (.slice none 0 0)] 25 (0, 0))) ∧ Aside0 (w'.heap[s0]? = some (.cells #[.int .i64 (wrap64 (2 + t111)), q4] 25 (0, 0))) ∧ Aside0 (IsS97 w0 w' g s0_0 u0) ∧ Aside0 (KeepBut w w' g none) ∧ Aside0 (Below w0.heap.size w0 w'))
 case atStart => exact ⟨(t114), (t115), (([] : List (S34))), (.slice none 0 0), (by first | rfl | (simp; done) | (simp [*]; done)), H', ⟨Nat.le_refl _⟩, ⟨by first | exact Kd.R_nil _ _ _ _ _ | exact Kd.N_nil _ _ _ _ _ | exact Kd.V_nil _ _ _ _ _ | exact Kd.Q_nil _ _ _ _ _ | exact Kd.S_nil _ _ _ _ _⟩, ⟨by exact p5.out⟩, ⟨by exact p4.out⟩, ⟨by repeat (first | (with_reducible first | exact HI0.out | apply IsS97.alloc | apply IsS97.drewN | apply IsS97.drew | apply IsS97.set_1 | refine IsS97.far ?_ q7.out _ | refine IsS97.far ?_ q8.out _) | exact HI0.out)⟩, ⟨by repeat (first | (with_reducible first | exact HK.out | apply KeepBut.set_ | apply keep_drewN | apply keep_drew | apply keep_alloc | refine keep_far ?_ v1.out _ | refine keep_far ?_ v2.out _) | exact HK.out)⟩, ⟨by repeat (first | (with_reducible first | exact HB.out | apply below_alloc | apply pw_below_drewN | apply below_drew1 | refine below_set ?_ (IsS97.ge HI0.out) | refine below_set ?_ v5.out | refine below_set ?_ v6.out) | exact HB.out)⟩⟩
 case round =>
  clear H'
  try clear p2
  try clear p6
  try clear c7
  try clear c8
  try clear hcz9_0
  try clear hcz9_1
  try clear hfz9_0
  try clear hfz9_1
  obtain ⟨x4_1, u0, p0, q4, rfl, HA, HK1, p8, p5, p4, HI0, HK, HB⟩ := hrel
  cases gk with
  | zero => exact absurd HA.out (by simp [spec_l30Net.l0])
  | succ k1 =>
   have H := HA.out
   clear HA
   simp only [spec_l30Net.l0] at H
   by_cases c11 : x4_1 > 0
   case neg =>
    rw [if_neg c11] at H
    have c11b0 : decide (0 < x4_1) = false := decide_eq_false c11
    clear c11
    simp only [Option.some.injEq, Prod.mk.injEq] at H
    obtain ⟨rfl, rfl, rfl⟩ := H
    have hnb82 := u7.out
    have hnc82 := t8.out
    have hnb83 := t9.out
    have hnc83 := q8.out
    have hcz84_0 : wr.cell? ⟨s0, 0, none⟩ = some (.int .i64 (wrap64 (2 + t111))) := (blk_cell p4.out 0).trans rfl
    have hcz84_1 : wr.cell? ⟨s0, 1, none⟩ = some (q4) := (blk_cell p4.out 1).trans rfl
    have hfz84_0 := blk_frozen p4.out 0
    have hfz84_1 := blk_frozen p4.out 1
    have hnb85 := u1.out
    have hnc85 := q7.out
    have hcz86_0 : wr.cell? ⟨t0, 0, none⟩ = some (.int .i64 0) := (blk_cell p5.out 0).trans rfl
    have hcz86_1 : wr.cell? ⟨t0, 1, none⟩ = some (.slice none 0 0) := (blk_cell p5.out 1).trans rfl
    have hfz86_0 := blk_frozen p5.out 0
    have hfz86_1 := blk_frozen p5.out 1
    obtain ⟨Ao87, co87, eo87⟩ := Kd.R_slice p8.out
    subst eo87
    go_wp2
    refine bodyPost_ret (results_cell_row rfl _ _ t0 25 #[.int .i64 (wrap64 (2 + t111)), .slice Ao87 p0.length co87] (0, 0) _ rfl (by refine blk_put (cs := #[.int .i64 (wrap64 (2 + t111)), .slice none 0 0]) ?_ 1 _ rfl; refine blk_put (cs := #[.int .i64 0, .slice none 0 0]) ?_ 0 _ rfl; exact p5.out) Try.underlying25 rfl (by kernel_rfl)) rfl ?_
    exact ⟨_, by first | rfl | (simp [errW_none, errW_some] <;> rfl) | (simp [*, errW_none, errW_some] <;> rfl), by exact Kd.R_mono (Kd.R_far (p := ⟨t0, 1, none⟩) (Kd.R_far (p := ⟨t0, 0, none⟩) (Kd.R_types p8.out p5.out (by decide)) (fun _ hk => hk.2) (.int .i64 (wrap64 (2 + t111)))) (fun _ hk => hk.2) (.slice Ao87 p0.length co87)) (fun _ hk => trivial), by repeat (first | (with_reducible first | exact HI0.out | apply IsS97.alloc | apply IsS97.drewN | apply IsS97.drew | apply IsS97.set_1 | refine IsS97.far ?_ q7.out _ | refine IsS97.far ?_ q8.out _) | exact HI0.out), by repeat (first | (with_reducible first | exact HB.out | apply below_alloc | apply pw_below_drewN | apply below_drew1 | refine below_set ?_ (IsS97.ge HI0.out) | refine below_set ?_ v5.out | refine below_set ?_ v6.out) | exact HB.out), by repeat (first | (with_reducible first | exact HK.out | apply KeepBut.set_ | apply keep_drewN | apply keep_drew | apply keep_alloc | refine keep_far ?_ v1.out _ | refine keep_far ?_ v2.out _) | exact HK.out)⟩
   rw [if_pos c11] at H
   have c11b0 : decide (0 < x4_1) = true := decide_eq_true c11
   clear c11
   replace H := Option.bind_eq_some_iff.mp H
   obtain ⟨⟨t116, t117⟩, A120, H⟩ := H
   replace H : ((spec_l30Rd_pick.f k1 s0_0 t117 (wrap64 (2 + t111))).bind fun bt118 => ((spec_l30Rd_pick.f k1 s0_0 bt118.2 100).bind fun bt120 => ((spec_l30Rd_one.f k1 s0_0 bt120.2 (([0, 1, 2, 5, 9, bt120.1] : List Int))).bind fun bt125 => ((spec_l30Rd_one.f k1 s0_0 bt125.2 (([0, 0, 3, 8] : List Int))).bind fun bt130 => ((spec_l30Rd_pick.f k1 s0_0 bt130.2 10).bind fun bt132 => (if t116 = bt118.1 then (if (wrap64 (2 + t111)) = 0 then (none) else (if p0.length < 3518437208883 then (spec_l30Net.l0 k1 (wrap64 (x4_1 - 1)) s0_0 bt132.2 (wrap64 (2 + t111)) (p0 ++ [(⟨t116, Int.tmod (wrap64 (bt118.1 + 1)) (wrap64 (2 + t111)), bt125.1, bt130.1, bt132.1⟩ : S34)])) else (none))) else (if p0.length < 3518437208883 then (spec_l30Net.l0 k1 (wrap64 (x4_1 - 1)) s0_0 bt132.2 (wrap64 (2 + t111)) (p0 ++ [(⟨t116, bt118.1, bt125.1, bt130.1, bt132.1⟩ : S34)])) else (none)))))))) = some (r1, r2, r3) := H
   have A12 := Aside0.mk A120
   clear A120
   replace H := Option.bind_eq_some_iff.mp H
   obtain ⟨⟨t118, t119⟩, A130, H⟩ := H
   replace H : ((spec_l30Rd_pick.f k1 s0_0 t119 100).bind fun bt120 => ((spec_l30Rd_one.f k1 s0_0 bt120.2 (([0, 1, 2, 5, 9, bt120.1] : List Int))).bind fun bt125 => ((spec_l30Rd_one.f k1 s0_0 bt125.2 (([0, 0, 3, 8] : List Int))).bind fun bt130 => ((spec_l30Rd_pick.f k1 s0_0 bt130.2 10).bind fun bt132 => (if t116 = t118 then (if (wrap64 (2 + t111)) = 0 then (none) else (if p0.length < 3518437208883 then (spec_l30Net.l0 k1 (wrap64 (x4_1 - 1)) s0_0 bt132.2 (wrap64 (2 + t111)) (p0 ++ [(⟨t116, Int.tmod (wrap64 (t118 + 1)) (wrap64 (2 + t111)), bt125.1, bt130.1, bt132.1⟩ : S34)])) else (none))) else (if p0.length < 3518437208883 then (spec_l30Net.l0 k1 (wrap64 (x4_1 - 1)) s0_0 bt132.2 (wrap64 (2 + t111)) (p0 ++ [(⟨t116, t118, bt125.1, bt130.1, bt132.1⟩ : S34)])) else (none))))))) = some (r1, r2, r3) := H
   have A13 := Aside0.mk A130
   clear A130
   replace H := Option.bind_eq_some_iff.mp H
   obtain ⟨⟨t120, t121⟩, A140, H⟩ := H
   replace H : ((spec_l30Rd_one.f k1 s0_0 t121 (([0, 1, 2, 5, 9, t120] : List Int))).bind fun bt125 => ((spec_l30Rd_one.f k1 s0_0 bt125.2 (([0, 0, 3, 8] : List Int))).bind fun bt130 => ((spec_l30Rd_pick.f k1 s0_0 bt130.2 10).bind fun bt132 => (if t116 = t118 then (if (wrap64 (2 + t111)) = 0 then (none) else (if p0.length < 3518437208883 then (spec_l30Net.l0 k1 (wrap64 (x4_1 - 1)) s0_0 bt132.2 (wrap64 (2 + t111)) (p0 ++ [(⟨t116, Int.tmod (wrap64 (t118 + 1)) (wrap64 (2 + t111)), bt125.1, bt130.1, bt132.1⟩ : S34)])) else (none))) else (if p0.length < 3518437208883 then (spec_l30Net.l0 k1 (wrap64 (x4_1 - 1)) s0_0 bt132.2 (wrap64 (2 + t111)) (p0 ++ [(⟨t116, t118, bt125.1, bt130.1, bt132.1⟩ : S34)])) else (none)))))) = some (r1, r2, r3) := H
   have A14 := Aside0.mk A140
   clear A140
   obtain ⟨y122, hy122⟩ : ∃ y_ : List Int, y_ = (([0, 1, 2, 5, 9, t120] : List Int)) := ⟨_, rfl⟩
   replace H : ((spec_l30Rd_one.f k1 s0_0 t121 y122).bind fun bt125 => ((spec_l30Rd_one.f k1 s0_0 bt125.2 (([0, 0, 3, 8] : List Int))).bind fun bt130 => ((spec_l30Rd_pick.f k1 s0_0 bt130.2 10).bind fun bt132 => (if t116 = t118 then (if (wrap64 (2 + t111)) = 0 then (none) else (if p0.length < 3518437208883 then (spec_l30Net.l0 k1 (wrap64 (x4_1 - 1)) s0_0 bt132.2 (wrap64 (2 + t111)) (p0 ++ [(⟨t116, Int.tmod (wrap64 (t118 + 1)) (wrap64 (2 + t111)), bt125.1, bt130.1, bt132.1⟩ : S34)])) else (none))) else (if p0.length < 3518437208883 then (spec_l30Net.l0 k1 (wrap64 (x4_1 - 1)) s0_0 bt132.2 (wrap64 (2 + t111)) (p0 ++ [(⟨t116, t118, bt125.1, bt130.1, bt132.1⟩ : S34)])) else (none)))))) = some (r1, r2, r3) := by first | (rw [hy122]; with_reducible exact H) | (have H2_ := (Option.bind_some _ _).symm.trans H; rw [hy122]; with_reducible exact H2_) | (have H2_ := (Option.bind_some _ _).symm.trans H; with_reducible exact H2_) | with_reducible exact H | (rw [hy122]; exact H) | exact H
   have Ny122 := Aside0.mk hy122
   clear hy122
   replace H := Option.bind_eq_some_iff.mp H
   obtain ⟨⟨t125, t126⟩, A150, H⟩ := H
   replace H : ((spec_l30Rd_one.f k1 s0_0 t126 (([0, 0, 3, 8] : List Int))).bind fun bt130 => ((spec_l30Rd_pick.f k1 s0_0 bt130.2 10).bind fun bt132 => (if t116 = t118 then (if (wrap64 (2 + t111)) = 0 then (none) else (if p0.length < 3518437208883 then (spec_l30Net.l0 k1 (wrap64 (x4_1 - 1)) s0_0 bt132.2 (wrap64 (2 + t111)) (p0 ++ [(⟨t116, Int.tmod (wrap64 (t118 + 1)) (wrap64 (2 + t111)), t125, bt130.1, bt132.1⟩ : S34)])) else (none))) else (if p0.length < 3518437208883 then (spec_l30Net.l0 k1 (wrap64 (x4_1 - 1)) s0_0 bt132.2 (wrap64 (2 + t111)) (p0 ++ [(⟨t116, t118, t125, bt130.1, bt132.1⟩ : S34)])) else (none))))) = some (r1, r2, r3) := H
   have A15 := Aside0.mk A150
   clear A150
   obtain ⟨y127, hy127⟩ : ∃ y_ : List Int, y_ = (([0, 0, 3, 8] : List Int)) := ⟨_, rfl⟩
   replace H : ((spec_l30Rd_one.f k1 s0_0 t126 y127).bind fun bt130 => ((spec_l30Rd_pick.f k1 s0_0 bt130.2 10).bind fun bt132 => (if t116 = t118 then (if (wrap64 (2 + t111)) = 0 then (none) else (if p0.length < 3518437208883 then (spec_l30Net.l0 k1 (wrap64 (x4_1 - 1)) s0_0 bt132.2 (wrap64 (2 + t111)) (p0 ++ [(⟨t116, Int.tmod (wrap64 (t118 + 1)) (wrap64 (2 + t111)), t125, bt130.1, bt132.1⟩ : S34)])) else (none))) else (if p0.length < 3518437208883 then (spec_l30Net.l0 k1 (wrap64 (x4_1 - 1)) s0_0 bt132.2 (wrap64 (2 + t111)) (p0 ++ [(⟨t116, t118, t125, bt130.1, bt132.1⟩ : S34)])) else (none))))) = some (r1, r2, r3) := by first | (rw [hy127]; with_reducible exact H) | (have H2_ := (Option.bind_some _ _).symm.trans H; rw [hy127]; with_reducible exact H2_) | (have H2_ := (Option.bind_some _ _).symm.trans H; with_reducible exact H2_) | with_reducible exact H | (rw [hy127]; exact H) | exact H
   have Ny127 := Aside0.mk hy127
   clear hy127
   replace H := Option.bind_eq_some_iff.mp H
   obtain ⟨⟨t130, t131⟩, A160, H⟩ := H
   replace H : ((spec_l30Rd_pick.f k1 s0_0 t131 10).bind fun bt132 => (if t116 = t118 then (if (wrap64 (2 + t111)) = 0 then (none) else (if p0.length < 3518437208883 then (spec_l30Net.l0 k1 (wrap64 (x4_1 - 1)) s0_0 bt132.2 (wrap64 (2 + t111)) (p0 ++ [(⟨t116, Int.tmod (wrap64 (t118 + 1)) (wrap64 (2 + t111)), t125, t130, bt132.1⟩ : S34)])) else (none))) else (if p0.length < 3518437208883 then (spec_l30Net.l0 k1 (wrap64 (x4_1 - 1)) s0_0 bt132.2 (wrap64 (2 + t111)) (p0 ++ [(⟨t116, t118, t125, t130, bt132.1⟩ : S34)])) else (none)))) = some (r1, r2, r3) := H
   have A16 := Aside0.mk A160
   clear A160
   replace H := Option.bind_eq_some_iff.mp H
   obtain ⟨⟨t132, t133⟩, A170, H⟩ := H
   replace H : (if t116 = t118 then (if (wrap64 (2 + t111)) = 0 then (none) else (if p0.length < 3518437208883 then (spec_l30Net.l0 k1 (wrap64 (x4_1 - 1)) s0_0 t133 (wrap64 (2 + t111)) (p0 ++ [(⟨t116, Int.tmod (wrap64 (t118 + 1)) (wrap64 (2 + t111)), t125, t130, t132⟩ : S34)])) else (none))) else (if p0.length < 3518437208883 then (spec_l30Net.l0 k1 (wrap64 (x4_1 - 1)) s0_0 t133 (wrap64 (2 + t111)) (p0 ++ [(⟨t116, t118, t125, t130, t132⟩ : S34)])) else (none))) = some (r1, r2, r3) := H
   have A17 := Aside0.mk A170
   clear A170
   have HH_ := Aside0.mk H
   clear H
   try go_wp2
   have n0_ := Aside0.mk (Kd.R_drew p8.out)
   have n1_ := Aside0.mk (blk_drew p5.out)
   have n2_ := Aside0.mk (blk_drew p4.out)
   have n3_ := Aside0.mk (IsS97.drew HI0.out)
   have n4_ := Aside0.mk (keep_drew HK.out)
   have n5_ := Aside0.mk (below_drew1 HB.out)
   clear p8
   clear p5
   clear p4
   clear HI0
   clear HK
   clear HB
   have p8 := n0_
   have p5 := n1_
   have p4 := n2_
   have HI0 := n3_
   have HK := n4_
   have HB := n5_
   clear n0_ n1_ n2_ n3_ n4_ n5_
   refine start_ (n := 21) (S := fun w' => True) (ds := []) #[N4,N4,N4,N4,N4,N4,N4,N4,N4,N4,N4,N4,N4,N4,N4,N4,N4,N4,N4,N4,N4] (by kernel_rfl) rfl rfl trivial (fun hHeld => ?_); refine with_tabW spec_l30Net.tab5 spec_l30Net.bits5 (fun HT_ HW_ => ?_)
   generalize wr.drew = w21 at p8 p5 p4 HI0 HK HB hHeld ⊢
   refine pure_ (i := 0) (N := some 16) (v := ?_) (a' := ?_) #[Y4,N4,N4,N4,N4,N4,N4,N4,N4,N4,N4,N4,N4,N4,N4,N4,N4,N4,N4,N4,N4] rfl rfl (any_of HT_.out (by kernel_rfl)) (fun _ _ _ h => h) (Or.inl ⟨by rfl, ?_⟩) ?_ ?_
   rotate_left
   ·intro w'
    go_simp
    with_reducible rfl
   rotate_left
   ·simp only [Act.put, List.setIfInBounds_toArray, List.set_cons_zero, List.set_cons_succ, i64_w, i32_w]
    rfl
   refine pure_ (i := 1) (N := some 17) (v := ?_) (a' := ?_) #[Y4,Y4,N4,N4,N4,N4,N4,N4,N4,N4,N4,N4,N4,N4,N4,N4,N4,N4,N4,N4,N4] rfl rfl (any_of HT_.out (by kernel_rfl)) (fun _ _ _ h => h) (Or.inl ⟨by rfl, ?_⟩) ?_ ?_
   rotate_left
   ·intro w'
    go_simp
    with_reducible rfl
   rotate_left
   ·simp only [Act.put, List.setIfInBounds_toArray, List.set_cons_zero, List.set_cons_succ, i64_w, i32_w]
    rfl
   refine pure_ (i := 4) (N := some 20) (v := ?_) (a' := ?_) #[Y4,Y4,N4,N4,Y4,N4,N4,N4,N4,N4,N4,N4,N4,N4,N4,N4,N4,N4,N4,N4,N4] rfl rfl (any_of HT_.out (by kernel_rfl)) (fun _ _ _ h => h) (Or.inl ⟨by rfl, ?_⟩) ?_ ?_
   rotate_left
   ·intro w'
    go_simp
    with_reducible rfl
   rotate_left
   ·simp only [Act.put, List.setIfInBounds_toArray, List.set_cons_zero, List.set_cons_succ, i64_w, i32_w]
    rfl
   refine pure_ (i := 5) (N := some 21) (v := ?_) (a' := ?_) #[Y4,Y4,N4,N4,Y4,Y4,N4,N4,N4,N4,N4,N4,N4,N4,N4,N4,N4,N4,N4,N4,N4] rfl rfl (any_of HT_.out (by kernel_rfl)) (fun _ _ _ h => h) (Or.inl ⟨by rfl, ?_⟩) ?_ ?_
   rotate_left
   ·intro w'
    go_simp
    with_reducible rfl
   rotate_left
   ·simp only [Act.put, List.setIfInBounds_toArray, List.set_cons_zero, List.set_cons_succ, i64_w, i32_w]
    rfl
   refine pure_ (i := 8) (N := some 24) (v := ?_) (a' := ?_) #[Y4,Y4,N4,N4,Y4,Y4,N4,N4,Y4,N4,N4,N4,N4,N4,N4,N4,N4,N4,N4,N4,N4] rfl rfl (any_of HT_.out (by kernel_rfl)) (fun _ _ _ h => h) (Or.inl ⟨by rfl, ?_⟩) ?_ ?_
   rotate_left
   ·intro w'
    go_simp
    with_reducible rfl
   rotate_left
   ·simp only [Act.put, List.setIfInBounds_toArray, List.set_cons_zero, List.set_cons_succ, i64_w, i32_w]
    rfl
   refine pure_ (i := 9) (N := some 25) (v := ?_) (a' := ?_) #[Y4,Y4,N4,N4,Y4,Y4,N4,N4,Y4,Y4,N4,N4,N4,N4,N4,N4,N4,N4,N4,N4,N4] rfl rfl (any_of HT_.out (by kernel_rfl)) (fun _ _ _ h => h) (Or.inl ⟨by rfl, ?_⟩) ?_ ?_
   rotate_left
   ·intro w'
    go_simp
    with_reducible rfl
   rotate_left
   ·simp only [Act.put, List.setIfInBounds_toArray, List.set_cons_zero, List.set_cons_succ, i64_w, i32_w]
    rfl
   refine pure_ (i := 13) (N := some 29) (v := ?_) (a' := ?_) #[Y4,Y4,N4,N4,Y4,Y4,N4,N4,Y4,Y4,N4,N4,N4,Y4,N4,N4,N4,N4,N4,N4,N4] rfl rfl (any_of HT_.out (by kernel_rfl)) (fun _ _ _ h => h) (Or.inl ⟨by rfl, ?_⟩) ?_ ?_
   rotate_left
   ·intro w'
    go_simp
    with_reducible rfl
   rotate_left
   ·simp only [Act.put, List.setIfInBounds_toArray, List.set_cons_zero, List.set_cons_succ, i64_w, i32_w]
    rfl
   refine pure_ (i := 16) (N := some 32) (v := ?_) (a' := ?_) #[Y4,Y4,N4,N4,Y4,Y4,N4,N4,Y4,Y4,N4,N4,N4,Y4,N4,N4,Y4,N4,N4,N4,N4] rfl rfl (any_of HT_.out (by kernel_rfl)) (fun _ _ _ h => h) (Or.inl ⟨by rfl, ?_⟩) ?_ ?_
   rotate_left
   ·intro w'
    go_simp
    with_reducible rfl
   rotate_left
   ·simp only [Act.put, List.setIfInBounds_toArray, List.set_cons_zero, List.set_cons_succ, i64_w, i32_w]
    rfl
   refine inv_at [2, 3, 6, 7, 10, 11, 12, 14, 15, 17, 18, 19, 20] (fun a0_ b a w' => ∃ (v123 : Value) (v128 : Value) (p3 : Nat) (m19_ : Value), a = putSel a0_ b [(2, 18, .int .i64 (wrap64 (2 + t111))), (3, 19, .int .i64 t116), (6, 22, .int .i64 (wrap64 (2 + t111))), (7, 23, .int .i64 t118), (10, 26, .int .i64 t120), (11, 27, v123), (12, 28, .int .i64 t125), (14, 30, v128), (15, 31, .int .i64 t130), (17, 33, .int .i64 t132), (18, 34, .agg #[.int .i64 t116, .int .i64 t118, .int .i64 t125, .int .i64 t130, .int .i64 t132]), (19, 5, m19_)] ∧ (b 19 = false → Kd.R k34 34 w' w.heap.size (fun _ => True) q4 p0) ∧ (w'.heap[t0]? = some (.cells #[.int .i64 0, .slice none 0 0] 25 (0, 0))) ∧ (w'.heap[s0]? = some (.cells #[.int .i64 (wrap64 (2 + t111)), q4] 25 (0, 0))) ∧ (b 3 = false → IsS97 w0 w' g s0_0 u0) ∧ (KeepBut w w' g none) ∧ (Below w0.heap.size w0 w') ∧ (b 3 = true → b 7 = false → IsS97 w0 w' g s0_0 t117) ∧ (b 7 = true → b 10 = false → IsS97 w0 w' g s0_0 t119) ∧ (b 10 = true → b 12 = false → IsS97 w0 w' g s0_0 t121) ∧ (b 11 = true → Kd.R (Kd.int .i64) 3 w' w.heap.size (fun _ => True) v123 y122) ∧ (b 12 = true → b 15 = false → IsS97 w0 w' g s0_0 t126) ∧ (b 14 = true → Kd.R (Kd.int .i64) 3 w' w.heap.size (fun _ => True) v128 y127) ∧ (b 15 = true → b 17 = false → IsS97 w0 w' g s0_0 t131) ∧ (b 17 = true → IsS97 w0 w' g s0_0 t133) ∧ (b 19 = true → Kd.R k34 34 w' w.heap.size (fun k_ => k_ ≠ p3) q4 p0) ∧ (b 19 = true → b 20 = false → w'.heap[p3]? = some (.cells #[.int .i64 0, .int .i64 0, .int .i64 0, .int .i64 0, .int .i64 0] 34 (0, 0))) ∧ (b 19 = true → w.heap.size ≤ p3) ∧ (b 19 = true → w0.heap.size ≤ p3) ∧ (b 19 = true → g ≠ p3) ∧ (b 19 = true → p3 ≠ g) ∧ (b 19 = true → t0 ≠ p3) ∧ (b 19 = true → p3 ≠ t0) ∧ (b 19 = true → s0 ≠ p3) ∧ (b 19 = true → p3 ≠ s0) ∧ (b 20 = true → w'.heap[p3]? = some (.cells #[.int .i64 t116, .int .i64 t118, .int .i64 t125, .int .i64 t130, .int .i64 t132] 34 (0, 0))) ∧ (b 19 = true → (m19_ : Value) = .pointer (some ⟨p3, 0, none⟩))) HT_.out HW_.out (by kernel_rfl) (by kernel_rfl) ?_ ?_ ?_
   ·exact ⟨.bool false, .bool false, 0, .bool false, by simp only [putSel, Bool.false_eq_true, if_false], fun _ => p8.out, p5.out, p4.out, fun _ => HI0.out, HK.out, HB.out, fun h_ => absurd h_ (by decide), fun h_ => absurd h_ (by decide), fun h_ => absurd h_ (by decide), fun h_ => absurd h_ (by decide), fun h_ => absurd h_ (by decide), fun h_ => absurd h_ (by decide), fun h_ => absurd h_ (by decide), fun h_ => absurd h_ (by decide), fun h_ => absurd h_ (by decide), fun h_ => absurd h_ (by decide), fun h_ => absurd h_ (by decide), fun h_ => absurd h_ (by decide), fun h_ => absurd h_ (by decide), fun h_ => absurd h_ (by decide), fun h_ => absurd h_ (by decide), fun h_ => absurd h_ (by decide), fun h_ => absurd h_ (by decide), fun h_ => absurd h_ (by decide), fun h_ => absurd h_ (by decide), fun h_ => absurd h_ (by decide)⟩
   ·skip
    clear p5 p4 HB HI0 HK p8
    refine steps_cons ?_ ?_
    ·rintro b a w' ⟨v123, v128, p3, m19_, ha, p7, q9, r0, t6, Q_HK, Q_HB, s8, t2, s2, s3, s4, r4, s5, r7, p1, s1, r8, r9, q6, q3, p9, q0, q1, q2, r5, s9⟩ hb_ hon hoff
     refine ⟨_, rfl, fun K hK => ?_⟩
     have e17 : a.tmps[17]? = some (.pointer (some ⟨s0, 0, none⟩)) := by rw [ha]; exact (putSel_off rfl).trans rfl
     replace ha := Aside0.mk ha
     have p5 := Aside0.mk q9
     have p4 := Aside0.mk r0
     have HI0 := Aside0.mk (t6 (hoff 3 (by kernel_rfl)))
     have HK := Aside0.mk Q_HK
     have HB := Aside0.mk Q_HB
     have hc0_ : w'.cell? ⟨s0, 0, none⟩ = some (.int .i64 (wrap64 (2 + t111))) := (blk_cell p4.out 0).trans rfl
     have hc1_ : w'.cell? ⟨s0, 1, none⟩ = some (q4) := (blk_cell p4.out 1).trans rfl
     refine value_ (w1 := w') (v := .int .i64 (wrap64 (2 + t111))) (by rfl) rfl ?_ ?_
     ·go_simp
      (try simp only [i64_w])
      try rfl
     refine hK.out _ _ ⟨v123, v128, p3, m19_, (by rw [ha.out]; exact putSel_upk 0 hb_ rfl rfl rfl), p7, q9, r0, t6, Q_HK, Q_HB, fun h0_ _ => absurd ((hoff 3 (by kernel_rfl)).symm.trans h0_) (by decide), fun h0_ _ => absurd ((hoff 7 (by kernel_rfl)).symm.trans h0_) (by decide), fun h0_ _ => absurd ((hoff 10 (by kernel_rfl)).symm.trans h0_) (by decide), fun h0_ => absurd ((hoff 11 (by kernel_rfl)).symm.trans h0_) (by decide), fun h0_ _ => absurd ((hoff 12 (by kernel_rfl)).symm.trans h0_) (by decide), r4, fun h0_ _ => absurd ((hoff 15 (by kernel_rfl)).symm.trans h0_) (by decide), fun h0_ => absurd ((hoff 17 (by kernel_rfl)).symm.trans h0_) (by decide), p1, s1, r8, r9, q6, q3, p9, q0, q1, q2, fun h0_ => absurd ((hoff 20 (by kernel_rfl)).symm.trans h0_) (by decide), s9⟩
    refine steps_cons ?_ ?_
    ·rintro b a w' ⟨v123, v128, p3, m19_, ha, p7, q9, r0, t6, Q_HK, Q_HB, s8, t2, s2, s3, s4, r4, s5, r7, p1, s1, r8, r9, q6, q3, p9, q0, q1, q2, r5, s9⟩ hb_ hon hoff
     refine ⟨_, rfl, fun K hK => ?_⟩
     have e16 : a.tmps[16]? = some (.pointer (some ⟨g, 0, none⟩)) := by rw [ha]; exact (putSel_off rfl).trans rfl
     have e18 : a.tmps[18]? = some (.int .i64 (wrap64 (2 + t111))) := by rw [ha]; exact putSel_on (e := (2, 18, .int .i64 (wrap64 (2 + t111)))) 0 rfl rfl (hon 2 (by kernel_rfl)) rfl
     replace ha := Aside0.mk ha
     have p5 := Aside0.mk q9
     have p4 := Aside0.mk r0
     have HI0 := Aside0.mk (t6 hb_)
     have HK := Aside0.mk Q_HK
     have HB := Aside0.mk Q_HB
     refine goes_ Try.func89 (by kernel_rfl) rfl #[.pointer (some ⟨g, 0, none⟩), .int .i64 (wrap64 (2 + t111))] (by rfl) rfl rfl (by first | (simp only [List.map_toArray, List.map_cons, List.map_nil, Act.eval, Array.getD_eq_getD_getElem?, Option.getD_some, e16, e18]; done) | (simp only [List.map_toArray, List.map_cons, List.map_nil, Act.eval, Array.getD_eq_getD_getElem?, Option.getD_some, e16, e18]; rfl)) ?_
     with_reducible refine (spec_l30Rd_pick.calls k1 g s0_0 u0 (wrap64 (2 + t111)) t116 t117 w0 _ ?side1 ?side2 A12.out).mono ?_
     (case side1 => exact HI0.out)
     (case side2 => exact HB.out)
     rintro e w22 ⟨rfl, hi, hb, hk⟩
     refine ⟨_, rfl, ?_⟩
     have n1_ := Aside0.mk (KeepBut.blk hk (g' := t0) (o := .cells #[.int .i64 0, .slice none 0 0] 25 (0, 0)) p5.out u1.out (by simp))
     have n2_ := Aside0.mk (KeepBut.blk hk (g' := s0) (o := .cells #[.int .i64 (wrap64 (2 + t111)), q4] 25 (0, 0)) p4.out t9.out (by simp))
     have n3_ := Aside0.mk (KeepBut.trans HK.out hk (.inl rfl))
     have n4_ := Aside0.mk (hb)
     have n5_ := Aside0.mk (hi)
     have r6 := fun (h0_ : b 19 = false) => (show Kd.R k34 34 w22 w.heap.size (fun _ => True) q4 p0 from by exact Kd.R_mono (Kd.R_mono (Kd.R_keep (IsS97.apart (show IsS97 w0 _ g s0_0 u0 from by repeat (first | (with_reducible first | exact HI0.out | apply IsS97.alloc | apply IsS97.drewN | apply IsS97.drew | apply IsS97.set_1 | refine IsS97.far ?_ q7.out _ | refine IsS97.far ?_ q8.out _) | exact HI0.out)) (p7 h0_) (by decide)) hk (fun _ h => h.2)) (fun _ h => h.1)) (fun _ h_ => by first | trivial | exact h_ | exact h_.1))
     have t7 := fun (h0_ : b 14 = true) => (show Kd.R (Kd.int .i64) 3 w22 w.heap.size (fun _ => True) v128 y127 from by exact Kd.R_mono (Kd.R_mono (Kd.R_keep (IsS97.apart (show IsS97 w0 _ g s0_0 u0 from by repeat (first | (with_reducible first | exact HI0.out | apply IsS97.alloc | apply IsS97.drewN | apply IsS97.drew | apply IsS97.set_1 | refine IsS97.far ?_ q7.out _ | refine IsS97.far ?_ q8.out _) | exact HI0.out)) (r4 h0_) (by decide)) hk (fun _ h => h.2)) (fun _ h => h.1)) (fun _ h_ => by first | trivial | exact h_ | exact h_.1))
     have q5 := fun (h0_ : b 19 = true) => (show Kd.R k34 34 w22 w.heap.size (fun k_ => k_ ≠ p3) q4 p0 from by exact Kd.R_mono (Kd.R_mono (Kd.R_keep (IsS97.apart (show IsS97 w0 _ g s0_0 u0 from by repeat (first | (with_reducible first | exact HI0.out | apply IsS97.alloc | apply IsS97.drewN | apply IsS97.drew | apply IsS97.set_1 | refine IsS97.far ?_ q7.out _ | refine IsS97.far ?_ q8.out _) | exact HI0.out)) (p1 h0_) (by decide)) hk (fun _ h => h.2)) (fun _ h => h.1)) (fun _ h_ => by first | trivial | exact h_ | exact h_.1))
     have t3 := fun (h0_ : b 19 = true) (h1_ : b 20 = false) => (show w22.heap[p3]? = some (.cells #[.int .i64 0, .int .i64 0, .int .i64 0, .int .i64 0, .int .i64 0] 34 (0, 0)) from by first | exact (KeepBut.blk hk (g' := p3) (o := .cells #[.int .i64 0, .int .i64 0, .int .i64 0, .int .i64 0, .int .i64 0] 34 (0, 0)) (s1 h0_ h1_) (q3 h0_) (by simp)))
     clear p5
     clear p4
     clear HK
     clear HB
     clear HI0
     have p5 := n1_
     have p4 := n2_
     have HK := n3_
     have HB := n4_
     have HI0 := n5_
     clear n1_ n2_ n3_ n4_ n5_
     (try clear hb)
     (try clear hb2)
     (try clear hk)
     (try clear hi)
     refine hK.out _ _ ⟨v123, v128, p3, m19_, (by rw [ha.out]; exact putSel_upk 1 hb_ rfl rfl rfl), r6, p5.out, p4.out, fun h0_ => absurd ((up_self b 3).symm.trans h0_) (by decide), HK.out, HB.out, fun _ _ => HI0.out, fun h0_ _ => absurd ((hoff 7 (by kernel_rfl)).symm.trans h0_) (by decide), fun h0_ _ => absurd ((hoff 10 (by kernel_rfl)).symm.trans h0_) (by decide), fun h0_ => absurd ((hoff 11 (by kernel_rfl)).symm.trans h0_) (by decide), fun h0_ _ => absurd ((hoff 12 (by kernel_rfl)).symm.trans h0_) (by decide), t7, fun h0_ _ => absurd ((hoff 15 (by kernel_rfl)).symm.trans h0_) (by decide), fun h0_ => absurd ((hoff 17 (by kernel_rfl)).symm.trans h0_) (by decide), q5, t3, r8, r9, q6, q3, p9, q0, q1, q2, fun h0_ => absurd ((hoff 20 (by kernel_rfl)).symm.trans h0_) (by decide), s9⟩
    refine steps_cons ?_ ?_
    ·rintro b a w' ⟨v123, v128, p3, m19_, ha, p7, q9, r0, t6, Q_HK, Q_HB, s8, t2, s2, s3, s4, r4, s5, r7, p1, s1, r8, r9, q6, q3, p9, q0, q1, q2, r5, s9⟩ hb_ hon hoff
     refine ⟨_, rfl, fun K hK => ?_⟩
     have e21 : a.tmps[21]? = some (.pointer (some ⟨s0, 0, none⟩)) := by rw [ha]; exact (putSel_off rfl).trans rfl
     replace ha := Aside0.mk ha
     have p5 := Aside0.mk q9
     have p4 := Aside0.mk r0
     have HK := Aside0.mk Q_HK
     have HB := Aside0.mk Q_HB
     have hc0_ : w'.cell? ⟨s0, 0, none⟩ = some (.int .i64 (wrap64 (2 + t111))) := (blk_cell p4.out 0).trans rfl
     have hc1_ : w'.cell? ⟨s0, 1, none⟩ = some (q4) := (blk_cell p4.out 1).trans rfl
     refine value_ (w1 := w') (v := .int .i64 (wrap64 (2 + t111))) (by rfl) rfl ?_ ?_
     ·go_simp
      (try simp only [i64_w])
      try rfl
     refine hK.out _ _ ⟨v123, v128, p3, m19_, (by rw [ha.out]; exact putSel_upk 2 hb_ rfl rfl rfl), p7, q9, r0, t6, Q_HK, Q_HB, s8, fun h0_ _ => absurd ((hoff 7 (by kernel_rfl)).symm.trans h0_) (by decide), fun h0_ _ => absurd ((hoff 10 (by kernel_rfl)).symm.trans h0_) (by decide), fun h0_ => absurd ((hoff 11 (by kernel_rfl)).symm.trans h0_) (by decide), fun h0_ _ => absurd ((hoff 12 (by kernel_rfl)).symm.trans h0_) (by decide), r4, fun h0_ _ => absurd ((hoff 15 (by kernel_rfl)).symm.trans h0_) (by decide), fun h0_ => absurd ((hoff 17 (by kernel_rfl)).symm.trans h0_) (by decide), p1, s1, r8, r9, q6, q3, p9, q0, q1, q2, fun h0_ => absurd ((hoff 20 (by kernel_rfl)).symm.trans h0_) (by decide), s9⟩
    refine steps_cons ?_ ?_
    ·rintro b a w' ⟨v123, v128, p3, m19_, ha, p7, q9, r0, t6, Q_HK, Q_HB, s8, t2, s2, s3, s4, r4, s5, r7, p1, s1, r8, r9, q6, q3, p9, q0, q1, q2, r5, s9⟩ hb_ hon hoff
     refine ⟨_, rfl, fun K hK => ?_⟩
     have e20 : a.tmps[20]? = some (.pointer (some ⟨g, 0, none⟩)) := by rw [ha]; exact (putSel_off rfl).trans rfl
     have e22 : a.tmps[22]? = some (.int .i64 (wrap64 (2 + t111))) := by rw [ha]; exact putSel_on (e := (6, 22, .int .i64 (wrap64 (2 + t111)))) 2 rfl rfl (hon 6 (by kernel_rfl)) rfl
     replace ha := Aside0.mk ha
     have p5 := Aside0.mk q9
     have p4 := Aside0.mk r0
     have HK := Aside0.mk Q_HK
     have HB := Aside0.mk Q_HB
     have HI0 := Aside0.mk (s8 (hon 3 (by kernel_rfl)) hb_)
     refine goes_ Try.func89 (by kernel_rfl) rfl #[.pointer (some ⟨g, 0, none⟩), .int .i64 (wrap64 (2 + t111))] (by rfl) rfl rfl (by first | (simp only [List.map_toArray, List.map_cons, List.map_nil, Act.eval, Array.getD_eq_getD_getElem?, Option.getD_some, e20, e22]; done) | (simp only [List.map_toArray, List.map_cons, List.map_nil, Act.eval, Array.getD_eq_getD_getElem?, Option.getD_some, e20, e22]; rfl)) ?_
     with_reducible refine (spec_l30Rd_pick.calls k1 g s0_0 t117 (wrap64 (2 + t111)) t118 t119 w0 _ ?side1 ?side2 A13.out).mono ?_
     (case side1 => exact HI0.out)
     (case side2 => exact HB.out)
     rintro e w24 ⟨rfl, hi, hb, hk⟩
     refine ⟨_, rfl, ?_⟩
     have n1_ := Aside0.mk (KeepBut.blk hk (g' := t0) (o := .cells #[.int .i64 0, .slice none 0 0] 25 (0, 0)) p5.out u1.out (by simp))
     have n2_ := Aside0.mk (KeepBut.blk hk (g' := s0) (o := .cells #[.int .i64 (wrap64 (2 + t111)), q4] 25 (0, 0)) p4.out t9.out (by simp))
     have n3_ := Aside0.mk (KeepBut.trans HK.out hk (.inl rfl))
     have n4_ := Aside0.mk (hb)
     have n5_ := Aside0.mk (hi)
     have r6 := fun (h0_ : b 19 = false) => (show Kd.R k34 34 w24 w.heap.size (fun _ => True) q4 p0 from by exact Kd.R_mono (Kd.R_mono (Kd.R_keep (IsS97.apart (show IsS97 w0 _ g s0_0 t117 from by repeat (first | (with_reducible first | exact HI0.out | apply IsS97.alloc | apply IsS97.drewN | apply IsS97.drew | apply IsS97.set_1 | refine IsS97.far ?_ q7.out _ | refine IsS97.far ?_ q8.out _) | exact HI0.out)) (p7 h0_) (by decide)) hk (fun _ h => h.2)) (fun _ h => h.1)) (fun _ h_ => by first | trivial | exact h_ | exact h_.1))
     have t7 := fun (h0_ : b 14 = true) => (show Kd.R (Kd.int .i64) 3 w24 w.heap.size (fun _ => True) v128 y127 from by exact Kd.R_mono (Kd.R_mono (Kd.R_keep (IsS97.apart (show IsS97 w0 _ g s0_0 t117 from by repeat (first | (with_reducible first | exact HI0.out | apply IsS97.alloc | apply IsS97.drewN | apply IsS97.drew | apply IsS97.set_1 | refine IsS97.far ?_ q7.out _ | refine IsS97.far ?_ q8.out _) | exact HI0.out)) (r4 h0_) (by decide)) hk (fun _ h => h.2)) (fun _ h => h.1)) (fun _ h_ => by first | trivial | exact h_ | exact h_.1))
     have q5 := fun (h0_ : b 19 = true) => (show Kd.R k34 34 w24 w.heap.size (fun k_ => k_ ≠ p3) q4 p0 from by exact Kd.R_mono (Kd.R_mono (Kd.R_keep (IsS97.apart (show IsS97 w0 _ g s0_0 t117 from by repeat (first | (with_reducible first | exact HI0.out | apply IsS97.alloc | apply IsS97.drewN | apply IsS97.drew | apply IsS97.set_1 | refine IsS97.far ?_ q7.out _ | refine IsS97.far ?_ q8.out _) | exact HI0.out)) (p1 h0_) (by decide)) hk (fun _ h => h.2)) (fun _ h => h.1)) (fun _ h_ => by first | trivial | exact h_ | exact h_.1))
     have t3 := fun (h0_ : b 19 = true) (h1_ : b 20 = false) => (show w24.heap[p3]? = some (.cells #[.int .i64 0, .int .i64 0, .int .i64 0, .int .i64 0, .int .i64 0] 34 (0, 0)) from by first | exact (KeepBut.blk hk (g' := p3) (o := .cells #[.int .i64 0, .int .i64 0, .int .i64 0, .int .i64 0, .int .i64 0] 34 (0, 0)) (s1 h0_ h1_) (q3 h0_) (by simp)))
     clear p5
     clear p4
     clear HK
     clear HB
     clear HI0
     have p5 := n1_
     have p4 := n2_
     have HK := n3_
     have HB := n4_
     have HI0 := n5_
     clear n1_ n2_ n3_ n4_ n5_
     (try clear hb)
     (try clear hb2)
     (try clear hk)
     (try clear hi)
     refine hK.out _ _ ⟨v123, v128, p3, m19_, (by rw [ha.out]; exact putSel_upk 3 hb_ rfl rfl rfl), r6, p5.out, p4.out, fun h0_ => absurd ((hon 3 (by kernel_rfl)).symm.trans h0_) (by decide), HK.out, HB.out, fun _ h1_ => absurd ((up_self b 7).symm.trans h1_) (by decide), fun _ _ => HI0.out, fun h0_ _ => absurd ((hoff 10 (by kernel_rfl)).symm.trans h0_) (by decide), fun h0_ => absurd ((hoff 11 (by kernel_rfl)).symm.trans h0_) (by decide), fun h0_ _ => absurd ((hoff 12 (by kernel_rfl)).symm.trans h0_) (by decide), t7, fun h0_ _ => absurd ((hoff 15 (by kernel_rfl)).symm.trans h0_) (by decide), fun h0_ => absurd ((hoff 17 (by kernel_rfl)).symm.trans h0_) (by decide), q5, t3, r8, r9, q6, q3, p9, q0, q1, q2, fun h0_ => absurd ((hoff 20 (by kernel_rfl)).symm.trans h0_) (by decide), s9⟩
    refine steps_cons ?_ ?_
    ·rintro b a w' ⟨v123, v128, p3, m19_, ha, p7, q9, r0, t6, Q_HK, Q_HB, s8, t2, s2, s3, s4, r4, s5, r7, p1, s1, r8, r9, q6, q3, p9, q0, q1, q2, r5, s9⟩ hb_ hon hoff
     refine ⟨_, rfl, fun K hK => ?_⟩
     have e25 : a.tmps[25]? = some (.pointer (some ⟨g, 0, none⟩)) := by rw [ha]; exact (putSel_off rfl).trans rfl
     replace ha := Aside0.mk ha
     have p5 := Aside0.mk q9
     have p4 := Aside0.mk r0
     have HK := Aside0.mk Q_HK
     have HB := Aside0.mk Q_HB
     have HI0 := Aside0.mk (t2 (hon 7 (by kernel_rfl)) hb_)
     refine goes_ Try.func89 (by kernel_rfl) rfl #[.pointer (some ⟨g, 0, none⟩), .int .i64 100] (by rfl) rfl rfl (by first | (simp only [List.map_toArray, List.map_cons, List.map_nil, Act.eval, Array.getD_eq_getD_getElem?, Option.getD_some, e25]; done) | (simp only [List.map_toArray, List.map_cons, List.map_nil, Act.eval, Array.getD_eq_getD_getElem?, Option.getD_some, e25]; rfl)) ?_
     with_reducible refine (spec_l30Rd_pick.calls k1 g s0_0 t119 100 t120 t121 w0 _ ?side1 ?side2 A14.out).mono ?_
     (case side1 => exact HI0.out)
     (case side2 => exact HB.out)
     rintro e w25 ⟨rfl, hi, hb, hk⟩
     refine ⟨_, rfl, ?_⟩
     have n1_ := Aside0.mk (KeepBut.blk hk (g' := t0) (o := .cells #[.int .i64 0, .slice none 0 0] 25 (0, 0)) p5.out u1.out (by simp))
     have n2_ := Aside0.mk (KeepBut.blk hk (g' := s0) (o := .cells #[.int .i64 (wrap64 (2 + t111)), q4] 25 (0, 0)) p4.out t9.out (by simp))
     have n3_ := Aside0.mk (KeepBut.trans HK.out hk (.inl rfl))
     have n4_ := Aside0.mk (hb)
     have n5_ := Aside0.mk (hi)
     have r6 := fun (h0_ : b 19 = false) => (show Kd.R k34 34 w25 w.heap.size (fun _ => True) q4 p0 from by exact Kd.R_mono (Kd.R_mono (Kd.R_keep (IsS97.apart (show IsS97 w0 _ g s0_0 t119 from by repeat (first | (with_reducible first | exact HI0.out | apply IsS97.alloc | apply IsS97.drewN | apply IsS97.drew | apply IsS97.set_1 | refine IsS97.far ?_ q7.out _ | refine IsS97.far ?_ q8.out _) | exact HI0.out)) (p7 h0_) (by decide)) hk (fun _ h => h.2)) (fun _ h => h.1)) (fun _ h_ => by first | trivial | exact h_ | exact h_.1))
     have t7 := fun (h0_ : b 14 = true) => (show Kd.R (Kd.int .i64) 3 w25 w.heap.size (fun _ => True) v128 y127 from by exact Kd.R_mono (Kd.R_mono (Kd.R_keep (IsS97.apart (show IsS97 w0 _ g s0_0 t119 from by repeat (first | (with_reducible first | exact HI0.out | apply IsS97.alloc | apply IsS97.drewN | apply IsS97.drew | apply IsS97.set_1 | refine IsS97.far ?_ q7.out _ | refine IsS97.far ?_ q8.out _) | exact HI0.out)) (r4 h0_) (by decide)) hk (fun _ h => h.2)) (fun _ h => h.1)) (fun _ h_ => by first | trivial | exact h_ | exact h_.1))
     have q5 := fun (h0_ : b 19 = true) => (show Kd.R k34 34 w25 w.heap.size (fun k_ => k_ ≠ p3) q4 p0 from by exact Kd.R_mono (Kd.R_mono (Kd.R_keep (IsS97.apart (show IsS97 w0 _ g s0_0 t119 from by repeat (first | (with_reducible first | exact HI0.out | apply IsS97.alloc | apply IsS97.drewN | apply IsS97.drew | apply IsS97.set_1 | refine IsS97.far ?_ q7.out _ | refine IsS97.far ?_ q8.out _) | exact HI0.out)) (p1 h0_) (by decide)) hk (fun _ h => h.2)) (fun _ h => h.1)) (fun _ h_ => by first | trivial | exact h_ | exact h_.1))
     have t3 := fun (h0_ : b 19 = true) (h1_ : b 20 = false) => (show w25.heap[p3]? = some (.cells #[.int .i64 0, .int .i64 0, .int .i64 0, .int .i64 0, .int .i64 0] 34 (0, 0)) from by first | exact (KeepBut.blk hk (g' := p3) (o := .cells #[.int .i64 0, .int .i64 0, .int .i64 0, .int .i64 0, .int .i64 0] 34 (0, 0)) (s1 h0_ h1_) (q3 h0_) (by simp)))
     clear p5
     clear p4
     clear HK
     clear HB
     clear HI0
     have p5 := n1_
     have p4 := n2_
     have HK := n3_
     have HB := n4_
     have HI0 := n5_
     clear n1_ n2_ n3_ n4_ n5_
     (try clear hb)
     (try clear hb2)
     (try clear hk)
     (try clear hi)
     refine hK.out _ _ ⟨v123, v128, p3, m19_, (by rw [ha.out]; exact putSel_upk 4 hb_ rfl rfl rfl), r6, p5.out, p4.out, fun h0_ => absurd ((hon 3 (by kernel_rfl)).symm.trans h0_) (by decide), HK.out, HB.out, fun _ h1_ => absurd ((hon 7 (by kernel_rfl)).symm.trans h1_) (by decide), fun _ h1_ => absurd ((up_self b 10).symm.trans h1_) (by decide), fun _ _ => HI0.out, fun h0_ => absurd ((hoff 11 (by kernel_rfl)).symm.trans h0_) (by decide), fun h0_ _ => absurd ((hoff 12 (by kernel_rfl)).symm.trans h0_) (by decide), t7, fun h0_ _ => absurd ((hoff 15 (by kernel_rfl)).symm.trans h0_) (by decide), fun h0_ => absurd ((hoff 17 (by kernel_rfl)).symm.trans h0_) (by decide), q5, t3, r8, r9, q6, q3, p9, q0, q1, q2, fun h0_ => absurd ((hoff 20 (by kernel_rfl)).symm.trans h0_) (by decide), s9⟩
    refine steps_cons ?_ ?_
    ·rintro b a w' ⟨v123, v128, p3, m19_, ha, p7, q9, r0, t6, Q_HK, Q_HB, s8, t2, s2, s3, s4, r4, s5, r7, p1, s1, r8, r9, q6, q3, p9, q0, q1, q2, r5, s9⟩ hb_ hon hoff
     refine ⟨_, rfl, fun K hK => ?_⟩
     have e26 : a.tmps[26]? = some (.int .i64 t120) := by rw [ha]; exact putSel_on (e := (10, 26, .int .i64 t120)) 4 rfl rfl (hon 10 (by kernel_rfl)) rfl
     replace ha := Aside0.mk ha
     have p5 := Aside0.mk q9
     have p4 := Aside0.mk r0
     have HK := Aside0.mk Q_HK
     have HB := Aside0.mk Q_HB
     have HI0 := Aside0.mk (s2 (hon 10 (by kernel_rfl)) (hoff 12 (by kernel_rfl)))
     refine Kd.R_lit_step (Kd.int .i64) _ 3 ?hg (N := 27) ?hd (xs := ([0, 1, 2, 5, 9, t120] : List Int)) (inner := [.int .i64 0, .int .i64 1, .int .i64 2, .int .i64 5, .int .i64 9, .int .i64 t120]) (ok := fun _ => True) (okp := fun _ => True) ?hr ?hp (fun _ hk => hk) trivial (Below.refl _ _) (Nat.le_refl _) (by simp) ?_; (case hd => rfl); (case hg => rfl); (case hr => first | (go_simp; done) | (go_simp; rfl)); (case hp => exact (Reps.one (show Kd.M (Kd.int .i64) _ _ _ 0 [.int .i64 0] from rfl) (Reps.one (show Kd.M (Kd.int .i64) _ _ _ 1 [.int .i64 1] from rfl) (Reps.one (show Kd.M (Kd.int .i64) _ _ _ 2 [.int .i64 2] from rfl) (Reps.one (show Kd.M (Kd.int .i64) _ _ _ 5 [.int .i64 5] from rfl) (Reps.one (show Kd.M (Kd.int .i64) _ _ _ 9 [.int .i64 9] from rfl) (Reps.one (show Kd.M (Kd.int .i64) _ _ _ t120 [.int .i64 t120] from rfl) (Reps.none _ _))))))))
     intro v123 w26 ho27 hb hg_ hnew_
     clear hg_ hnew_
     (first | rw [← Ny122.out] at ho27 | (simp only [Int.reduceToNat] at ho27; rw [← Ny122.out] at ho27))
     have n1_ := Aside0.mk (Kd.R_lower ho27 (keep_size (w := w) (g := g) (row := none) HK.out))
     have n2_ := Aside0.mk (blk_below (g := t0) (o := .cells #[.int .i64 0, .slice none 0 0] 25 (0, 0)) p5.out hb)
     have n3_ := Aside0.mk (blk_below (g := s0) (o := .cells #[.int .i64 (wrap64 (2 + t111)), q4] 25 (0, 0)) p4.out hb)
     have n4_ := Aside0.mk (IsS97.below HI0.out hb)
     have n5_ := Aside0.mk (KeepBut.trans HK.out (KeepBut.of_below hb g none) (.inl rfl))
     have n6_ := Aside0.mk (below_step HB.out hb)
     have r6 := fun (h0_ : b 19 = false) => (show Kd.R k34 34 w26 w.heap.size (fun _ => True) q4 p0 from by first | exact (Kd.R_below (p7 h0_) hb) | exact Kd.R_mono (Kd.R_below (p7 h0_) hb) (fun _ h_ => by first | trivial | exact h_ | exact h_.1))
     have t7 := fun (h0_ : b 14 = true) => (show Kd.R (Kd.int .i64) 3 w26 w.heap.size (fun _ => True) v128 y127 from by first | exact (Kd.R_elder' (r4 h0_) (Kd.R_base ho27) hb) | exact Kd.R_mono (Kd.R_elder' (r4 h0_) (Kd.R_base ho27) hb) (fun _ h_ => by first | trivial | exact h_ | exact h_.1))
     have q5 := fun (h0_ : b 19 = true) => (show Kd.R k34 34 w26 w.heap.size (fun k_ => k_ ≠ p3) q4 p0 from by first | exact (Kd.R_below (p1 h0_) hb) | exact Kd.R_mono (Kd.R_below (p1 h0_) hb) (fun _ h_ => by first | trivial | exact h_ | exact h_.1))
     have t3 := fun (h0_ : b 19 = true) (h1_ : b 20 = false) => (show w26.heap[p3]? = some (.cells #[.int .i64 0, .int .i64 0, .int .i64 0, .int .i64 0, .int .i64 0] 34 (0, 0)) from by first | exact (blk_below (g := p3) (o := .cells #[.int .i64 0, .int .i64 0, .int .i64 0, .int .i64 0, .int .i64 0] 34 (0, 0)) (s1 h0_ h1_) hb))
     clear p5
     clear p4
     clear HI0
     clear HK
     clear HB
     have HO124 := n1_
     have p5 := n2_
     have p4 := n3_
     have HI0 := n4_
     have HK := n5_
     have HB := n6_
     clear n1_ n2_ n3_ n4_ n5_ n6_
     clear hb ho27
     refine hK.out _ _ ⟨v123, v128, p3, m19_, (by rw [ha.out]; exact putSel_upk 5 hb_ rfl rfl rfl), r6, p5.out, p4.out, fun h0_ => absurd ((hon 3 (by kernel_rfl)).symm.trans h0_) (by decide), HK.out, HB.out, fun _ h1_ => absurd ((hon 7 (by kernel_rfl)).symm.trans h1_) (by decide), fun _ h1_ => absurd ((hon 10 (by kernel_rfl)).symm.trans h1_) (by decide), fun _ _ => HI0.out, fun _ => HO124.out, fun h0_ _ => absurd ((hoff 12 (by kernel_rfl)).symm.trans h0_) (by decide), t7, fun h0_ _ => absurd ((hoff 15 (by kernel_rfl)).symm.trans h0_) (by decide), fun h0_ => absurd ((hoff 17 (by kernel_rfl)).symm.trans h0_) (by decide), q5, t3, r8, r9, q6, q3, p9, q0, q1, q2, fun h0_ => absurd ((hoff 20 (by kernel_rfl)).symm.trans h0_) (by decide), s9⟩
    refine steps_cons ?_ ?_
    ·rintro b a w' ⟨v123, v128, p3, m19_, ha, p7, q9, r0, t6, Q_HK, Q_HB, s8, t2, s2, s3, s4, r4, s5, r7, p1, s1, r8, r9, q6, q3, p9, q0, q1, q2, r5, s9⟩ hb_ hon hoff
     refine ⟨_, rfl, fun K hK => ?_⟩
     have e24 : a.tmps[24]? = some (.pointer (some ⟨g, 0, none⟩)) := by rw [ha]; exact (putSel_off rfl).trans rfl
     have e27 : a.tmps[27]? = some (v123) := by rw [ha]; exact putSel_on (e := (11, 27, v123)) 5 rfl rfl (hon 11 (by kernel_rfl)) rfl
     replace ha := Aside0.mk ha
     have p5 := Aside0.mk q9
     have p4 := Aside0.mk r0
     have HK := Aside0.mk Q_HK
     have HB := Aside0.mk Q_HB
     have HI0 := Aside0.mk (s2 (hon 10 (by kernel_rfl)) hb_)
     have HO124 := Aside0.mk (s3 (hon 11 (by kernel_rfl)))
     obtain ⟨Ao28, co28, eo28⟩ := Kd.R_slice HO124.out
     (first | subst eo28 | (injection eo28 with f1_ f2_ f3_; have f4_ := f1_.symm; have f5_ := f3_.symm; clear f1_ f2_ f3_; subst f4_; subst f5_))
     refine goes_ Try.func90 (by kernel_rfl) rfl #[.pointer (some ⟨g, 0, none⟩), .slice Ao28 y122.length co28] (by rfl) rfl rfl (by first | (simp only [List.map_toArray, List.map_cons, List.map_nil, Act.eval, Array.getD_eq_getD_getElem?, Option.getD_some, e24, e27]; done) | (simp only [List.map_toArray, List.map_cons, List.map_nil, Act.eval, Array.getD_eq_getD_getElem?, Option.getD_some, e24, e27]; rfl)) ?_
     with_reducible refine (spec_l30Rd_one.calls k1 g s0_0 t121 _ _ y122 t125 t126 w0 _ ?side1 ?side2 ?side3 ?side4 ?side5 A15.out).mono ?_
     (case side1 => exact HI0.out)
     (case side2 => exact HB.out)
     (case side3 => repeat (first | exact (Kd.R_reads' HO124.out).2.2 | (with_reducible refine Kd.C_alloc ?_ _) | (with_reducible refine Kd.C_drewN ?_ _) | (with_reducible refine Kd.C_drew ?_)))
     (case side4 => exact (Kd.R_reads' HO124.out).2.1)
     (case side5 => exact far_slice (IsS97.own_ne HI0.out HO124.out (by decide)))
     rintro e w29 ⟨rfl, hi, hb, hk⟩
     refine ⟨_, rfl, ?_⟩
     have n1_ := Aside0.mk (KeepBut.blk hk (g' := t0) (o := .cells #[.int .i64 0, .slice none 0 0] 25 (0, 0)) p5.out u1.out (by simp))
     have n2_ := Aside0.mk (KeepBut.blk hk (g' := s0) (o := .cells #[.int .i64 (wrap64 (2 + t111)), q4] 25 (0, 0)) p4.out t9.out (by simp))
     have n3_ := Aside0.mk (Kd.R_mono (Kd.R_keep (IsS97.apart (show IsS97 w0 _ g s0_0 t121 from by repeat (first | (with_reducible first | exact HI0.out | apply IsS97.alloc | apply IsS97.drewN | apply IsS97.drew | apply IsS97.set_1 | refine IsS97.far ?_ q7.out _ | refine IsS97.far ?_ q8.out _) | exact HI0.out)) HO124.out (by decide)) hk (fun _ h => h.2)) (fun _ h => h.1))
     have n4_ := Aside0.mk (KeepBut.trans HK.out hk (.inl rfl))
     have n5_ := Aside0.mk (hb)
     have n6_ := Aside0.mk (hi)
     have r6 := fun (h0_ : b 19 = false) => (show Kd.R k34 34 w29 w.heap.size (fun _ => True) q4 p0 from by exact Kd.R_mono (Kd.R_mono (Kd.R_keep (IsS97.apart (show IsS97 w0 _ g s0_0 t121 from by repeat (first | (with_reducible first | exact HI0.out | apply IsS97.alloc | apply IsS97.drewN | apply IsS97.drew | apply IsS97.set_1 | refine IsS97.far ?_ q7.out _ | refine IsS97.far ?_ q8.out _) | exact HI0.out)) (p7 h0_) (by decide)) hk (fun _ h => h.2)) (fun _ h => h.1)) (fun _ h_ => by first | trivial | exact h_ | exact h_.1))
     have t7 := fun (h0_ : b 14 = true) => (show Kd.R (Kd.int .i64) 3 w29 w.heap.size (fun _ => True) v128 y127 from by exact Kd.R_mono (Kd.R_mono (Kd.R_keep (IsS97.apart (show IsS97 w0 _ g s0_0 t121 from by repeat (first | (with_reducible first | exact HI0.out | apply IsS97.alloc | apply IsS97.drewN | apply IsS97.drew | apply IsS97.set_1 | refine IsS97.far ?_ q7.out _ | refine IsS97.far ?_ q8.out _) | exact HI0.out)) (r4 h0_) (by decide)) hk (fun _ h => h.2)) (fun _ h => h.1)) (fun _ h_ => by first | trivial | exact h_ | exact h_.1))
     have q5 := fun (h0_ : b 19 = true) => (show Kd.R k34 34 w29 w.heap.size (fun k_ => k_ ≠ p3) q4 p0 from by exact Kd.R_mono (Kd.R_mono (Kd.R_keep (IsS97.apart (show IsS97 w0 _ g s0_0 t121 from by repeat (first | (with_reducible first | exact HI0.out | apply IsS97.alloc | apply IsS97.drewN | apply IsS97.drew | apply IsS97.set_1 | refine IsS97.far ?_ q7.out _ | refine IsS97.far ?_ q8.out _) | exact HI0.out)) (p1 h0_) (by decide)) hk (fun _ h => h.2)) (fun _ h => h.1)) (fun _ h_ => by first | trivial | exact h_ | exact h_.1))
     have t3 := fun (h0_ : b 19 = true) (h1_ : b 20 = false) => (show w29.heap[p3]? = some (.cells #[.int .i64 0, .int .i64 0, .int .i64 0, .int .i64 0, .int .i64 0] 34 (0, 0)) from by first | exact (KeepBut.blk hk (g' := p3) (o := .cells #[.int .i64 0, .int .i64 0, .int .i64 0, .int .i64 0, .int .i64 0] 34 (0, 0)) (s1 h0_ h1_) (q3 h0_) (by simp)))
     clear p5
     clear p4
     clear HO124
     clear HK
     clear HB
     clear HI0
     have p5 := n1_
     have p4 := n2_
     have HO124 := n3_
     have HK := n4_
     have HB := n5_
     have HI0 := n6_
     clear n1_ n2_ n3_ n4_ n5_ n6_
     (try clear hb)
     (try clear hb2)
     (try clear hk)
     (try clear hi)
     refine hK.out _ _ ⟨.slice Ao28 y122.length co28, v128, p3, m19_, (by rw [ha.out]; exact putSel_upk 6 hb_ rfl rfl rfl), r6, p5.out, p4.out, fun h0_ => absurd ((hon 3 (by kernel_rfl)).symm.trans h0_) (by decide), HK.out, HB.out, fun _ h1_ => absurd ((hon 7 (by kernel_rfl)).symm.trans h1_) (by decide), fun _ h1_ => absurd ((hon 10 (by kernel_rfl)).symm.trans h1_) (by decide), fun _ h1_ => absurd ((up_self b 12).symm.trans h1_) (by decide), fun _ => HO124.out, fun _ _ => HI0.out, t7, fun h0_ _ => absurd ((hoff 15 (by kernel_rfl)).symm.trans h0_) (by decide), fun h0_ => absurd ((hoff 17 (by kernel_rfl)).symm.trans h0_) (by decide), q5, t3, r8, r9, q6, q3, p9, q0, q1, q2, fun h0_ => absurd ((hoff 20 (by kernel_rfl)).symm.trans h0_) (by decide), s9⟩
    refine steps_cons ?_ ?_
    ·rintro b a w' ⟨v123, v128, p3, m19_, ha, p7, q9, r0, t6, Q_HK, Q_HB, s8, t2, s2, s3, s4, r4, s5, r7, p1, s1, r8, r9, q6, q3, p9, q0, q1, q2, r5, s9⟩ hb_ hon hoff
     refine ⟨_, rfl, fun K hK => ?_⟩
     replace ha := Aside0.mk ha
     have p5 := Aside0.mk q9
     have p4 := Aside0.mk r0
     have HK := Aside0.mk Q_HK
     have HB := Aside0.mk Q_HB
     refine Kd.R_lit_step (Kd.int .i64) _ 3 ?hg (N := 30) ?hd (xs := ([0, 0, 3, 8] : List Int)) (inner := [.int .i64 0, .int .i64 0, .int .i64 3, .int .i64 8]) (ok := fun _ => True) (okp := fun _ => True) ?hr ?hp (fun _ hk => hk) trivial (Below.refl _ _) (Nat.le_refl _) (by simp) ?_; (case hd => rfl); (case hg => rfl); (case hr => first | (go_simp; done) | (go_simp; rfl)); (case hp => exact (Reps.one (show Kd.M (Kd.int .i64) _ _ _ 0 [.int .i64 0] from rfl) (Reps.one (show Kd.M (Kd.int .i64) _ _ _ 0 [.int .i64 0] from rfl) (Reps.one (show Kd.M (Kd.int .i64) _ _ _ 3 [.int .i64 3] from rfl) (Reps.one (show Kd.M (Kd.int .i64) _ _ _ 8 [.int .i64 8] from rfl) (Reps.none _ _))))))
     intro v128 w22 ho23 hb hg_ hnew_
     clear hg_ hnew_
     (first | rw [← Ny127.out] at ho23 | (simp only [Int.reduceToNat] at ho23; rw [← Ny127.out] at ho23))
     have n1_ := Aside0.mk (Kd.R_lower ho23 (keep_size (w := w) (g := g) (row := none) HK.out))
     have n2_ := Aside0.mk (blk_below (g := t0) (o := .cells #[.int .i64 0, .slice none 0 0] 25 (0, 0)) p5.out hb)
     have n3_ := Aside0.mk (blk_below (g := s0) (o := .cells #[.int .i64 (wrap64 (2 + t111)), q4] 25 (0, 0)) p4.out hb)
     have n5_ := Aside0.mk (KeepBut.trans HK.out (KeepBut.of_below hb g none) (.inl rfl))
     have n6_ := Aside0.mk (below_step HB.out hb)
     have r6 := fun (h0_ : b 19 = false) => (show Kd.R k34 34 w22 w.heap.size (fun _ => True) q4 p0 from by first | exact (Kd.R_below (p7 h0_) hb) | exact Kd.R_mono (Kd.R_below (p7 h0_) hb) (fun _ h_ => by first | trivial | exact h_ | exact h_.1))
     have y7 := fun (h0_ : b 3 = false) => (show IsS97 w0 w22 g s0_0 u0 from by first | exact (IsS97.below (t6 h0_) hb))
     have v7 := fun (h0_ : b 3 = true) (h1_ : b 7 = false) => (show IsS97 w0 w22 g s0_0 t117 from by first | exact (IsS97.below (s8 h0_ h1_) hb))
     have v8 := fun (h0_ : b 7 = true) (h1_ : b 10 = false) => (show IsS97 w0 w22 g s0_0 t119 from by first | exact (IsS97.below (t2 h0_ h1_) hb))
     have u8 := fun (h0_ : b 10 = true) (h1_ : b 12 = false) => (show IsS97 w0 w22 g s0_0 t121 from by first | exact (IsS97.below (s2 h0_ h1_) hb))
     have v9 := fun (h0_ : b 11 = true) => (show Kd.R (Kd.int .i64) 3 w22 w.heap.size (fun _ => True) v123 y122 from by first | exact (Kd.R_elder' (s3 h0_) (Kd.R_base ho23) hb) | exact Kd.R_mono (Kd.R_elder' (s3 h0_) (Kd.R_base ho23) hb) (fun _ h_ => by first | trivial | exact h_ | exact h_.1))
     have u9 := fun (h0_ : b 12 = true) (h1_ : b 15 = false) => (show IsS97 w0 w22 g s0_0 t126 from by first | exact (IsS97.below (s4 h0_ h1_) hb))
     have q5 := fun (h0_ : b 19 = true) => (show Kd.R k34 34 w22 w.heap.size (fun k_ => k_ ≠ p3) q4 p0 from by first | exact (Kd.R_below (p1 h0_) hb) | exact Kd.R_mono (Kd.R_below (p1 h0_) hb) (fun _ h_ => by first | trivial | exact h_ | exact h_.1))
     have t3 := fun (h0_ : b 19 = true) (h1_ : b 20 = false) => (show w22.heap[p3]? = some (.cells #[.int .i64 0, .int .i64 0, .int .i64 0, .int .i64 0, .int .i64 0] 34 (0, 0)) from by first | exact (blk_below (g := p3) (o := .cells #[.int .i64 0, .int .i64 0, .int .i64 0, .int .i64 0, .int .i64 0] 34 (0, 0)) (s1 h0_ h1_) hb))
     clear p5
     clear p4
     clear HK
     clear HB
     have HO129 := n1_
     have p5 := n2_
     have p4 := n3_
     have HK := n5_
     have HB := n6_
     clear n1_ n2_ n3_ n5_ n6_
     clear hb ho23
     refine hK.out _ _ ⟨v123, v128, p3, m19_, (by rw [ha.out]; exact putSel_upk 7 hb_ rfl rfl rfl), r6, p5.out, p4.out, y7, HK.out, HB.out, v7, v8, u8, v9, u9, fun _ => HO129.out, fun h0_ _ => absurd ((hoff 15 (by kernel_rfl)).symm.trans h0_) (by decide), fun h0_ => absurd ((hoff 17 (by kernel_rfl)).symm.trans h0_) (by decide), q5, t3, r8, r9, q6, q3, p9, q0, q1, q2, fun h0_ => absurd ((hoff 20 (by kernel_rfl)).symm.trans h0_) (by decide), s9⟩
    refine steps_cons ?_ ?_
    ·rintro b a w' ⟨v123, v128, p3, m19_, ha, p7, q9, r0, t6, Q_HK, Q_HB, s8, t2, s2, s3, s4, r4, s5, r7, p1, s1, r8, r9, q6, q3, p9, q0, q1, q2, r5, s9⟩ hb_ hon hoff
     refine ⟨_, rfl, fun K hK => ?_⟩
     have e29 : a.tmps[29]? = some (.pointer (some ⟨g, 0, none⟩)) := by rw [ha]; exact (putSel_off rfl).trans rfl
     have e30 : a.tmps[30]? = some (v128) := by rw [ha]; exact putSel_on (e := (14, 30, v128)) 7 rfl rfl (hon 14 (by kernel_rfl)) rfl
     replace ha := Aside0.mk ha
     have p5 := Aside0.mk q9
     have p4 := Aside0.mk r0
     have HK := Aside0.mk Q_HK
     have HB := Aside0.mk Q_HB
     have HO124 := Aside0.mk (s3 (hon 11 (by kernel_rfl)))
     have HI0 := Aside0.mk (s4 (hon 12 (by kernel_rfl)) hb_)
     have HO129 := Aside0.mk (r4 (hon 14 (by kernel_rfl)))
     obtain ⟨Ao32, co32, eo32⟩ := Kd.R_slice HO129.out
     (first | subst eo32 | (injection eo32 with f1_ f2_ f3_; have f4_ := f1_.symm; have f5_ := f3_.symm; clear f1_ f2_ f3_; subst f4_; subst f5_))
     refine goes_ Try.func90 (by kernel_rfl) rfl #[.pointer (some ⟨g, 0, none⟩), .slice Ao32 y127.length co32] (by rfl) rfl rfl (by first | (simp only [List.map_toArray, List.map_cons, List.map_nil, Act.eval, Array.getD_eq_getD_getElem?, Option.getD_some, e29, e30]; done) | (simp only [List.map_toArray, List.map_cons, List.map_nil, Act.eval, Array.getD_eq_getD_getElem?, Option.getD_some, e29, e30]; rfl)) ?_
     with_reducible refine (spec_l30Rd_one.calls k1 g s0_0 t126 _ _ y127 t130 t131 w0 _ ?side1 ?side2 ?side3 ?side4 ?side5 A16.out).mono ?_
     (case side1 => exact HI0.out)
     (case side2 => exact HB.out)
     (case side3 => repeat (first | exact (Kd.R_reads' HO129.out).2.2 | (with_reducible refine Kd.C_alloc ?_ _) | (with_reducible refine Kd.C_drewN ?_ _) | (with_reducible refine Kd.C_drew ?_)))
     (case side4 => exact (Kd.R_reads' HO129.out).2.1)
     (case side5 => exact far_slice (IsS97.own_ne HI0.out HO129.out (by decide)))
     rintro e w33 ⟨rfl, hi, hb, hk⟩
     refine ⟨_, rfl, ?_⟩
     have n1_ := Aside0.mk (KeepBut.blk hk (g' := t0) (o := .cells #[.int .i64 0, .slice none 0 0] 25 (0, 0)) p5.out u1.out (by simp))
     have n2_ := Aside0.mk (KeepBut.blk hk (g' := s0) (o := .cells #[.int .i64 (wrap64 (2 + t111)), q4] 25 (0, 0)) p4.out t9.out (by simp))
     have n3_ := Aside0.mk (Kd.R_mono (Kd.R_keep (IsS97.apart (show IsS97 w0 _ g s0_0 t126 from by repeat (first | (with_reducible first | exact HI0.out | apply IsS97.alloc | apply IsS97.drewN | apply IsS97.drew | apply IsS97.set_1 | refine IsS97.far ?_ q7.out _ | refine IsS97.far ?_ q8.out _) | exact HI0.out)) HO124.out (by decide)) hk (fun _ h => h.2)) (fun _ h => h.1))
     have n4_ := Aside0.mk (Kd.R_mono (Kd.R_keep (IsS97.apart (show IsS97 w0 _ g s0_0 t126 from by repeat (first | (with_reducible first | exact HI0.out | apply IsS97.alloc | apply IsS97.drewN | apply IsS97.drew | apply IsS97.set_1 | refine IsS97.far ?_ q7.out _ | refine IsS97.far ?_ q8.out _) | exact HI0.out)) HO129.out (by decide)) hk (fun _ h => h.2)) (fun _ h => h.1))
     have n5_ := Aside0.mk (KeepBut.trans HK.out hk (.inl rfl))
     have n6_ := Aside0.mk (hb)
     have n7_ := Aside0.mk (hi)
     have r6 := fun (h0_ : b 19 = false) => (show Kd.R k34 34 w33 w.heap.size (fun _ => True) q4 p0 from by exact Kd.R_mono (Kd.R_mono (Kd.R_keep (IsS97.apart (show IsS97 w0 _ g s0_0 t126 from by repeat (first | (with_reducible first | exact HI0.out | apply IsS97.alloc | apply IsS97.drewN | apply IsS97.drew | apply IsS97.set_1 | refine IsS97.far ?_ q7.out _ | refine IsS97.far ?_ q8.out _) | exact HI0.out)) (p7 h0_) (by decide)) hk (fun _ h => h.2)) (fun _ h => h.1)) (fun _ h_ => by first | trivial | exact h_ | exact h_.1))
     have q5 := fun (h0_ : b 19 = true) => (show Kd.R k34 34 w33 w.heap.size (fun k_ => k_ ≠ p3) q4 p0 from by exact Kd.R_mono (Kd.R_mono (Kd.R_keep (IsS97.apart (show IsS97 w0 _ g s0_0 t126 from by repeat (first | (with_reducible first | exact HI0.out | apply IsS97.alloc | apply IsS97.drewN | apply IsS97.drew | apply IsS97.set_1 | refine IsS97.far ?_ q7.out _ | refine IsS97.far ?_ q8.out _) | exact HI0.out)) (p1 h0_) (by decide)) hk (fun _ h => h.2)) (fun _ h => h.1)) (fun _ h_ => by first | trivial | exact h_ | exact h_.1))
     have t3 := fun (h0_ : b 19 = true) (h1_ : b 20 = false) => (show w33.heap[p3]? = some (.cells #[.int .i64 0, .int .i64 0, .int .i64 0, .int .i64 0, .int .i64 0] 34 (0, 0)) from by first | exact (KeepBut.blk hk (g' := p3) (o := .cells #[.int .i64 0, .int .i64 0, .int .i64 0, .int .i64 0, .int .i64 0] 34 (0, 0)) (s1 h0_ h1_) (q3 h0_) (by simp)))
     clear p5
     clear p4
     clear HO124
     clear HO129
     clear HK
     clear HB
     clear HI0
     have p5 := n1_
     have p4 := n2_
     have HO124 := n3_
     have HO129 := n4_
     have HK := n5_
     have HB := n6_
     have HI0 := n7_
     clear n1_ n2_ n3_ n4_ n5_ n6_ n7_
     (try clear hb)
     (try clear hb2)
     (try clear hk)
     (try clear hi)
     refine hK.out _ _ ⟨v123, .slice Ao32 y127.length co32, p3, m19_, (by rw [ha.out]; exact putSel_upk 8 hb_ rfl rfl rfl), r6, p5.out, p4.out, fun h0_ => absurd ((hon 3 (by kernel_rfl)).symm.trans h0_) (by decide), HK.out, HB.out, fun _ h1_ => absurd ((hon 7 (by kernel_rfl)).symm.trans h1_) (by decide), fun _ h1_ => absurd ((hon 10 (by kernel_rfl)).symm.trans h1_) (by decide), fun _ h1_ => absurd ((hon 12 (by kernel_rfl)).symm.trans h1_) (by decide), fun _ => HO124.out, fun _ h1_ => absurd ((up_self b 15).symm.trans h1_) (by decide), fun _ => HO129.out, fun _ _ => HI0.out, fun h0_ => absurd ((hoff 17 (by kernel_rfl)).symm.trans h0_) (by decide), q5, t3, r8, r9, q6, q3, p9, q0, q1, q2, fun h0_ => absurd ((hoff 20 (by kernel_rfl)).symm.trans h0_) (by decide), s9⟩
    refine steps_cons ?_ ?_
    ·rintro b a w' ⟨v123, v128, p3, m19_, ha, p7, q9, r0, t6, Q_HK, Q_HB, s8, t2, s2, s3, s4, r4, s5, r7, p1, s1, r8, r9, q6, q3, p9, q0, q1, q2, r5, s9⟩ hb_ hon hoff
     refine ⟨_, rfl, fun K hK => ?_⟩
     have e32 : a.tmps[32]? = some (.pointer (some ⟨g, 0, none⟩)) := by rw [ha]; exact (putSel_off rfl).trans rfl
     replace ha := Aside0.mk ha
     have p5 := Aside0.mk q9
     have p4 := Aside0.mk r0
     have HK := Aside0.mk Q_HK
     have HB := Aside0.mk Q_HB
     have HO124 := Aside0.mk (s3 (hon 11 (by kernel_rfl)))
     have HO129 := Aside0.mk (r4 (hon 14 (by kernel_rfl)))
     have HI0 := Aside0.mk (s5 (hon 15 (by kernel_rfl)) hb_)
     refine goes_ Try.func89 (by kernel_rfl) rfl #[.pointer (some ⟨g, 0, none⟩), .int .i64 10] (by rfl) rfl rfl (by first | (simp only [List.map_toArray, List.map_cons, List.map_nil, Act.eval, Array.getD_eq_getD_getElem?, Option.getD_some, e32]; done) | (simp only [List.map_toArray, List.map_cons, List.map_nil, Act.eval, Array.getD_eq_getD_getElem?, Option.getD_some, e32]; rfl)) ?_
     with_reducible refine (spec_l30Rd_pick.calls k1 g s0_0 t131 10 t132 t133 w0 _ ?side1 ?side2 A17.out).mono ?_
     (case side1 => exact HI0.out)
     (case side2 => exact HB.out)
     rintro e w34 ⟨rfl, hi, hb, hk⟩
     refine ⟨_, rfl, ?_⟩
     have n1_ := Aside0.mk (KeepBut.blk hk (g' := t0) (o := .cells #[.int .i64 0, .slice none 0 0] 25 (0, 0)) p5.out u1.out (by simp))
     have n2_ := Aside0.mk (KeepBut.blk hk (g' := s0) (o := .cells #[.int .i64 (wrap64 (2 + t111)), q4] 25 (0, 0)) p4.out t9.out (by simp))
     have n3_ := Aside0.mk (Kd.R_mono (Kd.R_keep (IsS97.apart (show IsS97 w0 _ g s0_0 t131 from by repeat (first | (with_reducible first | exact HI0.out | apply IsS97.alloc | apply IsS97.drewN | apply IsS97.drew | apply IsS97.set_1 | refine IsS97.far ?_ q7.out _ | refine IsS97.far ?_ q8.out _) | exact HI0.out)) HO124.out (by decide)) hk (fun _ h => h.2)) (fun _ h => h.1))
     have n4_ := Aside0.mk (Kd.R_mono (Kd.R_keep (IsS97.apart (show IsS97 w0 _ g s0_0 t131 from by repeat (first | (with_reducible first | exact HI0.out | apply IsS97.alloc | apply IsS97.drewN | apply IsS97.drew | apply IsS97.set_1 | refine IsS97.far ?_ q7.out _ | refine IsS97.far ?_ q8.out _) | exact HI0.out)) HO129.out (by decide)) hk (fun _ h => h.2)) (fun _ h => h.1))
     have n5_ := Aside0.mk (KeepBut.trans HK.out hk (.inl rfl))
     have n6_ := Aside0.mk (hb)
     have n7_ := Aside0.mk (hi)
     have r6 := fun (h0_ : b 19 = false) => (show Kd.R k34 34 w34 w.heap.size (fun _ => True) q4 p0 from by exact Kd.R_mono (Kd.R_mono (Kd.R_keep (IsS97.apart (show IsS97 w0 _ g s0_0 t131 from by repeat (first | (with_reducible first | exact HI0.out | apply IsS97.alloc | apply IsS97.drewN | apply IsS97.drew | apply IsS97.set_1 | refine IsS97.far ?_ q7.out _ | refine IsS97.far ?_ q8.out _) | exact HI0.out)) (p7 h0_) (by decide)) hk (fun _ h => h.2)) (fun _ h => h.1)) (fun _ h_ => by first | trivial | exact h_ | exact h_.1))
     have q5 := fun (h0_ : b 19 = true) => (show Kd.R k34 34 w34 w.heap.size (fun k_ => k_ ≠ p3) q4 p0 from by exact Kd.R_mono (Kd.R_mono (Kd.R_keep (IsS97.apart (show IsS97 w0 _ g s0_0 t131 from by repeat (first | (with_reducible first | exact HI0.out | apply IsS97.alloc | apply IsS97.drewN | apply IsS97.drew | apply IsS97.set_1 | refine IsS97.far ?_ q7.out _ | refine IsS97.far ?_ q8.out _) | exact HI0.out)) (p1 h0_) (by decide)) hk (fun _ h => h.2)) (fun _ h => h.1)) (fun _ h_ => by first | trivial | exact h_ | exact h_.1))
     have t3 := fun (h0_ : b 19 = true) (h1_ : b 20 = false) => (show w34.heap[p3]? = some (.cells #[.int .i64 0, .int .i64 0, .int .i64 0, .int .i64 0, .int .i64 0] 34 (0, 0)) from by first | exact (KeepBut.blk hk (g' := p3) (o := .cells #[.int .i64 0, .int .i64 0, .int .i64 0, .int .i64 0, .int .i64 0] 34 (0, 0)) (s1 h0_ h1_) (q3 h0_) (by simp)))
     clear p5
     clear p4
     clear HO124
     clear HO129
     clear HK
     clear HB
     clear HI0
     have p5 := n1_
     have p4 := n2_
     have HO124 := n3_
     have HO129 := n4_
     have HK := n5_
     have HB := n6_
     have HI0 := n7_
     clear n1_ n2_ n3_ n4_ n5_ n6_ n7_
     (try clear hb)
     (try clear hb2)
     (try clear hk)
     (try clear hi)
     refine hK.out _ _ ⟨v123, v128, p3, m19_, (by rw [ha.out]; exact putSel_upk 9 hb_ rfl rfl rfl), r6, p5.out, p4.out, fun h0_ => absurd ((hon 3 (by kernel_rfl)).symm.trans h0_) (by decide), HK.out, HB.out, fun _ h1_ => absurd ((hon 7 (by kernel_rfl)).symm.trans h1_) (by decide), fun _ h1_ => absurd ((hon 10 (by kernel_rfl)).symm.trans h1_) (by decide), fun _ h1_ => absurd ((hon 12 (by kernel_rfl)).symm.trans h1_) (by decide), fun _ => HO124.out, fun _ h1_ => absurd ((hon 15 (by kernel_rfl)).symm.trans h1_) (by decide), fun _ => HO129.out, fun _ h1_ => absurd ((up_self b 17).symm.trans h1_) (by decide), fun _ => HI0.out, q5, t3, r8, r9, q6, q3, p9, q0, q1, q2, fun h0_ => absurd ((hoff 20 (by kernel_rfl)).symm.trans h0_) (by decide), s9⟩
    refine steps_cons ?_ ?_
    ·rintro b a w' ⟨v123, v128, p3, m19_, ha, p7, q9, r0, t6, Q_HK, Q_HB, s8, t2, s2, s3, s4, r4, s5, r7, p1, s1, r8, r9, q6, q3, p9, q0, q1, q2, r5, s9⟩ hb_ hon hoff
     refine ⟨_, rfl, fun K hK => ?_⟩
     have e19 : a.tmps[19]? = some (.int .i64 t116) := by rw [ha]; exact putSel_on (e := (3, 19, .int .i64 t116)) 1 rfl rfl (hon 3 (by kernel_rfl)) rfl
     have e23 : a.tmps[23]? = some (.int .i64 t118) := by rw [ha]; exact putSel_on (e := (7, 23, .int .i64 t118)) 3 rfl rfl (hon 7 (by kernel_rfl)) rfl
     have e28 : a.tmps[28]? = some (.int .i64 t125) := by rw [ha]; exact putSel_on (e := (12, 28, .int .i64 t125)) 6 rfl rfl (hon 12 (by kernel_rfl)) rfl
     have e31 : a.tmps[31]? = some (.int .i64 t130) := by rw [ha]; exact putSel_on (e := (15, 31, .int .i64 t130)) 8 rfl rfl (hon 15 (by kernel_rfl)) rfl
     have e33 : a.tmps[33]? = some (.int .i64 t132) := by rw [ha]; exact putSel_on (e := (17, 33, .int .i64 t132)) 9 rfl rfl (hon 17 (by kernel_rfl)) rfl
     replace ha := Aside0.mk ha
     have p5 := Aside0.mk q9
     have p4 := Aside0.mk r0
     have HK := Aside0.mk Q_HK
     have HB := Aside0.mk Q_HB
     have HO124 := Aside0.mk (s3 (hon 11 (by kernel_rfl)))
     have HO129 := Aside0.mk (r4 (hon 14 (by kernel_rfl)))
     have HI0 := Aside0.mk (r7 (hon 17 (by kernel_rfl)))
     refine value_ (w1 := w') (v := .agg #[.int .i64 t116, .int .i64 t118, .int .i64 t125, .int .i64 t130, .int .i64 t132]) (by rfl) rfl ?_ ?_
     ·go_simp
      (try simp only [i64_w])
      try rfl
     refine hK.out _ _ ⟨v123, v128, p3, m19_, (by rw [ha.out]; exact putSel_upk 10 hb_ rfl rfl rfl), p7, q9, r0, fun h0_ => absurd ((hon 3 (by kernel_rfl)).symm.trans h0_) (by decide), Q_HK, Q_HB, fun _ h1_ => absurd ((hon 7 (by kernel_rfl)).symm.trans h1_) (by decide), fun _ h1_ => absurd ((hon 10 (by kernel_rfl)).symm.trans h1_) (by decide), fun _ h1_ => absurd ((hon 12 (by kernel_rfl)).symm.trans h1_) (by decide), s3, fun _ h1_ => absurd ((hon 15 (by kernel_rfl)).symm.trans h1_) (by decide), r4, fun _ h1_ => absurd ((hon 17 (by kernel_rfl)).symm.trans h1_) (by decide), r7, p1, s1, r8, r9, q6, q3, p9, q0, q1, q2, fun h0_ => absurd ((hoff 20 (by kernel_rfl)).symm.trans h0_) (by decide), s9⟩
    refine steps_cons ?_ ?_
    ·rintro b a w' ⟨v123, v128, p3, m19_, ha, p7, q9, r0, t6, Q_HK, Q_HB, s8, t2, s2, s3, s4, r4, s5, r7, p1, s1, r8, r9, q6, q3, p9, q0, q1, q2, r5, s9⟩ hb_ hon hoff
     refine ⟨_, rfl, fun K hK => ?_⟩
     replace ha := Aside0.mk ha
     have p8 := Aside0.mk (p7 hb_)
     have p5 := Aside0.mk q9
     have p4 := Aside0.mk r0
     have HK := Aside0.mk Q_HK
     have HB := Aside0.mk Q_HB
     refine box_step ?hg (N := 5) ?hd (cs := #[.int .i64 0, .int .i64 0, .int .i64 0, .int .i64 0, .int .i64 0]) (t := 34) ?hr ?_; (case hd => rfl); (case hg => rfl); (case hr => first | (go_simp; done) | (go_simp; rfl))
     intro p3 hg w22 hbox hb
     have n0_ := Aside0.mk (Kd.R_below (Kd.R_elderB p8.out p3 (Nat.le_of_eq hg.symm)) hb)
     have n1_ := Aside0.mk (blk_below (g := t0) (o := .cells #[.int .i64 0, .slice none 0 0] 25 (0, 0)) p5.out hb)
     have n2_ := Aside0.mk (blk_below (g := s0) (o := .cells #[.int .i64 (wrap64 (2 + t111)), q4] 25 (0, 0)) p4.out hb)
     have n4_ := Aside0.mk (KeepBut.trans HK.out (KeepBut.of_below hb g none) (.inl rfl))
     have n5_ := Aside0.mk (below_step HB.out hb)
     have n6_ := Aside0.mk (hbox)
     have n7_ := Aside0.mk ((by rw [hg]; exact (keep_size (w := w) (g := g) (row := none) HK.out) : w.heap.size ≤ p3))
     have n8_ := Aside0.mk ((Nat.le_trans HW0.out (by rw [hg]; exact (keep_size (w := w) (g := g) (row := none) HK.out) : w.heap.size ≤ p3) : w0.heap.size ≤ p3))
     have n9_ := Aside0.mk ((by rw [hg]; exact Nat.ne_of_lt (blk_lt (g := t0) (o := .cells #[.int .i64 0, .slice none 0 0] 25 (0, 0)) p5.out) : t0 ≠ p3))
     have n10_ := Aside0.mk ((by rw [hg]; exact Nat.ne_of_gt (blk_lt (g := t0) (o := .cells #[.int .i64 0, .slice none 0 0] 25 (0, 0)) p5.out) : p3 ≠ t0))
     have n11_ := Aside0.mk ((by rw [hg]; exact Nat.ne_of_lt (blk_lt (g := s0) (o := .cells #[.int .i64 (wrap64 (2 + t111)), q4] 25 (0, 0)) p4.out) : s0 ≠ p3))
     have n12_ := Aside0.mk ((by rw [hg]; exact Nat.ne_of_gt (blk_lt (g := s0) (o := .cells #[.int .i64 (wrap64 (2 + t111)), q4] 25 (0, 0)) p4.out) : p3 ≠ s0))
     have n13_ := Aside0.mk ((by rw [hg]; exact Nat.ne_of_lt (Nat.lt_of_lt_of_le HLTg.out (by first | exact HK.out.1 | (have := HK.out.1; simp; omega))) : g ≠ p3))
     have n14_ := Aside0.mk ((by rw [hg]; exact Nat.ne_of_gt (Nat.lt_of_lt_of_le HLTg.out (by first | exact HK.out.1 | (have := HK.out.1; simp; omega))) : p3 ≠ g))
     have y7 := fun (h0_ : b 3 = false) => (show IsS97 w0 w22 g s0_0 u0 from by first | exact (IsS97.below (t6 h0_) hb))
     have v7 := fun (h0_ : b 3 = true) (h1_ : b 7 = false) => (show IsS97 w0 w22 g s0_0 t117 from by first | exact (IsS97.below (s8 h0_ h1_) hb))
     have v8 := fun (h0_ : b 7 = true) (h1_ : b 10 = false) => (show IsS97 w0 w22 g s0_0 t119 from by first | exact (IsS97.below (t2 h0_ h1_) hb))
     have u8 := fun (h0_ : b 10 = true) (h1_ : b 12 = false) => (show IsS97 w0 w22 g s0_0 t121 from by first | exact (IsS97.below (s2 h0_ h1_) hb))
     have v9 := fun (h0_ : b 11 = true) => (show Kd.R (Kd.int .i64) 3 w22 w.heap.size (fun _ => True) v123 y122 from by first | exact (Kd.R_below (s3 h0_) hb) | exact Kd.R_mono (Kd.R_below (s3 h0_) hb) (fun _ h_ => by first | trivial | exact h_ | exact h_.1))
     have u9 := fun (h0_ : b 12 = true) (h1_ : b 15 = false) => (show IsS97 w0 w22 g s0_0 t126 from by first | exact (IsS97.below (s4 h0_ h1_) hb))
     have t7 := fun (h0_ : b 14 = true) => (show Kd.R (Kd.int .i64) 3 w22 w.heap.size (fun _ => True) v128 y127 from by first | exact (Kd.R_below (r4 h0_) hb) | exact Kd.R_mono (Kd.R_below (r4 h0_) hb) (fun _ h_ => by first | trivial | exact h_ | exact h_.1))
     have y5 := fun (h0_ : b 15 = true) (h1_ : b 17 = false) => (show IsS97 w0 w22 g s0_0 t131 from by first | exact (IsS97.below (s5 h0_ h1_) hb))
     have y6 := fun (h0_ : b 17 = true) => (show IsS97 w0 w22 g s0_0 t133 from by first | exact (IsS97.below (r7 h0_) hb))
     clear p8
     clear p5
     clear p4
     clear HK
     clear HB
     have p8 := n0_
     have p5 := n1_
     have p4 := n2_
     have HK := n4_
     have HB := n5_
     have t1 := n6_
     have u5 := n7_
     have v3 := n8_
     have s6 := n9_
     have t4 := n10_
     have s7 := n11_
     have t5 := n12_
     have u2 := n13_
     have u6 := n14_
     clear n0_ n1_ n2_ n4_ n5_ n6_ n7_ n8_ n9_ n10_ n11_ n12_ n13_ n14_
     clear hb hbox hg
     refine hK.out _ _ ⟨v123, v128, p3, (.pointer (some ⟨p3, 0, none⟩)), (by rw [ha.out]; exact putSel_upk 11 hb_ rfl rfl rfl), fun h0_ => absurd ((up_self b 19).symm.trans h0_) (by decide), p5.out, p4.out, y7, HK.out, HB.out, v7, v8, u8, v9, u9, t7, y5, y6, fun _ => (Kd.R_mono p8.out (fun _ hk => hk.2)), fun _ _ => t1.out, fun _ => u5.out, fun _ => v3.out, fun _ => u2.out, fun _ => u6.out, fun _ => s6.out, fun _ => t4.out, fun _ => s7.out, fun _ => t5.out, fun h0_ => absurd ((hoff 20 (by kernel_rfl)).symm.trans h0_) (by decide), fun _ => rfl⟩
    refine steps_cons ?_ ?_
    ·rintro b a w' ⟨v123, v128, p3, m19_, ha, p7, q9, r0, t6, Q_HK, Q_HB, s8, t2, s2, s3, s4, r4, s5, r7, p1, s1, r8, r9, q6, q3, p9, q0, q1, q2, r5, s9⟩ hb_ hon hoff
     refine ⟨_, rfl, fun K hK => ?_⟩
     have e5 : a.tmps[5]? = some (m19_) := by rw [ha]; exact putSel_on (e := (19, 5, m19_)) 11 rfl rfl (hon 19 (by kernel_rfl)) rfl
     rw [s9 (hon 19 (by kernel_rfl))] at e5
     have e34 : a.tmps[34]? = some (.agg #[.int .i64 t116, .int .i64 t118, .int .i64 t125, .int .i64 t130, .int .i64 t132]) := by rw [ha]; exact putSel_on (e := (18, 34, .agg #[.int .i64 t116, .int .i64 t118, .int .i64 t125, .int .i64 t130, .int .i64 t132])) 10 rfl rfl (hon 18 (by kernel_rfl)) rfl
     replace ha := Aside0.mk ha
     have p5 := Aside0.mk q9
     have p4 := Aside0.mk r0
     have HK := Aside0.mk Q_HK
     have HB := Aside0.mk Q_HB
     have HO124 := Aside0.mk (s3 (hon 11 (by kernel_rfl)))
     have HO129 := Aside0.mk (r4 (hon 14 (by kernel_rfl)))
     have HI0 := Aside0.mk (r7 (hon 17 (by kernel_rfl)))
     have p8 := Aside0.mk (p1 (hon 19 (by kernel_rfl)))
     have t1 := Aside0.mk (s1 (hon 19 (by kernel_rfl)) hb_)
     have u5 := Aside0.mk (r8 (hon 19 (by kernel_rfl)))
     have v3 := Aside0.mk (r9 (hon 19 (by kernel_rfl)))
     have u2 := Aside0.mk (q6 (hon 19 (by kernel_rfl)))
     have u6 := Aside0.mk (q3 (hon 19 (by kernel_rfl)))
     have s6 := Aside0.mk (p9 (hon 19 (by kernel_rfl)))
     have t4 := Aside0.mk (q0 (hon 19 (by kernel_rfl)))
     have s7 := Aside0.mk (q1 (hon 19 (by kernel_rfl)))
     have t5 := Aside0.mk (q2 (hon 19 (by kernel_rfl)))
     have hs36 : w'.cell? ⟨p3, 0, none⟩ = some (.int .i64 0) := (blk_cell t1.out 0).trans rfl
     have hfs36 := blk_frozen t1.out 0
     have hns36_0 := s6.out
     have hns36_1 := s7.out
     have hms36_0 := t4.out
     have hms36_1 := t5.out
     have hs37 : w'.cell? ⟨p3, 1, none⟩ = some (.int .i64 0) := (blk_cell t1.out 1).trans rfl
     have hfs37 := blk_frozen t1.out 1
     have hns37_0 := s6.out
     have hns37_1 := s7.out
     have hms37_0 := t4.out
     have hms37_1 := t5.out
     have hs38 : w'.cell? ⟨p3, 2, none⟩ = some (.int .i64 0) := (blk_cell t1.out 2).trans rfl
     have hfs38 := blk_frozen t1.out 2
     have hns38_0 := s6.out
     have hns38_1 := s7.out
     have hms38_0 := t4.out
     have hms38_1 := t5.out
     have hs39 : w'.cell? ⟨p3, 3, none⟩ = some (.int .i64 0) := (blk_cell t1.out 3).trans rfl
     have hfs39 := blk_frozen t1.out 3
     have hns39_0 := s6.out
     have hns39_1 := s7.out
     have hms39_0 := t4.out
     have hms39_1 := t5.out
     have hs40 : w'.cell? ⟨p3, 4, none⟩ = some (.int .i64 0) := (blk_cell t1.out 4).trans rfl
     have hfs40 := blk_frozen t1.out 4
     have hns40_0 := s6.out
     have hns40_1 := s7.out
     have hms40_0 := t4.out
     have hms40_1 := t5.out
     refine skip_ (w1 := ?_) (by rfl) rfl ?_ ?_
     rotate_left
     ·go_simp
      rfl
     refine hK.out _ _ ⟨v123, v128, p3, m19_, (by rw [ha.out]; exact putSel_none (v := undef) rfl), fun h0_ => absurd ((hon 19 (by kernel_rfl)).symm.trans h0_) (by decide), (by refine blk_far ?_ s6.out _; refine blk_far ?_ s6.out _; refine blk_far ?_ s6.out _; refine blk_far ?_ s6.out _; refine blk_far ?_ s6.out _; exact p5.out), (by refine blk_far ?_ s7.out _; refine blk_far ?_ s7.out _; refine blk_far ?_ s7.out _; refine blk_far ?_ s7.out _; refine blk_far ?_ s7.out _; exact p4.out), fun h0_ => absurd ((hon 3 (by kernel_rfl)).symm.trans h0_) (by decide), (by repeat (first | (with_reducible first | exact HK.out | apply KeepBut.set_ | apply keep_drewN | apply keep_drew | apply keep_alloc | refine keep_far ?_ v1.out _ | refine keep_far ?_ v2.out _ | refine keep_far ?_ u5.out _) | exact HK.out)), (by repeat (first | (with_reducible first | exact HB.out | apply below_alloc | apply pw_below_drewN | apply below_drew1 | refine below_set ?_ (IsS97.ge HI0.out) | refine below_set ?_ v5.out | refine below_set ?_ v6.out | refine below_set ?_ v3.out) | exact HB.out)), fun _ h1_ => absurd ((hon 7 (by kernel_rfl)).symm.trans h1_) (by decide), fun _ h1_ => absurd ((hon 10 (by kernel_rfl)).symm.trans h1_) (by decide), fun _ h1_ => absurd ((hon 12 (by kernel_rfl)).symm.trans h1_) (by decide), fun _ => (Kd.R_mono (Kd.R_far (p := ⟨p3, 4, none⟩) (Kd.R_far (p := ⟨p3, 3, none⟩) (Kd.R_far (p := ⟨p3, 2, none⟩) (Kd.R_far (p := ⟨p3, 1, none⟩) (Kd.R_far (p := ⟨p3, 0, none⟩) (Kd.R_types HO124.out t1.out (by decide)) (fun _ hk => hk.2) (.int .i64 t116)) (fun _ hk => hk.2) (.int .i64 t118)) (fun _ hk => hk.2) (.int .i64 t125)) (fun _ hk => hk.2) (.int .i64 t130)) (fun _ hk => hk.2) (.int .i64 t132)) (fun _ hk => hk.1)), fun _ h1_ => absurd ((hon 15 (by kernel_rfl)).symm.trans h1_) (by decide), fun _ => (Kd.R_mono (Kd.R_far (p := ⟨p3, 4, none⟩) (Kd.R_far (p := ⟨p3, 3, none⟩) (Kd.R_far (p := ⟨p3, 2, none⟩) (Kd.R_far (p := ⟨p3, 1, none⟩) (Kd.R_far (p := ⟨p3, 0, none⟩) (Kd.R_types HO129.out t1.out (by decide)) (fun _ hk => hk.2) (.int .i64 t116)) (fun _ hk => hk.2) (.int .i64 t118)) (fun _ hk => hk.2) (.int .i64 t125)) (fun _ hk => hk.2) (.int .i64 t130)) (fun _ hk => hk.2) (.int .i64 t132)) (fun _ hk => hk.1)), fun _ h1_ => absurd ((hon 17 (by kernel_rfl)).symm.trans h1_) (by decide), fun _ => (by repeat (first | (with_reducible first | exact HI0.out | apply IsS97.alloc | apply IsS97.drewN | apply IsS97.drew | apply IsS97.set_1 | refine IsS97.far ?_ q7.out _ | refine IsS97.far ?_ q8.out _ | refine IsS97.far ?_ u2.out _) | exact HI0.out)), fun _ => (Kd.R_mono (Kd.R_far (p := ⟨p3, 4, none⟩) (Kd.R_far (p := ⟨p3, 3, none⟩) (Kd.R_far (p := ⟨p3, 2, none⟩) (Kd.R_far (p := ⟨p3, 1, none⟩) (Kd.R_far (p := ⟨p3, 0, none⟩) (Kd.R_mono p8.out (fun k_ hk => (⟨hk, hk⟩ : _ ∧ k_ ≠ p3))) (fun _ hk => hk.2) (.int .i64 t116)) (fun _ hk => hk.2) (.int .i64 t118)) (fun _ hk => hk.2) (.int .i64 t125)) (fun _ hk => hk.2) (.int .i64 t130)) (fun _ hk => hk.2) (.int .i64 t132)) (fun _ hk => hk.1)), fun _ h1_ => absurd ((up_self b 20).symm.trans h1_) (by decide), fun _ => u5.out, fun _ => v3.out, fun _ => u2.out, fun _ => u6.out, fun _ => s6.out, fun _ => t4.out, fun _ => s7.out, fun _ => t5.out, fun _ => (by refine blk_put (cs := #[.int .i64 t116, .int .i64 t118, .int .i64 t125, .int .i64 t130, .int .i64 0]) ?_ 4 _ rfl; refine blk_put (cs := #[.int .i64 t116, .int .i64 t118, .int .i64 t125, .int .i64 0, .int .i64 0]) ?_ 3 _ rfl; refine blk_put (cs := #[.int .i64 t116, .int .i64 t118, .int .i64 0, .int .i64 0, .int .i64 0]) ?_ 2 _ rfl; refine blk_put (cs := #[.int .i64 t116, .int .i64 0, .int .i64 0, .int .i64 0, .int .i64 0]) ?_ 1 _ rfl; refine blk_put (cs := #[.int .i64 0, .int .i64 0, .int .i64 0, .int .i64 0, .int .i64 0]) ?_ 0 _ rfl; exact t1.out), s9⟩
    exact steps_nil
   rintro b a w40 hall ⟨v123, v128, p3, m19_, ha, p7, q9, r0, t6, Q_HK, Q_HB, s8, t2, s2, s3, s4, r4, s5, r7, p1, s1, r8, r9, q6, q3, p9, q0, q1, q2, r5, s9⟩
   clear p5 p4 HB HI0 HK p8
   have hb2_ := hall 2 (by kernel_rfl)
   have hb3_ := hall 3 (by kernel_rfl)
   have hb6_ := hall 6 (by kernel_rfl)
   have hb7_ := hall 7 (by kernel_rfl)
   have hb10_ := hall 10 (by kernel_rfl)
   have hb11_ := hall 11 (by kernel_rfl)
   have hb12_ := hall 12 (by kernel_rfl)
   have hb14_ := hall 14 (by kernel_rfl)
   have hb15_ := hall 15 (by kernel_rfl)
   have hb17_ := hall 17 (by kernel_rfl)
   have hb18_ := hall 18 (by kernel_rfl)
   have hb19_ := hall 19 (by kernel_rfl)
   have hb20_ := hall 20 (by kernel_rfl)
   subst ha
   obtain rfl := s9 hb19_
   simp only [putSel, hb2_, hb3_, hb6_, hb7_, hb10_, hb11_, hb12_, hb14_, hb15_, hb17_, hb18_, hb19_, hb20_, if_true, Act.put, List.setIfInBounds_toArray, List.set_cons_zero, List.set_cons_succ]
   clear p7
   have p5 := Aside0.mk q9
   clear q9
   have p4 := Aside0.mk r0
   clear r0
   clear t6
   have HK := Aside0.mk Q_HK
   clear Q_HK
   have HB := Aside0.mk Q_HB
   clear Q_HB
   clear s8
   clear t2
   clear s2
   have HO124 := Aside0.mk (s3 hb11_)
   clear s3
   clear s4
   have HO129 := Aside0.mk (r4 hb14_)
   clear r4
   clear s5
   have HI0 := Aside0.mk (r7 hb17_)
   clear r7
   have p8 := Aside0.mk (p1 hb19_)
   clear p1
   clear s1
   have u5 := Aside0.mk (r8 hb19_)
   clear r8
   have v3 := Aside0.mk (r9 hb19_)
   clear r9
   have u2 := Aside0.mk (q6 hb19_)
   clear q6
   have u6 := Aside0.mk (q3 hb19_)
   clear q3
   have s6 := Aside0.mk (p9 hb19_)
   clear p9
   have t4 := Aside0.mk (q0 hb19_)
   clear q0
   have s7 := Aside0.mk (q1 hb19_)
   clear q1
   have t5 := Aside0.mk (q2 hb19_)
   clear q2
   have t1 := Aside0.mk (r5 hb20_)
   clear r5
   clear hall hb2_ hb3_ hb6_ hb7_ hb10_ hb11_ hb12_ hb14_ hb15_ hb17_ hb18_ hb19_ hb20_
   have hnb41 := t4.out
   have hnc41 := s6.out
   have hnb42 := t5.out
   have hnc42 := s7.out
   have hnb43 := u6.out
   have hnc43 := u2.out
   have hcz44_0 : w40.cell? ⟨p3, 0, none⟩ = some (.int .i64 t116) := (blk_cell t1.out 0).trans rfl
   have hcz44_1 : w40.cell? ⟨p3, 1, none⟩ = some (.int .i64 t118) := (blk_cell t1.out 1).trans rfl
   have hcz44_2 : w40.cell? ⟨p3, 2, none⟩ = some (.int .i64 t125) := (blk_cell t1.out 2).trans rfl
   have hcz44_3 : w40.cell? ⟨p3, 3, none⟩ = some (.int .i64 t130) := (blk_cell t1.out 3).trans rfl
   have hcz44_4 : w40.cell? ⟨p3, 4, none⟩ = some (.int .i64 t132) := (blk_cell t1.out 4).trans rfl
   have hfz44_0 := blk_frozen t1.out 0
   have hfz44_1 := blk_frozen t1.out 1
   have hfz44_2 := blk_frozen t1.out 2
   have hfz44_3 := blk_frozen t1.out 3
   have hfz44_4 := blk_frozen t1.out 4
   have hnb45 := u7.out
   have hnc45 := t8.out
   have hnb46 := t9.out
   have hnc46 := q8.out
   have hcz47_0 : w40.cell? ⟨s0, 0, none⟩ = some (.int .i64 (wrap64 (2 + t111))) := (blk_cell p4.out 0).trans rfl
   have hcz47_1 : w40.cell? ⟨s0, 1, none⟩ = some (q4) := (blk_cell p4.out 1).trans rfl
   have hfz47_0 := blk_frozen p4.out 0
   have hfz47_1 := blk_frozen p4.out 1
   have H := HH_.out
   clear HH_
   by_cases c18 : t116 = t118
   case neg =>
    rw [if_neg c18] at H
    have c18b0 : (t116 == t118) = false := beq_eq_false_iff_ne.mpr c18
    have c18b1 : (t116 != t118) = true := bne_iff_ne.mpr c18
    by_cases c51 : p0.length < 3518437208883
    case neg =>
     rw [if_neg c51] at H
     exact absurd H (by simp)
    rw [if_pos c51] at H
    have LMc51 := Aside0.mk c51
    clear c51
    obtain ⟨y138, hy138⟩ : ∃ y_ : List (S34), y_ = (p0 ++ [(⟨t116, t118, t125, t130, t132⟩ : S34)]) := ⟨_, rfl⟩
    replace H : (spec_l30Net.l0 k1 (wrap64 (x4_1 - 1)) s0_0 t133 (wrap64 (2 + t111)) y138) = some (r1, r2, r3) := by first | (rw [hy138]; with_reducible exact H) | (have H2_ := (Option.bind_some _ _).symm.trans H; rw [hy138]; with_reducible exact H2_) | (have H2_ := (Option.bind_some _ _).symm.trans H; with_reducible exact H2_) | with_reducible exact H | (rw [hy138]; exact H) | exact H
    have Ny138 := Aside0.mk hy138
    clear hy138
    have H' := Aside0.mk H
    clear H
    try go_wp2_with (first | ((with_reducible refine gate_builtin (b := .append) (xs := #[.tmp 48, .tmp 50]) rfl ?_); at_builtin; refine Kd.R_append k34 w.heap.size rfl (.tmp 48) (.tmp 50) 23 34 (.agg #[(.int .i64 0), (.int .i64 0), (.int .i64 0), (.int .i64 0), (.int .i64 0)]) 40 rfl Try.underlying23 info34 rfl (by decide) (by omega) q4 p0 (⟨t116, t118, t125, t130, t132⟩ : S34) [.int .i64 t116, .int .i64 t118, .int .i64 t125, .int .i64 t130, .int .i64 t132] (fun k_ => k_ ≠ p3) (fun _ => False) rfl rfl ?aP (fun _ hk => hk.elim) ?aF ?aO (Below.refl _ _) ?aS ?aL ?_; (case aP => exact k34_mkM _ _ _ (⟨t116, t118, t125, t130, t132⟩ : S34)); (case aF => exact (fun k_ hk => Kd.freshB (g := p3) (o := .cells #[.int .i64 t116, .int .i64 t118, .int .i64 t125, .int .i64 t130, .int .i64 t132] 34 (0, 0)) t1.out k_ hk)); (case aO => exact p8.out); (case aS => exact (keep_size (w := w) (g := g) (row := none) HK.out)); (case aL => have := LMc51.out; omega); intro v139 w79 ho hb hg hat; rw [← Ny138.out] at ho; have n0_ := Aside0.mk (blk_grown (g := t0) (o := .cells #[.int .i64 0, .slice none 0 0] 25 (0, 0)) p5.out hg (Kd.R_ne p8.out p5.out (by decide))); have n1_ := Aside0.mk (blk_grown (g := s0) (o := .cells #[.int .i64 (wrap64 (2 + t111)), q4] 25 (0, 0)) p4.out hg (Kd.R_ne p8.out p4.out (by decide))); have n2_ := Aside0.mk (IsS97.grown2 HI0.out HI0.out hg (IsS97.own_ne HI0.out p8.out (by decide))); have n3_ := Aside0.mk (Kd.R_over' HO124.out (Kd.R_typed p8.out) (by decide) hg); have n4_ := Aside0.mk (Kd.R_over' HO129.out (Kd.R_typed p8.out) (by decide) hg); have n5_ := Aside0.mk (blk_grown (g := p3) (o := .cells #[.int .i64 t116, .int .i64 t118, .int .i64 t125, .int .i64 t130, .int .i64 t132] 34 (0, 0)) t1.out hg (Kd.R_away p8.out (fun _ hk => hk))); have n6_ := Aside0.mk (below_weaken HB.out HL.out hb); have n7_ := Aside0.mk (KeepBut.trans HK.out (KeepBut.of_grown hg g) (Kd.R_base2 p8.out)); have n8_ := Aside0.mk (ho); clear p5; clear p4; clear HI0; clear HO124; clear HO129; clear t1; clear HB; clear HK; clear p8; have p5 := n0_; have p4 := n1_; have HI0 := n2_; have HO124 := n3_; have HO129 := n4_; have t1 := n5_; have HB := n6_; have HK := n7_; have HO140 := n8_; clear n0_ n1_ n2_ n3_ n4_ n5_ n6_ n7_ n8_; clear ho hb hg hat; obtain ⟨Ao80, co80, eo80⟩ := Kd.R_slice HO140.out; subst eo80; have hcz81_0 : w79.cell? ⟨s0, 0, none⟩ = some (.int .i64 (wrap64 (2 + t111))) := (blk_cell p4.out 0).trans rfl; have hcz81_1 : w79.cell? ⟨s0, 1, none⟩ = some (q4) := (blk_cell p4.out 1).trans rfl; have hfz81_0 := blk_frozen p4.out 0; have hfz81_1 := blk_frozen p4.out 1))
    go_roundg k1
    case measure => have := HK1.out; omega
    case rel => exact ⟨(wrap64 (x4_1 - 1)), (t133), (y138), (.slice Ao80 y138.length co80), (by first | rfl | (simp; done) | (simp [*]; done)), H', ⟨by have := HK1.out; omega⟩, ⟨by exact Kd.R_mono (Kd.R_far (p := ⟨s0, 1, none⟩) (Kd.R_types HO140.out p4.out (by decide)) (fun _ hk => hk.2) (.slice Ao80 y138.length co80)) (fun _ hk => trivial)⟩, ⟨by refine blk_far ?_ t8.out _; exact p5.out⟩, ⟨by refine blk_put (cs := #[.int .i64 (wrap64 (2 + t111)), q4]) ?_ 1 _ rfl; exact p4.out⟩, ⟨by repeat (first | (with_reducible first | exact HI0.out | apply IsS97.alloc | apply IsS97.drewN | apply IsS97.drew | apply IsS97.set_1 | refine IsS97.far ?_ q7.out _ | refine IsS97.far ?_ q8.out _ | refine IsS97.far ?_ u2.out _) | exact HI0.out)⟩, ⟨by repeat (first | (with_reducible first | exact HK.out | apply KeepBut.set_ | apply keep_drewN | apply keep_drew | apply keep_alloc | refine keep_far ?_ v1.out _ | refine keep_far ?_ v2.out _ | refine keep_far ?_ u5.out _) | exact HK.out)⟩, ⟨by repeat (first | (with_reducible first | exact HB.out | apply below_alloc | apply pw_below_drewN | apply below_drew1 | refine below_set ?_ (IsS97.ge HI0.out) | refine below_set ?_ v5.out | refine below_set ?_ v6.out | refine below_set ?_ v3.out) | exact HB.out)⟩⟩
   rw [if_pos c18] at H
   have c18b0 : (t116 == t118) = true := beq_iff_eq.mpr c18
   have c18b1 : (t116 != t118) = false := bne_eq_false_iff_eq.mpr c18
   clear c18
   by_cases c19 : (wrap64 (2 + t111)) = 0
   case pos =>
    rw [if_pos c19] at H
    exact absurd H (by simp)
   rw [if_neg c19] at H
   have c19b0 : ((wrap64 (2 + t111)) == 0) = false := beq_eq_false_iff_ne.mpr c19
   have c19b1 : ((wrap64 (2 + t111)) != 0) = true := bne_iff_ne.mpr c19
   by_cases c20 : p0.length < 3518437208883
   case neg =>
    rw [if_neg c20] at H
    exact absurd H (by simp)
   rw [if_pos c20] at H
   have LMc20 := Aside0.mk c20
   clear c20
   obtain ⟨y135, hy135⟩ : ∃ y_ : List (S34), y_ = (p0 ++ [(⟨t116, Int.tmod (wrap64 (t118 + 1)) (wrap64 (2 + t111)), t125, t130, t132⟩ : S34)]) := ⟨_, rfl⟩
   replace H : (spec_l30Net.l0 k1 (wrap64 (x4_1 - 1)) s0_0 t133 (wrap64 (2 + t111)) y135) = some (r1, r2, r3) := by first | (rw [hy135]; with_reducible exact H) | (have H2_ := (Option.bind_some _ _).symm.trans H; rw [hy135]; with_reducible exact H2_) | (have H2_ := (Option.bind_some _ _).symm.trans H; with_reducible exact H2_) | with_reducible exact H | (rw [hy135]; exact H) | exact H
   have Ny135 := Aside0.mk hy135
   clear hy135
   have H' := Aside0.mk H
   clear H
   try go_wp2_with (first | ((with_reducible refine gate_builtin (b := .append) (xs := #[.tmp 48, .tmp 50]) rfl ?_); at_builtin; refine Kd.R_append k34 w.heap.size rfl (.tmp 48) (.tmp 50) 23 34 (.agg #[(.int .i64 0), (.int .i64 0), (.int .i64 0), (.int .i64 0), (.int .i64 0)]) 40 rfl Try.underlying23 info34 rfl (by decide) (by omega) q4 p0 (⟨t116, Int.tmod (wrap64 (t118 + 1)) (wrap64 (2 + t111)), t125, t130, t132⟩ : S34) [.int .i64 t116, .int .i64 (Int.tmod (wrap64 (t118 + 1)) (wrap64 (2 + t111))), .int .i64 t125, .int .i64 t130, .int .i64 t132] (fun k_ => k_ ≠ p3) (fun _ => False) rfl (by first | (go_simp; done) | (go_simp; rfl)) ?aP (fun _ hk => hk.elim) ?aF ?aO (Below.refl _ _) ?aS ?aL ?_; (case aP => exact k34_mkM _ _ _ (⟨t116, Int.tmod (wrap64 (t118 + 1)) (wrap64 (2 + t111)), t125, t130, t132⟩ : S34)); (case aF => exact (fun k_ hk => Kd.freshB (g := p3) (o := .cells #[.int .i64 t116, .int .i64 (Int.tmod (wrap64 (t118 + 1)) (wrap64 (2 + t111))), .int .i64 t125, .int .i64 t130, .int .i64 t132] 34 (0, 0)) (by refine blk_put (cs := #[.int .i64 t116, .int .i64 t118, .int .i64 t125, .int .i64 t130, .int .i64 t132]) ?_ 1 _ rfl; exact t1.out) k_ hk)); (case aO => exact (Kd.R_mono (Kd.R_far (p := ⟨p3, 1, none⟩) (Kd.R_mono p8.out (fun k_ hk => (⟨hk, hk⟩ : _ ∧ k_ ≠ p3))) (fun _ hk => hk.2) (.int .i64 (Int.tmod (wrap64 (t118 + 1)) (wrap64 (2 + t111))))) (fun _ hk => hk.1))); (case aS => exact (keep_size (w := w) (g := g) (row := none) (by repeat (first | (with_reducible first | exact HK.out | apply KeepBut.set_ | apply keep_drewN | apply keep_drew | apply keep_alloc | refine keep_far ?_ v1.out _ | refine keep_far ?_ v2.out _ | refine keep_far ?_ u5.out _) | exact HK.out)))); (case aL => have := LMc20.out; omega); intro v136 w48 ho hb hg hat; rw [← Ny135.out] at ho; have n0_ := Aside0.mk (blk_grown (g := t0) (o := .cells #[.int .i64 0, .slice none 0 0] 25 (0, 0)) (by refine blk_far ?_ s6.out _; exact p5.out) hg (Kd.R_ne p8.out p5.out (by decide))); have n1_ := Aside0.mk (blk_grown (g := s0) (o := .cells #[.int .i64 (wrap64 (2 + t111)), q4] 25 (0, 0)) (by refine blk_far ?_ s7.out _; exact p4.out) hg (Kd.R_ne p8.out p4.out (by decide))); have n2_ := Aside0.mk (IsS97.grown2 HI0.out (by repeat (first | (with_reducible first | exact HI0.out | apply IsS97.alloc | apply IsS97.drewN | apply IsS97.drew | apply IsS97.set_1 | refine IsS97.far ?_ q7.out _ | refine IsS97.far ?_ q8.out _ | refine IsS97.far ?_ u2.out _) | exact HI0.out)) hg (IsS97.own_ne HI0.out p8.out (by decide))); have n3_ := Aside0.mk (Kd.R_over' (Kd.R_mono (Kd.R_far (p := ⟨p3, 1, none⟩) (Kd.R_types HO124.out t1.out (by decide)) (fun _ hk => hk.2) (.int .i64 (Int.tmod (wrap64 (t118 + 1)) (wrap64 (2 + t111))))) (fun _ h_ => h_.1)) (Kd.R_typed (Kd.R_mono (Kd.R_far (p := ⟨p3, 1, none⟩) (Kd.R_mono p8.out (fun k_ hk => (⟨hk, hk⟩ : _ ∧ k_ ≠ p3))) (fun _ hk => hk.2) (.int .i64 (Int.tmod (wrap64 (t118 + 1)) (wrap64 (2 + t111))))) (fun _ h_ => h_.1))) (by decide) hg); have n4_ := Aside0.mk (Kd.R_over' (Kd.R_mono (Kd.R_far (p := ⟨p3, 1, none⟩) (Kd.R_types HO129.out t1.out (by decide)) (fun _ hk => hk.2) (.int .i64 (Int.tmod (wrap64 (t118 + 1)) (wrap64 (2 + t111))))) (fun _ h_ => h_.1)) (Kd.R_typed (Kd.R_mono (Kd.R_far (p := ⟨p3, 1, none⟩) (Kd.R_mono p8.out (fun k_ hk => (⟨hk, hk⟩ : _ ∧ k_ ≠ p3))) (fun _ hk => hk.2) (.int .i64 (Int.tmod (wrap64 (t118 + 1)) (wrap64 (2 + t111))))) (fun _ h_ => h_.1))) (by decide) hg); have n5_ := Aside0.mk (blk_grown (g := p3) (o := .cells #[.int .i64 t116, .int .i64 (Int.tmod (wrap64 (t118 + 1)) (wrap64 (2 + t111))), .int .i64 t125, .int .i64 t130, .int .i64 t132] 34 (0, 0)) (by refine blk_put (cs := #[.int .i64 t116, .int .i64 t118, .int .i64 t125, .int .i64 t130, .int .i64 t132]) ?_ 1 _ rfl; exact t1.out) hg (Kd.R_away p8.out (fun _ hk => hk))); have n6_ := Aside0.mk (below_weaken (by repeat (first | (with_reducible first | exact HB.out | apply below_alloc | apply pw_below_drewN | apply below_drew1 | refine below_set ?_ (IsS97.ge HI0.out) | refine below_set ?_ v5.out | refine below_set ?_ v6.out | refine below_set ?_ v3.out) | exact HB.out)) HL.out hb); have n7_ := Aside0.mk (KeepBut.trans (by repeat (first | (with_reducible first | exact HK.out | apply KeepBut.set_ | apply keep_drewN | apply keep_drew | apply keep_alloc | refine keep_far ?_ v1.out _ | refine keep_far ?_ v2.out _ | refine keep_far ?_ u5.out _) | exact HK.out)) (KeepBut.of_grown hg g) (Kd.R_base2 p8.out)); have n8_ := Aside0.mk (ho); clear p5; clear p4; clear HI0; clear HO124; clear HO129; clear t1; clear HB; clear HK; clear p8; have p5 := n0_; have p4 := n1_; have HI0 := n2_; have HO124 := n3_; have HO129 := n4_; have t1 := n5_; have HB := n6_; have HK := n7_; have HO137 := n8_; clear n0_ n1_ n2_ n3_ n4_ n5_ n6_ n7_ n8_; clear ho hb hg hat; obtain ⟨Ao49, co49, eo49⟩ := Kd.R_slice HO137.out; subst eo49; have hcz50_0 : w48.cell? ⟨s0, 0, none⟩ = some (.int .i64 (wrap64 (2 + t111))) := (blk_cell p4.out 0).trans rfl; have hcz50_1 : w48.cell? ⟨s0, 1, none⟩ = some (q4) := (blk_cell p4.out 1).trans rfl; have hfz50_0 := blk_frozen p4.out 0; have hfz50_1 := blk_frozen p4.out 1))
   go_roundg k1
   case measure => have := HK1.out; omega
   case rel => exact ⟨(wrap64 (x4_1 - 1)), (t133), (y135), (.slice Ao49 y135.length co49), (by first | rfl | (simp; done) | (simp [*]; done)), H', ⟨by have := HK1.out; omega⟩, ⟨by exact Kd.R_mono (Kd.R_far (p := ⟨s0, 1, none⟩) (Kd.R_types HO137.out p4.out (by decide)) (fun _ hk => hk.2) (.slice Ao49 y135.length co49)) (fun _ hk => trivial)⟩, ⟨by refine blk_far ?_ t8.out _; exact p5.out⟩, ⟨by refine blk_put (cs := #[.int .i64 (wrap64 (2 + t111)), q4]) ?_ 1 _ rfl; exact p4.out⟩, ⟨by repeat (first | (with_reducible first | exact HI0.out | apply IsS97.alloc | apply IsS97.drewN | apply IsS97.drew | apply IsS97.set_1 | refine IsS97.far ?_ q7.out _ | refine IsS97.far ?_ q8.out _ | refine IsS97.far ?_ u2.out _) | exact HI0.out)⟩, ⟨by repeat (first | (with_reducible first | exact HK.out | apply KeepBut.set_ | apply keep_drewN | apply keep_drew | apply keep_alloc | refine keep_far ?_ v1.out _ | refine keep_far ?_ v2.out _ | refine keep_far ?_ u5.out _) | exact HK.out)⟩, ⟨by repeat (first | (with_reducible first | exact HB.out | apply below_alloc | apply pw_below_drewN | apply below_drew1 | refine below_set ?_ (IsS97.ge HI0.out) | refine below_set ?_ v5.out | refine below_set ?_ v6.out | refine below_set ?_ v3.out) | exact HB.out)⟩⟩
end Go.Proofs.Ytljdcinpjnijcaa.Pr
end
