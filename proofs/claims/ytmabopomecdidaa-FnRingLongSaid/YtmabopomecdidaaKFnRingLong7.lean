/- For the statement FnRingLong of this seat: it is proved here, with no further conditions (part 8 of its texts: words, walks of the functions, the plain law, the row). -/
import Derived.ChangeArms
import Derived.ChangeSlices
import Derived.Deep.Slices
import Derived.WideShapes
import Derived.DataReads
import Derived.Test.YtmabopomecdidaaRows
import Derived.WalkKit
import Derived.ProofKit
import Derived.OpenShut
import Derived.ShutString
import Derived.ChangeOld
import Derived.Below
import Derived.SizedLaws
import Derived.Test.YtmabopomecdidaaKFnRingLong6
section
namespace Go.Proofs.Ytmabopomecdidaa.Pr
open Go.RowKit Go.Proofs.YtmabopomecdidaaW.PrintWords Go.Proofs.YtmabopomecdidaaW.PrintLast Go.Proofs.YtmabopomecdidaaW.PrintMore
attribute [local go_sem] max2_int min2_int max_two min_two max_three min_three max_four min_four
set_option linter.unusedVariables false
set_option linter.unusedSimpArgs false
def impl_Net_table.l0 : Nat → List (List Int) → Int → Int → Int → List (S45) → Option ((List (List Int)))
 | 0, _, _, _, _, _ => none
 | k + 1, x3, x9, x10, p4, p5 => if x10 < x9 then ((impl_Net_from.f k p4 p5 x10).bind fun t1170 => (if x3.length < 5864062014805 then (impl_Net_table.l0 k (x3 ++ [t1170]) x9 (wrap64 (x10 + 1)) p4 p5) else (none))) else (some x3)
def impl_Net_table.f (k : Nat) (a0_0 : Int) (l0_1 : List (S45)) : Option ((List (List Int))) := if 0 ≤ a0_0 then (if (a0_0 : Int).toNat ≤ 11728124029610 then (impl_Net_table.l0 k (([] : List (List Int))) a0_0 0 a0_0 l0_1) else (none)) else (none)
set_option maxHeartbeats 8000000 in
set_option maxRecDepth 100000 in
theorem impl_Net_table.calls (k : Nat) (a0_0 : Int) (A0_1 : Option Addr) (c0_1 : Nat) (l0_1 : List (S45)) (r : List (List Int)) (w : World) (hr0_1 : Kd.C k45 w A0_1 l0_1.length l0_1) (hc0_1 : l0_1.length ≤ c0_1) (h : impl_Net_table.f k a0_0 l0_1 = some r) :
  Calls Try.prog 109 #[.agg #[.int .i64 a0_0, .slice A0_1 l0_1.length c0_1]] w fun e w' => ∃ v0_ : Value, e = .returned (v0_) ∧ Kd.S (Kd.slice 3 (Kd.int .i64)) 22 w' w.heap.size (fun _ => True) v0_ r ∧ Below w.heap.size w w' := by
 have hu38 := Try.underlying38
 have HR0_1 := Aside0.mk hr0_1
 have HC0_1 := Aside0.mk hc0_1
 clear hr0_1 hc0_1
 have HB := Aside0.mk (Below.refl w.heap.size w)
 have H : (if 0 ≤ a0_0 then (if (a0_0 : Int).toNat ≤ 11728124029610 then (impl_Net_table.l0 k (([] : List (List Int))) a0_0 0 a0_0 l0_1) else (none)) else (none)) = some r := h
 clear h
 by_cases c2 : 0 ≤ a0_0
 ·rw [if_pos c2] at H
  have c2b0 := eq_true c2
  have c2b1 : decide (0 ≤ a0_0) = true := decide_eq_true c2
  clear c2
  by_cases c3 : (a0_0 : Int).toNat ≤ 11728124029610
  ·rw [if_pos c3] at H
   have c3b0 := eq_true c3
   have c3b1 : decide ((a0_0 : Int).toNat ≤ 11728124029610) = true := decide_eq_true c3
   clear c3
   obtain ⟨y1167, hy1167⟩ : ∃ y_ : List (List Int), y_ = (([] : List (List Int))) := ⟨_, rfl⟩
   replace H : (impl_Net_table.l0 k y1167 a0_0 0 a0_0 l0_1) = some r := by first | (rw [hy1167]; with_reducible exact H) | (have H2_ := (Option.bind_some _ _).symm.trans H; rw [hy1167]; with_reducible exact H2_) | (have H2_ := (Option.bind_some _ _).symm.trans H; with_reducible exact H2_) | with_reducible exact H | (rw [hy1167]; exact H) | exact H
   have p7 := Aside0.mk hy1167
   clear hy1167
   have H' := Aside0.mk H
   clear H
   go_enter Try.func109, Try.ntmps109
   go_wp2_with (first | ((with_reducible refine gate_dst (N := 1) rfl ?_); refine box_event ?hg (N := 1) ?hd (cs := #[.int .i64 a0_0, .slice A0_1 l0_1.length c0_1]) (t := 38) ?hr ?_; (case hd => rfl); (case hg => rfl); (case hr => first | (go_simp; done) | (go_simp; rfl)); intro p1 hg w4 hbox hb; have n0_ := Aside0.mk (below_step HB.out hb); have n1_ := Aside0.mk (hbox); have n2_ := Aside0.mk ((by rw [hg]; exact (below_size HB.out) : w.heap.size ≤ p1)); have n3_ := Aside0.mk ((by rw [hg]; exact (below_size HB.out) : w.heap.size ≤ p1)); clear HB; have HB := n0_; have p0 := n1_; have GW1166 := n2_; have p6 := n3_; clear n0_ n1_ n2_ n3_; clear hb hbox hg; have hcz5_0 : w4.cell? ⟨p1, 0, none⟩ = some (.int .i64 a0_0) := (blk_cell p0.out 0).trans rfl; have hcz5_1 : w4.cell? ⟨p1, 1, none⟩ = some (.slice A0_1 l0_1.length c0_1) := (blk_cell p0.out 1).trans rfl; have hfz5_0 := blk_frozen p0.out 0; have hfz5_1 := blk_frozen p0.out 1) | ((with_reducible refine gate_dst (N := 7) rfl ?_); refine Kd.S_make0 (Kd.slice 3 (Kd.int .i64)) _ 22 rfl (N := 7) rfl 25 _ _ rfl a0_0 (by first | rfl | (go_simp; done) | (go_simp; rfl)) (by first | rfl | (go_simp; done) | (go_simp; rfl)) Try.underlying25 (.slice none 0 0) 24 info22 rfl (by decide) (by omega) [] (ok := fun _ => True) (okp := fun _ => True) ⟨_, rfl, Kd.R_nil _ _ _ _ _⟩ (fun _ hk => hk) trivial (of_decide_eq_true (by first | (with_reducible assumption) | assumption)) (Nat.le_trans (Nat.mul_le_mul_right _ (of_decide_eq_true (by first | (with_reducible assumption) | assumption) : a0_0.toNat ≤ 11728124029610)) (by omega)) (Below.refl _ _) (Nat.le_refl _) ?_; intro v1168 w6 ho7 hb hg_ hnew_; clear hg_ hnew_; (first | rw [← p7.out] at ho7 | (simp only [Int.reduceToNat] at ho7; rw [← p7.out] at ho7)); have n0_ := Aside0.mk (Kd.S_lower ho7 (below_size HB.out)); have n1_ := Aside0.mk (blk_below (g := p1) (o := .cells #[.int .i64 a0_0, .slice A0_1 l0_1.length c0_1] 38 (0, 0)) p0.out hb); have n2_ := Aside0.mk (below_step HB.out hb); clear p0; clear HB; have HO1169 := n0_; have p0 := n1_; have HB := n2_; clear n0_ n1_ n2_; clear hb ho7; have hcz8_0 : w6.cell? ⟨p1, 0, none⟩ = some (.int .i64 a0_0) := (blk_cell p0.out 0).trans rfl; have hcz8_1 : w6.cell? ⟨p1, 1, none⟩ = some (.slice A0_1 l0_1.length c0_1) := (blk_cell p0.out 1).trans rfl; have hfz8_0 := blk_frozen p0.out 0; have hfz8_1 := blk_frozen p0.out 1))
   go_loopg [3, 10] k (fun kq v3 v10 w' => ∃ (x3_1 : List (List Int)) (p3 : Int), v10 = .int .i64 p3 ∧ Aside0 (impl_Net_table.l0 kq x3_1 a0_0 p3 a0_0 l0_1 = some r) ∧ Aside0 (kq ≤ k) ∧ Aside0 (Kd.S (Kd.slice 3 (Kd.int .i64)) 22 w' w.heap.size (fun _ => True) v3 x3_1) ∧ Aside0 (w'.heap[p1]? = some (.cells #[.int .i64 a0_0, (.slice A0_1 l0_1.length c0_1)] 38 (0, 0))) ∧ Aside0 (Below w.heap.size w w'))
   case atStart => exact ⟨(y1167), (0), (by first | rfl | (simp; done) | (simp [*]; done)), H', ⟨Nat.le_refl _⟩, ⟨by (with_reducible repeat (first | apply Kd.S_alloc | apply Kd.S_drewN | apply Kd.S_drew)); exact HO1169.out⟩, ⟨by (with_reducible repeat (first | refine blk_drewN ?_ _ | refine blk_drew ?_ | refine blk_alloc ?_ _)); exact p0.out⟩, ⟨by repeat (first | (with_reducible first | exact HB.out | apply below_alloc | apply pw_below_drewN | apply below_drew1 | refine below_set ?_ p6.out) | exact HB.out)⟩⟩
   case round =>
    clear H'
    try clear c1
    try clear c2
    try clear c2b0
    try clear c2b1
    try clear p2
    try clear c3
    try clear c3b0
    try clear c3b1
    try clear hcz5_0
    try clear hcz5_1
    try clear hcz8_0
    try clear hcz8_1
    try clear hfz5_0
    try clear hfz5_1
    try clear hfz8_0
    try clear hfz8_1
    obtain ⟨x3_1, p3, rfl, HA, HK1, HO_3, p0, HB⟩ := hrel
    cases gk with
    | zero => exact absurd HA.out (by simp [impl_Net_table.l0])
    | succ k1 =>
     have H := HA.out
     clear HA
     simp only [impl_Net_table.l0] at H
     by_cases c9 : p3 < a0_0
     ·rw [if_pos c9] at H
      have c9b0 : decide (p3 < a0_0) = true := decide_eq_true c9
      clear c9
      replace H := Option.bind_eq_some_iff.mp H
      obtain ⟨t1170, A100, H⟩ := H
      replace H : (if x3_1.length < 5864062014805 then (impl_Net_table.l0 k1 (x3_1 ++ [t1170]) a0_0 (wrap64 (p3 + 1)) a0_0 l0_1) else (none)) = some r := H
      have A10 := Aside0.mk A100
      clear A100
      by_cases c11 : x3_1.length < 5864062014805
      ·rw [if_pos c11] at H
       have LMc11 := Aside0.mk c11
       clear c11
       obtain ⟨y1173, hy1173⟩ : ∃ y_ : List (List Int), y_ = (x3_1 ++ [t1170]) := ⟨_, rfl⟩
       replace H : (impl_Net_table.l0 k1 y1173 a0_0 (wrap64 (p3 + 1)) a0_0 l0_1) = some r := by first | (rw [hy1173]; with_reducible exact H) | (have H2_ := (Option.bind_some _ _).symm.trans H; rw [hy1173]; with_reducible exact H2_) | (have H2_ := (Option.bind_some _ _).symm.trans H; with_reducible exact H2_) | with_reducible exact H | (rw [hy1173]; exact H) | exact H
       have Ny1173 := Aside0.mk hy1173
       clear hy1173
       have H' := Aside0.mk H
       clear H
       have hcz12_0 : wr.cell? ⟨p1, 0, none⟩ = some (.int .i64 a0_0) := (blk_cell p0.out 0).trans rfl
       have hcz12_1 : wr.cell? ⟨p1, 1, none⟩ = some (.slice A0_1 l0_1.length c0_1) := (blk_cell p0.out 1).trans rfl
       have hfz12_0 := blk_frozen p0.out 0
       have hfz12_1 := blk_frozen p0.out 1
       go_wp2_with (first | ((with_reducible refine gate_callee (f := 128) rfl ?_); refine goesL_ (some 16) rfl rfl Try.func128 (by kernel_rfl) rfl #[.agg #[.int .i64 a0_0, .slice A0_1 l0_1.length c0_1], .int .i64 p3] rfl (by (try simp only [List.map_toArray, List.map_cons, List.map_nil]); first | done | rfl | (simp only [List.length_drop, List.length_take]; rfl)) ?_; (with_reducible refine (impl_Net_from.calls k1 a0_0 _ _ l0_1 p3 t1170 _ ?side1 ?side2 A10.out).mono ?_); (case side1 => repeat (first | exact (Kd.C_below HR0_1.out HB.out) | (with_reducible refine Kd.C_alloc ?_ _) | (with_reducible refine Kd.C_drewN ?_ _) | (with_reducible refine Kd.C_drew ?_))); (case side2 => exact HC0_1.out); rintro e w13 ⟨v1171, rfl, ho0, hb⟩; refine ⟨_, rfl, ?_⟩; have n0_ := Aside0.mk (Kd.S_elder' HO_3.out (Kd.R_base ho0) hb); have n1_ := Aside0.mk (Kd.R_lower ho0 (below_size HB.out)); have n2_ := Aside0.mk (blk_below (g := p1) (o := .cells #[.int .i64 a0_0, .slice A0_1 l0_1.length c0_1] 38 (0, 0)) p0.out hb); have n3_ := Aside0.mk (below_step HB.out hb); clear HO_3; clear p0; clear HB; have HO_3 := n0_; have HO1172 := n1_; have p0 := n2_; have HB := n3_; clear n0_ n1_ n2_ n3_; (try clear hb); (try clear hb2); (try clear hk); (try clear hi); (try clear ho0); obtain ⟨Ao15, co15, eo15⟩ := Kd.R_slice HO1172.out; subst eo15) | ((with_reducible refine gate_builtin (b := .append) (xs := #[.tmp 13, .tmp 17]) rfl ?_); at_builtin; refine Kd.S_append (Kd.slice 3 (Kd.int .i64)) (w0 := w) w.heap.size rfl (.tmp 13) (.tmp 17) 25 22 (.slice none 0 0) 24 rfl Try.underlying25 info22 rfl (by decide) (by omega) u3 x3_1 t1170 [.slice Ao15 t1170.length co15] (fun _ => True) (fun k_ => some k_ = (.slice Ao15 t1170.length co15 : Value).ownBlock) rfl rfl ?aP (fun k_ hk_ => ((Kd.R_mono (ok' := fun k_ => ((fun _ => True)) k_ ∧ some k_ ≠ (u3 : Value).ownBlock) (Kd.R_apart' (HO1172.out) (Kd.S_typed HO_3.out) (by decide)) (fun k_ hk => ⟨trivial, hk.2⟩))).1 k_ hk_.symm) ?aF ?aO ?aB ?aS ?aL ?_; (case aP => exact Kd.M_row (Kd.R_mono (Kd.R_tight rfl (Kd.R_mono (ok' := fun k_ => ((fun _ => True)) k_ ∧ some k_ ≠ (u3 : Value).ownBlock) (Kd.R_apart' (HO1172.out) (Kd.S_typed HO_3.out) (by decide)) (fun k_ hk => ⟨trivial, hk.2⟩))) (fun _ h_ => h_))); (case aB => exact HB.out); (case aF => exact (fun _ _ => trivial)); (case aO => exact (by (with_reducible repeat (first | apply Kd.S_alloc | apply Kd.S_drewN | apply Kd.S_drew)); exact Kd.S_mono HO_3.out (fun k_ hk => ⟨trivial, fun e_ => hk.2 e_⟩))); (case aS => exact (below_size HB.out)); (case aL => have := LMc11.out; omega); intro v1174 w14 ho hb hg hat; rw [← Ny1173.out] at ho; have n0_ := Aside0.mk (blk_grown (g := p1) (o := .cells #[.int .i64 a0_0, .slice A0_1 l0_1.length c0_1] 38 (0, 0)) p0.out hg (Kd.S_ne HO_3.out p0.out (by decide))); have n1_ := Aside0.mk (hb); have n2_ := Aside0.mk (ho); clear p0; clear HB; clear HO_3; clear HO1172; have p0 := n0_; have HB := n1_; have HO1175 := n2_; clear n0_ n1_ n2_; clear ho hb hg hat))
       go_roundg k1
       case measure => have := HK1.out; omega
       case rel => exact ⟨(y1173), (wrap64 (p3 + 1)), (by first | rfl | (simp; done) | (simp [*]; done)), H', ⟨by have := HK1.out; omega⟩, ⟨by (with_reducible repeat (first | apply Kd.S_alloc | apply Kd.S_drewN | apply Kd.S_drew)); exact HO1175.out⟩, ⟨by (with_reducible repeat (first | refine blk_drewN ?_ _ | refine blk_drew ?_ | refine blk_alloc ?_ _)); exact p0.out⟩, ⟨by repeat (first | (with_reducible first | exact HB.out | apply below_alloc | apply pw_below_drewN | apply below_drew1 | refine below_set ?_ p6.out) | exact HB.out)⟩⟩
      ·rw [if_neg c11] at H
       exact absurd H (by simp)
     ·rw [if_neg c9] at H
      have c9b0 : decide (p3 < a0_0) = false := decide_eq_false c9
      clear c9
      obtain rfl := Option.some.inj H
      go_wp2
      go_ret
      exact ⟨_, by first | rfl | (simp [errW_none, errW_some] <;> rfl) | (simp [*, errW_none, errW_some] <;> rfl), by (with_reducible repeat (first | apply Kd.S_alloc | apply Kd.S_drewN | apply Kd.S_drew)); exact HO_3.out, by repeat (first | (with_reducible first | exact HB.out | apply below_alloc | apply pw_below_drewN | apply below_drew1 | refine below_set ?_ p6.out) | exact HB.out)⟩
  ·rw [if_neg c3] at H
   exact absurd H (by simp)
 ·rw [if_neg c2] at H
  exact absurd H (by simp)
end Go.Proofs.Ytmabopomecdidaa.Pr
end
section
namespace Go.Proofs.Ytmabopomecdidaa.Pr
open Go.RowKit Go.Proofs.YtmabopomecdidaaW.PrintWords Go.Proofs.YtmabopomecdidaaW.PrintLast Go.Proofs.YtmabopomecdidaaW.PrintMore
attribute [local go_sem] max2_int min2_int max_two min_two max_three min_three max_four min_four
set_option linter.unusedVariables false
set_option linter.unusedSimpArgs false
mutual
def impl_ReachFar.l0 : Nat → Int → List (List Int) → Int → Int → Option (Int)
 | 0, _, _, _, _ => none
 | k + 1, x3, x12, x13, x14 => if x14 < x13 then (if 0 ≤ x14 then (if x14 < (x12.length : Int) then (impl_ReachFar.l1 k x3 x12 x13 x14 (rd_L1 x12 x14) ((rd_L1 x12 x14).length : Int) 0) else (none)) else (none)) else (some x3)
def impl_ReachFar.l1 : Nat → Int → List (List Int) → Int → Int → List Int → Int → Int → Option (Int)
 | 0, _, _, _, _, _, _, _ => none
 | k + 1, x3, x12, x13, x14, x18, x19, x20 => if x20 < x19 then (if 0 ≤ x20 then (if x20 < (x18.length : Int) then (if (rd x18 x20) = 99999 then (impl_ReachFar.l1 k x3 x12 x13 x14 x18 x19 (wrap64 (x20 + 1))) else (impl_ReachFar.l1 k (mx x3 (rd x18 x20)) x12 x13 x14 x18 x19 (wrap64 (x20 + 1)))) else (none)) else (none)) else (impl_ReachFar.l0 k x3 x12 x13 (wrap64 (x14 + 1)))
end
def impl_ReachFar.f (k : Nat) (a0_0 : Int) (l0_1 : List (S45)) : Option (Int) := (impl_NetOk.f a0_0 l0_1).bind fun t1177 => (if t1177 = true then ((impl_Net_table.f k a0_0 l0_1).bind fun t1178 => (impl_ReachFar.l0 k 0 t1178 (t1178.length : Int) 0)) else (some (-1)))
set_option maxHeartbeats 8000000 in
set_option maxRecDepth 100000 in
theorem impl_ReachFar.calls (k : Nat) (a0_0 : Int) (A0_1 : Option Addr) (c0_1 : Nat) (l0_1 : List (S45)) (r : Int) (w : World) (hr0_1 : Kd.C k45 w A0_1 l0_1.length l0_1) (hc0_1 : l0_1.length ≤ c0_1) (h : impl_ReachFar.f k a0_0 l0_1 = some r) :
  Calls Try.prog 59 #[.agg #[.int .i64 a0_0, .slice A0_1 l0_1.length c0_1]] w fun e w' => e = .returned (.int .i64 r) ∧ Below w.heap.size w w' := by
 have hu38 := Try.underlying38
 have q3 := Aside0.mk hr0_1
 have q4 := Aside0.mk hc0_1
 clear hr0_1 hc0_1
 have HB := Aside0.mk (Below.refl w.heap.size w)
 have H : ((impl_NetOk.f a0_0 l0_1).bind fun t1177 => (if t1177 = true then ((impl_Net_table.f k a0_0 l0_1).bind fun t1178 => (impl_ReachFar.l0 k 0 t1178 (t1178.length : Int) 0)) else (some (-1)))) = some r := h
 clear h
 replace H := Option.bind_eq_some_iff.mp H
 obtain ⟨t1177, A20, H⟩ := H
 replace H : (if t1177 = true then ((impl_Net_table.f k a0_0 l0_1).bind fun t1178 => (impl_ReachFar.l0 k 0 t1178 (t1178.length : Int) 0)) else (some (-1))) = some r := H
 have A2 := Aside0.mk A20
 clear A20
 by_cases c3 : t1177 = true
 ·subst c3
  have H1 : ((impl_Net_table.f k a0_0 l0_1).bind fun t1178 => (impl_ReachFar.l0 k 0 t1178 (t1178.length : Int) 0)) = some r := by rw [if_pos rfl] at H; exact H
  clear H
  have H := H1
  clear H1
  replace H := Option.bind_eq_some_iff.mp H
  obtain ⟨t1178, A40, H⟩ := H
  replace H : (impl_ReachFar.l0 k 0 t1178 (t1178.length : Int) 0) = some r := H
  have A4 := Aside0.mk A40
  clear A40
  have H' := Aside0.mk H
  clear H
  go_enter Try.func59, Try.ntmps59
  go_wp2_with (first | ((with_reducible refine gate_dst (N := 1) rfl ?_); refine box_event ?hg (N := 1) ?hd (cs := #[.int .i64 a0_0, .slice A0_1 l0_1.length c0_1]) (t := 38) ?hr ?_; (case hd => rfl); (case hg => rfl); (case hr => first | (go_simp; done) | (go_simp; rfl)); intro p5 hg w5 hbox hb; have n0_ := Aside0.mk (below_step HB.out hb); have n1_ := Aside0.mk (hbox); have n2_ := Aside0.mk ((by rw [hg]; exact (below_size HB.out) : w.heap.size ≤ p5)); have n3_ := Aside0.mk ((by rw [hg]; exact (below_size HB.out) : w.heap.size ≤ p5)); clear HB; have HB := n0_; have p0 := n1_; have GW1176 := n2_; have p8 := n3_; clear n0_ n1_ n2_ n3_; clear hb hbox hg; have q5 : w5.cell? ⟨p5, 0, none⟩ = some (.int .i64 a0_0) := (blk_cell p0.out 0).trans rfl; have q6 : w5.cell? ⟨p5, 1, none⟩ = some (.slice A0_1 l0_1.length c0_1) := (blk_cell p0.out 1).trans rfl; have q7 := blk_frozen p0.out 0; have q8 := blk_frozen p0.out 1) | ((with_reducible refine gate_callee (f := 67) rfl ?_); refine goesL_ (some 9) rfl rfl Try.func67 (by kernel_rfl) rfl #[.agg #[.int .i64 a0_0, .slice A0_1 l0_1.length c0_1]] rfl (by (try simp only [List.map_toArray, List.map_cons, List.map_nil]); first | done | rfl | (simp only [List.length_drop, List.length_take]; rfl)) ?_; (with_reducible refine (impl_NetOk.calls a0_0 _ _ l0_1 true _ ?side1 ?side2 A2.out).mono ?_); (case side1 => repeat (first | exact (Kd.C_below q3.out HB.out) | (with_reducible refine Kd.C_alloc ?_ _) | (with_reducible refine Kd.C_drewN ?_ _) | (with_reducible refine Kd.C_drew ?_))); (case side2 => exact q4.out); rintro e w7 ⟨rfl, hb⟩; refine ⟨_, rfl, ?_⟩; have n0_ := Aside0.mk (blk_below (g := p5) (o := .cells #[.int .i64 a0_0, .slice A0_1 l0_1.length c0_1] 38 (0, 0)) p0.out hb); have n1_ := Aside0.mk (below_step HB.out hb); clear p0; clear HB; have p0 := n0_; have HB := n1_; clear n0_ n1_; (try clear hb); (try clear hb2); (try clear hk); (try clear hi); have q9 : w7.cell? ⟨p5, 0, none⟩ = some (.int .i64 a0_0) := (blk_cell p0.out 0).trans rfl; have r0 : w7.cell? ⟨p5, 1, none⟩ = some (.slice A0_1 l0_1.length c0_1) := (blk_cell p0.out 1).trans rfl; have r1 := blk_frozen p0.out 0; have r2 := blk_frozen p0.out 1) | ((with_reducible refine gate_callee (f := 109) rfl ?_); refine goesL_ (some 12) rfl rfl Try.func109 (by kernel_rfl) rfl #[.agg #[.int .i64 a0_0, .slice A0_1 l0_1.length c0_1]] rfl (by (try simp only [List.map_toArray, List.map_cons, List.map_nil]); first | done | rfl | (simp only [List.length_drop, List.length_take]; rfl)) ?_; (with_reducible refine (impl_Net_table.calls k a0_0 _ _ l0_1 t1178 _ ?side1 ?side2 A4.out).mono ?_); (case side1 => repeat (first | exact (Kd.C_below q3.out HB.out) | (with_reducible refine Kd.C_alloc ?_ _) | (with_reducible refine Kd.C_drewN ?_ _) | (with_reducible refine Kd.C_drew ?_))); (case side2 => exact q4.out); rintro e w9 ⟨v1179, rfl, ho0, hb⟩; refine ⟨_, rfl, ?_⟩; have n0_ := Aside0.mk (Kd.S_lower ho0 (below_size HB.out)); have n1_ := Aside0.mk (blk_below (g := p5) (o := .cells #[.int .i64 a0_0, .slice A0_1 l0_1.length c0_1] 38 (0, 0)) p0.out hb); have n2_ := Aside0.mk (below_step HB.out hb); clear p0; clear HB; have HO1180 := n0_; have p0 := n1_; have HB := n2_; clear n0_ n1_ n2_; (try clear hb); (try clear hb2); (try clear hk); (try clear hi); (try clear ho0); obtain ⟨Ao10, co10, eo10⟩ := Kd.S_slice HO1180.out; subst eo10))
  go_loopg [3, 14] k (fun kq v3 v14 w' => ∃ (x3_1 : Int) (p3 : Int), v3 = .int .i64 x3_1 ∧ v14 = .int .i64 p3 ∧ Aside0 (impl_ReachFar.l0 kq x3_1 t1178 (t1178.length : Int) p3 = some r) ∧ Aside0 (kq ≤ k) ∧ Aside0 (Kd.S (Kd.slice 3 (Kd.int .i64)) 22 w' w.heap.size (fun _ => True) (.slice Ao10 t1178.length co10) t1178) ∧ Aside0 (w'.heap[p5]? = some (.cells #[.int .i64 a0_0, (.slice A0_1 l0_1.length c0_1)] 38 (0, 0))) ∧ Aside0 (Below w.heap.size w w'))
  case atStart => exact ⟨(0), (0), (by first | rfl | (simp; done) | (simp [*]; done)), (by first | rfl | (simp; done) | (simp [*]; done)), H', ⟨Nat.le_refl _⟩, ⟨by (with_reducible repeat (first | apply Kd.S_alloc | apply Kd.S_drewN | apply Kd.S_drew)); exact HO1180.out⟩, ⟨by (with_reducible repeat (first | refine blk_drewN ?_ _ | refine blk_drew ?_ | refine blk_alloc ?_ _)); exact p0.out⟩, ⟨by repeat (first | (with_reducible first | exact HB.out | apply below_alloc | apply pw_below_drewN | apply below_drew1 | refine below_set ?_ p8.out) | exact HB.out)⟩⟩
  case round =>
   clear H'
   try clear c1
   try clear p2
   try clear c3
   try clear c5
   try clear c6
   try clear c10
   try clear q5
   try clear q6
   try clear q9
   try clear r0
   try clear q7
   try clear q8
   try clear r1
   try clear r2
   obtain ⟨x3_1, p3, rfl, rfl, HA, HK1, p9, p0, HB⟩ := hrel
   cases gk with
   | zero => exact absurd HA.out (by simp [impl_ReachFar.l0])
   | succ k1 =>
    have H := HA.out
    clear HA
    simp only [impl_ReachFar.l0] at H
    by_cases c11 : p3 < (t1178.length : Int)
    ·rw [if_pos c11] at H
     have c11b0 : decide (p3 < (t1178.length : Int)) = true := decide_eq_true c11
     clear c11
     by_cases c12 : 0 ≤ p3
     ·rw [if_pos c12] at H
      have c12b0 : decide (0 ≤ p3) = true := decide_eq_true c12
      clear c12
      by_cases c13 : p3 < (t1178.length : Int)
      ·rw [if_pos c13] at H
       have c13b0 : decide (p3 < (t1178.length : Int)) = true := decide_eq_true c13
       clear c13
       have H' := Aside0.mk H
       clear H
       have p1181 : 0 ≤ (p3 : Int) := of_decide_eq_true (by first | (with_reducible assumption) | assumption)
       have q1181 : p3 < (t1178.length : Int) := of_decide_eq_true (by first | (with_reducible assumption) | assumption)
       obtain ⟨ad1181, A1181_0, c1181_0, e1181, q0, hl1181_0, hi1181_0⟩ := at_L1 (Kd.S_reads' p9.out).2.2 p3 p1181 q1181
       cases e1181
       obtain ⟨ce1181, r3, hMe1181, q2⟩ := Kd.S_get p9.out [] p3 p1181 (by first | exact q1181 | exact of_decide_eq_true (by first | (with_reducible assumption) | assumption) | (have e_ := (Kd.S_reads' p9.out).1; omega))
       obtain ⟨ve1181_0, rfl, ge1181_0⟩ := hMe1181
       have hv1181_0 := q2 0 _ rfl
       rw [Nat.add_zero, show ((Kd.slice 3 (Kd.int .i64))).sz = 1 from rfl, Nat.mul_one] at hv1181_0
       replace hv1181_0 := Option.some.inj (hv1181_0.symm.trans q0)
       rw [hv1181_0] at ge1181_0
       have HL1181_0 := Aside0.mk (show Kd.R (Kd.int .i64) 3 _ _ _ _ (rd_L1 t1178 p3) from ge1181_0)
       clear hv1181_0 ge1181_0
       clear q2 r3
       have p6 := Aside0.mk hi1181_0
       have HC1181_0 := Aside0.mk hl1181_0
       clear hi1181_0 hl1181_0
       replace p1181 := eq_true p1181
       replace q1181 := eq_true q1181
       go_wp2
       go_loopg [3, 20] k1 (fun kq v3 v20 w' => ∃ (x3_2 : Int) (p4 : Int), v3 = .int .i64 x3_2 ∧ v20 = .int .i64 p4 ∧ Aside0 (impl_ReachFar.l1 kq x3_2 t1178 (t1178.length : Int) p3 (rd_L1 t1178 p3) ((rd_L1 t1178 p3).length : Int) p4 = some r) ∧ Aside0 (kq ≤ k1) ∧ Aside0 (Kd.S (Kd.slice 3 (Kd.int .i64)) 22 w' w.heap.size (fun _ => True) (.slice (some ad1181) t1178.length co10) t1178) ∧ Aside0 (w'.heap[p5]? = some (.cells #[.int .i64 a0_0, (.slice A0_1 l0_1.length c0_1)] 38 (0, 0))) ∧ Aside0 (Kd.C (Kd.int .i64) w' A1181_0 (rd_L1 t1178 p3).length (rd_L1 t1178 p3)) ∧ Aside0 (Below w.heap.size w w'))
       case atStart => exact ⟨(x3_1), (0), (by first | rfl | (simp; done) | (simp [*]; done)), (by first | rfl | (simp; done) | (simp [*]; done)), H', ⟨Nat.le_refl _⟩, ⟨by (with_reducible repeat (first | apply Kd.S_alloc | apply Kd.S_drewN | apply Kd.S_drew)); exact p9.out⟩, ⟨by (with_reducible repeat (first | refine blk_drewN ?_ _ | refine blk_drew ?_ | refine blk_alloc ?_ _)); exact p0.out⟩, ⟨by repeat (first | (with_reducible exact p6.out) | (with_reducible refine Kd.C_alloc ?_ _) | (with_reducible refine Kd.C_drewN ?_ _) | (with_reducible refine Kd.C_drew ?_) | exact p6.out)⟩, ⟨by repeat (first | (with_reducible first | exact HB.out | apply below_alloc | apply pw_below_drewN | apply below_drew1 | refine below_set ?_ p8.out) | exact HB.out)⟩⟩
       case round =>
        clear H'
        try clear c1
        try clear p1
        try clear q1
        try clear hx1
        try clear p2
        try clear c3
        try clear c5
        try clear c6
        try clear c10
        try clear c11
        try clear c11b0
        try clear p11
        try clear q11
        try clear hx11
        try clear c12
        try clear c12b0
        try clear c13
        try clear c13b0
        try clear q5
        try clear q6
        try clear q9
        try clear r0
        try clear q7
        try clear q8
        try clear r1
        try clear r2
        try clear q0
        try clear p1181
        try clear p2
        try clear q1181
        obtain ⟨x3_2, p4, rfl, rfl, HA, HK2, p9, p0, p6, HB⟩ := hrel
        cases gk with
        | zero => exact absurd HA.out (by simp [impl_ReachFar.l1])
        | succ k2 =>
         have H := HA.out
         clear HA
         simp only [impl_ReachFar.l1] at H
         by_cases c14 : p4 < ((rd_L1 t1178 p3).length : Int)
         ·rw [if_pos c14] at H
          have c14b0 : decide (p4 < ((rd_L1 t1178 p3).length : Int)) = true := decide_eq_true c14
          clear c14
          by_cases c15 : 0 ≤ p4
          ·rw [if_pos c15] at H
           have c15b0 : decide (0 ≤ p4) = true := decide_eq_true c15
           clear c15
           by_cases c16 : p4 < ((rd_L1 t1178 p3).length : Int)
           ·rw [if_pos c16] at H
            have c16b0 : decide (p4 < ((rd_L1 t1178 p3).length : Int)) = true := decide_eq_true c16
            clear c16
            by_cases c17 : (rd (rd_L1 t1178 p3) p4) = 99999
            ·rw [if_pos c17] at H
             have c17b0 : ((rd (rd_L1 t1178 p3) p4) == 99999) = true := beq_iff_eq.mpr c17
             have c17b1 : ((rd (rd_L1 t1178 p3) p4) != 99999) = false := bne_eq_false_iff_eq.mpr c17
             clear c17
             have H' := Aside0.mk H
             clear H
             have p1182 : 0 ≤ (p4 : Int) := of_decide_eq_true (by first | (with_reducible assumption) | assumption)
             have q1182 : p4 < ((rd_L1 t1178 p3).length : Int) := of_decide_eq_true (by first | (with_reducible assumption) | assumption)
             obtain ⟨ad1182, e1182, p7⟩ := Kd.at_int p6.out p4 p1182 q1182
             cases e1182
             try replace p7 := (HB.out.cell (World.block_lt_of_cell? w _ p7)).trans p7
             replace p1182 := eq_true p1182
             replace q1182 := eq_true q1182
             go_wp2
             go_roundg k2
             case measure => have := HK1.out; have := HK2.out; omega
             case rel => exact ⟨(x3_2), (wrap64 (p4 + 1)), (by first | rfl | (simp; done) | (simp [*]; done)), (by first | rfl | (simp; done) | (simp [*]; done)), H', ⟨by have := HK1.out; have := HK2.out; omega⟩, ⟨by (with_reducible repeat (first | apply Kd.S_alloc | apply Kd.S_drewN | apply Kd.S_drew)); exact p9.out⟩, ⟨by (with_reducible repeat (first | refine blk_drewN ?_ _ | refine blk_drew ?_ | refine blk_alloc ?_ _)); exact p0.out⟩, ⟨by repeat (first | (with_reducible exact p6.out) | (with_reducible refine Kd.C_alloc ?_ _) | (with_reducible refine Kd.C_drewN ?_ _) | (with_reducible refine Kd.C_drew ?_) | exact p6.out)⟩, ⟨by repeat (first | (with_reducible first | exact HB.out | apply below_alloc | apply pw_below_drewN | apply below_drew1 | refine below_set ?_ p8.out) | exact HB.out)⟩⟩
            ·rw [if_neg c17] at H
             have c17b0 : ((rd (rd_L1 t1178 p3) p4) == 99999) = false := beq_eq_false_iff_ne.mpr c17
             have c17b1 : ((rd (rd_L1 t1178 p3) p4) != 99999) = true := bne_iff_ne.mpr c17
             obtain ⟨ji18, hji18⟩ : ∃ j_ : Int, (mx x3_2 (rd (rd_L1 t1178 p3) p4)) = j_ := ⟨_, rfl⟩
             replace H : (impl_ReachFar.l1 k2 ji18 t1178 (t1178.length : Int) p3 (rd_L1 t1178 p3) ((rd_L1 t1178 p3).length : Int) (wrap64 (p4 + 1))) = some r := by first | (rw [hji18] at H; exact H) | (simp only [hji18] at H ⊢; exact H)
             have hji18_ : (if x3_2 < (rd (rd_L1 t1178 p3) p4) then (rd (rd_L1 t1178 p3) p4) else x3_2) = ji18 := hji18
             have H' := Aside0.mk H
             clear H
             have p1182 : 0 ≤ (p4 : Int) := of_decide_eq_true (by first | (with_reducible assumption) | assumption)
             have q1182 : p4 < ((rd_L1 t1178 p3).length : Int) := of_decide_eq_true (by first | (with_reducible assumption) | assumption)
             obtain ⟨ad1182, e1182, p7⟩ := Kd.at_int p6.out p4 p1182 q1182
             cases e1182
             try replace p7 := (HB.out.cell (World.block_lt_of_cell? w _ p7)).trans p7
             replace p1182 := eq_true p1182
             replace q1182 := eq_true q1182
             go_wp2
             go_roundg k2
             case measure => have := HK1.out; have := HK2.out; omega
             case rel => exact ⟨(ji18), (wrap64 (p4 + 1)), (by first | rfl | (simp; done) | (simp only [← hji18] <;> (first | rfl | simp)) | (simp [*]; done)), (by first | rfl | (simp; done) | (simp [*]; done)), H', ⟨by have := HK1.out; have := HK2.out; omega⟩, ⟨by (with_reducible repeat (first | apply Kd.S_alloc | apply Kd.S_drewN | apply Kd.S_drew)); exact p9.out⟩, ⟨by (with_reducible repeat (first | refine blk_drewN ?_ _ | refine blk_drew ?_ | refine blk_alloc ?_ _)); exact p0.out⟩, ⟨by repeat (first | (with_reducible exact p6.out) | (with_reducible refine Kd.C_alloc ?_ _) | (with_reducible refine Kd.C_drewN ?_ _) | (with_reducible refine Kd.C_drew ?_) | exact p6.out)⟩, ⟨by repeat (first | (with_reducible first | exact HB.out | apply below_alloc | apply pw_below_drewN | apply below_drew1 | refine below_set ?_ p8.out) | exact HB.out)⟩⟩
           ·rw [if_neg c16] at H
            exact absurd H (by simp)
          ·rw [if_neg c15] at H
           exact absurd H (by simp)
         ·rw [if_neg c14] at H
          have c14b0 : decide (p4 < ((rd_L1 t1178 p3).length : Int)) = false := decide_eq_false c14
          clear c14
          have H' := Aside0.mk H
          clear H
          go_wp2
          go_roundg k2
          case measure => have := HK1.out; have := HK2.out; omega
          case rel => exact ⟨(x3_2), (wrap64 (p3 + 1)), (by first | rfl | (simp; done) | (simp [*]; done)), (by first | rfl | (simp; done) | (simp [*]; done)), H', ⟨by have := HK1.out; have := HK2.out; omega⟩, ⟨by (with_reducible repeat (first | apply Kd.S_alloc | apply Kd.S_drewN | apply Kd.S_drew)); exact p9.out⟩, ⟨by (with_reducible repeat (first | refine blk_drewN ?_ _ | refine blk_drew ?_ | refine blk_alloc ?_ _)); exact p0.out⟩, ⟨by repeat (first | (with_reducible first | exact HB.out | apply below_alloc | apply pw_below_drewN | apply below_drew1 | refine below_set ?_ p8.out) | exact HB.out)⟩⟩
      ·rw [if_neg c13] at H
       exact absurd H (by simp)
     ·rw [if_neg c12] at H
      exact absurd H (by simp)
    ·rw [if_neg c11] at H
     have c11b0 : decide (p3 < (t1178.length : Int)) = false := decide_eq_false c11
     clear c11
     obtain rfl := Option.some.inj H
     go_wp2
     go_ret
     exact ⟨by first | rfl | (simp [errW_none, errW_some] <;> rfl) | (simp [*, errW_none, errW_some] <;> rfl), by repeat (first | (with_reducible first | exact HB.out | apply below_alloc | apply pw_below_drewN | apply below_drew1 | refine below_set ?_ p8.out) | exact HB.out)⟩
 ·replace c3 := Bool.eq_false_iff.mpr c3
  subst c3
  have H1 : (some (-1)) = some r := by rw [if_neg (show ¬ (false = true) by decide)] at H; exact H
  clear H
  have H := H1
  clear H1
  obtain rfl := Option.some.inj H
  go_enter Try.func59, Try.ntmps59
  go_wp2_with (first | ((with_reducible refine gate_dst (N := 1) rfl ?_); refine box_event ?hg (N := 1) ?hd (cs := #[.int .i64 a0_0, .slice A0_1 l0_1.length c0_1]) (t := 38) ?hr ?_; (case hd => rfl); (case hg => rfl); (case hr => first | (go_simp; done) | (go_simp; rfl)); intro p5 hg w19 hbox hb; have n0_ := Aside0.mk (below_step HB.out hb); have n1_ := Aside0.mk (hbox); have n2_ := Aside0.mk ((by rw [hg]; exact (below_size HB.out) : w.heap.size ≤ p5)); have n3_ := Aside0.mk ((by rw [hg]; exact (below_size HB.out) : w.heap.size ≤ p5)); clear HB; have HB := n0_; have p0 := n1_; have GW1176 := n2_; have p8 := n3_; clear n0_ n1_ n2_ n3_; clear hb hbox hg; have hcz20_0 : w19.cell? ⟨p5, 0, none⟩ = some (.int .i64 a0_0) := (blk_cell p0.out 0).trans rfl; have hcz20_1 : w19.cell? ⟨p5, 1, none⟩ = some (.slice A0_1 l0_1.length c0_1) := (blk_cell p0.out 1).trans rfl; have hfz20_0 := blk_frozen p0.out 0; have hfz20_1 := blk_frozen p0.out 1) | ((with_reducible refine gate_callee (f := 67) rfl ?_); refine goesL_ (some 9) rfl rfl Try.func67 (by kernel_rfl) rfl #[.agg #[.int .i64 a0_0, .slice A0_1 l0_1.length c0_1]] rfl (by (try simp only [List.map_toArray, List.map_cons, List.map_nil]); first | done | rfl | (simp only [List.length_drop, List.length_take]; rfl)) ?_; (with_reducible refine (impl_NetOk.calls a0_0 _ _ l0_1 false _ ?side1 ?side2 A2.out).mono ?_); (case side1 => repeat (first | exact (Kd.C_below q3.out HB.out) | (with_reducible refine Kd.C_alloc ?_ _) | (with_reducible refine Kd.C_drewN ?_ _) | (with_reducible refine Kd.C_drew ?_))); (case side2 => exact q4.out); rintro e w21 ⟨rfl, hb⟩; refine ⟨_, rfl, ?_⟩; have n0_ := Aside0.mk (blk_below (g := p5) (o := .cells #[.int .i64 a0_0, .slice A0_1 l0_1.length c0_1] 38 (0, 0)) p0.out hb); have n1_ := Aside0.mk (below_step HB.out hb); clear p0; clear HB; have p0 := n0_; have HB := n1_; clear n0_ n1_; (try clear hb); (try clear hb2); (try clear hk); (try clear hi)))
  go_ret
  exact ⟨by first | rfl | (simp [errW_none, errW_some] <;> rfl) | (simp [*, errW_none, errW_some] <;> rfl), by repeat (first | (with_reducible first | exact HB.out | apply below_alloc | apply pw_below_drewN | apply below_drew1 | refine below_set ?_ p8.out) | exact HB.out)⟩
end Go.Proofs.Ytmabopomecdidaa.Pr
end
section
namespace Go.Proofs.Ytmabopomecdidaa.Pr
open Go.RowKit Go.Proofs.YtmabopomecdidaaW.PrintWords Go.Proofs.YtmabopomecdidaaW.PrintLast Go.Proofs.YtmabopomecdidaaW.PrintMore
attribute [local go_sem] max2_int min2_int max_two min_two max_three min_three max_four min_four
set_option linter.unusedVariables false
set_option linter.unusedSimpArgs false
mutual
def laws_FnRingLong.j0 : Nat → List Int → List Int → Bool → Option (Bool)
 | 0, _, _, _ => none
 | k + 1, x0, x1, x19 => if x19 = true then (some true) else ((spec_DrawRingLong.f k x0).bind fun bt1183 => ((impl_RingLong.f k bt1183.1 bt1183.2).bind fun t1188 => ((spec_RingLong.f k bt1183.1 bt1183.2).bind fun t1189 => (if t1188 = t1189 then (laws_FnRingLong.j1 k x1 t1188 (decide (t1188 < 0)) bt1183.1 bt1183.2) else (laws_FnRingLong.j1 k x1 t1188 true bt1183.1 bt1183.2)))))
def laws_FnRingLong.j1 : Nat → List Int → Int → Bool → Int → List (S45) → Option (Bool)
 | 0, _, _, _, _, _ => none
 | k + 1, x1, x6, x31, p5, p7 => if x31 = true then ((spec_RingLong.f k p5 p7).bind fun t1190 => (some (x6 == t1190))) else (if p5 = 0 then (none) else (laws_FnRingLong.l0 k x1 x6 ((x1.length : Int) % p5) (([] : List Int)) 0 p5 p7))
def laws_FnRingLong.j3 : Nat → Int → List Int → Int → List (S45) → Option (Bool)
 | 0, _, _, _, _ => none
 | k + 1, x6, x8, p5, p7 => (impl_WalkCost.f k p5 p7 x8).bind fun t1202 => (if t1202 ≤ x6 then ((impl_NetBack.f k p5 p7).bind fun bt1203 => ((impl_RingLong.f k bt1203.1 bt1203.2).bind fun t1207 => (if t1207 = x6 then ((impl_ReachFar.f k p5 p7).bind fun t1208 => (some (decide (x6 ≥ t1208)))) else (some false)))) else (some false))
def laws_FnRingLong.l0 : Nat → List Int → Int → Int → List Int → Int → Int → List (S45) → Option (Bool)
 | 0, _, _, _, _, _, _, _ => none
 | k + 1, x1, x6, x7, x8, x9, p5, p7 => if x9 < p5 then ((impl_NetOut.f k p5 p7 x7).bind fun t1194 => (if (t1194.length : Int) = 0 then (laws_FnRingLong.j3 k x6 x8 p5 p7) else (if 0 ≤ (Int.tmod (wrap64 ((wrap64 ((x1.length : Int) / 7)) + x9)) (t1194.length : Int)) then (if (Int.tmod (wrap64 ((wrap64 ((x1.length : Int) / 7)) + x9)) (t1194.length : Int)) < (t1194.length : Int) then (if x8.length < 17592186044416 then (if 0 ≤ (rd t1194 (Int.tmod (wrap64 ((wrap64 ((x1.length : Int) / 7)) + x9)) (t1194.length : Int))) then (if (rd t1194 (Int.tmod (wrap64 ((wrap64 ((x1.length : Int) / 7)) + x9)) (t1194.length : Int))) < (p7.length : Int) then (laws_FnRingLong.l0 k x1 x6 ((rd_T45 p7 (rd t1194 (Int.tmod (wrap64 ((wrap64 ((x1.length : Int) / 7)) + x9)) (t1194.length : Int)))).f1) (x8 ++ [rd t1194 (Int.tmod (wrap64 ((wrap64 ((x1.length : Int) / 7)) + x9)) (t1194.length : Int))]) (wrap64 (x9 + 1)) p5 p7) else (none)) else (none)) else (none)) else (none)) else (none)))) else (laws_FnRingLong.j3 k x6 x8 p5 p7)
end
def laws_FnRingLong.f (k : Nat) (l0 : List Int) (l1 : List Int) : Option (Bool) := if (l0.length : Int) > 1048576 then (laws_FnRingLong.j0 k l0 l1 true) else (laws_FnRingLong.j0 k l0 l1 (decide ((l1.length : Int) > 1048576)))
set_option maxHeartbeats 8000000 in
set_option maxRecDepth 100000 in
theorem laws_FnRingLong.calls (k : Nat) (A0 : Option Addr) (c0 : Nat) (l0 : List Int) (A1 : Option Addr) (c1 : Nat) (l1 : List Int) (r : Bool) (w : World) (hr0 : Kd.C (Kd.int .u8) w A0 l0.length l0) (hc0 : l0.length ≤ c0) (hr1 : Kd.C (Kd.int .u8) w A1 l1.length l1) (hc1 : l1.length ≤ c1) (h : laws_FnRingLong.f k l0 l1 = some r) :
  Calls Try.prog 14 #[.slice A0 l0.length c0, .slice A1 l1.length c1] w fun e w' => e = .returned (.bool r) ∧ Below w.heap.size w w' := by
 have hu38 := Try.underlying38
 have HR0 := Aside0.mk hr0
 have HC0 := Aside0.mk hc0
 clear hr0 hc0
 have HR1 := Aside0.mk hr1
 have HC1 := Aside0.mk hc1
 clear hr1 hc1
 have HB := Aside0.mk (Below.refl w.heap.size w)
 have H : (if (l0.length : Int) > 1048576 then (laws_FnRingLong.j0 k l0 l1 true) else (laws_FnRingLong.j0 k l0 l1 (decide ((l1.length : Int) > 1048576)))) = some r := h
 clear h
 have HC3 := Aside0.mk H
 clear H
 go_enter Try.func14, Try.ntmps14
 go_upto_region 1 with (fail)
 go_cut [19] (fun v19 wc => ∃ (kq : Nat) (r3 : Bool), v19 = .bool r3 ∧ Aside0 (laws_FnRingLong.j0 kq l0 l1 r3 = some r) ∧ Aside0 (kq ≤ k) ∧ Aside0 (Below w.heap.size w wc))
 case first =>
  have H := HC3.out
  clear HC3
  by_cases c4 : (l0.length : Int) > 1048576
  ·rw [if_pos c4] at H
   have c4b0 : decide (1048576 < (l0.length : Int)) = true := decide_eq_true c4
   have c4b1 : decide (1048576 < l0.length) = true := decide_eq_true (by omega)
   clear c4
   (first | rw [c4b0] | (simp only [i64_w, i32_w]; rw [c4b0]) | skip)
   have H' := Aside0.mk H
   clear H
   go_wp2
   go_meet
   case rel => exact ⟨_, (true), (by first | rfl | (simp; done) | (simp [*]; done)), H', ⟨by first | omega | exact Nat.le_refl _⟩, ⟨by repeat (first | (with_reducible first | exact HB.out | apply below_alloc | apply pw_below_drewN | apply below_drew1) | exact HB.out)⟩⟩
  ·rw [if_neg c4] at H
   have c4b0 : decide (1048576 < (l0.length : Int)) = false := decide_eq_false c4
   have c4b1 : decide (1048576 < l0.length) = false := decide_eq_false (by omega)
   clear c4
   (first | rw [c4b0] | (simp only [i64_w, i32_w]; rw [c4b0]) | skip)
   have H' := Aside0.mk H
   clear H
   go_wp2
   go_meet
   case rel => exact ⟨_, (decide ((l1.length : Int) > 1048576)), (by first | rfl | (simp; done) | (simp [*]; done)), H', ⟨by first | omega | exact Nat.le_refl _⟩, ⟨by repeat (first | (with_reducible first | exact HB.out | apply below_alloc | apply pw_below_drewN | apply below_drew1) | exact HB.out)⟩⟩
 case rest =>
  clear HC3
  try clear c1
  try clear p2
  try clear c4
  try clear c4b0
  try clear c4b1
  obtain ⟨kq, r3, rfl, HA, HJ2, HB⟩ := hcut
  cases kq with
  | zero => exact absurd HA.out (by simp [laws_FnRingLong.j0])
  | succ kj2 =>
   have H := HA.out
   clear HA
   simp only [laws_FnRingLong.j0] at H
   by_cases c5 : r3 = true
   ·subst c5
    have H1 : (some true) = some r := by rw [if_pos rfl] at H; exact H
    clear H
    have H := H1
    clear H1
    obtain rfl := Option.some.inj H
    go_wp2
    go_ret
    exact ⟨by first | rfl | (simp [errW_none, errW_some] <;> rfl) | (simp [*, errW_none, errW_some] <;> rfl), by repeat (first | (with_reducible first | exact HB.out | apply below_alloc | apply pw_below_drewN | apply below_drew1) | exact HB.out)⟩
   ·replace c5 := Bool.eq_false_iff.mpr c5
    subst c5
    have H1 : ((spec_DrawRingLong.f kj2 l0).bind fun bt1183 => ((impl_RingLong.f kj2 bt1183.1 bt1183.2).bind fun t1188 => ((spec_RingLong.f kj2 bt1183.1 bt1183.2).bind fun t1189 => (if t1188 = t1189 then (laws_FnRingLong.j1 kj2 l1 t1188 (decide (t1188 < 0)) bt1183.1 bt1183.2) else (laws_FnRingLong.j1 kj2 l1 t1188 true bt1183.1 bt1183.2))))) = some r := by rw [if_neg (show ¬ (false = true) by decide)] at H; exact H
    clear H
    have H := H1
    clear H1
    replace H := Option.bind_eq_some_iff.mp H
    obtain ⟨⟨t1183, t1184⟩, A60, H⟩ := H
    replace H : ((impl_RingLong.f kj2 t1183 t1184).bind fun t1188 => ((spec_RingLong.f kj2 t1183 t1184).bind fun t1189 => (if t1188 = t1189 then (laws_FnRingLong.j1 kj2 l1 t1188 (decide (t1188 < 0)) t1183 t1184) else (laws_FnRingLong.j1 kj2 l1 t1188 true t1183 t1184)))) = some r := H
    have A6 := Aside0.mk A60
    clear A60
    replace H := Option.bind_eq_some_iff.mp H
    obtain ⟨t1188, A70, H⟩ := H
    replace H : ((spec_RingLong.f kj2 t1183 t1184).bind fun t1189 => (if t1188 = t1189 then (laws_FnRingLong.j1 kj2 l1 t1188 (decide (t1188 < 0)) t1183 t1184) else (laws_FnRingLong.j1 kj2 l1 t1188 true t1183 t1184))) = some r := H
    have A7 := Aside0.mk A70
    clear A70
    have HC8 := Aside0.mk H
    clear H
    go_upto_region 5 with (first | ((with_reducible refine gate_callee (f := 56) rfl ?_); refine goesL_ (some 21) rfl rfl Try.func56 (by kernel_rfl) rfl #[.slice A0 l0.length c0] rfl (by (try simp only [List.map_toArray, List.map_cons, List.map_nil]); first | done | rfl | (simp only [List.length_drop, List.length_take]; rfl)) ?_; (with_reducible refine (spec_DrawRingLong.calls kj2 _ _ l0 t1183 t1184 _ ?side1 ?side2 A6.out).mono ?_); (case side1 => repeat (first | exact (Kd.C_below HR0.out HB.out) | (with_reducible refine Kd.C_alloc ?_ _) | (with_reducible refine Kd.C_drewN ?_ _) | (with_reducible refine Kd.C_drew ?_))); (case side2 => exact HC0.out); rintro e w9 ⟨v1185, rfl, ho0, hb⟩; refine ⟨_, rfl, ?_⟩; have n0_ := Aside0.mk (Kd.R_lower ho0 (below_size HB.out)); have n1_ := Aside0.mk (below_step HB.out hb); clear HB; have HO1186 := n0_; have HB := n1_; clear n0_ n1_; (try clear hb); (try clear hb2); (try clear hk); (try clear hi); (try clear ho0)) | ((with_reducible refine gate_dst (N := 5) rfl ?_); (try (refine gate_guard (by rfl) ?_; dsimp only)); refine box_event ?hg (N := 5) ?hd (cs := #[.int .i64 0, .slice none 0 0]) (t := 38) ?hr ?_; (case hd => rfl); (case hg => rfl); (case hr => first | (go_simp; done) | (go_simp; rfl)); intro p4 hg w10 hbox hb; have n0_ := Aside0.mk (Kd.R_below HO1186.out hb); have n1_ := Aside0.mk (below_step HB.out hb); have n2_ := Aside0.mk (hbox); have n3_ := Aside0.mk ((by rw [hg]; exact (below_size HB.out) : w.heap.size ≤ p4)); have n4_ := Aside0.mk ((by rw [hg]; exact (below_size HB.out) : w.heap.size ≤ p4)); clear HO1186; clear HB; have HO1186 := n0_; have HB := n1_; have p3 := n2_; have GW1187 := n3_; have p8 := n4_; clear n0_ n1_ n2_ n3_ n4_; clear hb hbox hg; have q0 : w10.cell? ⟨p4, 0, none⟩ = some (.int .i64 0) := (blk_cell p3.out 0).trans rfl; have q2 : w10.cell? ⟨p4, 1, none⟩ = some (.slice none 0 0) := (blk_cell p3.out 1).trans rfl; have q3 := blk_frozen p3.out 0; have q4 := blk_frozen p3.out 1; obtain ⟨Ao12, co12, eo12⟩ := Kd.R_slice HO1186.out; subst eo12) | ((with_reducible refine gate_callee (f := 44) rfl ?_); refine goesL_ (some 23) rfl rfl Try.func44 (by kernel_rfl) rfl #[.agg #[.int .i64 t1183, .slice Ao12 t1184.length co12]] rfl (by (try simp only [List.map_toArray, List.map_cons, List.map_nil]); first | done | rfl | (simp only [List.length_drop, List.length_take]; rfl)) ?_; (with_reducible refine (impl_RingLong.calls kj2 t1183 _ _ t1184 t1188 _ ?side1 ?side2 A7.out).mono ?_); (case side1 => refine (Kd.R_reads' (e := 45) (base := w.heap.size) (ok := fun k_ => True) (n := t1184.length) (c := co12) ?_).2.2; exact (Kd.R_mono (Kd.R_far (p := ⟨p4, 1, none⟩) (Kd.R_far (p := ⟨p4, 0, none⟩) (Kd.R_types HO1186.out p3.out (by decide)) (fun _ hk => hk.2) (.int .i64 t1183)) (fun _ hk => hk.2) (.slice Ao12 t1184.length co12)) (fun _ h_ => h_.1))); (case side2 => exact (Kd.R_reads' HO1186.out).2.1); rintro e w13 ⟨rfl, hb⟩; refine ⟨_, rfl, ?_⟩; have n0_ := Aside0.mk (Kd.R_below (Kd.R_mono (Kd.R_far (p := ⟨p4, 1, none⟩) (Kd.R_far (p := ⟨p4, 0, none⟩) (Kd.R_types HO1186.out p3.out (by decide)) (fun _ hk => hk.2) (.int .i64 t1183)) (fun _ hk => hk.2) (.slice Ao12 t1184.length co12)) (fun _ h_ => h_.1)) hb); have n1_ := Aside0.mk (blk_below (g := p4) (o := .cells #[.int .i64 t1183, .slice Ao12 t1184.length co12] 38 (0, 0)) (by (with_reducible repeat (first | refine blk_drewN ?_ _ | refine blk_drew ?_ | refine blk_alloc ?_ _)); refine blk_put (cs := #[.int .i64 t1183, .slice none 0 0]) ?_ 1 _ rfl; (with_reducible repeat (first | refine blk_drewN ?_ _ | refine blk_drew ?_ | refine blk_alloc ?_ _)); refine blk_put (cs := #[.int .i64 0, .slice none 0 0]) ?_ 0 _ rfl; (with_reducible repeat (first | refine blk_drewN ?_ _ | refine blk_drew ?_ | refine blk_alloc ?_ _)); exact p3.out) hb); have n2_ := Aside0.mk (below_step (by repeat (first | (with_reducible first | exact HB.out | apply below_alloc | apply pw_below_drewN | apply below_drew1 | refine below_set ?_ p8.out) | exact HB.out)) hb); clear HO1186; clear p3; clear HB; have HO1186 := n0_; have p3 := n1_; have HB := n2_; clear n0_ n1_ n2_; (try clear hb); (try clear hb2); (try clear hk); (try clear hi)))
    (try simp only [Act.put, List.setIfInBounds_toArray, List.set_cons_zero, List.set_cons_succ])
    go_cut [31] (fun v31 wc => ∃ (kq : Nat) (r4 : Bool), v31 = .bool r4 ∧ Aside0 (laws_FnRingLong.j1 kq l1 t1188 r4 t1183 t1184 = some r) ∧ Aside0 (kq ≤ kj2) ∧ Aside0 (Kd.R k45 45 wc w.heap.size (fun _ => True) (.slice Ao12 t1184.length co12) t1184) ∧ Aside0 (wc.heap[p4]? = some (.cells #[.int .i64 t1183, (.slice Ao12 t1184.length co12)] 38 (0, 0))) ∧ Aside0 (Below w.heap.size w wc))
    case first =>
     have H := HC8.out
     clear HC8
     replace H := Option.bind_eq_some_iff.mp H
     obtain ⟨t1189, A140, H⟩ := H
     replace H : (if t1188 = t1189 then (laws_FnRingLong.j1 kj2 l1 t1188 (decide (t1188 < 0)) t1183 t1184) else (laws_FnRingLong.j1 kj2 l1 t1188 true t1183 t1184)) = some r := H
     have A14 := Aside0.mk A140
     clear A140
     by_cases c15 : t1188 = t1189
     ·rw [if_pos c15] at H
      have c15b0 : (t1188 == t1189) = true := beq_iff_eq.mpr c15
      have c15b1 : (t1188 != t1189) = false := bne_eq_false_iff_eq.mpr c15
      clear c15
      (first | rw [c15b0] | (simp only [i64_w, i32_w]; rw [c15b0]) | skip)
      have H' := Aside0.mk H
      clear H
      have q5 : w13.cell? ⟨p4, 0, none⟩ = some (.int .i64 t1183) := (blk_cell p3.out 0).trans rfl
      have q6 : w13.cell? ⟨p4, 1, none⟩ = some (.slice Ao12 t1184.length co12) := (blk_cell p3.out 1).trans rfl
      have q7 := blk_frozen p3.out 0
      have q8 := blk_frozen p3.out 1
      go_wp2_with (first | ((with_reducible refine gate_callee (f := 43) rfl ?_); refine goesL_ (some 26) rfl rfl Try.func43 (by kernel_rfl) rfl #[.agg #[.int .i64 t1183, .slice Ao12 t1184.length co12]] rfl (by (try simp only [List.map_toArray, List.map_cons, List.map_nil]); first | done | rfl | (simp only [List.length_drop, List.length_take]; rfl)) ?_; (with_reducible refine (spec_RingLong.calls kj2 t1183 _ _ t1184 t1189 _ ?side1 ?side2 A14.out).mono ?_); (case side1 => repeat (first | exact (Kd.R_reads' HO1186.out).2.2 | (with_reducible refine Kd.C_alloc ?_ _) | (with_reducible refine Kd.C_drewN ?_ _) | (with_reducible refine Kd.C_drew ?_))); (case side2 => exact (Kd.R_reads' HO1186.out).2.1); rintro e w17 ⟨rfl, hb⟩; refine ⟨_, rfl, ?_⟩; have n0_ := Aside0.mk (Kd.R_below HO1186.out hb); have n1_ := Aside0.mk (blk_below (g := p4) (o := .cells #[.int .i64 t1183, .slice Ao12 t1184.length co12] 38 (0, 0)) p3.out hb); have n2_ := Aside0.mk (below_step HB.out hb); clear HO1186; clear p3; clear HB; have HO1186 := n0_; have p3 := n1_; have HB := n2_; clear n0_ n1_ n2_; (try clear hb); (try clear hb2); (try clear hk); (try clear hi)))
      go_meet
      case rel => exact ⟨_, (decide (t1188 < 0)), (by first | rfl | (simp; done) | (simp [*]; done)), H', ⟨by have := HJ2.out; first | omega | exact Nat.le_refl _⟩, ⟨by (with_reducible repeat (first | apply Kd.R_alloc | apply Kd.R_drewN | apply Kd.R_drew)); exact HO1186.out⟩, ⟨by (with_reducible repeat (first | refine blk_drewN ?_ _ | refine blk_drew ?_ | refine blk_alloc ?_ _)); exact p3.out⟩, ⟨by repeat (first | (with_reducible first | exact HB.out | apply below_alloc | apply pw_below_drewN | apply below_drew1 | refine below_set ?_ p8.out) | exact HB.out)⟩⟩
     ·rw [if_neg c15] at H
      have c15b0 : (t1188 == t1189) = false := beq_eq_false_iff_ne.mpr c15
      have c15b1 : (t1188 != t1189) = true := bne_iff_ne.mpr c15
      (first | rw [c15b0] | (simp only [i64_w, i32_w]; rw [c15b0]) | skip)
      have H' := Aside0.mk H
      clear H
      have q9 : w13.cell? ⟨p4, 0, none⟩ = some (.int .i64 t1183) := (blk_cell p3.out 0).trans rfl
      have r0 : w13.cell? ⟨p4, 1, none⟩ = some (.slice Ao12 t1184.length co12) := (blk_cell p3.out 1).trans rfl
      have r1 := blk_frozen p3.out 0
      have r2 := blk_frozen p3.out 1
      go_wp2_with (first | ((with_reducible refine gate_callee (f := 43) rfl ?_); refine goesL_ (some 26) rfl rfl Try.func43 (by kernel_rfl) rfl #[.agg #[.int .i64 t1183, .slice Ao12 t1184.length co12]] rfl (by (try simp only [List.map_toArray, List.map_cons, List.map_nil]); first | done | rfl | (simp only [List.length_drop, List.length_take]; rfl)) ?_; (with_reducible refine (spec_RingLong.calls kj2 t1183 _ _ t1184 t1189 _ ?side1 ?side2 A14.out).mono ?_); (case side1 => repeat (first | exact (Kd.R_reads' HO1186.out).2.2 | (with_reducible refine Kd.C_alloc ?_ _) | (with_reducible refine Kd.C_drewN ?_ _) | (with_reducible refine Kd.C_drew ?_))); (case side2 => exact (Kd.R_reads' HO1186.out).2.1); rintro e w19 ⟨rfl, hb⟩; refine ⟨_, rfl, ?_⟩; have n0_ := Aside0.mk (Kd.R_below HO1186.out hb); have n1_ := Aside0.mk (blk_below (g := p4) (o := .cells #[.int .i64 t1183, .slice Ao12 t1184.length co12] 38 (0, 0)) p3.out hb); have n2_ := Aside0.mk (below_step HB.out hb); clear HO1186; clear p3; clear HB; have HO1186 := n0_; have p3 := n1_; have HB := n2_; clear n0_ n1_ n2_; (try clear hb); (try clear hb2); (try clear hk); (try clear hi)))
      go_meet
      case rel => exact ⟨_, (true), (by first | rfl | (simp; done) | (simp [*]; done)), H', ⟨by have := HJ2.out; first | omega | exact Nat.le_refl _⟩, ⟨by (with_reducible repeat (first | apply Kd.R_alloc | apply Kd.R_drewN | apply Kd.R_drew)); exact HO1186.out⟩, ⟨by (with_reducible repeat (first | refine blk_drewN ?_ _ | refine blk_drew ?_ | refine blk_alloc ?_ _)); exact p3.out⟩, ⟨by repeat (first | (with_reducible first | exact HB.out | apply below_alloc | apply pw_below_drewN | apply below_drew1 | refine below_set ?_ p8.out) | exact HB.out)⟩⟩
    case rest =>
     clear HC8
     try clear c1
     try clear p2
     try clear c4
     try clear c4b0
     try clear c4b1
     try clear c5
     try clear c14
     try clear c15
     try clear c15b0
     try clear c15b1
     try clear q0
     try clear q2
     try clear q5
     try clear q6
     try clear q9
     try clear r0
     try clear q3
     try clear q4
     try clear q7
     try clear q8
     try clear r1
     try clear r2
     try clear p2
     obtain ⟨kq, r4, rfl, HA, HJ7, p0, p3, HB⟩ := hcut
     cases kq with
     | zero => exact absurd HA.out (by simp [laws_FnRingLong.j1])
     | succ kj7 =>
      have H := HA.out
      clear HA
      simp only [laws_FnRingLong.j1] at H
      by_cases c20 : r4 = true
      ·subst c20
       have H1 : ((spec_RingLong.f kj7 t1183 t1184).bind fun t1190 => (some (t1188 == t1190))) = some r := by rw [if_pos rfl] at H; exact H
       clear H
       have H := H1
       clear H1
       replace H := Option.bind_eq_some_iff.mp H
       obtain ⟨t1190, A210, H⟩ := H
       replace H : (some (t1188 == t1190)) = some r := H
       have A21 := Aside0.mk A210
       clear A210
       obtain rfl := Option.some.inj H
       have r5 : wc.cell? ⟨p4, 0, none⟩ = some (.int .i64 t1183) := (blk_cell p3.out 0).trans rfl
       have r6 : wc.cell? ⟨p4, 1, none⟩ = some (.slice Ao12 t1184.length co12) := (blk_cell p3.out 1).trans rfl
       have r7 := blk_frozen p3.out 0
       have r8 := blk_frozen p3.out 1
       go_wp2_with (first | ((with_reducible refine gate_callee (f := 43) rfl ?_); refine goesL_ (some 34) rfl rfl Try.func43 (by kernel_rfl) rfl #[.agg #[.int .i64 t1183, .slice Ao12 t1184.length co12]] rfl (by (try simp only [List.map_toArray, List.map_cons, List.map_nil]); first | done | rfl | (simp only [List.length_drop, List.length_take]; rfl)) ?_; (with_reducible refine (spec_RingLong.calls kj7 t1183 _ _ t1184 t1190 _ ?side1 ?side2 A21.out).mono ?_); (case side1 => repeat (first | exact (Kd.R_reads' p0.out).2.2 | (with_reducible refine Kd.C_alloc ?_ _) | (with_reducible refine Kd.C_drewN ?_ _) | (with_reducible refine Kd.C_drew ?_))); (case side2 => exact (Kd.R_reads' p0.out).2.1); rintro e w23 ⟨rfl, hb⟩; refine ⟨_, rfl, ?_⟩; have n0_ := Aside0.mk (Kd.R_below p0.out hb); have n1_ := Aside0.mk (blk_below (g := p4) (o := .cells #[.int .i64 t1183, .slice Ao12 t1184.length co12] 38 (0, 0)) p3.out hb); have n2_ := Aside0.mk (below_step HB.out hb); clear p0; clear p3; clear HB; have p0 := n0_; have p3 := n1_; have HB := n2_; clear n0_ n1_ n2_; (try clear hb); (try clear hb2); (try clear hk); (try clear hi)))
       go_ret
       exact ⟨by first | rfl | (simp [errW_none, errW_some] <;> rfl) | (simp [*, errW_none, errW_some] <;> rfl), by repeat (first | (with_reducible first | exact HB.out | apply below_alloc | apply pw_below_drewN | apply below_drew1 | refine below_set ?_ p8.out) | exact HB.out)⟩
      ·replace c20 := Bool.eq_false_iff.mpr c20
       subst c20
       have H1 : (if t1183 = 0 then (none) else (laws_FnRingLong.l0 kj7 l1 t1188 ((l1.length : Int) % t1183) (([] : List Int)) 0 t1183 t1184)) = some r := by rw [if_neg (show ¬ (false = true) by decide)] at H; exact H
       clear H
       have H := H1
       clear H1
       by_cases c24 : t1183 = 0
       ·rw [if_pos c24] at H
        exact absurd H (by simp)
       ·rw [if_neg c24] at H
        have c24b0 : (t1183 == 0) = false := beq_eq_false_iff_ne.mpr c24
        have c24b1 : (t1183 != 0) = true := bne_iff_ne.mpr c24
        obtain ⟨y1191, hy1191⟩ : ∃ y_ : List Int, y_ = (([] : List Int)) := ⟨_, rfl⟩
        replace H : (laws_FnRingLong.l0 kj7 l1 t1188 ((l1.length : Int) % t1183) y1191 0 t1183 t1184) = some r := by first | (rw [hy1191]; with_reducible exact H) | (have H2_ := (Option.bind_some _ _).symm.trans H; rw [hy1191]; with_reducible exact H2_) | (have H2_ := (Option.bind_some _ _).symm.trans H; with_reducible exact H2_) | with_reducible exact H | (rw [hy1191]; exact H) | exact H
        have s3 := Aside0.mk hy1191
        clear hy1191
        have HC25 := Aside0.mk H
        clear H
        have r9 : wc.cell? ⟨p4, 0, none⟩ = some (.int .i64 t1183) := (blk_cell p3.out 0).trans rfl
        have s0 : wc.cell? ⟨p4, 1, none⟩ = some (.slice Ao12 t1184.length co12) := (blk_cell p3.out 1).trans rfl
        have s1 := blk_frozen p3.out 0
        have s2 := blk_frozen p3.out 1
        go_upto_block 0 with (first | ((with_reducible refine gate_dst (N := 41) rfl ?_); (try (refine gate_guard (by rfl) ?_; dsimp only)); refine Kd.R_lit (Kd.int .i64) _ 3 ?hg (N := 41) ?hd (xs := ([] : List Int)) (inner := []) (ok := fun _ => True) (okp := fun _ => True) ?hr ?hp (fun _ hk => hk) trivial (Below.refl _ _) (Nat.le_refl _) (by simp) ?_; (case hd => rfl); (case hg => rfl); (case hr => first | (go_simp; done) | (go_simp; rfl)); (case hp => exact (Reps.none _ _)); intro v1192 w27 ho28 hb hg_ hnew_; clear hg_ hnew_; (first | rw [← s3.out] at ho28 | (simp only [Int.reduceToNat] at ho28; rw [← s3.out] at ho28)); have n0_ := Aside0.mk (Kd.R_below p0.out hb); have n1_ := Aside0.mk (Kd.R_lower ho28 (below_size HB.out)); have n2_ := Aside0.mk (blk_below (g := p4) (o := .cells #[.int .i64 t1183, .slice Ao12 t1184.length co12] 38 (0, 0)) p3.out hb); have n3_ := Aside0.mk (below_step HB.out hb); clear p0; clear p3; clear HB; have p0 := n0_; have HO1193 := n1_; have p3 := n2_; have HB := n3_; clear n0_ n1_ n2_ n3_; clear hb ho28))
        (try simp only [Act.put, List.setIfInBounds_toArray, List.set_cons_zero, List.set_cons_succ])
        go_cut [8] (fun v8 wc => ∃ (kq : Nat) (p9 : List Int), Aside0 (laws_FnRingLong.j3 kq t1188 p9 t1183 t1184 = some r) ∧ Aside0 (kq ≤ kj7) ∧ Aside0 (Kd.R (Kd.int .i64) 3 wc w.heap.size (fun _ => True) v8 p9) ∧ Aside0 (Kd.R k45 45 wc w.heap.size (fun _ => True) (.slice Ao12 t1184.length co12) t1184) ∧ Aside0 (wc.heap[p4]? = some (.cells #[.int .i64 t1183, (.slice Ao12 t1184.length co12)] 38 (0, 0))) ∧ Aside0 (Below w.heap.size w wc))
        case first =>
         have H := HC25.out
         clear HC25
         have H' := Aside0.mk H
         clear H
         go_wp2
         go_loopg [7, 8, 9] kj7 (fun kq v7 v8 v9 w' => ∃ (x7_3 : Int) (x8_3 : List Int) (x9_3 : Int), v7 = .int .i64 x7_3 ∧ v9 = .int .i64 x9_3 ∧ Aside0 (laws_FnRingLong.l0 kq l1 t1188 x7_3 x8_3 x9_3 t1183 t1184 = some r) ∧ Aside0 (kq ≤ kj7) ∧ Aside0 (Kd.R (Kd.int .i64) 3 w' w.heap.size (fun _ => True) v8 x8_3) ∧ Aside0 (Kd.R k45 45 w' w.heap.size (fun _ => True) (.slice Ao12 t1184.length co12) t1184) ∧ Aside0 (w'.heap[p4]? = some (.cells #[.int .i64 t1183, (.slice Ao12 t1184.length co12)] 38 (0, 0))) ∧ Aside0 (Below w.heap.size w w'))
         case atStart => exact ⟨((l1.length : Int) % t1183), (y1191), (0), (by first | rfl | (simp; done) | (simp [*]; done)), (by first | rfl | (simp; done) | (simp [*]; done)), H', ⟨Nat.le_refl _⟩, ⟨by (with_reducible repeat (first | apply Kd.R_alloc | apply Kd.R_drewN | apply Kd.R_drew)); exact HO1193.out⟩, ⟨by (with_reducible repeat (first | apply Kd.R_alloc | apply Kd.R_drewN | apply Kd.R_drew)); exact p0.out⟩, ⟨by (with_reducible repeat (first | refine blk_drewN ?_ _ | refine blk_drew ?_ | refine blk_alloc ?_ _)); exact p3.out⟩, ⟨by repeat (first | (with_reducible first | exact HB.out | apply below_alloc | apply pw_below_drewN | apply below_drew1 | refine below_set ?_ p8.out) | exact HB.out)⟩⟩
         case round =>
          clear H'
          try clear c1
          try clear c2
          try clear p2
          try clear c4
          try clear c4b0
          try clear c4b1
          try clear c5
          try clear c14
          try clear c15
          try clear c15b0
          try clear c15b1
          try clear c20
          try clear c24
          try clear c24b0
          try clear c24b1
          try clear q0
          try clear q2
          try clear q5
          try clear q6
          try clear q9
          try clear r0
          try clear r5
          try clear r6
          try clear r9
          try clear s0
          try clear q3
          try clear q4
          try clear q7
          try clear q8
          try clear r1
          try clear r2
          try clear r7
          try clear r8
          try clear s1
          try clear s2
          try clear p2
          obtain ⟨x7_3, x8_3, x9_3, rfl, rfl, HA, HK3, HO_8, p0, p3, HB⟩ := hrel
          cases gk with
          | zero => exact absurd HA.out (by simp [laws_FnRingLong.l0])
          | succ k3 =>
           have H := HA.out
           clear HA
           simp only [laws_FnRingLong.l0] at H
           by_cases c29 : x9_3 < t1183
           ·rw [if_pos c29] at H
            have c29b0 : decide (x9_3 < t1183) = true := decide_eq_true c29
            clear c29
            (first | rw [c29b0] | (simp only [i64_w, i32_w]; rw [c29b0]) | skip)
            replace H := Option.bind_eq_some_iff.mp H
            obtain ⟨t1194, A300, H⟩ := H
            replace H : (if (t1194.length : Int) = 0 then (laws_FnRingLong.j3 k3 t1188 x8_3 t1183 t1184) else (if 0 ≤ (Int.tmod (wrap64 ((wrap64 ((l1.length : Int) / 7)) + x9_3)) (t1194.length : Int)) then (if (Int.tmod (wrap64 ((wrap64 ((l1.length : Int) / 7)) + x9_3)) (t1194.length : Int)) < (t1194.length : Int) then (if x8_3.length < 17592186044416 then (if 0 ≤ (rd t1194 (Int.tmod (wrap64 ((wrap64 ((l1.length : Int) / 7)) + x9_3)) (t1194.length : Int))) then (if (rd t1194 (Int.tmod (wrap64 ((wrap64 ((l1.length : Int) / 7)) + x9_3)) (t1194.length : Int))) < (t1184.length : Int) then (laws_FnRingLong.l0 k3 l1 t1188 ((rd_T45 t1184 (rd t1194 (Int.tmod (wrap64 ((wrap64 ((l1.length : Int) / 7)) + x9_3)) (t1194.length : Int)))).f1) (x8_3 ++ [rd t1194 (Int.tmod (wrap64 ((wrap64 ((l1.length : Int) / 7)) + x9_3)) (t1194.length : Int))]) (wrap64 (x9_3 + 1)) t1183 t1184) else (none)) else (none)) else (none)) else (none)) else (none))) = some r := H
            have A30 := Aside0.mk A300
            clear A300
            by_cases c31 : (t1194.length : Int) = 0
            ·rw [if_pos c31] at H
             have c31b0 : ((t1194.length : Int) == 0) = true := beq_iff_eq.mpr c31
             have c31b1 : ((t1194.length : Int) != 0) = false := bne_eq_false_iff_eq.mpr c31
             clear c31
             have H' := Aside0.mk H
             clear H
             have t0 : wr.cell? ⟨p4, 0, none⟩ = some (.int .i64 t1183) := (blk_cell p3.out 0).trans rfl
             have t1 : wr.cell? ⟨p4, 1, none⟩ = some (.slice Ao12 t1184.length co12) := (blk_cell p3.out 1).trans rfl
             have t2 := blk_frozen p3.out 0
             have t3 := blk_frozen p3.out 1
             go_wp2_with (first | ((with_reducible refine gate_callee (f := 57) rfl ?_); refine goesL_ (some 50) rfl rfl Try.func57 (by kernel_rfl) rfl #[.agg #[.int .i64 t1183, .slice Ao12 t1184.length co12], .int .i64 x7_3] rfl (by (try simp only [List.map_toArray, List.map_cons, List.map_nil]); first | done | rfl | (simp only [List.length_drop, List.length_take]; rfl)) ?_; (with_reducible refine (impl_NetOut.calls k3 t1183 _ _ t1184 x7_3 t1194 _ ?side1 ?side2 A30.out).mono ?_); (case side1 => repeat (first | exact (Kd.R_reads' p0.out).2.2 | (with_reducible refine Kd.C_alloc ?_ _) | (with_reducible refine Kd.C_drewN ?_ _) | (with_reducible refine Kd.C_drew ?_))); (case side2 => exact (Kd.R_reads' p0.out).2.1); rintro e w33 ⟨v1195, rfl, ho0, hb⟩; refine ⟨_, rfl, ?_⟩; have n0_ := Aside0.mk (Kd.R_elder' HO_8.out (Kd.R_base ho0) hb); have n1_ := Aside0.mk (Kd.R_below p0.out hb); have n2_ := Aside0.mk (Kd.R_lower (Kd.R_new' ho0 (Kd.R_lt HO_8.out)) (below_size HB.out)); have n3_ := Aside0.mk (blk_below (g := p4) (o := .cells #[.int .i64 t1183, .slice Ao12 t1184.length co12] 38 (0, 0)) p3.out hb); have n4_ := Aside0.mk (below_step HB.out hb); clear HO_8; clear p0; clear p3; clear HB; have HO_8 := n0_; have p0 := n1_; have HO1196 := n2_; have p3 := n3_; have HB := n4_; clear n0_ n1_ n2_ n3_ n4_; (try clear hb); (try clear hb2); (try clear hk); (try clear hi); (try clear ho0); obtain ⟨Ao34, co34, eo34⟩ := Kd.R_slice HO1196.out; subst eo34))
             go_meet
             case rel => exact ⟨_, (x8_3), H', ⟨by have := HJ2.out; have := HJ7.out; have := HK3.out; first | omega | exact Nat.le_refl _⟩, ⟨by (with_reducible repeat (first | apply Kd.R_alloc | apply Kd.R_drewN | apply Kd.R_drew)); exact Kd.R_mono HO_8.out (fun _ hk => trivial)⟩, ⟨by (with_reducible repeat (first | apply Kd.R_alloc | apply Kd.R_drewN | apply Kd.R_drew)); exact p0.out⟩, ⟨by (with_reducible repeat (first | refine blk_drewN ?_ _ | refine blk_drew ?_ | refine blk_alloc ?_ _)); exact p3.out⟩, ⟨by repeat (first | (with_reducible first | exact HB.out | apply below_alloc | apply pw_below_drewN | apply below_drew1 | refine below_set ?_ p8.out) | exact HB.out)⟩⟩
            ·rw [if_neg c31] at H
             have c31b0 : ((t1194.length : Int) == 0) = false := beq_eq_false_iff_ne.mpr c31
             have c31b1 : ((t1194.length : Int) != 0) = true := bne_iff_ne.mpr c31
             have c31b2 : ¬ (t1194 = []) := fun h_ => c31 (by rw [h_]; rfl)
             obtain ⟨ji35, hji35⟩ : ∃ j_ : Int, (Int.tmod (wrap64 ((wrap64 ((l1.length : Int) / 7)) + x9_3)) (t1194.length : Int)) = j_ := ⟨_, rfl⟩
             replace H : (if 0 ≤ (ji35) then (if (ji35) < (t1194.length : Int) then (if x8_3.length < 17592186044416 then (if 0 ≤ (rd t1194 (ji35)) then (if (rd t1194 (ji35)) < (t1184.length : Int) then (laws_FnRingLong.l0 k3 l1 t1188 ((rd_T45 t1184 (rd t1194 (ji35))).f1) (x8_3 ++ [rd t1194 (ji35)]) (wrap64 (x9_3 + 1)) t1183 t1184) else (none)) else (none)) else (none)) else (none)) else (none)) = some r := by first | (rw [hji35] at H; exact H) | (simp only [hji35] at H ⊢; exact H)
             (try rw [hji35] at A30)
             by_cases c36 : 0 ≤ (ji35)
             ·rw [if_pos c36] at H
              have c36b0 : decide (0 ≤ (ji35)) = true := decide_eq_true c36
              clear c36
              by_cases c37 : (ji35) < (t1194.length : Int)
              ·rw [if_pos c37] at H
               have c37b0 : decide ((ji35) < (t1194.length : Int)) = true := decide_eq_true c37
               clear c37
               by_cases c38 : x8_3.length < 17592186044416
               ·rw [if_pos c38] at H
                have LMc38 := Aside0.mk c38
                clear c38
                obtain ⟨y1198, hy1198⟩ : ∃ y_ : List Int, y_ = (x8_3 ++ [rd t1194 (ji35)]) := ⟨_, rfl⟩
                replace H : (if 0 ≤ (rd t1194 (ji35)) then (if (rd t1194 (ji35)) < (t1184.length : Int) then (laws_FnRingLong.l0 k3 l1 t1188 ((rd_T45 t1184 (rd t1194 (ji35))).f1) y1198 (wrap64 (x9_3 + 1)) t1183 t1184) else (none)) else (none)) = some r := by first | (rw [hy1198]; with_reducible exact H) | (have H2_ := (Option.bind_some _ _).symm.trans H; rw [hy1198]; with_reducible exact H2_) | (have H2_ := (Option.bind_some _ _).symm.trans H; with_reducible exact H2_) | with_reducible exact H | (rw [hy1198]; exact H) | exact H
                have Ny1198 := Aside0.mk hy1198
                clear hy1198
                by_cases c39 : 0 ≤ (rd t1194 (ji35))
                ·rw [if_pos c39] at H
                 have c39b0 : decide (0 ≤ (rd t1194 (ji35))) = true := decide_eq_true c39
                 clear c39
                 by_cases c40 : (rd t1194 (ji35)) < (t1184.length : Int)
                 ·rw [if_pos c40] at H
                  have c40b0 : decide ((rd t1194 (ji35)) < (t1184.length : Int)) = true := decide_eq_true c40
                  clear c40
                  have H' := Aside0.mk H
                  clear H
                  have t4 : wr.cell? ⟨p4, 0, none⟩ = some (.int .i64 t1183) := (blk_cell p3.out 0).trans rfl
                  have t5 : wr.cell? ⟨p4, 1, none⟩ = some (.slice Ao12 t1184.length co12) := (blk_cell p3.out 1).trans rfl
                  have t6 := blk_frozen p3.out 0
                  have t7 := blk_frozen p3.out 1
                  go_wp2_with (first | ((with_reducible refine gate_callee (f := 57) rfl ?_); refine goesL_ (some 50) rfl rfl Try.func57 (by kernel_rfl) rfl #[.agg #[.int .i64 t1183, .slice Ao12 t1184.length co12], .int .i64 x7_3] rfl (by (try simp only [List.map_toArray, List.map_cons, List.map_nil]); first | done | rfl | (simp only [List.length_drop, List.length_take]; rfl)) ?_; (with_reducible refine (impl_NetOut.calls k3 t1183 _ _ t1184 x7_3 t1194 _ ?side1 ?side2 A30.out).mono ?_); (case side1 => repeat (first | exact (Kd.R_reads' p0.out).2.2 | (with_reducible refine Kd.C_alloc ?_ _) | (with_reducible refine Kd.C_drewN ?_ _) | (with_reducible refine Kd.C_drew ?_))); (case side2 => exact (Kd.R_reads' p0.out).2.1); rintro e w42 ⟨v1195, rfl, ho0, hb⟩; refine ⟨_, rfl, ?_⟩; have n0_ := Aside0.mk (Kd.R_elder' HO_8.out (Kd.R_base ho0) hb); have n1_ := Aside0.mk (Kd.R_below p0.out hb); have n2_ := Aside0.mk (Kd.R_lower (Kd.R_new' ho0 (Kd.R_lt HO_8.out)) (below_size HB.out)); have n3_ := Aside0.mk (blk_below (g := p4) (o := .cells #[.int .i64 t1183, .slice Ao12 t1184.length co12] 38 (0, 0)) p3.out hb); have n4_ := Aside0.mk (below_step HB.out hb); clear HO_8; clear p0; clear p3; clear HB; have HO_8 := n0_; have p0 := n1_; have HO1196 := n2_; have p3 := n3_; have HB := n4_; clear n0_ n1_ n2_ n3_ n4_; (try clear hb); (try clear hb2); (try clear hk); (try clear hi); (try clear ho0); obtain ⟨Ao43, co43, eo43⟩ := Kd.R_slice HO1196.out; subst eo43; have p1197 : 0 ≤ ((ji35) : Int) := of_decide_eq_true (by first | (with_reducible assumption) | assumption); have q1197 : (ji35) < (t1194.length : Int) := of_decide_eq_true (by first | (with_reducible assumption) | assumption); obtain ⟨ad1197, e1197, s4⟩ := Kd.at_int (Kd.R_reads' HO1196.out).2.2 (ji35) p1197 q1197; cases e1197; replace p1197 := eq_true p1197; replace q1197 := eq_true q1197) | ((with_reducible refine gate_builtin (b := .append) (xs := #[.tmp 65, .tmp 67]) rfl ?_); (try (refine gate_guard (by rfl) ?_; dsimp only)); at_builtin; refine Kd.R_append (Kd.int .i64) (w0 := w) w.heap.size rfl (.tmp 65) (.tmp 67) 22 3 (.int .i64 0) 8 rfl Try.underlying22 info3 rfl (by decide) (by omega) u8 x8_3 (rd t1194 (ji35)) [.int .i64 (rd t1194 (ji35))] (fun k_ => some k_ ≠ (.slice (some ad1197) t1194.length co43 : Value).ownBlock) (fun _ => False) rfl rfl ?aP (fun _ hk => hk.elim) ?aF ?aO ?aB ?aS ?aL ?_; (case aP => exact rfl); (case aB => exact HB.out); (case aF => exact (fun k_ hk => Kd.fresh' (Kd.R_lt HO1196.out) k_ hk)); (case aO => exact (Kd.R_mono HO_8.out (fun _ hk => hk.2))); (case aS => exact (below_size HB.out)); (case aL => have := LMc38.out; omega); intro v1199 w44 ho hb hg hat; rw [← Ny1198.out] at ho; have n0_ := Aside0.mk (Kd.R_over' p0.out (Kd.R_typed HO_8.out) (by decide) hg); have n1_ := Aside0.mk (blk_grown (g := p4) (o := .cells #[.int .i64 t1183, .slice Ao12 t1184.length co12] 38 (0, 0)) p3.out hg (Kd.R_ne HO_8.out p3.out (by decide))); have n2_ := Aside0.mk (Kd.R_after (ok := (fun _ => True)) HO1196.out hg hat); have n3_ := Aside0.mk (hb); have n4_ := Aside0.mk (ho); clear p0; clear p3; clear HO1196; clear HB; clear HO_8; have p0 := n0_; have p3 := n1_; have HO1196 := n2_; have HB := n3_; have HO1200 := n4_; clear n0_ n1_ n2_ n3_ n4_; clear ho hb hg hat; have t8 : w44.cell? ⟨p4, 0, none⟩ = some (.int .i64 t1183) := (blk_cell p3.out 0).trans rfl; have t9 : w44.cell? ⟨p4, 1, none⟩ = some (.slice Ao12 t1184.length co12) := (blk_cell p3.out 1).trans rfl; have u0 := blk_frozen p3.out 0; have u1 := blk_frozen p3.out 1; have p1201 : 0 ≤ ((rd t1194 (ji35)) : Int) := of_decide_eq_true (by first | (with_reducible assumption) | assumption); have q1201 : (rd t1194 (ji35)) < (t1184.length : Int) := of_decide_eq_true (by first | (with_reducible assumption) | assumption); obtain ⟨ad1201, e1201, s5, s6, s7, s8, s9⟩ := at_T45 (Kd.R_reads' p0.out).2.2 (rd t1194 (ji35)) p1201 q1201; cases e1201; replace p1201 := eq_true p1201; replace q1201 := eq_true q1201))
                  go_roundg k3
                  case measure => have := HJ2.out; have := HJ7.out; have := HK3.out; omega
                  case rel => exact ⟨((rd_T45 t1184 (rd t1194 (ji35))).f1), (y1198), (wrap64 (x9_3 + 1)), (by first | rfl | (simp; done) | (simp only [← hji35] <;> (first | rfl | simp)) | (simp [*]; done)), (by first | rfl | (simp; done) | (simp [*]; done)), H', ⟨by have := HJ2.out; have := HJ7.out; have := HK3.out; omega⟩, ⟨by (with_reducible repeat (first | apply Kd.R_alloc | apply Kd.R_drewN | apply Kd.R_drew)); exact Kd.R_mono HO1200.out (fun _ hk => trivial)⟩, ⟨by (with_reducible repeat (first | apply Kd.R_alloc | apply Kd.R_drewN | apply Kd.R_drew)); exact p0.out⟩, ⟨by (with_reducible repeat (first | refine blk_drewN ?_ _ | refine blk_drew ?_ | refine blk_alloc ?_ _)); exact p3.out⟩, ⟨by repeat (first | (with_reducible first | exact HB.out | apply below_alloc | apply pw_below_drewN | apply below_drew1 | refine below_set ?_ p8.out) | exact HB.out)⟩⟩
                 ·rw [if_neg c40] at H
                  exact absurd H (by simp)
                ·rw [if_neg c39] at H
                 exact absurd H (by simp)
               ·rw [if_neg c38] at H
                exact absurd H (by simp)
              ·rw [if_neg c37] at H
               exact absurd H (by simp)
             ·rw [if_neg c36] at H
              exact absurd H (by simp)
           ·rw [if_neg c29] at H
            have c29b0 : decide (x9_3 < t1183) = false := decide_eq_false c29
            clear c29
            (first | rw [c29b0] | (simp only [i64_w, i32_w]; rw [c29b0]) | skip)
            have H' := Aside0.mk H
            clear H
            have u2 : wr.cell? ⟨p4, 0, none⟩ = some (.int .i64 t1183) := (blk_cell p3.out 0).trans rfl
            have u3 : wr.cell? ⟨p4, 1, none⟩ = some (.slice Ao12 t1184.length co12) := (blk_cell p3.out 1).trans rfl
            have u4 := blk_frozen p3.out 0
            have u5 := blk_frozen p3.out 1
            go_wp2
            go_meet
            case rel => exact ⟨_, (x8_3), H', ⟨by have := HJ2.out; have := HJ7.out; have := HK3.out; first | omega | exact Nat.le_refl _⟩, ⟨by (with_reducible repeat (first | apply Kd.R_alloc | apply Kd.R_drewN | apply Kd.R_drew)); exact HO_8.out⟩, ⟨by (with_reducible repeat (first | apply Kd.R_alloc | apply Kd.R_drewN | apply Kd.R_drew)); exact p0.out⟩, ⟨by (with_reducible repeat (first | refine blk_drewN ?_ _ | refine blk_drew ?_ | refine blk_alloc ?_ _)); exact p3.out⟩, ⟨by repeat (first | (with_reducible first | exact HB.out | apply below_alloc | apply pw_below_drewN | apply below_drew1 | refine below_set ?_ p8.out) | exact HB.out)⟩⟩
        case rest =>
         clear HC25
         try clear c1
         try clear p1
         try clear q1
         try clear hx1
         try clear c2
         try clear p2
         try clear c3
         try clear c4
         try clear c4b0
         try clear c4b1
         try clear c5
         try clear p6
         try clear p11
         try clear q11
         try clear hx11
         try clear p12
         try clear q12
         try clear hx12
         try clear c14
         try clear c15
         try clear c15b0
         try clear c15b1
         try clear c20
         try clear c24
         try clear c24b0
         try clear c24b1
         try clear c29
         try clear c29b0
         try clear c31
         try clear c31b0
         try clear c31b1
         try clear c31b2
         try clear c36
         try clear c36b0
         try clear c37
         try clear c37b0
         try clear c38
         try clear c39
         try clear c39b0
         try clear c40
         try clear c40b0
         try clear c43
         try clear c44
         try clear q0
         try clear q2
         try clear q5
         try clear q6
         try clear q9
         try clear r0
         try clear r5
         try clear r6
         try clear r9
         try clear s0
         try clear t0
         try clear t1
         try clear t4
         try clear t5
         try clear t8
         try clear t9
         try clear u2
         try clear u3
         try clear q3
         try clear q4
         try clear q7
         try clear q8
         try clear r1
         try clear r2
         try clear r7
         try clear r8
         try clear s1
         try clear s2
         try clear t2
         try clear t3
         try clear t6
         try clear t7
         try clear u0
         try clear u1
         try clear u4
         try clear u5
         try clear s4
         try clear s5
         try clear s6
         try clear s7
         try clear s8
         try clear s9
         try clear p1197
         try clear p1201
         try clear p2
         try clear q1197
         try clear q1201
         obtain ⟨kq, p9, HA, HJ24, HO_8, p0, p3, HB⟩ := hcut
         cases kq with
         | zero => exact absurd HA.out (by simp [laws_FnRingLong.j3])
         | succ kj24 =>
          have H := HA.out
          clear HA
          simp only [laws_FnRingLong.j3] at H
          replace H := Option.bind_eq_some_iff.mp H
          obtain ⟨t1202, A470, H⟩ := H
          replace H : (if t1202 ≤ t1188 then ((impl_NetBack.f kj24 t1183 t1184).bind fun bt1203 => ((impl_RingLong.f kj24 bt1203.1 bt1203.2).bind fun t1207 => (if t1207 = t1188 then ((impl_ReachFar.f kj24 t1183 t1184).bind fun t1208 => (some (decide (t1188 ≥ t1208)))) else (some false)))) else (some false)) = some r := H
          have A47 := Aside0.mk A470
          clear A470
          by_cases c48 : t1202 ≤ t1188
          ·rw [if_pos c48] at H
           have c48b0 : decide (t1202 ≤ t1188) = true := decide_eq_true c48
           clear c48
           replace H := Option.bind_eq_some_iff.mp H
           obtain ⟨⟨t1203, t1204⟩, A490, H⟩ := H
           replace H : ((impl_RingLong.f kj24 t1203 t1204).bind fun t1207 => (if t1207 = t1188 then ((impl_ReachFar.f kj24 t1183 t1184).bind fun t1208 => (some (decide (t1188 ≥ t1208)))) else (some false))) = some r := H
           have A49 := Aside0.mk A490
           clear A490
           replace H := Option.bind_eq_some_iff.mp H
           obtain ⟨t1207, A500, H⟩ := H
           replace H : (if t1207 = t1188 then ((impl_ReachFar.f kj24 t1183 t1184).bind fun t1208 => (some (decide (t1188 ≥ t1208)))) else (some false)) = some r := H
           have A50 := Aside0.mk A500
           clear A500
           by_cases c51 : t1207 = t1188
           ·rw [if_pos c51] at H
            have c51b0 : (t1207 == t1188) = true := beq_iff_eq.mpr c51
            have c51b1 : (t1207 != t1188) = false := bne_eq_false_iff_eq.mpr c51
            clear c51
            replace H := Option.bind_eq_some_iff.mp H
            obtain ⟨t1208, A520, H⟩ := H
            replace H : (some (decide (t1188 ≥ t1208))) = some r := H
            have A52 := Aside0.mk A520
            clear A520
            obtain rfl := Option.some.inj H
            have hcz53_0 : wc.cell? ⟨p4, 0, none⟩ = some (.int .i64 t1183) := (blk_cell p3.out 0).trans rfl
            have hcz53_1 : wc.cell? ⟨p4, 1, none⟩ = some (.slice Ao12 t1184.length co12) := (blk_cell p3.out 1).trans rfl
            have hfz53_0 := blk_frozen p3.out 0
            have hfz53_1 := blk_frozen p3.out 1
            obtain ⟨Ao54, co54, eo54⟩ := Kd.R_slice HO_8.out
            subst eo54
            go_wp2_with (first | ((with_reducible refine gate_callee (f := 58) rfl ?_); refine goesL_ (some 77) rfl rfl Try.func58 (by kernel_rfl) rfl #[.agg #[.int .i64 t1183, .slice Ao12 t1184.length co12], .slice Ao54 p9.length co54] rfl (by (try simp only [List.map_toArray, List.map_cons, List.map_nil]); first | done | rfl | (simp only [List.length_drop, List.length_take]; rfl)) ?_; (with_reducible refine (impl_WalkCost.calls kj24 t1183 _ _ t1184 _ _ p9 t1202 _ ?side1 ?side2 ?side3 ?side4 A47.out).mono ?_); (case side1 => repeat (first | exact (Kd.R_reads' p0.out).2.2 | (with_reducible refine Kd.C_alloc ?_ _) | (with_reducible refine Kd.C_drewN ?_ _) | (with_reducible refine Kd.C_drew ?_))); (case side2 => exact (Kd.R_reads' p0.out).2.1); (case side3 => repeat (first | exact (Kd.R_reads' HO_8.out).2.2 | (with_reducible refine Kd.C_alloc ?_ _) | (with_reducible refine Kd.C_drewN ?_ _) | (with_reducible refine Kd.C_drew ?_))); (case side4 => exact (Kd.R_reads' HO_8.out).2.1); rintro e w55 ⟨rfl, hb⟩; refine ⟨_, rfl, ?_⟩; have n0_ := Aside0.mk (Kd.R_below HO_8.out hb); have n1_ := Aside0.mk (Kd.R_below p0.out hb); have n2_ := Aside0.mk (blk_below (g := p4) (o := .cells #[.int .i64 t1183, .slice Ao12 t1184.length co12] 38 (0, 0)) p3.out hb); have n3_ := Aside0.mk (below_step HB.out hb); clear HO_8; clear p0; clear p3; clear HB; have HO_8 := n0_; have p0 := n1_; have p3 := n2_; have HB := n3_; clear n0_ n1_ n2_ n3_; (try clear hb); (try clear hb2); (try clear hk); (try clear hi); have hcz56_0 : w55.cell? ⟨p4, 0, none⟩ = some (.int .i64 t1183) := (blk_cell p3.out 0).trans rfl; have hcz56_1 : w55.cell? ⟨p4, 1, none⟩ = some (.slice Ao12 t1184.length co12) := (blk_cell p3.out 1).trans rfl; have hfz56_0 := blk_frozen p3.out 0; have hfz56_1 := blk_frozen p3.out 1) | (go_at_call 28; (with_reducible refine (impl_NetBack.calls kj24 t1183 _ _ t1184 t1203 t1204 _ ?side1 ?side2 A49.out).mono ?_); (case side1 => repeat (first | exact (Kd.R_reads' p0.out).2.2 | (with_reducible refine Kd.C_alloc ?_ _) | (with_reducible refine Kd.C_drewN ?_ _) | (with_reducible refine Kd.C_drew ?_))); (case side2 => exact (Kd.R_reads' p0.out).2.1); rintro e w57 ⟨v1205, rfl, ho0, hb⟩; have n0_ := Aside0.mk (Kd.R_below HO_8.out hb); have n1_ := Aside0.mk (Kd.R_elder' p0.out (Kd.R_base ho0) hb); have n2_ := Aside0.mk (Kd.R_lower (Kd.R_new' ho0 (Kd.R_lt p0.out)) (below_size HB.out)); have n3_ := Aside0.mk (blk_below (g := p4) (o := .cells #[.int .i64 t1183, .slice Ao12 t1184.length co12] 38 (0, 0)) p3.out hb); have n4_ := Aside0.mk (below_step HB.out hb); clear HO_8; clear p0; clear p3; clear HB; have HO_8 := n0_; have p0 := n1_; have HO1206 := n2_; have p3 := n3_; have HB := n4_; clear n0_ n1_ n2_ n3_ n4_; (try clear hb); (try clear hb2); (try clear hk); (try clear hi); (try clear ho0); obtain ⟨Ao58, co58, eo58⟩ := Kd.R_slice HO1206.out; subst eo58) | (go_at_call 44; (with_reducible refine (impl_RingLong.calls kj24 t1203 _ _ t1204 t1207 _ ?side1 ?side2 A50.out).mono ?_); (case side1 => repeat (first | exact (Kd.R_reads' HO1206.out).2.2 | (with_reducible refine Kd.C_alloc ?_ _) | (with_reducible refine Kd.C_drewN ?_ _) | (with_reducible refine Kd.C_drew ?_))); (case side2 => exact (Kd.R_reads' HO1206.out).2.1); rintro e w59 ⟨rfl, hb⟩; have n0_ := Aside0.mk (Kd.R_below HO_8.out hb); have n1_ := Aside0.mk (Kd.R_below p0.out hb); have n2_ := Aside0.mk (Kd.R_below HO1206.out hb); have n3_ := Aside0.mk (blk_below (g := p4) (o := .cells #[.int .i64 t1183, .slice Ao12 t1184.length co12] 38 (0, 0)) p3.out hb); have n4_ := Aside0.mk (below_step HB.out hb); clear HO_8; clear p0; clear HO1206; clear p3; clear HB; have HO_8 := n0_; have p0 := n1_; have HO1206 := n2_; have p3 := n3_; have HB := n4_; clear n0_ n1_ n2_ n3_ n4_; (try clear hb); (try clear hb2); (try clear hk); (try clear hi); have hcz60_0 : w59.cell? ⟨p4, 0, none⟩ = some (.int .i64 t1183) := (blk_cell p3.out 0).trans rfl; have hcz60_1 : w59.cell? ⟨p4, 1, none⟩ = some (.slice Ao12 t1184.length co12) := (blk_cell p3.out 1).trans rfl; have hfz60_0 := blk_frozen p3.out 0; have hfz60_1 := blk_frozen p3.out 1) | (go_at_call 59; (with_reducible refine (impl_ReachFar.calls kj24 t1183 _ _ t1184 t1208 _ ?side1 ?side2 A52.out).mono ?_); (case side1 => repeat (first | exact (Kd.R_reads' p0.out).2.2 | (with_reducible refine Kd.C_alloc ?_ _) | (with_reducible refine Kd.C_drewN ?_ _) | (with_reducible refine Kd.C_drew ?_))); (case side2 => exact (Kd.R_reads' p0.out).2.1); rintro e w61 ⟨rfl, hb⟩; have n0_ := Aside0.mk (Kd.R_below HO_8.out hb); have n1_ := Aside0.mk (Kd.R_below p0.out hb); have n2_ := Aside0.mk (Kd.R_below HO1206.out hb); have n3_ := Aside0.mk (blk_below (g := p4) (o := .cells #[.int .i64 t1183, .slice Ao12 t1184.length co12] 38 (0, 0)) p3.out hb); have n4_ := Aside0.mk (below_step HB.out hb); clear HO_8; clear p0; clear HO1206; clear p3; clear HB; have HO_8 := n0_; have p0 := n1_; have HO1206 := n2_; have p3 := n3_; have HB := n4_; clear n0_ n1_ n2_ n3_ n4_; (try clear hb); (try clear hb2); (try clear hk); (try clear hi)))
            go_ret
            exact ⟨by first | rfl | (simp [errW_none, errW_some] <;> rfl) | (simp [*, errW_none, errW_some] <;> rfl), by repeat (first | (with_reducible first | exact HB.out | apply below_alloc | apply pw_below_drewN | apply below_drew1 | refine below_set ?_ p8.out) | exact HB.out)⟩
           ·rw [if_neg c51] at H
            have c51b0 : (t1207 == t1188) = false := beq_eq_false_iff_ne.mpr c51
            have c51b1 : (t1207 != t1188) = true := bne_iff_ne.mpr c51
            obtain rfl := Option.some.inj H
            have hcz62_0 : wc.cell? ⟨p4, 0, none⟩ = some (.int .i64 t1183) := (blk_cell p3.out 0).trans rfl
            have hcz62_1 : wc.cell? ⟨p4, 1, none⟩ = some (.slice Ao12 t1184.length co12) := (blk_cell p3.out 1).trans rfl
            have hfz62_0 := blk_frozen p3.out 0
            have hfz62_1 := blk_frozen p3.out 1
            obtain ⟨Ao63, co63, eo63⟩ := Kd.R_slice HO_8.out
            subst eo63
            go_wp2_with (first | ((with_reducible refine gate_callee (f := 58) rfl ?_); refine goesL_ (some 77) rfl rfl Try.func58 (by kernel_rfl) rfl #[.agg #[.int .i64 t1183, .slice Ao12 t1184.length co12], .slice Ao63 p9.length co63] rfl (by (try simp only [List.map_toArray, List.map_cons, List.map_nil]); first | done | rfl | (simp only [List.length_drop, List.length_take]; rfl)) ?_; (with_reducible refine (impl_WalkCost.calls kj24 t1183 _ _ t1184 _ _ p9 t1202 _ ?side1 ?side2 ?side3 ?side4 A47.out).mono ?_); (case side1 => repeat (first | exact (Kd.R_reads' p0.out).2.2 | (with_reducible refine Kd.C_alloc ?_ _) | (with_reducible refine Kd.C_drewN ?_ _) | (with_reducible refine Kd.C_drew ?_))); (case side2 => exact (Kd.R_reads' p0.out).2.1); (case side3 => repeat (first | exact (Kd.R_reads' HO_8.out).2.2 | (with_reducible refine Kd.C_alloc ?_ _) | (with_reducible refine Kd.C_drewN ?_ _) | (with_reducible refine Kd.C_drew ?_))); (case side4 => exact (Kd.R_reads' HO_8.out).2.1); rintro e w64 ⟨rfl, hb⟩; refine ⟨_, rfl, ?_⟩; have n0_ := Aside0.mk (Kd.R_below HO_8.out hb); have n1_ := Aside0.mk (Kd.R_below p0.out hb); have n2_ := Aside0.mk (blk_below (g := p4) (o := .cells #[.int .i64 t1183, .slice Ao12 t1184.length co12] 38 (0, 0)) p3.out hb); have n3_ := Aside0.mk (below_step HB.out hb); clear HO_8; clear p0; clear p3; clear HB; have HO_8 := n0_; have p0 := n1_; have p3 := n2_; have HB := n3_; clear n0_ n1_ n2_ n3_; (try clear hb); (try clear hb2); (try clear hk); (try clear hi); have hcz65_0 : w64.cell? ⟨p4, 0, none⟩ = some (.int .i64 t1183) := (blk_cell p3.out 0).trans rfl; have hcz65_1 : w64.cell? ⟨p4, 1, none⟩ = some (.slice Ao12 t1184.length co12) := (blk_cell p3.out 1).trans rfl; have hfz65_0 := blk_frozen p3.out 0; have hfz65_1 := blk_frozen p3.out 1) | (go_at_call 28; (with_reducible refine (impl_NetBack.calls kj24 t1183 _ _ t1184 t1203 t1204 _ ?side1 ?side2 A49.out).mono ?_); (case side1 => repeat (first | exact (Kd.R_reads' p0.out).2.2 | (with_reducible refine Kd.C_alloc ?_ _) | (with_reducible refine Kd.C_drewN ?_ _) | (with_reducible refine Kd.C_drew ?_))); (case side2 => exact (Kd.R_reads' p0.out).2.1); rintro e w66 ⟨v1205, rfl, ho0, hb⟩; have n0_ := Aside0.mk (Kd.R_below HO_8.out hb); have n1_ := Aside0.mk (Kd.R_elder' p0.out (Kd.R_base ho0) hb); have n2_ := Aside0.mk (Kd.R_lower (Kd.R_new' ho0 (Kd.R_lt p0.out)) (below_size HB.out)); have n3_ := Aside0.mk (blk_below (g := p4) (o := .cells #[.int .i64 t1183, .slice Ao12 t1184.length co12] 38 (0, 0)) p3.out hb); have n4_ := Aside0.mk (below_step HB.out hb); clear HO_8; clear p0; clear p3; clear HB; have HO_8 := n0_; have p0 := n1_; have HO1206 := n2_; have p3 := n3_; have HB := n4_; clear n0_ n1_ n2_ n3_ n4_; (try clear hb); (try clear hb2); (try clear hk); (try clear hi); (try clear ho0); obtain ⟨Ao67, co67, eo67⟩ := Kd.R_slice HO1206.out; subst eo67) | (go_at_call 44; (with_reducible refine (impl_RingLong.calls kj24 t1203 _ _ t1204 t1207 _ ?side1 ?side2 A50.out).mono ?_); (case side1 => repeat (first | exact (Kd.R_reads' HO1206.out).2.2 | (with_reducible refine Kd.C_alloc ?_ _) | (with_reducible refine Kd.C_drewN ?_ _) | (with_reducible refine Kd.C_drew ?_))); (case side2 => exact (Kd.R_reads' HO1206.out).2.1); rintro e w68 ⟨rfl, hb⟩; have n0_ := Aside0.mk (Kd.R_below HO_8.out hb); have n1_ := Aside0.mk (Kd.R_below p0.out hb); have n2_ := Aside0.mk (Kd.R_below HO1206.out hb); have n3_ := Aside0.mk (blk_below (g := p4) (o := .cells #[.int .i64 t1183, .slice Ao12 t1184.length co12] 38 (0, 0)) p3.out hb); have n4_ := Aside0.mk (below_step HB.out hb); clear HO_8; clear p0; clear HO1206; clear p3; clear HB; have HO_8 := n0_; have p0 := n1_; have HO1206 := n2_; have p3 := n3_; have HB := n4_; clear n0_ n1_ n2_ n3_ n4_; (try clear hb); (try clear hb2); (try clear hk); (try clear hi)))
            go_ret
            exact ⟨by first | rfl | (simp [errW_none, errW_some] <;> rfl) | (simp [*, errW_none, errW_some] <;> rfl), by repeat (first | (with_reducible first | exact HB.out | apply below_alloc | apply pw_below_drewN | apply below_drew1 | refine below_set ?_ p8.out) | exact HB.out)⟩
          ·rw [if_neg c48] at H
           have c48b0 : decide (t1202 ≤ t1188) = false := decide_eq_false c48
           clear c48
           obtain rfl := Option.some.inj H
           have hcz69_0 : wc.cell? ⟨p4, 0, none⟩ = some (.int .i64 t1183) := (blk_cell p3.out 0).trans rfl
           have hcz69_1 : wc.cell? ⟨p4, 1, none⟩ = some (.slice Ao12 t1184.length co12) := (blk_cell p3.out 1).trans rfl
           have hfz69_0 := blk_frozen p3.out 0
           have hfz69_1 := blk_frozen p3.out 1
           obtain ⟨Ao70, co70, eo70⟩ := Kd.R_slice HO_8.out
           subst eo70
           go_wp2_with (first | ((with_reducible refine gate_callee (f := 58) rfl ?_); refine goesL_ (some 77) rfl rfl Try.func58 (by kernel_rfl) rfl #[.agg #[.int .i64 t1183, .slice Ao12 t1184.length co12], .slice Ao70 p9.length co70] rfl (by (try simp only [List.map_toArray, List.map_cons, List.map_nil]); first | done | rfl | (simp only [List.length_drop, List.length_take]; rfl)) ?_; (with_reducible refine (impl_WalkCost.calls kj24 t1183 _ _ t1184 _ _ p9 t1202 _ ?side1 ?side2 ?side3 ?side4 A47.out).mono ?_); (case side1 => repeat (first | exact (Kd.R_reads' p0.out).2.2 | (with_reducible refine Kd.C_alloc ?_ _) | (with_reducible refine Kd.C_drewN ?_ _) | (with_reducible refine Kd.C_drew ?_))); (case side2 => exact (Kd.R_reads' p0.out).2.1); (case side3 => repeat (first | exact (Kd.R_reads' HO_8.out).2.2 | (with_reducible refine Kd.C_alloc ?_ _) | (with_reducible refine Kd.C_drewN ?_ _) | (with_reducible refine Kd.C_drew ?_))); (case side4 => exact (Kd.R_reads' HO_8.out).2.1); rintro e w71 ⟨rfl, hb⟩; refine ⟨_, rfl, ?_⟩; have n0_ := Aside0.mk (Kd.R_below HO_8.out hb); have n1_ := Aside0.mk (Kd.R_below p0.out hb); have n2_ := Aside0.mk (blk_below (g := p4) (o := .cells #[.int .i64 t1183, .slice Ao12 t1184.length co12] 38 (0, 0)) p3.out hb); have n3_ := Aside0.mk (below_step HB.out hb); clear HO_8; clear p0; clear p3; clear HB; have HO_8 := n0_; have p0 := n1_; have p3 := n2_; have HB := n3_; clear n0_ n1_ n2_ n3_; (try clear hb); (try clear hb2); (try clear hk); (try clear hi)))
           go_ret
           exact ⟨by first | rfl | (simp [errW_none, errW_some] <;> rfl) | (simp [*, errW_none, errW_some] <;> rfl), by repeat (first | (with_reducible first | exact HB.out | apply below_alloc | apply pw_below_drewN | apply below_drew1 | refine below_set ?_ p8.out) | exact HB.out)⟩
end Go.Proofs.Ytmabopomecdidaa.Pr
end
section
set_option linter.unusedVariables false
namespace Go.Proofs.YtmabopomecdidaaW.PrintWords
open Go.RowKit Go.ChangeShapes Go.WideShapes
def Opens (P : Program) {α : Type} (d : Kd α) (t : TypeId) (wf : α → Prop) : Prop :=
 ∀ {H : Type} {enc : TypeId × Value → H} {w : World} {sp : Nat → Bool} {held : Bool} {fuel : Nat} {cs : List Value} {x : DataW H × List MemPlace}, DataW.trod enc P w 0 sp held fuel t cs = some x → ∃ a, d.K w a cs ∧ wf a
section
variable {P : Program} {α β : Type}
theorem opens_int {t : TypeId} {k : IntKind} (ht : P.underlying t = some (.int k)) : Opens P (Kd.int k) t (fun n => (Lit.int k n).wf = true) := by
 intro H enc w sp held fuel cs x h
 obtain ⟨n, rfl, _, hw⟩ := DataW.trod_int ht h
 exact ⟨n, rfl, hw⟩
theorem addr_add_add (a : Addr) (i j : Nat) : (a.add i).add j = a.add (i + j) := by
 unfold Addr.add
 by_cases hi : i = 0 <;> by_cases hj : j = 0 <;> simp [hi, hj, Nat.add_assoc]
theorem opens_slice [Inhabited α] {d : Kd α} {t e : TypeId} {wf : α → Prop} (ht : P.underlying t = some (.slice e)) (hc : P.cellsOf e = d.sz) (he : Opens P d e wf) : Opens P (Kd.slice e d) t (fun l => l.length ≤ maxLen ∧ ∀ x ∈ l, wf x) := by
 intro H enc w sp held fuel cs x h
 rcases Deep.open_slice ht h with ⟨rfl, _⟩ | ⟨a, len, cap, m, n, D, Pl, rfl, _, hl, hm, hmm, _, hel⟩
 ·exact ⟨[], ⟨none, 0, rfl, Nat.le_refl _, Kd.C_nil d w⟩, by simp, by simp⟩
 ·have hlm : len ≤ m := by rw [hmm]; split <;> omega
  have hx : ∀ i, i < len → ∃ y : α, (∃ c, c.length = d.sz ∧ d.K w y c ∧ ∀ j u, c[j]? = some u → w.cell? (a.add (i * d.sz + j)) = some u) ∧ wf y := by
   intro i hi
   obtain ⟨cs', hcs, htr⟩ := hel i (by omega)
   obtain ⟨y, hk, hw⟩ := he htr
   obtain ⟨_, hlen, hcell⟩ := World.cells?_some hcs
   refine ⟨y, ⟨cs', d.K_len hk, hk, fun j u hu => ?_⟩, hw⟩
   have hj : j < P.cellsOf e := by
    have := (List.getElem?_eq_some_iff.1 hu).1
    omega
   have := hcell j hj
   rw [addr_add_add, hc, hu] at this
   exact this
  obtain ⟨f, hf⟩ := Deep.choose_lt hx
  refine ⟨(List.range len).map f, ⟨some a, cap, by simp, by simpa using hl, by simp, by simp only [maxLen] at hm; simp; omega, fun _ => ⟨a, rfl, fun j p hj => ?_⟩⟩, by simp; omega, fun y hy => ?_⟩
  ·obtain ⟨hj1, hj2⟩ := List.getElem?_eq_some_iff.1 hj
   simp at hj1 hj2
   subst hj2
   exact (hf j hj1).1
  ·simp only [List.mem_map, List.mem_range] at hy
   obtain ⟨i, hi, rfl⟩ := hy
   exact (hf i hi).2
end
end Go.Proofs.YtmabopomecdidaaW.PrintWords
end
section
namespace Go.Proofs.Ytmabopomecdidaa.Pr
open Go.RowKit Go.Proofs.YtmabopomecdidaaW.PrintWords Go.Proofs.YtmabopomecdidaaW.PrintLast Go.Proofs.YtmabopomecdidaaW.PrintMore
def laws_FnRingLong.Asked : Prop := ∀ (l0 : List Int) (l1 : List Int), (l0.length ≤ maxLen ∧ ∀ x_ ∈ l0, (Lit.int .u8 x_).wf = true) → (l1.length ≤ maxLen ∧ ∀ x_ ∈ l1, (Lit.int .u8 x_).wf = true) → ∃ k, laws_FnRingLong.f k l0 l1 = some true
end Go.Proofs.Ytmabopomecdidaa.Pr
end
section
set_option linter.unusedVariables false
namespace Go.Proofs.YtmabopomecdidaaW.PrintWords
open Go.RowKit
section
variable {α β : Type}
theorem Ev.pos {c : Prop} [Decidable c] {t e : Nat → Option α} {r : α} (h : c) (k : Ev t r) : Ev (fun n => if c then t n else e n) r := by
 simp only [if_pos h]; exact k
theorem Ev.neg {c : Prop} [Decidable c] {t e : Nat → Option α} {r : α} (h : ¬ c) (k : Ev e r) : Ev (fun n => if c then t n else e n) r := by
 simp only [if_neg h]; exact k
theorem Ev.bind0 {g : Option α} {f : Nat → α → Option β} {a : α} {r : β} (h : g = some a) (k : Ev (fun n => f n a) r) : Ev (fun n => g.bind (f n)) r := by
 subst h; exact k
theorem Ev.is {a r : α} (h : a = r) : Ev (fun _ => some a) r := by subst h; exact Ev.now _
theorem Ev.cast {g : Nat → Option α} {a r : α} (k : Ev g a) (h : a = r) : Ev g r := h ▸ k
theorem Ev.go {g f : Nat → Option α} {r : α} (k : Ev f r) (h : ∀ k, g (k + 1) = f k) : Ev g r := Ev.step h k
end
theorem w64 {n : Int} (h : -9223372036854775808 ≤ n) (h' : n ≤ 9223372036854775807) : wrap64 n = n := by unfold wrap64; omega
end Go.Proofs.YtmabopomecdidaaW.PrintWords
end
section
set_option linter.unusedSimpArgs false
set_option linter.unusedVariables false
namespace Go.Proofs.Ytmabopomecdidaa.Pure
open Go.RowKit Go.Proofs.Ytmabopomecdidaa.Pr Go.Proofs.YtmabopomecdidaaW.PrintWords Go.Proofs.YtmabopomecdidaaW.PrintLast Go.Proofs.YtmabopomecdidaaW.PrintMore
def inB (x a b : Int) : Bool := decide (a ≤ x) && decide (x ≤ b)
theorem inB_iff {x a b : Int} : inB x a b = true ↔ a ≤ x ∧ x ≤ b := by simp [inB]
theorem in1 (x a b : Int) : spec_l1In.f x a b = some (inB x a b) := by
 unfold spec_l1In.f inB
 by_cases h : x ≥ a
 ·rw [if_pos h]; simp [show a ≤ x from h]
 ·rw [if_neg h]; simp [show ¬ a ≤ x from h]
theorem within1 (x a b : Int) : impl_within.f x a b = some (inB x a b) := by
 unfold impl_within.f inB
 by_cases h : x ≥ a
 ·rw [if_pos h]; simp [show a ≤ x from h]
 ·rw [if_neg h]; simp [show ¬ a ≤ x from h]
theorem up1 {i n : Nat} (h : i < n) (hn : n ≤ maxLen) : wrap64 ((i : Int) + 1) = ((i + 1 : Nat) : Int) := by
 simp only [maxLen] at hn
 rw [w64 (by omega) (by omega)]; omega
def nth (l : List Int) (i : Nat) : Int := l.getD i 0
theorem rdg {l : List Int} (i : Nat) : rd l (i : Int) = nth l i := by simp [rd, nth]
theorem nth_get {l : List Int} {i : Nat} (h : i < l.length) : nth l i = l[i] := by simp [nth, h]
theorem getD_mem {l : List Int} {i : Nat} (h : i < l.length) : nth l i ∈ l := by
 rw [nth_get h]
 exact List.getElem_mem h
theorem drop_cons {α : Type} {l : List α} {i : Nat} (h : i < l.length) : l.drop i = l[i] :: l.drop (i + 1) := List.drop_eq_getElem_cons h
def Pv {α : Type} (g : Nat → Option α) (P : α → Prop) : Prop := ∃ r, Ev g r ∧ P r
section
variable {α β : Type} {P : α → Prop}
theorem Pv.of {g : Nat → Option α} {r : α} (h : Ev g r) (hp : P r) : Pv g P := ⟨r, h, hp⟩
theorem Pv.now {a : α} (h : P a) : Pv (fun _ => some a) P := ⟨a, Ev.now a, h⟩
theorem Pv.pos {c : Prop} [Decidable c] {t e : Nat → Option α} (h : c) (k : Pv t P) : Pv (fun n => if c then t n else e n) P := by
 obtain ⟨r, k, hp⟩ := k
 exact ⟨r, Ev.pos h k, hp⟩
theorem Pv.neg {c : Prop} [Decidable c] {t e : Nat → Option α} (h : ¬ c) (k : Pv e P) : Pv (fun n => if c then t n else e n) P := by
 obtain ⟨r, k, hp⟩ := k
 exact ⟨r, Ev.neg h k, hp⟩
theorem Pv.ite {c : Prop} [Decidable c] {t e : Nat → Option α} (h : c → Pv t P) (k : ¬ c → Pv e P) : Pv (fun n => if c then t n else e n) P := by
 by_cases hc : c
 ·exact Pv.pos hc (h hc)
 ·exact Pv.neg hc (k hc)
theorem Pv.bind {g : Nat → Option β} {f : Nat → β → Option α} {R : β → Prop} (h : Pv g R) (k : ∀ b, R b → Pv (fun n => f n b) P) : Pv (fun n => (g n).bind (f n)) P := by
 obtain ⟨b, h, hb⟩ := h
 obtain ⟨r, k, hp⟩ := k b hb
 exact ⟨r, Ev.bind h k, hp⟩
theorem Pv.bind0 {g : Option β} {f : Nat → β → Option α} {b : β} (h : g = some b) (k : Pv (fun n => f n b) P) : Pv (fun n => g.bind (f n)) P := by
 obtain ⟨r, k, hp⟩ := k
 exact ⟨r, Ev.bind0 h k, hp⟩
theorem Pv.go {g f : Nat → Option α} (k : Pv f P) (h : ∀ k, g (k + 1) = f k) : Pv g P := by
 obtain ⟨r, k, hp⟩ := k
 exact ⟨r, Ev.go k h, hp⟩
theorem Pv.mono {g : Nat → Option α} {R : α → Prop} (h : Pv g R) (k : ∀ a, R a → P a) : Pv g P := by
 obtain ⟨r, h, hr⟩ := h
 exact ⟨r, h, k r hr⟩
end
theorem Pv.rounds {g : Nat → Option Bool} (h : Pv g (· = true)) : ∃ k, g k = some true := by
 obtain ⟨r, h, rfl⟩ := h
 exact Ev.rounds h
end Go.Proofs.Ytmabopomecdidaa.Pure
end
section
set_option linter.unusedSimpArgs false
set_option linter.unusedVariables false
namespace Go.Proofs.Ytmabopomecdidaa.Pure
open Go.RowKit Go.Proofs.Ytmabopomecdidaa.Pr Go.Proofs.YtmabopomecdidaaW.PrintWords Go.Proofs.YtmabopomecdidaaW.PrintLast Go.Proofs.YtmabopomecdidaaW.PrintMore
section
variable {t e : Nat → Option Bool} {r : Bool}
theorem Ev.and {b : Bool} (k : Ev t r) : Ev (fun n => if b = true then t n else some false) (b && r) := by
 cases b with
 | false => exact Ev.neg (by simp) (Ev.now _)
 | true => exact Ev.pos rfl k
theorem Ev.nand {c : Prop} [Decidable c] (k : Ev t r) : Ev (fun n => if c then some false else t n) (!decide c && r) := by
 by_cases h : c
 ·exact Ev.pos h (Ev.is (by simp [h]))
 ·exact Ev.neg h (k.cast (by simp [h]))
end
abbrev Arc := S45
def arc (l : List Arc) (i : Nat) : Arc := rd_T45 l (i : Int)
theorem rda (l : List Arc) (i : Nat) : rd_T45 l (i : Int) = arc l i := rfl
theorem arc_get {l : List Arc} {i : Nat} (h : i < l.length) : arc l i = l[i] := by simp [arc, rd_T45, h]
theorem arc_mem {l : List Arc} {i : Nat} (h : i < l.length) : arc l i ∈ l := by
 rw [arc_get h]
 exact List.getElem_mem h
attribute [irreducible] arc
def okArcW (n : Int) (a : Arc) : Bool := inB a.f0 0 (wrap64 (n - 1)) && (inB a.f1 0 (wrap64 (n - 1)) && (!decide (a.f0 = a.f1) && (inB a.f2 0 99 && (inB a.f3 0 99 && inB a.f4 0 9))))
theorem l1Ok_l (n : Int) (l : List Arc) (hm : l.length ≤ maxLen) : ∀ (m i : Nat), l.length - i = m → i ≤ l.length → Ev (fun k => spec_l1Ok.l0 k (i : Int) n l) ((l.drop i).all (okArcW n) && (inB n 1 8 && decide ((l.length : Int) ≤ 16))) := by
 intro m
 induction m with
 | zero =>
  intro i hd hi
  refine Ev.go ?_ (fun k => by rw [spec_l1Ok.l0])
  refine Ev.neg (by omega) (Ev.bind0 (in1 _ _ _) ?_)
  rw [List.drop_of_length_le (by omega)]
  exact (Ev.and (Ev.now _)).cast (by simp)
 | succ m ih =>
  intro i hd hi
  have hlt : i < l.length := by omega
  refine Ev.go ?_ (fun k => by rw [spec_l1Ok.l0])
  rw [drop_cons hlt, ← arc_get hlt, List.all_cons, rda, up1 hlt hm]
  refine Ev.pos (by omega) (Ev.pos (by omega) ?_)
  refine Ev.cast (Ev.bind0 (in1 _ _ _) (Ev.and (Ev.bind0 (in1 _ _ _) (Ev.and (Ev.nand (Ev.bind0 (in1 _ _ _) (Ev.and (Ev.bind0 (in1 _ _ _) (Ev.and (Ev.bind0 (in1 _ _ _) (Ev.and (ih (i + 1) (by omega) (by omega))))))))))))) ?_
  simp only [okArcW, Bool.and_assoc]
theorem okArcW_okArc {n : Int} (h : 1 ≤ n) (h8 : n ≤ 8) (a : Arc) : okArcW n a = okArc n a := by
 unfold okArcW okArc inB okN okC
 rw [w64 (by omega) (by omega)]
 have e : (a.f4 ≤ 9) ↔ (a.f4 ≤ 10 - 1) := by omega
 have e2 : (a.f0 == a.f1) = decide (a.f0 = a.f1) := by
  by_cases c : a.f0 = a.f1 <;> simp [c]
 rw [e2]
 simp only [Bool.and_assoc, e]
theorem l1Ok_ev (n : Int) (l : List Arc) (hm : l.length ≤ maxLen) : Ev (fun k => spec_l1Ok.f k n l) (netOkB n l) := by
 unfold spec_l1Ok.f
 refine (l1Ok_l n l hm _ 0 rfl (by omega)).cast ?_
 unfold netOkB
 rw [List.drop_zero]
 by_cases h : 1 ≤ n ∧ n ≤ 8
 ·have e : l.all (okArcW n) = l.all (okArc n) := by
   congr 1
   funext a
   exact okArcW_okArc h.1 h.2 a
  rw [e, show inB n 1 8 = true from inB_iff.2 h]
  simp [h.1, h.2, Bool.and_comm]
 ·have e : inB n 1 8 = false := by
   cases c : inB n 1 8 with
   | false => rfl
   | true => exact absurd (inB_iff.1 c) h
  rw [e]
  have e2 : (decide (1 ≤ n) && decide (n ≤ 8)) = false := e
  simp only [e2, Bool.false_and, Bool.and_false]
structure NetGood (n : Int) (l : List Arc) : Prop where
 n1 : 1 ≤ n
 n8 : n ≤ 8
 len : l.length ≤ 16
 ok : ∀ i, i < l.length → (0 ≤ (arc l i).f0 ∧ (arc l i).f0 < n) ∧ (0 ≤ (arc l i).f1 ∧ (arc l i).f1 < n) ∧ (arc l i).f0 ≠ (arc l i).f1 ∧ (0 ≤ (arc l i).f2 ∧ (arc l i).f2 ≤ 99) ∧ (0 ≤ (arc l i).f3 ∧ (arc l i).f3 ≤ 99) ∧ (0 ≤ (arc l i).f4 ∧ (arc l i).f4 ≤ 9)
theorem okArc_iff (n : Int) (a : Arc) : okArc n a = true ↔ (0 ≤ a.f0 ∧ a.f0 < n) ∧ (0 ≤ a.f1 ∧ a.f1 < n) ∧ a.f0 ≠ a.f1 ∧ (0 ≤ a.f2 ∧ a.f2 ≤ 99) ∧ (0 ≤ a.f3 ∧ a.f3 ≤ 99) ∧ (0 ≤ a.f4 ∧ a.f4 ≤ 9) := by
 simp only [okArc, okN, okC, Bool.and_eq_true, decide_eq_true_eq, Bool.not_eq_true', beq_eq_false_iff_ne]
 constructor
 ·rintro ⟨⟨⟨⟨⟨⟨a1, a2⟩, a3, a4⟩, a5⟩, a6⟩, a7⟩, a8, a9⟩
  exact ⟨⟨a1, by omega⟩, ⟨a3, by omega⟩, a5, a6, a7, a8, by omega⟩
 ·rintro ⟨⟨a1, a2⟩, ⟨a3, a4⟩, a5, a6, a7, a8, a9⟩
  exact ⟨⟨⟨⟨⟨⟨a1, by omega⟩, a3, by omega⟩, a5⟩, a6⟩, a7⟩, a8, by omega⟩
theorem netOkB_iff (n : Int) (l : List Arc) : netOkB n l = true ↔ NetGood n l := by
 simp only [netOkB, Bool.and_eq_true, decide_eq_true_eq, List.all_eq_true]
 constructor
 ·rintro ⟨⟨⟨h1, h2⟩, h3⟩, h4⟩
  exact ⟨h1, h2, by omega, fun i hi => (okArc_iff n _).1 (h4 _ (arc_mem hi))⟩
 ·rintro ⟨h1, h2, h3, h4⟩
  refine ⟨⟨⟨h1, h2⟩, by omega⟩, fun a ha => ?_⟩
  obtain ⟨i, hi, rfl⟩ := List.getElem_of_mem ha
  rw [← arc_get hi]
  exact (okArc_iff n _).2 (h4 i hi)
end Go.Proofs.Ytmabopomecdidaa.Pure
end
section
set_option linter.unusedSimpArgs false
set_option linter.unusedVariables false
namespace Go.Proofs.Ytmabopomecdidaa.Pure
open Go.RowKit Go.Proofs.Ytmabopomecdidaa.Pr Go.Proofs.YtmabopomecdidaaW.PrintWords Go.Proofs.YtmabopomecdidaaW.PrintLast Go.Proofs.YtmabopomecdidaaW.PrintMore
theorem inList_l (x : List Int) (v : Int) (hm : x.length ≤ maxLen) : ∀ (m i : Nat), x.length - i = m → i ≤ x.length → Ev (fun k => spec_l12In.l0 k x v (i : Int)) ((x.drop i).contains v) := by
 intro m
 induction m with
 | zero =>
  intro i hd hi
  refine Ev.go ?_ (fun k => by rw [spec_l12In.l0])
  exact Ev.neg (by omega) (Ev.is (by rw [List.drop_of_length_le (by omega)]; simp))
 | succ m ih =>
  intro i hd hi
  have hlt : i < x.length := by omega
  have hn := ih (i + 1) (by omega) (by omega)
  rw [← up1 hlt hm] at hn
  refine Ev.go ?_ (fun k => by rw [spec_l12In.l0])
  refine Ev.pos (by omega) (Ev.pos (by omega) ?_)
  rw [rdg i]
  have e : (x.drop i).contains v = (v == nth x i || (x.drop (i + 1)).contains v) := by rw [drop_cons hlt, List.contains_cons, nth_get hlt]
  by_cases c : nth x i = v
  ·exact Ev.pos c (Ev.is (by rw [e, c]; simp))
  ·refine Ev.neg c (hn.cast ?_)
   have hne : ¬ v = nth x i := fun h => c h.symm
   rw [e]
   simp [hne]
theorem inList_ev (x : List Int) (v : Int) (hm : x.length ≤ maxLen) : Ev (fun k => spec_l12In.f k x v) (x.contains v) :=
 inList_l x v hm _ 0 rfl (Nat.zero_le _)
def readyFrom (l : List Arc) (out : List Int) (v : Int) (i : Nat) : Bool := (l.drop i).all fun a => decide (a.f1 ≠ v) || out.contains a.f0
theorem ready_cand (l : List Arc) (out : List Int) (v : Int) : (!(out.contains v) && readyFrom l out v 0) = candB l out v := by
 unfold readyFrom candB
 rw [List.not_any_eq_all_not, List.drop_zero]
 congr 1
 congr 1
 funext a
 by_cases h : a.f1 = v <;> simp [h]
theorem order_l2 (n : Int) (l : List Arc) (out : List Int) (nx v : Int) (h0 : 0 ≤ v) (h1 : v ≤ 64) (hm : l.length ≤ maxLen) (ho : out.length ≤ maxLen) {R : List Int × Bool} : ∀ (m i : Nat) (b : Bool), l.length - i = m → i ≤ l.length →
  Ev (fun k => spec_RingOrder.l1 k out (if (b && readyFrom l out v i) = true then v else nx) (v - 1) n l) R → Ev (fun k => spec_RingOrder.l2 k out nx v b (i : Int) n l) R := by
 intro m
 induction m with
 | zero =>
  intro i b hd hi h
  have e : readyFrom l out v i = true := by unfold readyFrom; rw [List.drop_of_length_le (by omega)]; rfl
  rw [e, Bool.and_true] at h
  refine Ev.go ?_ (fun k => by rw [spec_RingOrder.l2])
  refine Ev.neg (by omega) ?_
  rw [w64 (by omega) (by omega)]
  cases b with
  | true => exact Ev.pos rfl (by simpa using h)
  | false => exact Ev.neg (by simp) (by simpa using h)
 | succ m ih =>
  intro i b hd hi h
  have hlt : i < l.length := by omega
  have e : readyFrom l out v i = ((decide ((arc l i).f1 ≠ v) || out.contains (arc l i).f0) && readyFrom l out v (i + 1)) := by
   unfold readyFrom
   rw [drop_cons hlt, List.all_cons]
   have : arc l i = l[i] := by simp [arc, rd_T45, hlt]
   rw [this]
  refine Ev.go ?_ (fun k => by rw [spec_RingOrder.l2])
  refine Ev.pos (by omega) ?_
  rw [up1 hlt hm]
  cases b with
  | false => exact Ev.neg (by simp) (ih (i + 1) false (by omega) (by omega) (by simpa using h))
  | true =>
   refine Ev.pos rfl (Ev.pos (by omega) ?_)
   rw [rda]
   by_cases c : (arc l i).f1 = v
   ·refine Ev.pos c (Ev.bind (inList_ev out (arc l i).f0 ho) (ih (i + 1) _ (by omega) (by omega) ?_))
    rw [e] at h
    simpa [c] using h
   ·refine Ev.neg c (ih (i + 1) true (by omega) (by omega) ?_)
    rw [e] at h
    simpa [c] using h
theorem order_l1 (n : Int) (l : List Arc) (out : List Int) (hm : l.length ≤ maxLen) (ho : out.length ≤ maxLen) {R : List Int × Bool} : ∀ (m : Nat) (nx : Int), m ≤ 64 →
  Ev (fun k => if lowN (candB l out) m nx < 0 then some (([] : List Int), false) else if out.length < 17592186044416 then spec_RingOrder.l0 k (out ++ [lowN (candB l out) m nx]) n l else none) R →
  Ev (fun k => spec_RingOrder.l1 k out nx ((m : Int) - 1) n l) R := by
 intro m
 induction m with
 | zero =>
  intro nx _ h
  refine Ev.go ?_ (fun k => by rw [spec_RingOrder.l1])
  exact Ev.neg (by omega) h
 | succ m ih =>
  intro nx hle h
  refine Ev.go ?_ (fun k => by rw [spec_RingOrder.l1])
  have e : ((m + 1 : Nat) : Int) - 1 = (m : Int) := by omega
  rw [e]
  refine Ev.pos (by omega) (Ev.bind (inList_ev out (m : Int) ho) ?_)
  refine order_l2 n l out nx (m : Int) (by omega) (by omega) hm ho _ 0 _ rfl (Nat.zero_le _) ?_
  rw [ready_cand]
  refine ih _ (by omega) ?_
  exact h
theorem order_l0 (N : Nat) (hN : N ≤ 64) (l : List Arc) (hm : l.length ≤ maxLen) : ∀ (m : Nat) (out : List Int), out.length + m = N → Ev (fun k => spec_RingOrder.l0 k out (N : Int) l) (ordF l N m out) := by
 intro m
 induction m with
 | zero =>
  intro out h
  refine Ev.go ?_ (fun k => by rw [spec_RingOrder.l0])
  exact Ev.neg (by omega) (Ev.now _)
 | succ m ih =>
  intro out h
  refine Ev.go ?_ (fun k => by rw [spec_RingOrder.l0])
  refine Ev.pos (by omega) ?_
  rw [w64 (by omega) (by omega)]
  refine order_l1 (N : Int) l out hm (by simp only [maxLen]; omega) N (-1) hN ?_
  unfold ordF
  by_cases c : lowN (candB l out) N (-1) < 0
  ·rw [if_pos c]
   exact Ev.pos c (Ev.now _)
  ·rw [if_neg c]
   exact Ev.neg c (Ev.pos (by omega) (ih _ (by rw [List.length_append]; simp; omega)))
def orderV (n : Int) (l : List Arc) : List Int × Bool := if netOkB n l = true then ordF l n.toNat n.toNat [] else ([], false)
theorem specRing_ev (n : Int) (l : List Arc) (hm : l.length ≤ maxLen) : Ev (fun k => spec_RingOrder.f k n l) (orderV n l) := by
 unfold spec_RingOrder.f
 refine Ev.bind (l1Ok_ev n l hm) ?_
 unfold orderV
 cases h : netOkB n l with
 | false => exact Ev.neg (by simp) (Ev.is (by simp))
 | true =>
  have hg := (netOkB_iff n l).1 h
  have h1 := hg.n1
  have h8 := hg.n8
  obtain ⟨N, rfl⟩ := Int.eq_ofNat_of_zero_le (show 0 ≤ n by omega)
  rw [if_pos rfl, Int.toNat_natCast]
  exact Ev.pos rfl (order_l0 N (by omega) l hm N [] (by simp))
theorem implRing (n : Int) (l : List Arc) : impl_RingOrder.f n l = some (orderV n l) := by
 unfold impl_RingOrder.f impl_NetOk.f
 show (if netOkB n l = true then _ else _) = _
 unfold orderV
 cases h : netOkB n l with
 | false => rfl
 | true =>
  have hg := (netOkB_iff n l).1 h
  have h1 := hg.n1
  have h8 := hg.n8
  unfold impl_Net_order.f
  rw [if_pos (show 0 ≤ n by omega), if_pos (show n ≤ 64 by omega)]
  rfl
end Go.Proofs.Ytmabopomecdidaa.Pure
end
section
set_option linter.unusedSectionVars false
namespace Go.Proofs.Ytmabopomecdidaa.Fl
def sm (F : Nat → Int) : Nat → Int
 | 0 => 0
 | n + 1 => sm F n + F n
section
variable {n m : Nat} {fr tw : Nat → Nat} {f : Nat → Int} (hf : ∀ i, i < m → fr i < n) (ht : ∀ i, i < m → tw i < n)
def net (m : Nat) (fr tw : Nat → Nat) (f : Nat → Int) (v : Nat) : Int := sm (fun i => (if fr i = v then f i else 0) - (if tw i = v then f i else 0)) m
include hf ht
end
section
variable {n m : Nat} {fr tw : Nat → Nat} {f cap : Nat → Int} (hf : ∀ i, i < m → fr i < n) (ht : ∀ i, i < m → tw i < n) (h0 : ∀ i, i < m → 0 ≤ f i ∧ f i ≤ cap i) {s t : Nat} (hs : s < n) (hz : ∀ v, v < n → v ≠ s → v ≠ t → net m fr tw f v = 0)
include hf ht h0 hs hz
end
end Go.Proofs.Ytmabopomecdidaa.Fl
end
section
set_option linter.unusedSectionVars false
namespace Go.Proofs.Ytmabopomecdidaa.Pm
open Go.Proofs.Ytmabopomecdidaa.Fl
def at_ (p : List Nat) (i : Nat) : Nat := p.getD i 0
structure IsPerm (n : Nat) (p : List Nat) : Prop where
 len : p.length = n
 nd : p.Nodup
 lt : ∀ x ∈ p, x < n
theorem perm_mem_all {n : Nat} {p : List Nat} (h : IsPerm n p) : ∀ k, k < n → k ∈ p := by
 intro k hk
 apply Classical.byContradiction
 intro hc
 have : ∀ (n : Nat) (l : List Nat), l.Nodup → (∀ x ∈ l, x < n) → l.length ≤ n := by
  intro n
  induction n with
  | zero =>
   intro l _ h
   cases l with
   | nil => simp
   | cons a l => exact absurd (h a (by simp)) (by omega)
  | succ n ih =>
   intro l hn h
   have h1 := ih (l.erase n) (hn.erase n) (fun x hx => by
    have h2 := h x (List.mem_of_mem_erase hx)
    have h3 : x ≠ n := by
     rintro rfl
     exact (List.Nodup.not_mem_erase hn) hx
    omega)
   have h4 : l.length ≤ (l.erase n).length + 1 := by
    rw [List.length_erase]
    split <;> omega
   omega
 have h1 := this n (k :: p) (List.nodup_cons.2 ⟨hc, h.nd⟩) (fun x hx => by
  rcases List.mem_cons.1 hx with rfl | hx
  ·exact hk
  ·exact h.lt x hx)
 have := h.len
 simp at h1
 omega
def inv (n : Nat) (p : List Nat) : List Nat := (List.range n).map fun k => p.idxOf k
theorem inv_at {n : Nat} {p : List Nat} (h : IsPerm n p) {k : Nat} (hk : k < n) : at_ (inv n p) k < n ∧ at_ p (at_ (inv n p) k) = k := by
 have hm := perm_mem_all h k hk
 have h1 := List.idxOf_lt_length_of_mem hm
 have e : at_ (inv n p) k = p.idxOf k := by simp [at_, inv, hk]
 rw [e]
 refine ⟨by rw [← h.len]; exact h1, ?_⟩
 simp only [at_, List.getD_eq_getElem?_getD, List.getElem?_eq_getElem h1, Option.getD_some]
 exact List.getElem_idxOf h1
end Go.Proofs.Ytmabopomecdidaa.Pm
end
section
set_option linter.unusedSimpArgs false
set_option linter.unusedVariables false
namespace Go.Proofs.Ytmabopomecdidaa.Pure
open Go.RowKit Go.Proofs.Ytmabopomecdidaa.Pr Go.Proofs.YtmabopomecdidaaW.PrintWords Go.Proofs.YtmabopomecdidaaW.PrintLast Go.Proofs.YtmabopomecdidaaW.PrintMore
theorem lowN_spec (c : Int → Bool) : ∀ (n : Nat) (nx : Int), lowN c n nx = nx ∨ ∃ j : Nat, j < n ∧ lowN c n nx = (j : Int) ∧ c (j : Int) = true
 | 0, nx => .inl rfl
 | n + 1, nx => by
  unfold lowN
  by_cases h : c (n : Int) = true
  ·rw [if_pos h]
   rcases lowN_spec c n (n : Int) with e | ⟨j, h1, h2, h3⟩
   ·exact .inr ⟨n, by omega, e, h⟩
   ·exact .inr ⟨j, by omega, h2, h3⟩
  ·rw [if_neg h]
   rcases lowN_spec c n nx with e | ⟨j, h1, h2, h3⟩
   ·exact .inl e
   ·exact .inr ⟨j, by omega, h2, h3⟩
structure Ord (l : List Arc) (N : Nat) (out : List Int) : Prop where
 node : ∀ v ∈ out, 0 ≤ v ∧ v < N
 once : out.Nodup
 back : ∀ j, j < out.length → ∀ a ∈ l, a.f1 = nth out j → a.f0 ∈ out.take j
theorem Ord.nil (l : List Arc) (N : Nat) : Ord l N [] := ⟨by simp, List.nodup_nil, by simp⟩
theorem Ord.push {l : List Arc} {N : Nat} {out : List Int} (h : Ord l N out) {j : Nat} (hj : j < N) (hc : candB l out (j : Int) = true) : Ord l N (out ++ [(j : Int)]) := by
 unfold candB at hc
 simp only [Bool.and_eq_true, Bool.not_eq_true', List.any_eq_false, decide_eq_true_eq, not_and, List.contains_eq_mem, decide_eq_false_iff_not, Decidable.not_not] at hc
 obtain ⟨h1, h2⟩ := hc
 refine ⟨?_, ?_, ?_⟩
 ·intro v hv
  rcases List.mem_append.1 hv with hv | hv
  ·exact h.node v hv
  ·simp at hv; omega
 ·rw [List.nodup_append]
  refine ⟨h.once, by simp, ?_⟩
  intro a ha b hb e
  simp at hb
  subst hb
  subst e
  exact h1 ha
 ·intro i hi a ha he
  rw [List.length_append, List.length_singleton] at hi
  by_cases e : i < out.length
  ·have hn : nth (out ++ [(j : Int)]) i = nth out i := by simp [nth, List.getD_eq_getElem?_getD, List.getElem?_append_left e]
   rw [List.take_append_of_le_length (by omega)]
   exact h.back i e a ha (by rw [← hn]; exact he)
  ·have e' : i = out.length := by omega
   subst e'
   have hn : nth (out ++ [(j : Int)]) out.length = (j : Int) := by simp [nth]
   rw [hn] at he
   rw [List.take_left]
   exact h2 a ha he
theorem ordF_good (l : List Arc) (N : Nat) : ∀ (m : Nat) (out : List Int), Ord l N out → out.length + m = N → (ordF l N m out).2 = true → Ord l N (ordF l N m out).1 ∧ (ordF l N m out).1.length = N
 | 0, out, h, hl, _ => ⟨h, by simpa [ordF] using hl⟩
 | m + 1, out, h, hl, ht => by
  unfold ordF at ht ⊢
  by_cases c : lowN (candB l out) N (-1) < 0
  ·rw [if_pos c] at ht; cases ht
  ·rw [if_neg c] at ht ⊢
   rcases lowN_spec (candB l out) N (-1) with e | ⟨j, h1, h2, h3⟩
   ·rw [e] at c; omega
   ·rw [h2] at ht ⊢
    exact ordF_good l N m _ (h.push h1 h3) (by rw [List.length_append, List.length_singleton]; omega) ht
theorem Ord.pw {l : List Arc} {N : Nat} {out : List Int} (h : Ord l N out) (hl : ∀ a ∈ l, 0 ≤ a.f1) : out.Pairwise (fun v u => ∀ a ∈ l, a.f0 = u → a.f1.toNat ≠ v.toNat) := by
 rw [List.pairwise_iff_getElem]
 intro i j hi hj hij a ha he hx
 have h1 := hl a ha
 have h2 := h.node _ (List.getElem_mem hi)
 have h3 := h.back i hi a ha (by rw [nth_get hi]; omega)
 obtain ⟨k, hk, e⟩ := List.getElem_of_mem h3
 rw [List.length_take] at hk
 rw [List.getElem_take] at e
 have := (List.getElem_inj h.once).1 (e.trans he)
 omega
theorem Ord.all {l : List Arc} {N : Nat} {out : List Int} (h : Ord l N out) (hN : out.length = N) : ∀ v, v < N → (v : Int) ∈ out := by
 have hm : ∀ (L : List Int), (∀ v ∈ L, 0 ≤ v) → L.Nodup → (L.map Int.toNat).Nodup := by
  intro L h0 hn
  rw [List.Nodup, List.pairwise_map]
  exact (List.Pairwise.and_mem.1 hn).imp (fun {a b} hab e => hab.2.2 (by have := h0 a hab.1; have := h0 b hab.2.1; omega))
 have hp : Pm.IsPerm N (out.map Int.toNat) := ⟨by simpa using hN, hm out (fun v hv => (h.node v hv).1) h.once, by
  intro x hx
  obtain ⟨v, hv, rfl⟩ := List.mem_map.1 hx
  have := h.node v hv
  omega⟩
 intro v hv
 obtain ⟨u, hu, e⟩ := List.mem_map.1 (Pm.perm_mem_all hp v hv)
 have := h.node u hu
 rw [show (v : Int) = u by omega]
 exact hu
end Go.Proofs.Ytmabopomecdidaa.Pure
end
section
set_option linter.unusedSimpArgs false
set_option linter.unusedVariables false
namespace Go.Proofs.Ytmabopomecdidaa.Pure
open Go.RowKit Go.Proofs.Ytmabopomecdidaa.Pr Go.Proofs.YtmabopomecdidaaW.PrintWords Go.Proofs.YtmabopomecdidaaW.PrintLast Go.Proofs.YtmabopomecdidaaW.PrintMore
def lst (n : Nat) (F : Nat → Int) : List Int := (List.range n).map F
theorem lst_len (n : Nat) (F : Nat → Int) : (lst n F).length = n := by simp [lst]
theorem lst_nth {n v : Nat} (F : Nat → Int) (h : v < n) : nth (lst n F) v = F v := by
 simp [nth, lst, h]
theorem lst_rd {n v : Nat} (F : Nat → Int) (h : v < n) : rd (lst n F) (v : Int) = F v := by rw [rdg, lst_nth F h]
theorem lst_congr {n : Nat} {F G : Nat → Int} (h : ∀ v, v < n → F v = G v) : lst n F = lst n G := by
 unfold lst
 exact List.map_congr_left (fun v hv => h v (List.mem_range.1 hv))
theorem lst_snoc (n : Nat) (F : Nat → Int) : lst n F ++ [F n] = lst (n + 1) F := by
 simp [lst, List.range_succ]
def upd (F : Nat → Int) (a : Nat) (x : Int) : Nat → Int := fun v => if v = a then x else F v
theorem lst_set {n a : Nat} (F : Nat → Int) (x : Int) : (lst n F).set a x = lst n (upd F a x) := by
 apply List.ext_getElem (by simp [lst])
 intro i h1 h2
 have hi : i < n := by simpa [lst] using h2
 simp only [List.getElem_set]
 by_cases e : a = i
 ·subst e; simp [lst, upd]
 ·simp [lst, upd, e, show ¬ i = a from fun h => e h.symm]
theorem upd_far (F : Nat → Int) {a v : Nat} (x : Int) (h : v ≠ a) : upd F a x v = F v := by simp [upd, h]
inductive Conn (E : Nat → Nat → Prop) : Nat → Nat → Prop
 | refl (v : Nat) : Conn E v v
 | tail {u v w : Nat} : Conn E u v → (E v w ∨ E w v) → Conn E u w
end Go.Proofs.Ytmabopomecdidaa.Pure
end
section
set_option linter.unusedSimpArgs false
set_option linter.unusedVariables false
namespace Go.Proofs.Ytmabopomecdidaa.Pure
open Go.RowKit Go.Proofs.Ytmabopomecdidaa.Pr Go.Proofs.YtmabopomecdidaaW.PrintWords Go.Proofs.YtmabopomecdidaaW.PrintLast Go.Proofs.YtmabopomecdidaaW.PrintMore
def relax1 (F : Nat → Int) (v : Nat) (a : Arc) : Nat → Int := if a.f0 = (v : Int) then upd F a.f1.toNat (mx (F a.f1.toNat) (F v + a.f2)) else F
def runA (F : Nat → Int) (v : Nat) (l : List Arc) : Nat → Int := l.foldl (fun F a => relax1 F v a) F
theorem runA_cons (F : Nat → Int) (v : Nat) (a : Arc) (l : List Arc) : runA F v (a :: l) = runA (relax1 F v a) v l := rfl
theorem mx_le {a b c : Int} (h : a ≤ c) (k : b ≤ c) : mx a b ≤ c := by unfold mx; split <;> assumption
theorem le_mx_l (a b : Int) : a ≤ mx a b := by unfold mx; split <;> omega
structure RunOk (F G : Nat → Int) (v : Nat) (l : List Arc) (B : Int) : Prop where
 lo : ∀ x, F x ≤ G x
 hi : ∀ x, G x ≤ B
 own : G v = F v
 far : ∀ x, (∀ a ∈ l, a.f0 = (v : Int) → a.f1.toNat ≠ x) → G x = F x
theorem runA_ok (v : Nat) (B : Int) : ∀ (l : List Arc) (F : Nat → Int), (∀ a ∈ l, 0 ≤ a.f1 ∧ a.f0 ≠ a.f1 ∧ a.f2 ≤ 99) → (∀ x, F x ≤ B) → F v + 99 ≤ B → RunOk F (runA F v l) v l B
 | [], F, _, hB, _ => ⟨fun _ => Int.le_refl _, hB, rfl, fun _ _ => rfl⟩
 | a :: l, F, hl, hB, hv => by
  obtain ⟨h1, h2, h3⟩ := hl a (List.mem_cons_self ..)
  have hg : relax1 F v a v = F v := by
   unfold relax1
   split
   ·exact upd_far _ _ (by omega)
   ·rfl
  have hle : ∀ x, F x ≤ relax1 F v a x := by
   intro x
   unfold relax1
   split
   ·unfold upd
    split
    ·rename_i e; subst e; exact le_mx_l _ _
    ·exact Int.le_refl _
   ·exact Int.le_refl _
  have hhi : ∀ x, relax1 F v a x ≤ B := by
   intro x
   unfold relax1
   split
   ·unfold upd
    split
    ·exact mx_le (hB _) (by omega)
    ·exact hB _
   ·exact hB _
  have ih := runA_ok v B l (relax1 F v a) (fun b hb => hl b (List.mem_cons_of_mem _ hb)) hhi (by rw [hg]; exact hv)
  rw [runA_cons]
  refine ⟨fun x => Int.le_trans (hle x) (ih.lo x), ih.hi, ih.own.trans hg, fun x hx => ?_⟩
  rw [ih.far x (fun b hb => hx b (List.mem_cons_of_mem _ hb))]
  unfold relax1
  split
  ·rename_i e
   exact upd_far _ _ (fun h => hx a (List.mem_cons_self ..) e h.symm)
  ·rfl
end Go.Proofs.Ytmabopomecdidaa.Pure
end
section
set_option linter.unusedSimpArgs false
set_option linter.unusedVariables false
namespace Go.Proofs.Ytmabopomecdidaa.Pure
open Go.RowKit Go.Proofs.Ytmabopomecdidaa.Pr Go.Proofs.YtmabopomecdidaaW.PrintWords Go.Proofs.YtmabopomecdidaaW.PrintLast Go.Proofs.YtmabopomecdidaaW.PrintMore
theorem sLong1 {N : Nat} {l : List Arc} (hg : NetGood N l) (out : List Int) (best : Int) (j v : Nat) (hj : j < out.length) (hm : out.length ≤ 64) (hv : nth out j = (v : Int)) (hvN : v < N) (B : Int) (hB : B ≤ 100000) {R : Int} : ∀ (m i : Nat) (F : Nat → Int), l.length - i = m → i ≤ l.length → (∀ x, 0 ≤ F x) → (∀ x, F x ≤ B) → F v + 99 ≤ B →
  Ev (fun k => spec_RingLong.l0 k out (lst N (runA F v (l.drop i))) (if runA F v (l.drop i) v > best then runA F v (l.drop i) v else best) ((j + 1 : Nat) : Int) N l) R →
  Ev (fun k => spec_RingLong.l1 k out (lst N F) best (j : Int) (i : Int) N l) R := by
 intro m
 induction m with
 | zero =>
  intro i F hd hi h0 hF hFv h
  rw [List.drop_of_length_le (by omega)] at h
  have hrun : runA F v [] = F := rfl
  rw [hrun] at h
  refine Ev.go ?_ (fun k => by rw [spec_RingLong.l1])
  rw [rdg j, hv, lst_rd F hvN, lst_len, show wrap64 ((j : Int) + 1) = ((j + 1 : Nat) : Int) by unfold wrap64; omega]
  refine Ev.neg (by omega) (Ev.pos (by omega) (Ev.pos (by omega) (Ev.pos (by omega) (Ev.pos (by omega) ?_))))
  by_cases c : F v > best
  ·rw [if_pos c] at h; exact Ev.pos c h
  ·rw [if_neg c] at h; exact Ev.neg c h
 | succ m ih =>
  intro i F hd hi h0 hF hFv h
  have hlt : i < l.length := by omega
  obtain ⟨⟨a1, a2⟩, ⟨a3, a4⟩, a5, ⟨a6, a7⟩, _⟩ := hg.ok i hlt
  have hlen := hg.len
  rw [drop_cons hlt, ← arc_get hlt, runA_cons] at h
  have hu : wrap64 ((i : Int) + 1) = ((i + 1 : Nat) : Int) := by unfold wrap64; omega
  refine Ev.go ?_ (fun k => by rw [spec_RingLong.l1])
  rw [rda, rdg j, hv, hu]
  clear hu
  refine Ev.pos (by omega) (Ev.pos (by omega) (Ev.pos (by omega) (Ev.pos (by omega) ?_)))
  by_cases c : (arc l i).f0 = (v : Int)
  ·refine Ev.pos c ?_
   obtain ⟨t, ht⟩ := Int.eq_ofNat_of_zero_le a3
   have htN : t < N := by omega
   have hF0 := h0 v
   have hw : wrap64 (F v + (arc l i).f2) = F v + (arc l i).f2 := by unfold wrap64; omega
   rw [c, ht, lst_rd F hvN, lst_rd F htN, lst_len, hw, Int.toNat_natCast, lst_set]
   clear hw
   refine Ev.pos (by omega) (Ev.pos (by omega) (Ev.pos (by omega) (Ev.pos (by omega) ?_)))
   have hr : relax1 F v (arc l i) = upd F t (mx (F t) (F v + (arc l i).f2)) := by unfold relax1; rw [if_pos c, ht, Int.toNat_natCast]
   have hvt : v ≠ t := by omega
   rw [hr] at h
   by_cases d : F v + (arc l i).f2 > F t
   ·have hmx : mx (F t) (F v + (arc l i).f2) = F v + (arc l i).f2 := by unfold mx; rw [if_pos (by omega)]
    rw [hmx] at h
    refine Ev.pos d (ih (i + 1) _ (by omega) (by omega) (fun x => ?_) (fun x => ?_) ?_ h)
    ·unfold upd; split
     ·omega
     ·exact h0 x
    ·unfold upd; split
     ·omega
     ·exact hF x
    ·rw [upd_far _ _ hvt]; exact hFv
   ·have hmx : mx (F t) (F v + (arc l i).f2) = F t := by unfold mx; rw [if_neg (by omega)]
    have hup : upd F t (F t) = F := by
     funext x
     unfold upd
     split
     ·rename_i e; rw [e]
     ·rfl
    rw [hmx, hup] at h
    exact Ev.neg d (ih (i + 1) F (by omega) (by omega) h0 hF hFv h)
  ·have hr : relax1 F v (arc l i) = F := by unfold relax1; rw [if_neg c]
   rw [hr] at h
   exact Ev.neg c (ih (i + 1) F (by omega) (by omega) h0 hF hFv h)
theorem iLong1 {N : Nat} {l : List Arc} (hg : NetGood N l) (out : List Int) (j v : Nat) (hj : j < out.length) (hm : out.length ≤ 64) (hvN : v < N) (B : Int) (hB : B ≤ 100000) {R : Int} : ∀ (m i : Nat) (F : Nat → Int), l.length - i = m → i ≤ l.length → (∀ x, 0 ≤ F x) → (∀ x, F x ≤ B) → F v + 99 ≤ B →
  Ev (fun k => impl_RingLong.l0 k out (lst N (runA F v (l.drop i))) (out.length : Int) ((j + 1 : Nat) : Int) N l) R →
  Ev (fun k => impl_RingLong.l1 k out (lst N F) (v : Int) (out.length : Int) (j : Int) l (l.length : Int) (i : Int) N l) R := by
 intro m
 induction m with
 | zero =>
  intro i F hd hi h0 hF hFv h
  rw [List.drop_of_length_le (by omega)] at h
  have hrun : runA F v [] = F := rfl
  rw [hrun] at h
  refine Ev.go ?_ (fun k => by rw [impl_RingLong.l1])
  rw [show wrap64 ((j : Int) + 1) = ((j + 1 : Nat) : Int) by unfold wrap64; omega]
  exact Ev.neg (by omega) h
 | succ m ih =>
  intro i F hd hi h0 hF hFv h
  have hlt : i < l.length := by omega
  obtain ⟨⟨a1, a2⟩, ⟨a3, a4⟩, a5, ⟨a6, a7⟩, _⟩ := hg.ok i hlt
  have hlen := hg.len
  rw [drop_cons hlt, ← arc_get hlt, runA_cons] at h
  have hu : wrap64 ((i : Int) + 1) = ((i + 1 : Nat) : Int) := by unfold wrap64; omega
  refine Ev.go ?_ (fun k => by rw [impl_RingLong.l1])
  rw [rda, hu]
  clear hu
  refine Ev.pos (by omega) (Ev.pos (by omega) (Ev.pos (by omega) ?_))
  by_cases c : (arc l i).f0 = (v : Int)
  ·refine Ev.pos c ?_
   obtain ⟨t, ht⟩ := Int.eq_ofNat_of_zero_le a3
   have htN : t < N := by omega
   have hF0 := h0 v
   have hw : wrap64 (F v + (arc l i).f2) = F v + (arc l i).f2 := by unfold wrap64; omega
   rw [ht, lst_rd F hvN, lst_rd F htN, lst_len, hw, Int.toNat_natCast, lst_set]
   clear hw
   refine Ev.pos (by omega) (Ev.pos (by omega) (Ev.pos (by omega) (Ev.pos (by omega) ?_)))
   have hr : relax1 F v (arc l i) = upd F t (mx (F t) (F v + (arc l i).f2)) := by unfold relax1; rw [if_pos c, ht, Int.toNat_natCast]
   have hvt : v ≠ t := by omega
   rw [hr] at h
   have hl := le_mx_l (F t) (F v + (arc l i).f2)
   have hF2 := h0 t
   refine ih (i + 1) _ (by omega) (by omega) (fun x => ?_) (fun x => ?_) ?_ h
   ·unfold upd; split
    ·omega
    ·exact h0 x
   ·unfold upd; split
    ·exact mx_le (hF t) (by omega)
    ·exact hF x
   ·rw [upd_far _ _ hvt]; exact hFv
  ·have hr : relax1 F v (arc l i) = F := by unfold relax1; rw [if_neg c]
   rw [hr] at h
   exact Ev.neg c (ih (i + 1) F (by omega) (by omega) h0 hF hFv h)
end Go.Proofs.Ytmabopomecdidaa.Pure
end
section
set_option linter.unusedSimpArgs false
set_option linter.unusedVariables false
namespace Go.Proofs.Ytmabopomecdidaa.Pure
open Go.RowKit Go.Proofs.Ytmabopomecdidaa.Pr Go.Proofs.YtmabopomecdidaaW.PrintWords Go.Proofs.YtmabopomecdidaaW.PrintLast Go.Proofs.YtmabopomecdidaaW.PrintMore
def top (b : Int) (r : List Int) : Int := r.foldl (fun m x => if m < x then x else m) b
theorem top_ge : ∀ (r : List Int) (b : Int), b ≤ top b r ∧ ∀ x ∈ r, x ≤ top b r
 | [], b => ⟨Int.le_refl _, by simp⟩
 | a :: r, b => by
  have ih := top_ge r (if b < a then a else b)
  have e : top b (a :: r) = top (if b < a then a else b) r := rfl
  rw [e]
  refine ⟨?_, ?_⟩
  ·refine Int.le_trans ?_ ih.1
   split <;> omega
  ·intro x hx
   rcases List.mem_cons.1 hx with rfl | hx
   ·refine Int.le_trans ?_ ih.1
    split <;> omega
   ·exact ih.2 x hx
theorem top_mem : ∀ (r : List Int) (b : Int), top b r = b ∨ top b r ∈ r
 | [], b => .inl rfl
 | a :: r, b => by
  have e : top b (a :: r) = top (if b < a then a else b) r := rfl
  rw [e]
  rcases top_mem r (if b < a then a else b) with h | h
  ·rw [h]
   split
   ·exact .inr (List.mem_cons_self ..)
   ·exact .inl rfl
  ·exact .inr (List.mem_cons_of_mem _ h)
theorem mxI_ge (r : List Int) : ∀ x ∈ r, x ≤ mxI r := by
 cases r with
 | nil => simp
 | cons a r =>
  intro x hx
  have h := top_ge r a
  rcases List.mem_cons.1 hx with rfl | hx
  ·exact h.1
  ·exact h.2 x hx
theorem mxI_mem {r : List Int} (h : r ≠ []) : mxI r ∈ r := by
 cases r with
 | nil => exact absurd rfl h
 | cons a r =>
  show top a r ∈ a :: r
  rcases top_mem r a with e | e
  ·rw [e]; exact List.mem_cons_self ..
  ·exact List.mem_cons_of_mem _ e
theorem runA_far (v x : Nat) : ∀ (l : List Arc) (F : Nat → Int), (∀ a ∈ l, a.f0 = (v : Int) → a.f1.toNat ≠ x) → runA F v l x = F x
 | [], _, _ => rfl
 | a :: l, F, h => by
  rw [runA_cons, runA_far v x l _ (fun b hb => h b (List.mem_cons_of_mem _ hb))]
  unfold relax1
  split
  ·rename_i e
   exact upd_far _ _ (fun k => h a (List.mem_cons_self ..) e k.symm)
  ·rfl
def runO (l : List Arc) (F : Nat → Int) (vs : List Int) : Nat → Int := vs.foldl (fun F v => runA F v.toNat l) F
def bestRun (l : List Arc) : Int → (Nat → Int) → List Int → Int
 | b, _, [] => b
 | b, F, v :: vs => bestRun l (if runA F v.toNat l v.toNat > b then runA F v.toNat l v.toNat else b) (runA F v.toNat l) vs
theorem runO_far (l : List Arc) (x : Nat) : ∀ (vs : List Int) (F : Nat → Int), (∀ v ∈ vs, 0 ≤ v) → (∀ v ∈ vs, ∀ a ∈ l, a.f0 = v → a.f1.toNat ≠ x) → runO l F vs x = F x
 | [], _, _, _ => rfl
 | v :: vs, F, h0, h => by
  show runO l (runA F v.toNat l) vs x = F x
  rw [runO_far l x vs _ (fun u hu => h0 u (List.mem_cons_of_mem _ hu)) (fun u hu => h u (List.mem_cons_of_mem _ hu))]
  have h1 := h0 v (List.mem_cons_self ..)
  exact runA_far v.toNat x l F (fun a ha e => h v (List.mem_cons_self ..) a ha (by rw [e]; omega))
theorem bestRun_top (l : List Arc) : ∀ (vs : List Int) (b : Int) (F : Nat → Int), (∀ v ∈ vs, 0 ≤ v) → vs.Pairwise (fun v u => ∀ a ∈ l, a.f0 = u → a.f1.toNat ≠ v.toNat) → bestRun l b F vs = top b (vs.map fun v => runO l F vs v.toNat)
 | [], _, _, _, _ => rfl
 | v :: vs, b, F, h0, hp => by
  rw [List.pairwise_cons] at hp
  have h0' : ∀ u ∈ vs, 0 ≤ u := fun u hu => h0 u (List.mem_cons_of_mem _ hu)
  have e : runO l F (v :: vs) = runO l (runA F v.toNat l) vs := rfl
  have e2 := runO_far l v.toNat vs (runA F v.toNat l) h0' hp.1
  rw [e]
  simp only [bestRun, List.map_cons]
  rw [bestRun_top l vs _ _ h0' hp.2, e2]
  rfl
theorem top_mxI {l : List Arc} {N : Nat} {out : List Int} (h : Ord l N out) (hN : out.length = N) (h1 : 0 < N) (F : Nat → Int) (h0 : ∀ x, 0 ≤ F x) : top 0 (out.map fun v => F v.toNat) = mxI (lst N F) := by
 have hne : lst N F ≠ [] := by
  intro e
  have := lst_len N F
  rw [e] at this
  simp at this
  omega
 have hmem : ∀ x, x ∈ lst N F ↔ ∃ v, v < N ∧ F v = x := by simp [lst]
 apply Int.le_antisymm
 ·rcases top_mem (out.map fun v => F v.toNat) 0 with e | e
  ·rw [e]
   exact Int.le_trans (h0 0) (mxI_ge _ _ ((hmem _).2 ⟨0, h1, rfl⟩))
  ·obtain ⟨v, hv, e⟩ := List.mem_map.1 e
   rw [← e]
   have := h.node v hv
   exact mxI_ge _ _ ((hmem _).2 ⟨v.toNat, by omega, rfl⟩)
 ·obtain ⟨v, hv, e⟩ := (hmem _).1 (mxI_mem hne)
  rw [← e]
  exact (top_ge _ 0).2 _ (List.mem_map.2 ⟨(v : Int), h.all hN v hv, by simp⟩)
end Go.Proofs.Ytmabopomecdidaa.Pure
end
section
set_option linter.unusedSimpArgs false
set_option linter.unusedVariables false
namespace Go.Proofs.Ytmabopomecdidaa.Pure
open Go.RowKit Go.Proofs.Ytmabopomecdidaa.Pr Go.Proofs.YtmabopomecdidaaW.PrintWords Go.Proofs.YtmabopomecdidaaW.PrintLast Go.Proofs.YtmabopomecdidaaW.PrintMore
def flip (a : Arc) : Arc := ⟨a.f1, a.f0, a.f2, a.f3, a.f4⟩
def back (l : List Arc) : List Arc := l.map flip
theorem back_len (l : List Arc) : (back l).length = l.length := by simp [back]
theorem back_arc {l : List Arc} {i : Nat} (h : i < l.length) : arc (back l) i = flip (arc l i) := by
 rw [arc_get (by rw [back_len]; exact h), arc_get h]
 simp [back]
theorem back_good {n : Int} {l : List Arc} (h : NetGood n l) : NetGood n (back l) := by
 refine ⟨h.n1, h.n8, by rw [back_len]; exact h.len, fun i hi => ?_⟩
 rw [back_len] at hi
 obtain ⟨a1, a2, a3, a4⟩ := h.ok i hi
 rw [back_arc hi]
 exact ⟨a2, a1, fun e => a3 e.symm, a4⟩
theorem implBack_l (n : Int) (l : List Arc) (hm : l.length ≤ 1000) : ∀ (m i : Nat), l.length - i = m → i ≤ l.length → Ev (fun k => impl_Net_back.l0 k l (l.length : Int) (i : Int) n ((back l).take i)) (n, back l) := by
 intro m
 induction m with
 | zero =>
  intro i hd hi
  refine Ev.go ?_ (fun k => by rw [impl_Net_back.l0])
  refine Ev.neg (by omega) (Ev.is ?_)
  rw [List.take_of_length_le (by rw [back_len]; omega)]
 | succ m ih =>
  intro i hd hi
  have hlt : i < l.length := by omega
  refine Ev.go ?_ (fun k => by rw [impl_Net_back.l0])
  have ih := ih (i + 1) (by omega) (by omega)
  have hlt2 : i < (back l).length := by rw [back_len]; exact hlt
  rw [List.take_succ_eq_append_getElem hlt2, ← arc_get hlt2, back_arc hlt] at ih
  rw [up1 hlt (by simp only [maxLen]; omega), rda]
  exact Ev.pos (by omega) (Ev.pos (by omega) (Ev.pos (by omega) (Ev.pos (by simp; omega) ih)))
theorem implBack_ev (n : Int) (l : List Arc) (hm : l.length ≤ 1000) : Ev (fun k => impl_Net_back.f k n l) (n, back l) := by
 unfold impl_Net_back.f
 exact Ev.pos (by omega) (Ev.pos (by omega) (by simpa using implBack_l n l hm _ 0 rfl (Nat.zero_le _)))
theorem implNetBack_ev {n : Int} {l : List Arc} (h : NetGood n l) : Ev (fun k => impl_NetBack.f k n l) (n, back l) := by
 unfold impl_NetBack.f
 have := h.len
 exact Ev.bind0 (show impl_NetOk.f n l = some (netOkB n l) from rfl) (Ev.pos ((netOkB_iff n l).2 h) (Ev.bind (implBack_ev n l (by omega)) (Ev.now _)))
end Go.Proofs.Ytmabopomecdidaa.Pure
end
section
set_option linter.unusedSimpArgs false
set_option linter.unusedVariables false
namespace Go.Proofs.Ytmabopomecdidaa.Pure
open Go.RowKit Go.Proofs.Ytmabopomecdidaa.Pr Go.Proofs.YtmabopomecdidaaW.PrintWords Go.Proofs.YtmabopomecdidaaW.PrintLast Go.Proofs.YtmabopomecdidaaW.PrintMore
theorem lowN_neg (c : Int → Bool) : ∀ (n : Nat) (nx : Int), lowN c n nx < 0 → ∀ j, j < n → c (j : Int) = false
 | 0, _, _, j, hj => by omega
 | n + 1, nx, h, j, hj => by
  unfold lowN at h
  by_cases hc : c (n : Int) = true
  ·rw [if_pos hc] at h
   rcases lowN_spec c n (n : Int) with e | ⟨t, _, e, _⟩ <;> omega
  ·rw [if_neg hc] at h
   by_cases e : j = n
   ·subst e; simpa using hc
   ·exact lowN_neg c n nx h j (by omega)
theorem ordF_stuck (l : List Arc) (N : Nat) : ∀ (m : Nat) (out : List Int), Ord l N out → out.length + m = N → (ordF l N m out).2 = false → ∃ o, Ord l N o ∧ o.length < N ∧ ∀ j, j < N → candB l o (j : Int) = false
 | 0, out, _, _, ht => by simp [ordF] at ht
 | m + 1, out, h, hl, ht => by
  unfold ordF at ht
  by_cases c : lowN (candB l out) N (-1) < 0
  ·exact ⟨out, h, by omega, lowN_neg _ N (-1) c⟩
  ·rw [if_neg c] at ht
   rcases lowN_spec (candB l out) N (-1) with e | ⟨j, h1, h2, h3⟩
   ·rw [e] at c; omega
   ·rw [h2] at ht
    exact ordF_stuck l N m _ (h.push h1 h3) (by rw [List.length_append, List.length_singleton]; omega) ht
theorem miss {N : Nat} {o : List Int} (h : o.length < N) : ∃ v, v < N ∧ (v : Int) ∉ o := by
 apply Classical.byContradiction
 intro hc
 have hall : ∀ v, v < N → (v : Int) ∈ o := fun v hv => Classical.byContradiction (fun k => hc ⟨v, hv, k⟩)
 have h1 : ∀ (n : Nat) (L : List Int), (∀ v, v < n → (v : Int) ∈ L) → n ≤ L.length := by
  intro n
  induction n with
  | zero => intro L _; exact Nat.zero_le _
  | succ n ih =>
   intro L hL
   have h2 := ih (L.erase (n : Int)) (fun v hv => (List.mem_erase_of_ne (by omega)).2 (hL v (by omega)))
   rw [List.length_erase_of_mem (hL n (by omega))] at h2
   have := List.length_pos_of_mem (hL n (by omega))
   omega
 have := h1 N o hall
 omega
theorem ord_turned {l : List Arc} {N : Nat} {out : List Int} (h : Ord l N out) (hN : out.length = N) (hl : ∀ a ∈ l, (0 ≤ a.f0 ∧ a.f0 < N) ∧ (0 ≤ a.f1 ∧ a.f1 < N)) : (ordF (back l) N N []).2 = true := by
 cases ht : (ordF (back l) N N []).2 with
 | true => rfl
 | false =>
  exfalso
  obtain ⟨o, ho, h1, h2⟩ := ordF_stuck (back l) N N [] (Ord.nil _ _) (by simp) ht
  have step : ∀ v : Nat, v < N → (v : Int) ∉ o → ∃ u : Nat, u < N ∧ (u : Int) ∉ o ∧ ∃ a ∈ l, a.f0 = (v : Int) ∧ a.f1 = (u : Int) := by
   intro v hv hvo
   have hc := h2 v hv
   unfold candB at hc
   have e : o.contains (v : Int) = false := by simpa using hvo
   rw [e] at hc
   simp only [Bool.not_false, Bool.true_and, Bool.not_eq_false', List.any_eq_true, Bool.and_eq_true, decide_eq_true_eq, Bool.not_eq_true'] at hc
   obtain ⟨b, hb, e1, e2⟩ := hc
   obtain ⟨a, ha, rfl⟩ := List.mem_map.1 hb
   have hla := hl a ha
   have e1 : a.f0 = (v : Int) := e1
   have e2 : o.contains a.f1 = false := e2
   refine ⟨a.f1.toNat, by omega, ?_, a, ha, e1, by omega⟩
   rw [show ((a.f1.toNat : Nat) : Int) = a.f1 by omega]
   simpa using e2
  have key : ∀ m j, out.length - j ≤ m → ∀ hj : j < out.length, out[j] ∈ o := by
   intro m
   induction m with
   | zero => intro j hm hj; omega
   | succ m ih =>
    intro j hm hj
    apply Classical.byContradiction
    intro hno
    have hnode := h.node _ (List.getElem_mem hj)
    have ev : ((out[j].toNat : Nat) : Int) = out[j] := by omega
    obtain ⟨u, hu, huo, a, ha, e1, e2⟩ := step out[j].toNat (by omega) (by rw [ev]; exact hno)
    obtain ⟨i, hi, eu⟩ := List.getElem_of_mem (h.all hN u hu)
    have hb := h.back i hi a ha (by rw [nth_get hi, eu]; exact e2)
    obtain ⟨t, ht2, et⟩ := List.getElem_of_mem hb
    rw [List.length_take] at ht2
    rw [List.getElem_take] at et
    have ee : out[t] = out[j] := by rw [et, e1, ev]
    have hte := (List.getElem_inj h.once).1 ee
    have := ih i (by omega) hi
    rw [eu] at this
    exact huo this
  obtain ⟨v, hv, hvo⟩ := miss h1
  obtain ⟨j, hj, e⟩ := List.getElem_of_mem (h.all hN v hv)
  have := key out.length j (by omega) hj
  rw [e] at this
  exact hvo this
end Go.Proofs.Ytmabopomecdidaa.Pure
end
section
set_option linter.unusedSimpArgs false
set_option linter.unusedVariables false
set_option linter.unusedSectionVars false
namespace Go.Proofs.Ytmabopomecdidaa.Pure
open Go.RowKit Go.Proofs.Ytmabopomecdidaa.Pr Go.Proofs.YtmabopomecdidaaW.PrintWords Go.Proofs.YtmabopomecdidaaW.PrintLast Go.Proofs.YtmabopomecdidaaW.PrintMore
theorem lst_zero (N : Nat) (c : Int) : List.replicate N c = lst N (fun _ => c) := by
 apply List.ext_getElem (by simp [lst])
 intro i h1 h2
 simp [lst]
theorem good_arcs {n : Int} {l : List Arc} (hg : NetGood n l) : ∀ a ∈ l, (0 ≤ a.f0 ∧ a.f0 < n) ∧ (0 ≤ a.f1 ∧ a.f1 < n) ∧ a.f0 ≠ a.f1 ∧ (0 ≤ a.f2 ∧ a.f2 ≤ 99) ∧ (0 ≤ a.f3 ∧ a.f3 ≤ 99) ∧ (0 ≤ a.f4 ∧ a.f4 ≤ 9) := by
 intro a ha
 obtain ⟨i, hi, e⟩ := List.getElem_of_mem ha
 have := hg.ok i hi
 rw [arc_get hi, e] at this
 exact this
section
variable {N : Nat} {l : List Arc} (hg : NetGood N l) {out : List Int} (ho : Ord l N out) (hN : out.length = N)
include hg ho hN
theorem runA_nn {v : Nat} {F : Nat → Int} {B : Int} (h0 : ∀ x, 0 ≤ F x) (hB : ∀ x, F x ≤ B) (hv : F v + 99 ≤ B) : (∀ x, 0 ≤ runA F v l x) ∧ ∀ x, runA F v l x ≤ B := by
 have h := runA_ok v B l F (fun a ha => by have := good_arcs hg a ha; exact ⟨this.2.1.1, this.2.2.1, this.2.2.2.1.2⟩) hB hv
 exact ⟨fun x => Int.le_trans (h0 x) (h.lo x), h.hi⟩
theorem sLong0 : ∀ (m j : Nat) (F : Nat → Int) (best : Int), out.length - j = m → j ≤ out.length → (∀ x, 0 ≤ F x) → (∀ x, F x ≤ 99 * (j : Int)) →
  Ev (fun k => spec_RingLong.l0 k out (lst N F) best (j : Int) N l) (bestRun l best F (out.drop j)) := by
 have h8 := hg.n8
 intro m
 induction m with
 | zero =>
  intro j F best hd hj h0 hF
  refine Ev.go ?_ (fun k => by rw [spec_RingLong.l0])
  rw [List.drop_of_length_le (by omega)]
  exact Ev.neg (by omega) (Ev.now _)
 | succ m ih =>
  intro j F best hd hj h0 hF
  have hlt : j < out.length := by omega
  have hnode := ho.node _ (List.getElem_mem hlt)
  obtain ⟨v, hv⟩ : ∃ v : Nat, out[j] = (v : Int) := ⟨out[j].toNat, by omega⟩
  have hb : ∀ x, F x ≤ 99 * ((j + 1 : Nat) : Int) := fun x => by have := hF x; omega
  have hbv : F v + 99 ≤ 99 * ((j + 1 : Nat) : Int) := by have := hF v; omega
  have hn := runA_nn hg ho hN h0 hb hbv
  refine Ev.go ?_ (fun k => by rw [spec_RingLong.l0])
  refine Ev.pos (by omega) ?_
  rw [drop_cons hlt, hv]
  have h := sLong1 hg out best j v hlt (by omega) (by rw [nth_get hlt, hv]) (by omega) (99 * ((j + 1 : Nat) : Int)) (by omega) (R := bestRun l best F ((v : Int) :: out.drop (j + 1))) l.length 0 F rfl (Nat.zero_le _) h0 hb hbv
  rw [List.drop_zero] at h
  refine h ?_
  exact ih (j + 1) _ _ (by omega) (by omega) hn.1 hn.2
theorem iLong0 : ∀ (m j : Nat) (F : Nat → Int), out.length - j = m → j ≤ out.length → (∀ x, 0 ≤ F x) → (∀ x, F x ≤ 99 * (j : Int)) →
  Ev (fun k => impl_RingLong.l0 k out (lst N F) (out.length : Int) (j : Int) N l) (mxI (lst N (runO l F (out.drop j)))) := by
 have h8 := hg.n8
 have h1 := hg.n1
 intro m
 induction m with
 | zero =>
  intro j F hd hj h0 hF
  refine Ev.go ?_ (fun k => by rw [impl_RingLong.l0])
  rw [List.drop_of_length_le (by omega)]
  have hl := lst_len N F
  refine Ev.neg (by omega) (Ev.bind0 (show slices_Max_int_int.f (lst N F) = some (mxI (lst N F)) by unfold slices_Max_int_int.f; rw [if_neg (by omega)]) (Ev.now _))
 | succ m ih =>
  intro j F hd hj h0 hF
  have hlt : j < out.length := by omega
  have hnode := ho.node _ (List.getElem_mem hlt)
  obtain ⟨v, hv⟩ : ∃ v : Nat, out[j] = (v : Int) := ⟨out[j].toNat, by omega⟩
  have hb : ∀ x, F x ≤ 99 * ((j + 1 : Nat) : Int) := fun x => by have := hF x; omega
  have hbv : F v + 99 ≤ 99 * ((j + 1 : Nat) : Int) := by have := hF v; omega
  have hn := runA_nn hg ho hN h0 hb hbv
  refine Ev.go ?_ (fun k => by rw [impl_RingLong.l0])
  refine Ev.pos (by omega) (Ev.pos (by omega) (Ev.pos (by omega) ?_))
  rw [rdg j, nth_get hlt, drop_cons hlt, hv]
  have h := iLong1 hg out j v hlt (by omega) (by omega) (99 * ((j + 1 : Nat) : Int)) (by omega) (R := mxI (lst N (runO l F ((v : Int) :: out.drop (j + 1))))) l.length 0 F rfl (Nat.zero_le _) h0 hb hbv
  rw [List.drop_zero] at h
  refine h ?_
  exact ih (j + 1) _ (by omega) (by omega) hn.1 hn.2
theorem long_nn : ∀ (m j : Nat) (F : Nat → Int), out.length - j = m → j ≤ out.length → (∀ x, 0 ≤ F x) → (∀ x, F x ≤ 99 * (j : Int)) → (∀ x, 0 ≤ runO l F (out.drop j) x) ∧ ∀ x, runO l F (out.drop j) x ≤ 99 * (out.length : Int) := by
 intro m
 induction m with
 | zero =>
  intro j F hd hj h0 hF
  rw [List.drop_of_length_le (by omega)]
  exact ⟨h0, fun x => by have := hF x; show F x ≤ _; omega⟩
 | succ m ih =>
  intro j F hd hj h0 hF
  have hlt : j < out.length := by omega
  have hnode := ho.node _ (List.getElem_mem hlt)
  obtain ⟨v, hv⟩ : ∃ v : Nat, out[j] = (v : Int) := ⟨out[j].toNat, by omega⟩
  have hb : ∀ x, F x ≤ 99 * ((j + 1 : Nat) : Int) := fun x => by have := hF x; omega
  have hbv : F v + 99 ≤ 99 * ((j + 1 : Nat) : Int) := by have := hF v; omega
  have hn := runA_nn hg ho hN h0 hb hbv
  rw [drop_cons hlt, hv]
  exact ih (j + 1) _ (by omega) (by omega) hn.1 hn.2
end
def longV (n : Int) (l : List Arc) : Int := if (orderV n l).2 = true then mxI (lst n.toNat (runO l (fun _ => 0) (orderV n l).1)) else -1
theorem orderV_good {n : Int} {l : List Arc} (h : (orderV n l).2 = true) : ∃ N : Nat, n = N ∧ NetGood N l ∧ Ord l N (orderV n l).1 ∧ (orderV n l).1.length = N := by
 unfold orderV at h ⊢
 cases hk : netOkB n l with
 | false => rw [hk] at h; simp at h
 | true =>
  have hg := (netOkB_iff n l).1 hk
  have h1 := hg.n1
  rw [hk] at h
  rw [if_pos rfl] at h ⊢
  obtain ⟨N, rfl⟩ := Int.eq_ofNat_of_zero_le (show 0 ≤ n by omega)
  rw [Int.toNat_natCast] at h ⊢
  have := ordF_good l N N [] (Ord.nil _ _) (by simp) h
  exact ⟨N, rfl, hg, this⟩
theorem specLong_ev (n : Int) (l : List Arc) (hm : l.length ≤ maxLen) : Ev (fun k => spec_RingLong.f k n l) (longV n l) := by
 unfold spec_RingLong.f
 refine Ev.bind (specRing_ev n l hm) ?_
 unfold longV
 cases h : (orderV n l).2 with
 | false => exact Ev.neg (by simp) (Ev.is (by simp))
 | true =>
  obtain ⟨N, rfl, hg, ho, hN⟩ := orderV_good h
  have h8 := hg.n8
  have h1 := hg.n1
  rw [if_pos rfl, Int.toNat_natCast, lst_zero]
  refine Ev.pos rfl (Ev.pos (by omega) (Ev.pos (by omega) ?_))
  have e := sLong0 hg ho hN _ 0 (fun _ => 0) 0 rfl (Nat.zero_le _) (fun _ => Int.le_refl _) (fun _ => by simp)
  rw [List.drop_zero] at e
  have hnn := long_nn hg ho hN _ 0 (fun _ => 0) rfl (Nat.zero_le _) (fun _ => Int.le_refl _) (fun _ => by simp)
  rw [List.drop_zero] at hnn
  have e2 := bestRun_top l (orderV N l).1 0 (fun _ => 0) (fun v hv => (ho.node v hv).1) (ho.pw (fun a ha => (good_arcs hg a ha).2.1.1))
  rw [e2, top_mxI ho hN (by omega) _ hnn.1] at e
  exact e
theorem implLong_ev (n : Int) (l : List Arc) : Ev (fun k => impl_RingLong.f k n l) (longV n l) := by
 unfold impl_RingLong.f
 refine Ev.bind0 (implRing n l) ?_
 unfold longV
 cases h : (orderV n l).2 with
 | false => exact Ev.neg (by simp) (Ev.is (by simp))
 | true =>
  obtain ⟨N, rfl, hg, ho, hN⟩ := orderV_good h
  have h8 := hg.n8
  have h1 := hg.n1
  rw [if_pos rfl, Int.toNat_natCast, lst_zero]
  refine Ev.pos rfl (Ev.pos (by omega) (Ev.pos (by omega) ?_))
  have e := iLong0 hg ho hN _ 0 (fun _ => 0) rfl (Nat.zero_le _) (fun _ => Int.le_refl _) (fun _ => by simp)
  rw [List.drop_zero] at e
  exact e
end Go.Proofs.Ytmabopomecdidaa.Pure
end
section
set_option linter.unusedSectionVars false
namespace Go.Proofs.Ytmabopomecdidaa.Sp
structure G where
 n : Nat
 m : Nat
 fr : Nat → Nat
 tw : Nat → Nat
 w : Nat → Int
 use : Nat → Bool
structure G.Ok (g : G) : Prop where
 fl : ∀ i, i < g.m → g.fr i < g.n
 tl : ∀ i, i < g.m → g.tw i < g.n
 w0 : ∀ i, i < g.m → 0 ≤ g.w i
inductive Wk (g : G) : Nat → Nat → Nat → Int → Prop
 | nil (v : Nat) : Wk g v v 0 0
 | cons {i v k : Nat} {c : Int} : i < g.m → g.use i = true → Wk g (g.tw i) v k c → Wk g (g.fr i) v (k + 1) (g.w i + c)
theorem Wk.cast {g : G} {u v k k' : Nat} {c c' : Int} (h : Wk g u v k c) (hk : k = k') (hc : c = c') : Wk g u v k' c' := by
 subst hk; subst hc; exact h
theorem Wk.trans {g : G} {u v x k j : Nat} {c d : Int} (h : Wk g u v k c) (h' : Wk g v x j d) : Wk g u x (k + j) (c + d) := by
 induction h with
 | nil => exact h'.cast (by omega) (by omega)
 | cons hi hu _ ih => exact (Wk.cons hi hu (ih h')).cast (by omega) (by omega)
theorem Wk.one {g : G} {i : Nat} (hi : i < g.m) (hu : g.use i = true) : Wk g (g.fr i) (g.tw i) 1 (g.w i) :=
 (Wk.cons hi hu (.nil _)).cast rfl (by omega)
theorem Wk.nonneg {g : G} (ok : g.Ok) {u v k : Nat} {c : Int} (h : Wk g u v k c) : 0 ≤ c := by
 induction h with
 | nil => omega
 | cons hi _ _ ih => have := ok.w0 _ hi; omega
theorem Wk.start_lt {g : G} (ok : g.Ok) {u v k : Nat} {c : Int} (h : Wk g u v k c) (hv : v < g.n) : u < g.n := by
 cases h with
 | nil => exact hv
 | cons hi _ _ => exact ok.fl _ hi
theorem nodup_len : ∀ (n : Nat) (l : List Nat), l.Nodup → (∀ x ∈ l, x < n) → l.length ≤ n := by
 intro n
 induction n with
 | zero =>
  intro l _ h
  cases l with
  | nil => simp
  | cons a l => exact absurd (h a (by simp)) (by omega)
 | succ n ih =>
  intro l hn h
  have h1 := ih (l.erase n) (hn.erase n) (fun x hx => by
   have h2 := h x (List.mem_of_mem_erase hx)
   have h3 : x ≠ n := by
    rintro rfl
    exact (List.Nodup.not_mem_erase hn) hx
   omega)
  have := List.length_erase_le (a := n) (l := l)
  have h4 : l.length ≤ (l.erase n).length + 1 := by
   rw [List.length_erase]
   split <;> omega
  omega
inductive Sm (g : G) (t : Nat) : Nat → List Nat → Nat → Int → Prop
 | nil : Sm g t t [t] 0 0
 | cons {i k : Nat} {L : List Nat} {c : Int} : i < g.m → g.use i = true → Sm g t (g.tw i) L k c → g.fr i ∉ L → Sm g t (g.fr i) (g.fr i :: L) (k + 1) (g.w i + c)
theorem Sm.wk {g : G} {t u k : Nat} {L : List Nat} {c : Int} (h : Sm g t u L k c) : Wk g u t k c := by
 induction h with
 | nil => exact .nil _
 | cons hi hu _ _ ih => exact .cons hi hu ih
theorem Sm.facts {g : G} (ok : g.Ok) {t u k : Nat} (ht : t < g.n) {L : List Nat} {c : Int} (h : Sm g t u L k c) : L.Nodup ∧ (∀ x ∈ L, x < g.n) ∧ L.length = k + 1 := by
 induction h with
 | nil => simp [ht]
 | cons hi _ _ hn ih =>
  refine ⟨List.nodup_cons.2 ⟨hn, ih.1⟩, ?_, by simp [ih.2.2]⟩
  intro x hx
  rcases List.mem_cons.1 hx with rfl | hx
  ·exact ok.fl _ hi
  ·exact ih.2.1 x hx
theorem Sm.tail {g : G} (ok : g.Ok) {t u k : Nat} {L : List Nat} {c : Int} (h : Sm g t u L k c) {x : Nat} (hx : x ∈ L) : ∃ L' k' c', Sm g t x L' k' c' ∧ k' ≤ k ∧ c' ≤ c := by
 induction h with
 | nil =>
  obtain rfl : x = t := by simpa using hx
  exact ⟨_, _, _, .nil, Nat.le_refl _, Int.le_refl _⟩
 | cons hi hu h hn ih =>
  rcases List.mem_cons.1 hx with rfl | hx
  ·exact ⟨_, _, _, .cons hi hu h hn, Nat.le_refl _, Int.le_refl _⟩
  ·obtain ⟨L', k', c', h1, h2, h3⟩ := ih hx
   have := ok.w0 _ hi
   exact ⟨L', k', c', h1, by omega, by omega⟩
theorem Wk.simple {g : G} (ok : g.Ok) {u v k : Nat} {c : Int} (h : Wk g u v k c) : ∃ L k' c', Sm g v u L k' c' ∧ k' ≤ k ∧ c' ≤ c := by
 induction h with
 | nil v => exact ⟨_, _, _, .nil, Nat.le_refl _, Int.le_refl _⟩
 | @cons i v k c hi hu h ih =>
  obtain ⟨L, k', c', h1, h2, h3⟩ := ih
  by_cases hm : g.fr i ∈ L
  ·obtain ⟨L'', k'', c'', h4, h5, h6⟩ := h1.tail ok hm
   have := ok.w0 _ hi
   exact ⟨L'', k'', c'', h4, by omega, by omega⟩
  ·exact ⟨_, _, _, .cons hi hu h1 hm, by omega, by omega⟩
theorem Wk.short {g : G} (ok : g.Ok) {u v k : Nat} (hv : v < g.n) {c : Int} (h : Wk g u v k c) : ∃ k' c', Wk g u v k' c' ∧ k' < g.n ∧ k' ≤ k ∧ c' ≤ c := by
 obtain ⟨L, k', c', h1, h2, h3⟩ := h.simple ok
 obtain ⟨f1, f2, f3⟩ := h1.facts ok hv
 have := nodup_len _ _ f1 f2
 exact ⟨k', c', h1.wk, by omega, h2, h3⟩
def Opt (g : G) (t : Nat) (L : Nat → Option Int) : Prop := ∀ v, v < g.n → (∀ x, L v = some x → ∃ k, Wk g v t k x) ∧ (∀ k c, Wk g v t k c → ∃ x, L v = some x ∧ x ≤ c)
theorem Opt.uniq {g : G} {t : Nat} {L L' : Nat → Option Int} (h : Opt g t L) (h' : Opt g t L') : ∀ v, v < g.n → L v = L' v := by
 intro v hv
 obtain ⟨a, b⟩ := h v hv
 obtain ⟨a', b'⟩ := h' v hv
 cases e : L v with
 | none =>
  cases e' : L' v with
  | none => rfl
  | some y =>
   obtain ⟨k, hk⟩ := a' y e'
   obtain ⟨x, hx, _⟩ := b k y hk
   rw [e] at hx; cases hx
 | some x =>
  obtain ⟨k, hk⟩ := a x e
  obtain ⟨y, hy, h1⟩ := b' k x hk
  obtain ⟨k', hk'⟩ := a' y hy
  obtain ⟨x', hx', h2⟩ := b k' y hk'
  rw [e] at hx'
  obtain rfl := Option.some.inj hx'
  rw [hy]
  congr 1
  omega
def lts (a : Int) : Option Int → Bool
 | none => true
 | some y => decide (a < y)
def put (L : Nat → Option Int) (a : Nat) (x : Int) : Nat → Option Int := fun v => if v = a then some x else L v
def relax (g : G) (L : Nat → Option Int) (i : Nat) : Nat → Option Int :=
 if g.use i = true then
  match L (g.tw i) with
  | none => L
  | some x => if lts (x + g.w i) (L (g.fr i)) = true then put L (g.fr i) (x + g.w i) else L
 else L
theorem relax_cases (g : G) (L : Nat → Option Int) (i : Nat) : (relax g L i = L ∧ (g.use i = true → ∀ x, L (g.tw i) = some x → lts (x + g.w i) (L (g.fr i)) = false)) ∨ (g.use i = true ∧ ∃ x, L (g.tw i) = some x ∧ lts (x + g.w i) (L (g.fr i)) = true ∧ relax g L i = put L (g.fr i) (x + g.w i)) := by
 unfold relax
 by_cases hu : g.use i = true
 ·rw [if_pos hu]
  cases e : L (g.tw i) with
  | none => exact .inl ⟨rfl, fun _ x hx => by cases hx⟩
  | some x =>
   dsimp only
   by_cases hl : lts (x + g.w i) (L (g.fr i)) = true
   ·rw [if_pos hl]
    exact .inr ⟨hu, x, rfl, hl, rfl⟩
   ·rw [if_neg hl]
    refine .inl ⟨rfl, fun _ y hy => ?_⟩
    obtain rfl := Option.some.inj hy
    simpa using hl
 ·rw [if_neg hu]
  exact .inl ⟨rfl, fun h => absurd h hu⟩
def sweep (g : G) (L : Nat → Option Int) : Nat → (Nat → Option Int)
 | 0 => L
 | i + 1 => relax g (sweep g L i) i
def Le (a b : Option Int) : Prop := ∀ y, b = some y → ∃ x, a = some x ∧ x ≤ y
theorem Le.refl (a : Option Int) : Le a a := fun y h => ⟨y, h, Int.le_refl _⟩
theorem Le.trans {a b c : Option Int} (h : Le a b) (k : Le b c) : Le a c := by
 intro y hy
 obtain ⟨x, hx, h1⟩ := k y hy
 obtain ⟨z, hz, h2⟩ := h x hx
 exact ⟨z, hz, by omega⟩
theorem put_same (L : Nat → Option Int) (a : Nat) (x : Int) : put L a x a = some x := by simp [put]
theorem put_far (L : Nat → Option Int) {a v : Nat} (x : Int) (h : v ≠ a) : put L a x v = L v := by simp [put, h]
theorem relax_le (g : G) (L : Nat → Option Int) (i v : Nat) : Le (relax g L i v) (L v) := by
 rcases relax_cases g L i with ⟨e, _⟩ | ⟨_, x, hx, hl, e⟩
 ·rw [e]; exact Le.refl _
 ·rw [e]
  by_cases hv : v = g.fr i
  ·subst hv
   rw [put_same]
   intro y hy
   rw [hy] at hl
   exact ⟨_, rfl, by simp [lts] at hl; omega⟩
  ·rw [put_far _ _ hv]; exact Le.refl _
theorem relax_arc (g : G) (L : Nat → Option Int) (i : Nat) (hu : g.use i = true) {x : Int} (hx : L (g.tw i) = some x) : Le (relax g L i (g.fr i)) (some (x + g.w i)) := by
 intro y hy
 obtain rfl := Option.some.inj hy
 unfold relax
 rw [if_pos hu, hx]
 dsimp only
 split
 ·exact ⟨_, by simp [put], Int.le_refl _⟩
 ·rename_i hl
  cases e : L (g.fr i) with
  | none => rw [e] at hl; simp [lts] at hl
  | some z => rw [e] at hl; exact ⟨z, rfl, by simp [lts] at hl; omega⟩
theorem sweep_le (g : G) (L : Nat → Option Int) (i s v : Nat) : Le (sweep g L (i + s) v) (sweep g L i v) := by
 induction s with
 | zero => exact Le.refl _
 | succ s ih => exact (relax_le g _ _ v).trans ih
theorem sweep_arc (g : G) (L : Nat → Option Int) {i : Nat} (hi : i < g.m) (hu : g.use i = true) {x : Int} (hx : L (g.tw i) = some x) : ∃ y, sweep g L g.m (g.fr i) = some y ∧ y ≤ x + g.w i := by
 have h0 := sweep_le g L 0 i (g.tw i)
 rw [Nat.zero_add] at h0
 obtain ⟨x', hx', h1⟩ := h0 x hx
 have h2 := relax_arc g (sweep g L i) i hu hx'
 have h3 := sweep_le g L (i + 1) (g.m - (i + 1)) (g.fr i)
 rw [show i + 1 + (g.m - (i + 1)) = g.m by omega] at h3
 obtain ⟨y, hy, h4⟩ := (h3.trans h2) _ rfl
 exact ⟨y, hy, by omega⟩
def Real (g : G) (t : Nat) (L : Nat → Option Int) : Prop := ∀ v x, L v = some x → ∃ k, Wk g v t k x
theorem relax_real {g : G} {t : Nat} {L : Nat → Option Int} (h : Real g t L) {i : Nat} (hi : i < g.m) : Real g t (relax g L i) := by
 intro v x hx
 rcases relax_cases g L i with ⟨e, _⟩ | ⟨hu, y, hy, hl, e⟩
 ·rw [e] at hx; exact h v x hx
 ·rw [e] at hx
  by_cases hv : v = g.fr i
  ·subst hv
   rw [put_same] at hx
   obtain rfl := Option.some.inj hx
   obtain ⟨k, hk⟩ := h _ _ hy
   exact ⟨k + 1, (Wk.cons hi hu hk).cast rfl (by omega)⟩
  ·rw [put_far _ _ hv] at hx; exact h v x hx
theorem sweep_real {g : G} {t : Nat} {L : Nat → Option Int} (h : Real g t L) : ∀ i, i ≤ g.m → Real g t (sweep g L i) := by
 intro i
 induction i with
 | zero => exact fun _ => h
 | succ i ih => exact fun hi => relax_real (ih (by omega)) (by omega)
theorem opt_of_fix {g : G} {t : Nat} {L : Nat → Option Int} (h : Real g t L) (ht : Le (L t) (some 0)) (hf : ∀ v, sweep g L g.m v = L v) : Opt g t L := by
 intro v hv0
 clear hv0
 refine ⟨fun x hx => h v x hx, fun k c hw => ?_⟩
 clear h
 induction hw with
 | nil =>
  obtain ⟨x, hx, h1⟩ := ht 0 rfl
  exact ⟨x, hx, h1⟩
 | cons hi hu _ ih =>
  obtain ⟨x, hx, h1⟩ := ih ht
  obtain ⟨y, hy, h2⟩ := sweep_arc g L hi hu hx
  rw [hf] at hy
  exact ⟨y, hy, by omega⟩
def start (t : Nat) : Nat → Option Int := fun v => if v = t then some 0 else none
def rounds (g : G) (t : Nat) : Nat → (Nat → Option Int)
 | 0 => start t
 | r + 1 => sweep g (rounds g t r) g.m
theorem start_real (g : G) (t : Nat) : Real g t (start t) := by
 intro v x hx
 unfold start at hx
 split at hx
 ·rename_i e
  obtain rfl := Option.some.inj hx
  subst e
  exact ⟨0, .nil _⟩
 ·cases hx
theorem rounds_real (g : G) (t : Nat) : ∀ r, Real g t (rounds g t r) := by
 intro r
 induction r with
 | zero => exact start_real g t
 | succ r ih => exact sweep_real ih _ (Nat.le_refl _)
theorem rounds_le (g : G) (t r s v : Nat) : Le (rounds g t (r + s) v) (rounds g t r v) := by
 induction s with
 | zero => exact Le.refl _
 | succ s ih =>
  have := sweep_le g (rounds g t (r + s)) 0 g.m v
  rw [Nat.zero_add] at this
  exact this.trans ih
theorem rounds_t (g : G) (t r : Nat) : Le (rounds g t r t) (some 0) := by
 have := rounds_le g t 0 r t
 rw [Nat.zero_add] at this
 exact this.trans (by simp [rounds, start]; exact Le.refl _)
theorem rounds_walk {g : G} {t r u k : Nat} {c : Int} (h : Wk g u t k c) (hk : k ≤ r) : ∃ x, rounds g t r u = some x ∧ x ≤ c := by
 induction h generalizing r with
 | nil => exact rounds_t g _ r 0 rfl
 | cons hi hu _ ih =>
  obtain ⟨r, rfl⟩ : ∃ q, r = q + 1 := ⟨r - 1, by omega⟩
  obtain ⟨x, hx, h1⟩ := ih (r := r) (by omega)
  obtain ⟨y, hy, h2⟩ := sweep_arc g _ hi hu hx
  exact ⟨y, hy, by omega⟩
theorem rounds_opt {g : G} (ok : g.Ok) {t r : Nat} (ht : t < g.n) (hr : g.n ≤ r + 1) : Opt g t (rounds g t r) := by
 intro v _
 refine ⟨fun x hx => rounds_real g t r v x hx, fun k c hw => ?_⟩
 obtain ⟨k', c', h1, h2, h3, h4⟩ := hw.short ok ht
 obtain ⟨x, hx, h5⟩ := rounds_walk (r := r) h1 (by omega)
 exact ⟨x, hx, by omega⟩
theorem relax_none {g : G} {L : Nat → Option Int} (hn : ∀ v, g.n ≤ v → L v = none) (ok : g.Ok) {i : Nat} (hi : i < g.m) : ∀ v, g.n ≤ v → relax g L i v = none := by
 intro v hv
 rcases relax_cases g L i with ⟨e, _⟩ | ⟨_, x, hx, hl, e⟩
 ·rw [e]; exact hn v hv
 ·rw [e, put_far _ _ (by have := ok.fl i hi; omega)]; exact hn v hv
theorem sweep_none {g : G} {L : Nat → Option Int} (ok : g.Ok) (hn : ∀ v, g.n ≤ v → L v = none) : ∀ i, i ≤ g.m → ∀ v, g.n ≤ v → sweep g L i v = none := by
 intro i
 induction i with
 | zero => exact fun _ => hn
 | succ i ih => exact fun hi => relax_none (ih (by omega)) ok (by omega)
theorem rounds_none {g : G} (ok : g.Ok) {t : Nat} (ht : t < g.n) : ∀ r v, g.n ≤ v → rounds g t r v = none := by
 intro r
 induction r with
 | zero => intro v hv; simp [rounds, start]; omega
 | succ r ih => exact sweep_none ok ih _ (Nat.le_refl _)
theorem rounds_fix {g : G} (ok : g.Ok) {t r : Nat} (ht : t < g.n) (hr : g.n ≤ r + 1) : ∀ v, rounds g t (r + 1) v = rounds g t r v := by
 intro v
 by_cases hv : v < g.n
 ·exact (rounds_opt ok ht (by omega)).uniq (rounds_opt ok ht hr) v hv
 ·rw [rounds_none ok ht _ v (by omega), rounds_none ok ht _ v (by omega)]
theorem sweep_same {g : G} {L : Nat → Option Int} (h : ∀ v, sweep g L g.m v = L v) {i : Nat} (hi : i ≤ g.m) : ∀ v, sweep g L i v = L v := by
 intro v
 have h1 := sweep_le g L 0 i v
 have h2 := sweep_le g L i (g.m - i) v
 rw [Nat.zero_add] at h1
 rw [show i + (g.m - i) = g.m by omega, h v] at h2
 cases e : L v with
 | none =>
  cases e' : sweep g L i v with
  | none => rfl
  | some y =>
   obtain ⟨x, hx, _⟩ := h2 y e'
   rw [e] at hx; cases hx
 | some x =>
  obtain ⟨y, hy, a1⟩ := h1 x (by simpa [sweep] using e)
  obtain ⟨x', hx', a2⟩ := h2 y hy
  rw [e] at hx'
  obtain rfl := Option.some.inj hx'
  rw [hy]; congr 1; omega
end Go.Proofs.Ytmabopomecdidaa.Sp
namespace Go.Proofs.Ytmabopomecdidaa.Sp
structure Dbl (g e s : G) (D : Nat → Option Int) : Prop where
 en : e.n = g.n
 em : e.m = g.m
 ef : e.fr = g.fr
 et : e.tw = g.tw
 eu : e.use = g.use
 ew : ∀ i, i < g.m → e.w i = 1000 * g.w i + 1
 sn : s.n = g.n
 sm : s.m = g.m
 sf : s.fr = g.fr
 st : s.tw = g.tw
 sw : ∀ i, i < g.m → s.w i = 1
 su : ∀ i, i < g.m → (s.use i = true ↔ g.use i = true ∧ ∃ x, D (g.tw i) = some x ∧ D (g.fr i) = some (g.w i + x))
def both (D S : Nat → Option Int) : Nat → Option Int := fun v =>
 match D v with
 | none => none
 | some d => match S v with
  | none => none
  | some k => some (1000 * d + k)
section
variable {g e s : G} {t : Nat} {D S : Nat → Option Int} (h : Dbl g e s D) (ok : g.Ok) (hD : Opt g t D) (hS : Opt s t S) (ht : t < g.n)
include h
theorem Dbl.okS (ok : g.Ok) : s.Ok := by
 refine ⟨?_, ?_, ?_⟩
 ·rw [h.sf, h.sm, h.sn]; exact ok.fl
 ·rw [h.st, h.sm, h.sn]; exact ok.tl
 ·intro i hi
  rw [h.sm] at hi
  rw [h.sw i hi]; omega
theorem Dbl.toE {u v k : Nat} {c : Int} (w : Wk g u v k c) : Wk e u v k (1000 * c + k) := by
 induction w with
 | nil => exact (Wk.nil _).cast rfl (by omega)
 | @cons i v k c hi hu _ ih =>
  have h1 : Wk e (e.tw i) v k (1000 * c + k) := by rw [h.et]; exact ih
  have h2 := Wk.cons (i := i) (by rw [h.em]; exact hi) (by rw [h.eu]; exact hu) h1
  rw [h.ef, h.ew i hi] at h2
  exact h2.cast rfl (by omega)
theorem Dbl.ofE {u v k : Nat} {c : Int} (w : Wk e u v k c) : ∃ c', Wk g u v k c' ∧ c = 1000 * c' + k := by
 induction w with
 | nil => exact ⟨0, .nil _, by omega⟩
 | @cons i v k c hi hu _ ih =>
  obtain ⟨c', h1, h2⟩ := ih
  rw [h.em] at hi
  rw [h.eu] at hu
  rw [h.et] at h1
  refine ⟨g.w i + c', ?_, by rw [h.ew i hi]; omega⟩
  rw [h.ef]
  exact .cons hi hu h1
theorem Dbl.ofS (hD : Opt g t D) (ht : t < g.n) (ok : g.Ok) {u k : Nat} {c : Int} (w : Wk s u t k c) : ∃ d, D u = some d ∧ Wk g u t k d ∧ c = k := by
 generalize ev : t = v at w
 induction w with
 | nil v =>
  subst ev
  obtain ⟨x, hx, h1⟩ := (hD t ht).2 0 0 (.nil _)
  obtain ⟨k, hk⟩ := (hD t ht).1 x hx
  have := hk.nonneg ok
  have e0 : x = 0 := by omega
  subst e0
  exact ⟨0, hx, .nil _, rfl⟩
 | @cons i v k c hi hu _ ih =>
  obtain ⟨d, h1, h2, h3⟩ := ih ev
  rw [h.sm] at hi
  obtain ⟨g1, x, g2, g3⟩ := (h.su i hi).1 hu
  rw [h.st] at h1 h2
  rw [g2] at h1
  obtain rfl := Option.some.inj h1
  rw [h.sf]
  exact ⟨_, g3, .cons hi g1 h2, by rw [h.sw i hi, h3]; omega⟩
theorem Dbl.toS (hD : Opt g t D) (ok : g.Ok) {u k : Nat} {c : Int} (w : Wk g u t k c) (hc : D u = some c) : Wk s u t k k := by
 generalize ev : t = v at w
 induction w with
 | nil => exact .nil _
 | @cons i v k c hi hu w ih =>
  subst ev
  obtain ⟨x, hx, h1⟩ := (hD _ (ok.tl i hi)).2 k c w
  obtain ⟨j, hj⟩ := (hD _ (ok.tl i hi)).1 x hx
  obtain ⟨y, hy, h2⟩ := (hD _ (ok.fl i hi)).2 _ _ (Wk.cons hi hu hj)
  rw [hc] at hy
  obtain rfl := Option.some.inj hy
  have ex : x = c := by omega
  subst ex
  have h3 := ih hx rfl
  rw [← h.st] at h3
  have h4 := Wk.cons (i := i) (by rw [h.sm]; exact hi) ((h.su i hi).2 ⟨hu, x, hx, hc⟩) h3
  rw [h.sf, h.sw i hi] at h4
  exact h4.cast rfl (by omega)
theorem Dbl.some (hD : Opt g t D) (hS : Opt s t S) (ht : t < g.n) (ok : g.Ok) {v : Nat} (hv : v < g.n) {d : Int} (hd : D v = .some d) : ∃ k : Nat, S v = .some (k : Int) ∧ k < g.n ∧ Wk s v t k k := by
 obtain ⟨k, hk⟩ := (hD v hv).1 d hd
 have w := h.toS hD ok hk hd
 obtain ⟨x, hx, h1⟩ := (hS v (by rw [h.sn]; exact hv)).2 _ _ w
 obtain ⟨j, hj⟩ := (hS v (by rw [h.sn]; exact hv)).1 x hx
 obtain ⟨d', e1, e2, e3⟩ := h.ofS hD ht ok hj
 obtain ⟨j', c', w1, w2, w3, w4⟩ := hj.short (h.okS ok) (by rw [h.sn]; exact ht)
 obtain ⟨y, hy, h5⟩ := (hS v (by rw [h.sn]; exact hv)).2 _ _ w1
 rw [hx] at hy
 obtain rfl := Option.some.inj hy
 obtain ⟨_, _, _, e5⟩ := h.ofS hD ht ok w1
 rw [h.sn] at w2
 exact ⟨j, by rw [hx, e3], by omega, e3 ▸ hj⟩
theorem Dbl.opt (hD : Opt g t D) (hS : Opt s t S) (ht : t < g.n) (ok : g.Ok) (h8 : g.n ≤ 1000) : Opt e t (both D S) := by
 intro v hv
 rw [h.en] at hv
 constructor
 ·intro x hx
  unfold both at hx
  cases ed : D v with
  | none => rw [ed] at hx; cases hx
  | some d =>
   obtain ⟨k, hk, h1, h2⟩ := h.some hD hS ht ok hv ed
   rw [ed, hk] at hx
   obtain rfl := Option.some.inj hx
   obtain ⟨d', g1, g2, g3⟩ := h.ofS hD ht ok h2
   rw [ed] at g1
   obtain rfl := Option.some.inj g1
   exact ⟨k, h.toE g2⟩
 ·intro k c w
  obtain ⟨c', w1, rfl⟩ := h.ofE w
  obtain ⟨d, hd, h1⟩ := (hD v hv).2 _ _ w1
  obtain ⟨j, hj, h2, h3⟩ := h.some hD hS ht ok hv hd
  refine ⟨1000 * d + j, by simp [both, hd, hj], ?_⟩
  by_cases e0 : d = c'
  ·subst e0
   have w2 := h.toS hD ok w1 hd
   obtain ⟨x, hx, h4⟩ := (hS v (by rw [h.sn]; exact hv)).2 _ _ w2
   rw [hj] at hx
   obtain rfl := Option.some.inj hx
   omega
  ·omega
end
end Go.Proofs.Ytmabopomecdidaa.Sp
end
section
set_option linter.unusedSectionVars false
set_option linter.unusedVariables false
namespace Go.Proofs.Ytmabopomecdidaa.Sp
structure Topo (g : G) (L : List Nat) : Prop where
 nd : L.Nodup
 mem : ∀ v, v ∈ L ↔ v < g.n
 on : ∀ i, i < g.m → ∀ p q, L = p ++ g.fr i :: q → g.tw i ∈ q
def far (g : G) (F : Nat → Int) (v i : Nat) : Nat → Int := if g.fr i = v then fun x => if x = g.tw i then max (F x) (F v + g.w i) else F x else F
def farTo (g : G) (F : Nat → Int) (v : Nat) : Nat → (Nat → Int)
 | 0 => F
 | i + 1 => far g (farTo g F v i) v i
def farAll (g : G) (F : Nat → Int) : List Nat → (Nat → Int)
 | [] => F
 | v :: L => farAll g (farTo g F v g.m) L
section
variable {g : G}
theorem farTo_ge (F : Nat → Int) (v x : Nat) : ∀ i, F x ≤ farTo g F v i x := by
 intro i
 induction i with
 | zero => exact Int.le_refl _
 | succ i ih =>
  refine Int.le_trans ih ?_
  simp only [farTo, far]
  split
  ·dsimp only; split <;> omega
  ·exact Int.le_refl _
theorem farTo_mono (F : Nat → Int) (v x i : Nat) : ∀ s, farTo g F v i x ≤ farTo g F v (i + s) x := by
 intro s
 induction s with
 | zero => exact Int.le_refl _
 | succ s ih =>
  refine Int.le_trans ih ?_
  show _ ≤ far g (farTo g F v (i + s)) v (i + s) x
  unfold far
  split
  ·dsimp only; split <;> omega
  ·exact Int.le_refl _
theorem farTo_same (F : Nat → Int) {v x : Nat} (h : ∀ i, i < g.m → g.fr i = v → g.tw i ≠ x) : ∀ i, i ≤ g.m → farTo g F v i x = F x := by
 intro i
 induction i with
 | zero => exact fun _ => rfl
 | succ i ih =>
  intro hi
  rw [← ih (by omega)]
  simp only [farTo, far]
  split
  ·rename_i e
   dsimp only
   rw [if_neg (fun e2 => h i (by omega) e e2.symm)]
  ·rfl
theorem farTo_arc (F : Nat → Int) {v i : Nat} (hi : i < g.m) (hf : g.fr i = v) (hs : ∀ i, i < g.m → g.fr i = v → g.tw i ≠ v) : F v + g.w i ≤ farTo g F v g.m (g.tw i) := by
 have h1 := farTo_mono (g := g) F v (g.tw i) (i + 1) (g.m - (i + 1))
 rw [show i + 1 + (g.m - (i + 1)) = g.m by omega] at h1
 refine Int.le_trans ?_ h1
 have h2 := farTo_same F hs i (by omega)
 simp only [farTo, far]
 rw [if_pos hf]
 simp only [if_true]
 rw [h2]
 omega
theorem farTo_real (F : Nat → Int) {v : Nat} (hs : ∀ i, i < g.m → g.fr i = v → g.tw i ≠ v) (hu : ∀ i, i < g.m → g.use i = true) (h : ∀ x, ∃ u k, Wk g u x k (F x)) : ∀ i, i ≤ g.m → ∀ x, ∃ u k, Wk g u x k (farTo g F v i x) := by
 intro i
 induction i with
 | zero => exact fun _ => h
 | succ i ih =>
  intro hi x
  have ih := ih (by omega)
  have h2 := farTo_same F hs i (by omega)
  simp only [farTo, far]
  split
  ·rename_i e
   dsimp only
   split
   ·rename_i e2
    by_cases c : farTo g F v i v + g.w i ≤ farTo g F v i x
    ·rw [Int.max_eq_left c]; exact ih x
    ·rw [Int.max_eq_right (by omega)]
     obtain ⟨u, k, w⟩ := ih v
     have w2 := Wk.one (g := g) (i := i) (by omega) (hu i (by omega))
     rw [e, ← e2] at w2
     exact ⟨u, k + 1, w.trans w2⟩
   ·exact ih x
  ·exact ih x
theorem farAll_keep : ∀ (L : List Nat) (F : Nat → Int) (x : Nat), (∀ v, v ∈ L → ∀ i, i < g.m → g.fr i = v → g.tw i ≠ x) → farAll g F L x = F x := by
 intro L
 induction L with
 | nil => intro F x _; rfl
 | cons v L ih =>
  intro F x h
  simp only [farAll]
  rw [ih _ _ (fun u hu => h u (List.mem_cons_of_mem _ hu)), farTo_same F (h v (by simp)) g.m (Nat.le_refl _)]
theorem farAll_ge : ∀ (L : List Nat) (F : Nat → Int) (x : Nat), F x ≤ farAll g F L x := by
 intro L
 induction L with
 | nil => intro F x; exact Int.le_refl _
 | cons v L ih => intro F x; exact Int.le_trans (farTo_ge F v x g.m) (ih _ x)
theorem farAll_real : ∀ (L : List Nat) (F : Nat → Int), (∀ v, v ∈ L → ∀ i, i < g.m → g.fr i = v → g.tw i ≠ v) → (∀ i, i < g.m → g.use i = true) → (∀ x, ∃ u k, Wk g u x k (F x)) → ∀ x, ∃ u k, Wk g u x k (farAll g F L x) := by
 intro L
 induction L with
 | nil => intro F _ _ h; exact h
 | cons v L ih =>
  intro F hs hu h
  exact ih _ (fun u hu => hs u (List.mem_cons_of_mem _ hu)) hu (farTo_real F (hs v (by simp)) hu h g.m (Nat.le_refl _))
theorem Topo.later {L : List Nat} (h : Topo g L) {p q : List Nat} {v : Nat} (e : L = p ++ v :: q) {x : Nat} (hx : x ∈ p ∨ x = v) : ∀ u, u ∈ v :: q → ∀ i, i < g.m → g.fr i = u → g.tw i ≠ x := by
 intro u hu i hi hf ht
 have nd := h.nd
 obtain ⟨p', q', e'⟩ : ∃ p' q', v :: q = p' ++ u :: q' := List.append_of_mem hu
 have h1 := h.on i hi (p ++ p') q' (by rw [e, e', hf]; simp)
 rw [ht] at h1
 have h2 : x ∈ q ∨ x = v := by
  have : x ∈ v :: q := by rw [e']; simp [h1]
  rcases List.mem_cons.1 this with h | h
  ·exact .inr h
  ·exact .inl h
 rw [e] at nd
 rw [List.nodup_append] at nd
 have nq := List.nodup_cons.1 nd.2.1
 rcases hx with hx | rfl
 ·exact nd.2.2 x hx x (by rcases h2 with h | rfl <;> simp [*]) rfl
 ·have hq : x ∉ q := nq.1
  cases p' with
  | nil =>
   simp only [List.nil_append, List.cons.injEq] at e'
   rw [← e'.2] at h1
   exact hq h1
  | cons a p' =>
   simp only [List.cons_append, List.cons.injEq] at e'
   exact hq (by rw [e'.2]; simp [h1])
theorem Topo.arc {L : List Nat} (h : Topo g L) (F : Nat → Int) {i : Nat} (hi : i < g.m) (hf : g.fr i < g.n) : farAll g F L (g.fr i) + g.w i ≤ farAll g F L (g.tw i) := by
 have hm := (h.mem (g.fr i)).2 hf
 obtain ⟨p, q, e⟩ := List.append_of_mem hm
 have split : ∀ (p : List Nat) (F : Nat → Int), farAll g F (p ++ g.fr i :: q) = farAll g (farAll g F p) (g.fr i :: q) := by
  intro p
  induction p with
  | nil => intro F; rfl
  | cons a p ih => intro F; exact ih _
 rw [e, split p F]
 have late := h.later e (x := g.fr i) (.inr rfl)
 rw [farAll_keep _ _ (g.fr i) late]
 simp only [farAll]
 refine Int.le_trans ?_ (farAll_ge q _ (g.tw i))
 exact farTo_arc _ hi rfl (fun j hj hf2 => late (g.fr i) (by simp) j hj hf2)
theorem Topo.walk {L : List Nat} (ok : g.Ok) (h : Topo g L) {u v k : Nat} {c : Int} (w : Wk g u v k c) : farAll g (fun _ => 0) L u + c ≤ farAll g (fun _ => 0) L v := by
 induction w with
 | nil => omega
 | cons hi hu _ ih =>
  have := h.arc (fun _ => 0) hi (ok.fl _ hi)
  omega
theorem Topo.real {L : List Nat} (ok : g.Ok) (hu : ∀ i, i < g.m → g.use i = true) (h : Topo g L) : ∀ x, ∃ u k, Wk g u x k (farAll g (fun _ => 0) L x) := by
 refine farAll_real L _ (fun v hv i hi hf => ?_) hu (fun x => ⟨x, 0, .nil _⟩)
 obtain ⟨p, q, e⟩ := List.append_of_mem hv
 exact h.later e (.inr rfl) v (by simp) i hi hf
end
end Go.Proofs.Ytmabopomecdidaa.Sp
end
section
set_option linter.unusedSimpArgs false
set_option linter.unusedVariables false
set_option linter.unusedSectionVars false
namespace Go.Proofs.Ytmabopomecdidaa.Pure
open Go.RowKit Go.Proofs.Ytmabopomecdidaa.Pr Go.Proofs.YtmabopomecdidaaW.PrintWords Go.Proofs.YtmabopomecdidaaW.PrintLast Go.Proofs.YtmabopomecdidaaW.PrintMore
open Go.Proofs.Ytmabopomecdidaa.Sp (G Wk Opt lts put relax sweep rounds start Dbl)
def gr (N : Nat) (l : List Arc) : G := ⟨N, l.length, fun i => (arc l i).f0.toNat, fun i => (arc l i).f1.toNat, fun i => (arc l i).f2, fun _ => true⟩
def grE (N : Nat) (l : List Arc) : G := { gr N l with w := fun i => 1000 * (arc l i).f2 + 1 }
def grS (N : Nat) (l : List Arc) (D : Nat → Option Int) : G := { gr N l with w := fun _ => 1, use := fun i => match D (arc l i).f1.toNat with | none => false | some x => decide (D (arc l i).f0.toNat = some ((arc l i).f2 + x)) }
section
variable {N : Nat} {l : List Arc} (hg : NetGood N l)
include hg
theorem gr_ok : (gr N l).Ok := ⟨fun i hi => by have := hg.ok i hi; show (arc l i).f0.toNat < N; omega, fun i hi => by have := hg.ok i hi; show (arc l i).f1.toNat < N; omega, fun i hi => by have := hg.ok i hi; show 0 ≤ (arc l i).f2; omega⟩
theorem grE_ok : (grE N l).Ok := ⟨fun i hi => by have := hg.ok i hi; show (arc l i).f0.toNat < N; omega, fun i hi => by have := hg.ok i hi; show (arc l i).f1.toNat < N; omega, fun i hi => by have := hg.ok i hi; show 0 ≤ 1000 * (arc l i).f2 + 1; omega⟩
theorem grS_ok (D : Nat → Option Int) : (grS N l D).Ok := ⟨fun i hi => by have := hg.ok i hi; show (arc l i).f0.toNat < N; omega, fun i hi => by have := hg.ok i hi; show (arc l i).f1.toNat < N; omega, fun i hi => by show (0 : Int) ≤ 1; omega⟩
end
theorem dbl (N : Nat) (l : List Arc) (D : Nat → Option Int) : Dbl (gr N l) (grE N l) (grS N l D) D := by
 refine ⟨rfl, rfl, rfl, rfl, rfl, fun i _ => rfl, rfl, rfl, rfl, rfl, fun i _ => rfl, fun i _ => ?_⟩
 show (match D (arc l i).f1.toNat with | none => false | some x => decide (D (arc l i).f0.toNat = some ((arc l i).f2 + x))) = true ↔ _
 cases e : D (arc l i).f1.toNat with
 | none =>
  refine ⟨fun h => (by cases h), fun ⟨_, x, h, _⟩ => ?_⟩
  have h : D (arc l i).f1.toNat = some x := h
  rw [e] at h; cases h
 | some x =>
  dsimp only
  rw [decide_eq_true_iff]
  refine ⟨fun h => ⟨rfl, x, e, h⟩, fun ⟨_, y, h, h2⟩ => ?_⟩
  have h : D (arc l i).f1.toNat = some y := h
  rw [e] at h
  obtain rfl := Option.some.inj h
  exact h2
def dst (N : Nat) (l : List Arc) (t : Nat) : Nat → Option Int := rounds (gr N l) t N
def stp (N : Nat) (l : List Arc) (t : Nat) : Nat → Option Int := rounds (grS N l (dst N l t)) t N
section
variable {N : Nat} {l : List Arc} (hg : NetGood N l) {t : Nat} (ht : t < N)
include hg ht
theorem dst_opt : Opt (gr N l) t (dst N l t) := Sp.rounds_opt (gr_ok hg) ht (by show N ≤ N + 1; omega)
theorem stp_opt : Opt (grS N l (dst N l t)) t (stp N l t) := Sp.rounds_opt (grS_ok hg _) ht (by show N ≤ N + 1; omega)
theorem stp_some {v : Nat} (hv : v < N) {d : Int} (hd : dst N l t v = some d) : ∃ k : Nat, stp N l t v = some (k : Int) ∧ k < N := by
 obtain ⟨k, h1, h2, _⟩ := (dbl N l (dst N l t)).some (dst_opt hg ht) (stp_opt hg ht) ht (gr_ok hg) hv hd
 exact ⟨k, h1, h2⟩
theorem tow_both {v : Nat} (hv : v < N) : rounds (grE N l) t N v = Sp.both (dst N l t) (stp N l t) v := by
 have h8 := hg.n8
 have h1 := Sp.rounds_opt (g := grE N l) (t := t) (r := N) (grE_ok hg) ht (by show N ≤ N + 1; omega)
 have h2 := (dbl N l (dst N l t)).opt (dst_opt hg ht) (stp_opt hg ht) ht (gr_ok hg) (by show N ≤ 1000; omega)
 exact h1.uniq h2 v hv
end
abbrev Msr := S143
def ent : Option Int → Msr
 | none => ⟨99999, 0⟩
 | some x => ⟨x / 1000, x % 1000⟩
def far : Option Int → Int
 | none => 99999
 | some x => x
def lstM (N : Nat) (F : Nat → Msr) : List Msr := (List.range N).map F
theorem lstM_len (N : Nat) (F : Nat → Msr) : (lstM N F).length = N := by simp [lstM]
theorem lstM_rd {N v : Nat} (F : Nat → Msr) (h : v < N) : rd_T143 (lstM N F) (v : Int) = F v := by
 simp [rd_T143, lstM, h]
theorem lstM_congr {N : Nat} {F H : Nat → Msr} (h : ∀ v, v < N → F v = H v) : lstM N F = lstM N H := by
 unfold lstM
 exact List.map_congr_left (fun v hv => h v (List.mem_range.1 hv))
theorem lstM_set {N a : Nat} (L : Nat → Option Int) (x : Int) : (lstM N (fun v => ent (L v))).set a (ent (some x)) = lstM N (fun v => ent (put L a x v)) := by
 apply List.ext_getElem (by simp [lstM])
 intro i h1 h2
 simp only [List.getElem_set]
 by_cases e : a = i
 ·subst e; simp [lstM, put]
 ·simp [lstM, put, e, show ¬ i = a from fun h => e h.symm]
theorem less_eq (a b c d : Int) : impl_measure_less.f a b c d = some (decide (a < c ∨ a = c ∧ b < d)) := by
 unfold impl_measure_less.f
 by_cases h : a < c
 ·rw [if_pos h, decide_eq_true (.inl h)]
 ·rw [if_neg h]
  by_cases h2 : a = c
  ·rw [if_pos h2]
   congr 1
   simp only [decide_eq_decide]
   exact ⟨fun h3 => .inr ⟨h2, h3⟩, fun h3 => h3.elim (fun h4 => absurd h4 h) (fun h4 => h4.2)⟩
  ·rw [if_neg h2, decide_eq_false (fun h3 => h3.elim h (fun h4 => h2 h4.1))]
def Bd (s : Nat) (L : Nat → Option Int) : Prop := ∀ v x, L v = some x → 0 ≤ x ∧ x / 1000 ≤ 99 * (s : Int) ∧ x % 1000 ≤ (s : Int)
theorem Bd.relax {N : Nat} {l : List Arc} (hg : NetGood N l) {s : Nat} {L : Nat → Option Int} (h : Bd s L) (hs : s < 900) {i : Nat} (hi : i < l.length) : Bd (s + 1) (relax (grE N l) L i) := by
 obtain ⟨_, _, _, ⟨a1, a2⟩, _⟩ := hg.ok i hi
 intro v x hx
 rcases Sp.relax_cases (grE N l) L i with ⟨e, _⟩ | ⟨_, y, hy, hl, e⟩
 ·rw [e] at hx; have := h v x hx; omega
 ·rw [e] at hx
  by_cases hv : v = (grE N l).fr i
  ·subst hv
   rw [Sp.put_same] at hx
   have hx : some (y + (1000 * (arc l i).f2 + 1)) = some x := hx
   obtain rfl := Option.some.inj hx
   have := h _ _ hy
   omega
  ·rw [Sp.put_far _ _ hv] at hx; have := h v x hx; omega
theorem Bd.sweep {N : Nat} {l : List Arc} (hg : NetGood N l) {s : Nat} {L : Nat → Option Int} (h : Bd s L) : ∀ i, i ≤ l.length → s + i ≤ 900 → Bd (s + i) (sweep (grE N l) L i) := by
 intro i
 induction i with
 | zero => exact fun _ _ => h
 | succ i ih => exact fun hi hs => (ih (by omega) (by omega)).relax hg (by omega) (by omega)
theorem Bd.mono {s r : Nat} {L : Nat → Option Int} (h : Bd s L) (hs : s ≤ r) : Bd r L := fun v x hx => by have := h v x hx; omega
theorem Bd.rounds {N : Nat} {l : List Arc} (hg : NetGood N l) (t : Nat) : ∀ r, r ≤ 9 → Bd (16 * r) (rounds (grE N l) t r) := by
 intro r
 induction r with
 | zero =>
  intro _ v x hx
  unfold Sp.rounds Sp.start at hx
  split at hx
  ·obtain rfl := Option.some.inj hx; omega
  ·cases hx
 | succ r ih =>
  intro hr
  have := hg.len
  exact ((ih (by omega)).sweep hg l.length (Nat.le_refl _) (by omega)).mono (by omega)
def hit (g : G) (L : Nat → Option Int) (i : Nat) : Bool := match L (g.tw i) with
 | none => false
 | some x => lts (x + g.w i) (L (g.fr i))
def fl (g : G) (L : Nat → Option Int) : Nat → Bool
 | 0 => false
 | i + 1 => fl g L i || hit g (sweep g L i) i
theorem relax_hit {g : G} {L : Nat → Option Int} {i : Nat} (h : hit g L i = false) : relax g L i = L := by
 unfold hit at h
 unfold Sp.relax
 split
 ·cases e : L (g.tw i) with
  | none => rfl
  | some x => rw [e] at h; dsimp only at h ⊢; rw [h]; rfl
 ·rfl
theorem fl_none {g : G} {L : Nat → Option Int} : ∀ i, fl g L i = false → sweep g L i = L
 | 0, _ => rfl
 | i + 1, h => by
  have h : (fl g L i || hit g (sweep g L i) i) = false := h
  rw [Bool.or_eq_false_iff] at h
  show relax g (sweep g L i) i = L
  rw [relax_hit h.2, fl_none i h.1]
theorem fl_same {g : G} (hu : ∀ i, g.use i = true) {L : Nat → Option Int} (h : ∀ v, sweep g L g.m v = L v) : ∀ i, i ≤ g.m → fl g L i = false
 | 0, _ => rfl
 | i + 1, hi => by
  show (fl g L i || hit g (sweep g L i) i) = false
  rw [fl_same hu h i (by omega), Bool.false_or]
  have e1 : sweep g L i = L := funext (Sp.sweep_same h (by omega))
  have e2 : relax g L i = L := by
   have : sweep g L (i + 1) = L := funext (Sp.sweep_same h hi)
   have e3 : sweep g L (i + 1) = relax g (sweep g L i) i := rfl
   rw [e3, e1] at this
   exact this
  rw [e1]
  unfold hit
  unfold Sp.relax at e2
  rw [if_pos (hu i)] at e2
  cases e : L (g.tw i) with
  | none => rfl
  | some x =>
   rw [e] at e2
   dsimp only at e2 ⊢
   cases hl : lts (x + g.w i) (L (g.fr i)) with
   | false => rfl
   | true =>
    rw [if_pos hl] at e2
    have := congrFun e2 (g.fr i)
    rw [Sp.put_same] at this
    rw [← this] at hl
    simp [Sp.lts] at hl
section
variable {N : Nat} {l : List Arc} (hg : NetGood N l)
include hg
theorem tow_l1 (L : Nat → Option Int) {s : Nat} (hs : s ≤ 700) (hL : Bd s L) {R : List Msr} : ∀ (m i : Nat), l.length - i = m → i ≤ l.length →
  Ev (fun k => impl_Net_toward.l0 k (lstM N (fun v => ent (sweep (grE N l) L l.length v))) (fl (grE N l) L l.length) N l) R →
  Ev (fun k => impl_Net_toward.l1 k (lstM N (fun v => ent (sweep (grE N l) L i v))) (fl (grE N l) L i) l (l.length : Int) (i : Int) N l) R := by
 have h16 := hg.len
 intro m
 induction m with
 | zero =>
  intro i hd hi h
  have e : i = l.length := by omega
  subst e
  refine Ev.go ?_ (fun k => by rw [impl_Net_toward.l1])
  exact Ev.neg (by omega) h
 | succ m ih =>
  intro i hd hi h
  have hlt : i < l.length := by omega
  have hn := ih (i + 1) (by omega) (by omega) h
  clear ih h
  have hb := hL.sweep hg i hi (by omega)
  obtain ⟨⟨a1, a2⟩, ⟨a3, a4⟩, a5, ⟨a6, a7⟩, _⟩ := hg.ok i hlt
  have ef : (grE N l).fr i = (arc l i).f0.toNat := rfl
  have et : (grE N l).tw i = (arc l i).f1.toNat := rfl
  have ew : (grE N l).w i = 1000 * (arc l i).f2 + 1 := rfl
  obtain ⟨f, hf⟩ := Int.eq_ofNat_of_zero_le a1
  obtain ⟨t, ht⟩ := Int.eq_ofNat_of_zero_le a3
  rw [hf, Int.toNat_natCast] at ef
  rw [ht, Int.toNat_natCast] at et
  have hfN : f < N := by omega
  have htN : t < N := by omega
  have hsw : sweep (grE N l) L (i + 1) = relax (grE N l) (sweep (grE N l) L i) i := rfl
  have hfl : fl (grE N l) L (i + 1) = (fl (grE N l) L i || hit (grE N l) (sweep (grE N l) L i) i) := rfl
  rw [hsw, hfl] at hn
  clear hsw hfl
  generalize sweep (grE N l) L i = M at hn hb
  generalize fl (grE N l) L i = b at hn
  refine Ev.go ?_ (fun k => by rw [impl_Net_toward.l1])
  rw [rda, up1 hlt (by simp only [maxLen]; omega), hf, ht, lstM_rd _ htN, lstM_rd _ hfN, lstM_len]
  refine Ev.pos (by omega) (Ev.pos (by omega) (Ev.pos (by omega) (Ev.pos (by omega) (Ev.pos (by omega) ?_))))
  cases et2 : M t with
  | none =>
   have hh : hit (grE N l) M i = false := by unfold hit; rw [et, et2]
   rw [hh, relax_hit hh, Bool.or_false] at hn
   exact Ev.pos rfl hn
  | some x =>
   have hx := hb t x et2
   have hq : 0 ≤ x / 1000 := by omega
   have hr : 0 ≤ x % 1000 := by omega
   have w1 : wrap64 (x / 1000 + (arc l i).f2) = x / 1000 + (arc l i).f2 := w64 (by omega) (by omega)
   have w2 : wrap64 (x % 1000 + 1) = x % 1000 + 1 := w64 (by omega) (by omega)
   have e1 : (x + (1000 * (arc l i).f2 + 1)) / 1000 = x / 1000 + (arc l i).f2 := by omega
   have e2 : (x + (1000 * (arc l i).f2 + 1)) % 1000 = x % 1000 + 1 := by omega
   have eent : (⟨x / 1000 + (arc l i).f2, x % 1000 + 1⟩ : Msr) = ent (some (x + (1000 * (arc l i).f2 + 1))) := by simp only [ent, e1, e2]
   have hne : ¬ ((ent (some x)).f0 = 99999) := by show ¬ (x / 1000 = 99999); omega
   have elts : decide ((x / 1000 + (arc l i).f2) < (ent (M f)).f0 ∨ (x / 1000 + (arc l i).f2) = (ent (M f)).f0 ∧ (x % 1000 + 1) < (ent (M f)).f1) = lts (x + (1000 * (arc l i).f2 + 1)) (M f) := by
    cases ef2 : M f with
    | none => exact decide_eq_true (.inl (by show x / 1000 + (arc l i).f2 < 99999; omega))
    | some y =>
     have hy := hb f y ef2
     show decide (_ < y / 1000 ∨ _ = y / 1000 ∧ _ < y % 1000) = decide (_ < y)
     rw [decide_eq_decide]
     omega
   have hh : hit (grE N l) M i = lts (x + (1000 * (arc l i).f2 + 1)) (M f) := by unfold hit; rw [et, et2, ef, ew]
   have hre : relax (grE N l) M i = if lts (x + (1000 * (arc l i).f2 + 1)) (M f) = true then put M f (x + (1000 * (arc l i).f2 + 1)) else M := by
    unfold Sp.relax
    rw [if_pos (show (grE N l).use i = true from rfl), et, et2, ef, ew]
   rw [hh, hre] at hn
   clear hh hre
   refine Ev.neg hne ?_
   show Ev (fun k => if 0 ≤ ((f : Nat) : Int) then _ else _) R
   rw [show (ent (some x)).f0 = x / 1000 from rfl, show (ent (some x)).f1 = x % 1000 from rfl, w1, w2, Int.toNat_natCast, eent, lstM_set]
   clear w1 w2 hne
   refine Ev.pos (by omega) (Ev.pos (by omega) (Ev.bind0 (less_eq _ _ _ _) ?_))
   rw [elts]
   cases c : lts (x + (1000 * (arc l i).f2 + 1)) (M f) with
   | true =>
    rw [c, if_pos rfl, Bool.or_true] at hn
    exact Ev.pos rfl hn
   | false =>
    rw [c, if_neg (by simp), Bool.or_false] at hn
    exact Ev.neg (by simp) hn
theorem tow_l0 {t : Nat} (ht : t < N) : ∀ d r, r + d = N → Ev (fun k => impl_Net_toward.l0 k (lstM N (fun v => ent (rounds (grE N l) t r v))) true N l) (lstM N (fun v => ent (rounds (grE N l) t N v))) := by
 have h8 := hg.n8
 have stop : ∀ r, r ≤ N → fl (grE N l) (rounds (grE N l) t r) l.length = false → lstM N (fun v => ent (rounds (grE N l) t (r + 1) v)) = lstM N (fun v => ent (rounds (grE N l) t N v)) := by
  intro r hr hf
  have e := fl_none l.length hf
  have o1 : Opt (grE N l) t (rounds (grE N l) t r) := Sp.opt_of_fix (Sp.rounds_real _ _ _) (Sp.rounds_t _ _ _) (fun v => congrFun e v)
  have o2 := Sp.rounds_opt (g := grE N l) (t := t) (r := N) (grE_ok hg) ht (by show N ≤ N + 1; omega)
  refine lstM_congr (fun v hv => ?_)
  have e2 : rounds (grE N l) t (r + 1) = rounds (grE N l) t r := e
  rw [e2, o1.uniq o2 v hv]
 intro d
 induction d with
 | zero =>
  intro r hr
  obtain rfl : r = N := by omega
  refine Ev.go ?_ (fun k => by rw [impl_Net_toward.l0])
  refine Ev.pos rfl (tow_l1 hg (rounds (grE r l) t r) (s := 16 * r) (by omega) (Bd.rounds hg t r (by omega)) _ 0 rfl (Nat.zero_le _) ?_)
  have hf := fl_same (g := grE r l) (fun _ => rfl) (L := rounds (grE r l) t r) (Sp.rounds_fix (grE_ok hg) ht (by show r ≤ r + 1; omega)) l.length (Nat.le_refl _)
  rw [hf]
  refine Ev.go ?_ (fun k => by rw [impl_Net_toward.l0])
  exact Ev.neg (by simp) (Ev.is (stop r (Nat.le_refl _) hf))
 | succ d ih =>
  intro r hr
  refine Ev.go ?_ (fun k => by rw [impl_Net_toward.l0])
  refine Ev.pos rfl (tow_l1 hg (rounds (grE N l) t r) (s := 16 * r) (by omega) (Bd.rounds hg t r (by omega)) _ 0 rfl (Nat.zero_le _) ?_)
  cases hf : fl (grE N l) (rounds (grE N l) t r) l.length with
  | true => exact ih (r + 1) (by omega)
  | false =>
   refine Ev.go ?_ (fun k => by rw [impl_Net_toward.l0])
   exact Ev.neg (by simp) (Ev.is (stop r (by omega) hf))
theorem tow_ev {t : Nat} (ht : t < N) : Ev (fun k => impl_Net_toward.f k N l (t : Int)) (lstM N (fun v => ent (rounds (grE N l) t N v))) := by
 have h8 := hg.n8
 unfold impl_Net_toward.f
 refine Ev.bind0 (rep_measure _ N (by omega)) ?_
 refine Ev.pos (by omega) (Ev.pos (by simp; omega) ?_)
 have e : (List.replicate N (⟨99999, 0⟩ : Msr)).set (t : Int).toNat ⟨0, 0⟩ = lstM N (fun v => ent (rounds (grE N l) t 0 v)) := by
  apply List.ext_getElem (by simp [lstM])
  intro i h1 h2
  simp only [Int.toNat_natCast, List.getElem_set]
  by_cases c : t = i
  ·subst c; simp [lstM, Sp.rounds, Sp.start, ent]
  ·simp [lstM, Sp.rounds, Sp.start, ent, c, show ¬ i = t from fun h => c h.symm]
 rw [e]
 exact tow_l0 hg ht N 0 (by omega)
theorem ent_far {t : Nat} (ht : t < N) {v : Nat} (hv : v < N) : (ent (rounds (grE N l) t N v)).f0 = far (dst N l t v) := by
 have h8 := hg.n8
 rw [tow_both hg ht hv]
 unfold Sp.both
 cases e : dst N l t v with
 | none => rfl
 | some d =>
  obtain ⟨k, h1, h2⟩ := stp_some hg ht hv e
  rw [h1]
  show (1000 * d + (k : Int)) / 1000 = d
  omega
end
theorem costs_l (N : Nat) (hN : N ≤ 64) (F : Nat → Msr) : ∀ (m i : Nat), N - i = m → i ≤ N → Ev (fun k => impl_costs.l0 k (lst i (fun v => (F v).f0)) (lstM N F) (N : Int) (i : Int)) (lst N (fun v => (F v).f0)) := by
 intro m
 induction m with
 | zero =>
  intro i hd hi
  refine Ev.go ?_ (fun k => by rw [impl_costs.l0])
  obtain rfl : i = N := by omega
  exact Ev.neg (by omega) (Ev.now _)
 | succ m ih =>
  intro i hd hi
  refine Ev.go ?_ (fun k => by rw [impl_costs.l0])
  rw [up1 (show i < N by omega) (by simp only [maxLen]; omega), lstM_rd F (show i < N by omega), lst_snoc i (fun v => (F v).f0), lst_len, lstM_len]
  exact Ev.pos (by omega) (Ev.pos (by omega) (Ev.pos (by omega) (Ev.pos (by omega) (ih (i + 1) (by omega) (by omega)))))
theorem costs_ev (N : Nat) (hN : N ≤ 64) (F : Nat → Msr) : Ev (fun k => impl_costs.f k (lstM N F)) (lst N (fun v => (F v).f0)) := by
 unfold impl_costs.f
 rw [lstM_len]
 exact Ev.pos (by omega) (Ev.pos (by omega) (costs_l N hN F _ 0 rfl (Nat.zero_le _)))
theorem from_ev {N : Nat} {l : List Arc} (hg : NetGood N l) {s : Nat} (hs : s < N) : Ev (fun k => impl_Net_from.f k N l (s : Int)) (lst N (fun v => far (dst N (back l) s v))) := by
 have h8 := hg.n8
 have h16 := hg.len
 unfold impl_Net_from.f
 refine Ev.bind (implBack_ev _ l (by omega)) (Ev.bind (tow_ev (back_good hg) hs) (Ev.bind (costs_ev N (by omega) _) (Ev.is ?_)))
 exact lst_congr (fun v hv => ent_far (back_good hg) hs hv)
end Go.Proofs.Ytmabopomecdidaa.Pure
end
section
set_option linter.unusedSimpArgs false
set_option linter.unusedVariables false
set_option linter.unusedSectionVars false
namespace Go.Proofs.Ytmabopomecdidaa.Pure
open Go.RowKit Go.Proofs.Ytmabopomecdidaa.Pr Go.Proofs.YtmabopomecdidaaW.PrintWords Go.Proofs.YtmabopomecdidaaW.PrintLast Go.Proofs.YtmabopomecdidaaW.PrintMore
open Go.Proofs.Ytmabopomecdidaa.Sp (G Wk Opt)
def wkB (l : List Arc) : Option Int → List Int → Bool
 | _, [] => true
 | p, k :: w => (inB k 0 ((l.length : Int) - 1) && (match p with | none => true | some q => decide ((arc l q.toNat).f1 = (arc l k.toNat).f0))) && wkB l (some k) w
def Chain (l : List Arc) : Int → List Int → Int → Prop
 | u, [], v => u = v
 | u, k :: w, v => (0 ≤ k ∧ k < l.length ∧ (arc l k.toNat).f0 = u) ∧ Chain l (arc l k.toNat).f1 w v
theorem Chain.snoc {l : List Arc} {k : Int} (h0 : 0 ≤ k) (h1 : k < l.length) : ∀ (w : List Int) (u v : Int), Chain l u w v → (arc l k.toNat).f0 = v → Chain l u (w ++ [k]) (arc l k.toNat).f1
 | [], u, v, h, e => ⟨⟨h0, h1, e.trans (Eq.symm h)⟩, rfl⟩
 | a :: w, u, v, h, e => ⟨h.1, Chain.snoc h0 h1 w _ v h.2 e⟩
theorem Chain.wkB {l : List Arc} : ∀ (w : List Int) (u v : Int) (p : Option Int), Chain l u w v → (∀ q, p = some q → (arc l q.toNat).f1 = u) → Go.Proofs.Ytmabopomecdidaa.Pure.wkB l p w = true
 | [], _, _, _, _, _ => rfl
 | k :: w, u, v, p, h, hp => by
  have ih := Chain.wkB w _ v (some k) h.2 (fun q hq => by obtain rfl := Option.some.inj hq; rfl)
  show ((inB k 0 ((l.length : Int) - 1) && _) && Go.Proofs.Ytmabopomecdidaa.Pure.wkB l (some k) w) = true
  rw [ih, Bool.and_true, Bool.and_eq_true]
  refine ⟨inB_iff.2 ⟨h.1.1, by have := h.1.2.1; omega⟩, ?_⟩
  cases p with
  | none => rfl
  | some q => exact decide_eq_true ((hp q rfl).trans h.1.2.2.symm)
def sumW (l : List Arc) (w : List Int) : Int := (w.map fun k => (arc l k.toNat).f2).sum
theorem Chain.walk {N : Nat} {l : List Arc} (hg : NetGood N l) : ∀ (w : List Int) (u v : Int), Chain l u w v → Wk (gr N l) u.toNat v.toNat w.length (sumW l w)
 | [], u, v, h => by
  have h : u = v := h
  subst h
  exact .nil _
 | k :: w, u, v, h => by
  have ih := Chain.walk hg w _ v h.2
  have h1 := h.1.1
  have h2 := h.1.2.1
  have e := Wk.cons (g := gr N l) (i := k.toNat) (by show k.toNat < l.length; omega) rfl ih
  have e1 : (gr N l).fr k.toNat = u.toNat := by show (arc l k.toNat).f0.toNat = _; rw [h.1.2.2]
  rw [e1] at e
  exact e.cast rfl (by simp [sumW, gr])
theorem sumW_bd {N : Nat} {l : List Arc} (hg : NetGood N l) : ∀ (w : List Int), (∀ k ∈ w, 0 ≤ k ∧ k < l.length) → 0 ≤ sumW l w ∧ sumW l w ≤ 99 * (w.length : Int)
 | [], _ => by simp [sumW]
 | k :: w, h => by
  have ih := sumW_bd hg w (fun x hx => h x (List.mem_cons_of_mem _ hx))
  have h1 := h k (List.mem_cons_self ..)
  have h2 := (hg.ok k.toNat (by omega)).2.2.2.1
  have e : sumW l (k :: w) = (arc l k.toNat).f2 + sumW l w := by simp [sumW]
  rw [e, List.length_cons]
  omega
theorem Chain.rng {l : List Arc} : ∀ (w : List Int) (u v : Int), Chain l u w v → ∀ k ∈ w, 0 ≤ k ∧ k < l.length
 | [], _, _, _, k, hk => by simp at hk
 | a :: w, u, v, h, k, hk => by
  rcases List.mem_cons.1 hk with rfl | hk
  ·exact ⟨h.1.1, h.1.2.1⟩
  ·exact Chain.rng w _ v h.2 k hk
def prv (w : List Int) : Nat → Option Int
 | 0 => none
 | i + 1 => some (nth w i)
theorem walkOk_l (n : Int) {l : List Arc} (hl : l.length ≤ 1000) {w : List Int} (hw : w.length ≤ 1000) : ∀ (m i : Nat), w.length - i = m → i ≤ w.length → (∀ q, prv w i = some q → 0 ≤ q ∧ q < l.length) → Ev (fun k => impl_WalkOk.l0 k w w (w.length : Int) (i : Int) n l) (wkB l (prv w i) (w.drop i)) := by
 intro m
 induction m with
 | zero =>
  intro i hd hi _
  refine Ev.go ?_ (fun k => by rw [impl_WalkOk.l0])
  rw [List.drop_of_length_le (by omega)]
  exact Ev.neg (by omega) (Ev.is (by cases prv w i <;> rfl))
 | succ m ih =>
  intro i hd hi hp
  have hlt : i < w.length := by omega
  refine Ev.go ?_ (fun k => by rw [impl_WalkOk.l0])
  rw [rdg i, up1 hlt (by simp only [maxLen]; omega), drop_cons hlt, ← nth_get hlt]
  refine Ev.pos (by omega) (Ev.pos (by omega) (Ev.pos (by omega) (Ev.bind0 (within1 _ _ _) ?_)))
  rw [w64 (n := (l.length : Int) - 1) (by omega) (by omega)]
  cases hb : inB (nth w i) 0 ((l.length : Int) - 1) with
  | false => exact Ev.neg (by simp) (Ev.is (by simp [wkB, hb]))
  | true =>
   have hk := inB_iff.1 hb
   have ih := ih (i + 1) (by omega) (by omega) (fun q hq => by obtain rfl := Option.some.inj hq; omega)
   refine Ev.pos rfl ?_
   cases i with
   | zero => exact Ev.neg (by omega) (ih.cast (by simp [wkB, hb, prv]))
   | succ j =>
    have hq := hp (nth w j) rfl
    have e : wrap64 (((j + 1 : Nat) : Int) - 1) = (j : Int) := by rw [w64 (by omega) (by omega)]; omega
    rw [e, rdg j]
    have ea : ∀ q : Int, 0 ≤ q → rd_T45 l q = arc l q.toNat := fun q h => by rw [← rda]; congr 1; omega
    rw [ea _ hq.1, ea _ hk.1]
    refine Ev.pos (by omega) (Ev.pos (by omega) (Ev.pos (by omega) (Ev.pos (by omega) (Ev.pos (by omega) (Ev.pos (by omega) (Ev.pos (by omega) ?_))))))
    by_cases c : (arc l (nth w j).toNat).f1 = (arc l (nth w (j + 1)).toNat).f0
    ·exact Ev.pos c (ih.cast (by simp [wkB, hb, prv, c]))
    ·exact Ev.neg c (Ev.is (by simp [wkB, hb, prv, c]))
def walkV (n : Int) (l : List Arc) (w : List Int) : Bool := netOkB n l && (decide (w.length ≤ 20) && wkB l none w)
theorem walkOk_ev (n : Int) (l : List Arc) (w : List Int) : Ev (fun k => impl_WalkOk.f k n l w) (walkV n l w) := by
 unfold impl_WalkOk.f walkV
 refine Ev.bind0 (show impl_NetOk.f n l = some (netOkB n l) from rfl) ?_
 cases h : netOkB n l with
 | false =>
  refine Ev.neg (by simp) (Ev.go ?_ (fun k => by rw [impl_WalkOk.j0]))
  exact Ev.pos rfl (Ev.now _)
 | true =>
  have hl := ((netOkB_iff n l).1 h).len
  refine Ev.pos rfl (Ev.go ?_ (fun k => by rw [impl_WalkOk.j0]))
  by_cases c : w.length ≤ 20
  ·refine Ev.neg (by simp; omega) ?_
   exact (walkOk_l n (by omega) (by omega) _ 0 rfl (Nat.zero_le _) (fun q hq => by cases hq)).cast (by simp [c, prv])
  ·exact Ev.pos (by simp; omega) (Ev.is (by simp [c]))
theorem cost_l {N : Nat} {l : List Arc} (hg : NetGood N l) {w : List Int} (hw : w.length ≤ 1000) (hk : ∀ k ∈ w, 0 ≤ k ∧ k < l.length) : ∀ (m i : Nat), w.length - i = m → i ≤ w.length → Ev (fun k => impl_Net_cost.l0 k (sumW l (w.take i)) w (w.length : Int) (i : Int) N l) (sumW l w) := by
 intro m
 induction m with
 | zero =>
  intro i hd hi
  refine Ev.go ?_ (fun k => by rw [impl_Net_cost.l0])
  rw [List.take_of_length_le (by omega)]
  exact Ev.neg (by omega) (Ev.now _)
 | succ m ih =>
  intro i hd hi
  have hlt : i < w.length := by omega
  have h1 := hk w[i] (List.getElem_mem hlt)
  have h2 := (hg.ok w[i].toNat (by omega)).2.2.2.1
  have hb := sumW_bd hg (w.take i) (fun k hx => hk k (List.mem_of_mem_take hx))
  rw [List.length_take] at hb
  refine Ev.go ?_ (fun k => by rw [impl_Net_cost.l0])
  have ih := ih (i + 1) (by omega) (by omega)
  have e : sumW l (w.take (i + 1)) = sumW l (w.take i) + (arc l w[i].toNat).f2 := by
   unfold sumW
   rw [List.take_succ_eq_append_getElem hlt, List.map_append, List.sum_append_int, List.map_singleton, List.sum_singleton]
  rw [e] at ih
  have ea : rd_T45 l w[i] = arc l w[i].toNat := by rw [← rda]; congr 1; omega
  rw [rdg i, nth_get hlt, ea, up1 hlt (by simp only [maxLen]; omega), w64 (n := sumW l (w.take i) + _) (by omega) (by omega)]
  exact Ev.pos (by omega) (Ev.pos (by omega) (Ev.pos (by omega) (Ev.pos (by omega) (Ev.pos (by omega) ih))))
theorem cost_ev {N : Nat} {l : List Arc} (hg : NetGood N l) {w : List Int} (hw : w.length ≤ 1000) (hk : ∀ k ∈ w, 0 ≤ k ∧ k < l.length) : Ev (fun k => impl_Net_cost.f k N l w) (sumW l w) := by
 unfold impl_Net_cost.f
 simpa [sumW] using cost_l hg hw hk _ 0 rfl (Nat.zero_le _)
def outF (l : List Arc) (v : Int) (i : Nat) : Nat → List Int
 | 0 => []
 | d + 1 => (if (arc l i).f0 = v then [(i : Int)] else []) ++ outF l v (i + 1) d
theorem outF_mem {l : List Arc} {v : Int} : ∀ (d i : Nat) (k : Int), k ∈ outF l v i d ↔ ∃ j : Nat, (i ≤ j ∧ j < i + d) ∧ k = j ∧ (arc l j).f0 = v
 | 0, i, k => by
  refine ⟨fun h => by simp [outF] at h, fun ⟨j, h, _⟩ => by omega⟩
 | d + 1, i, k => by
  have ih := outF_mem (l := l) (v := v) d (i + 1) k
  unfold outF
  rw [List.mem_append, ih]
  constructor
  ·rintro (h | ⟨j, h1, h2, h3⟩)
   ·by_cases c : (arc l i).f0 = v
    ·rw [if_pos c] at h
     exact ⟨i, by omega, by simpa using h, c⟩
    ·rw [if_neg c] at h
     simp at h
   ·exact ⟨j, by omega, h2, h3⟩
  ·rintro ⟨j, h1, h2, h3⟩
   by_cases c : j = i
   ·subst c
    rw [if_pos h3]
    exact .inl (by simp [h2])
   ·exact .inr ⟨j, by omega, h2, h3⟩
theorem netOut_l {l : List Arc} (hl : l.length ≤ 1000) (v : Int) : ∀ (m i : Nat) (x : List Int), l.length - i = m → i ≤ l.length → x.length ≤ i → Ev (fun k => impl_NetOut.l0 k v x l (l.length : Int) (i : Int)) (x ++ outF l v i m) := by
 intro m
 induction m with
 | zero =>
  intro i x hd hi hx
  refine Ev.go ?_ (fun k => by rw [impl_NetOut.l0])
  exact Ev.neg (by omega) (Ev.pos (by omega) (Ev.pos (by omega) (Ev.is (by simp [outF]))))
 | succ m ih =>
  intro i x hd hi hx
  have hlt : i < l.length := by omega
  refine Ev.go ?_ (fun k => by rw [impl_NetOut.l0])
  rw [rda, up1 hlt (by simp only [maxLen]; omega)]
  refine Ev.pos (by omega) (Ev.pos (by omega) (Ev.pos (by omega) ?_))
  by_cases c : (arc l i).f0 = v
  ·exact Ev.pos c (Ev.pos (by omega) ((ih (i + 1) _ (by omega) (by omega) (by simp; omega)).cast (by simp [outF, c])))
  ·exact Ev.neg c ((ih (i + 1) _ (by omega) (by omega) (by omega)).cast (by simp [outF, c]))
theorem netOut_ev {n : Int} {l : List Arc} (hg : NetGood n l) (v : Int) : Ev (fun k => impl_NetOut.f k n l v) (outF l v 0 l.length) := by
 unfold impl_NetOut.f
 have := hg.len
 refine Ev.bind0 (show impl_NetOk.f n l = some (netOkB n l) from rfl) (Ev.pos ((netOkB_iff n l).2 hg) (Ev.pos (by omega) (Ev.pos (by omega) ?_)))
 exact netOut_l (by omega) v _ 0 [] rfl (Nat.zero_le _) (by simp)
def tab (N : Nat) (l : List Arc) (s : Nat) : List Int := lst N (fun v => far (dst N (back l) s v))
theorem table_l {N : Nat} {l : List Arc} (hg : NetGood N l) : ∀ (m i : Nat), N - i = m → i ≤ N → Ev (fun k => impl_Net_table.l0 k ((List.range i).map (tab N l)) (N : Int) (i : Int) N l) ((List.range N).map (tab N l)) := by
 have h8 := hg.n8
 intro m
 induction m with
 | zero =>
  intro i hd hi
  obtain rfl : i = N := by omega
  refine Ev.go ?_ (fun k => by rw [impl_Net_table.l0])
  exact Ev.neg (by omega) (Ev.now _)
 | succ m ih =>
  intro i hd hi
  refine Ev.go ?_ (fun k => by rw [impl_Net_table.l0])
  have ih := ih (i + 1) (by omega) (by omega)
  rw [List.range_succ, List.map_append] at ih
  rw [up1 (show i < N by omega) (by simp only [maxLen]; omega)]
  exact Ev.pos (by omega) (Ev.bind (from_ev hg (show i < N by omega)) (Ev.pos (by simp; omega) ih))
theorem table_ev {N : Nat} {l : List Arc} (hg : NetGood N l) : Ev (fun k => impl_Net_table.f k N l) ((List.range N).map (tab N l)) := by
 have h8 := hg.n8
 unfold impl_Net_table.f
 exact Ev.pos (by omega) (Ev.pos (by omega) (by simpa using table_l hg _ 0 rfl (Nat.zero_le _)))
theorem back_arc' (l : List Arc) (i : Nat) : arc (back l) i = flip (arc l i) := by
 by_cases h : i < l.length
 ·exact back_arc h
 ·have e1 : arc (back l) i = z45 := by unfold arc; simp [rd_T45, back_len, List.getElem?_eq_none (show l.length ≤ i by omega), List.getElem?_eq_none (show (back l).length ≤ i by rw [back_len]; omega)]
  have e2 : arc l i = z45 := by unfold arc; simp [rd_T45, List.getElem?_eq_none (show l.length ≤ i by omega)]
  rw [e1, e2]; rfl
theorem back_back (l : List Arc) : back (back l) = l := by
 unfold back
 rw [List.map_map]
 have : (flip ∘ flip : Arc → Arc) = id := by funext a; rfl
 rw [this, List.map_id]
theorem walk_back {N : Nat} {l : List Arc} {u v k : Nat} {c : Int} (h : Wk (gr N l) u v k c) : Wk (gr N (back l)) v u k c := by
 induction h with
 | nil v => exact .nil v
 | @cons i v k c hi hu _ ih =>
  have h1 := Wk.one (g := gr N (back l)) (i := i) (by show i < (back l).length; rw [back_len]; exact hi) rfl
  have e1 : (gr N (back l)).fr i = (gr N l).tw i := by show (arc (back l) i).f0.toNat = _; rw [back_arc']; rfl
  have e2 : (gr N (back l)).tw i = (gr N l).fr i := by show (arc (back l) i).f1.toNat = _; rw [back_arc']; rfl
  have e3 : (gr N (back l)).w i = (gr N l).w i := by show (arc (back l) i).f2 = _; rw [back_arc']; rfl
  rw [e1, e2, e3] at h1
  exact (ih.trans h1).cast rfl (by omega)
end Go.Proofs.Ytmabopomecdidaa.Pure
end
section
set_option linter.unusedSimpArgs false
set_option linter.unusedVariables false
set_option linter.unusedSectionVars false
namespace Go.Proofs.Ytmabopomecdidaa.Pure
open Go.RowKit Go.Proofs.Ytmabopomecdidaa.Pr Go.Proofs.YtmabopomecdidaaW.PrintWords Go.Proofs.YtmabopomecdidaaW.PrintLast Go.Proofs.YtmabopomecdidaaW.PrintMore
open Go.Proofs.Ytmabopomecdidaa.Sp (G Wk Opt farTo farAll Topo)
theorem runA_farTo {N : Nat} {l : List Arc} (hg : NetGood N l) (F : Nat → Int) (v : Nat) : ∀ i, i ≤ l.length → runA F v (l.take i) = farTo (gr N l) F v i
 | 0, _ => by rw [List.take_zero]; rfl
 | i + 1, hi => by
  have hlt : i < l.length := by omega
  obtain ⟨⟨a1, a2⟩, ⟨a3, a4⟩, _⟩ := hg.ok i hlt
  have ih := runA_farTo hg F v i (by omega)
  have e : runA F v (l.take (i + 1)) = relax1 (runA F v (l.take i)) v (arc l i) := by
   rw [List.take_succ_eq_append_getElem hlt, ← arc_get hlt]
   unfold runA
   rw [List.foldl_append]
   rfl
  rw [e, ih]
  show relax1 (farTo (gr N l) F v i) v (arc l i) = Sp.far (gr N l) (farTo (gr N l) F v i) v i
  generalize farTo (gr N l) F v i = M
  unfold relax1 Sp.far
  have c : (arc l i).f0 = (v : Int) ↔ (gr N l).fr i = v := by show _ ↔ (arc l i).f0.toNat = v; omega
  by_cases h : (arc l i).f0 = (v : Int)
  ·rw [if_pos h, if_pos (c.1 h)]
   funext x
   show (if x = (arc l i).f1.toNat then mx (M (arc l i).f1.toNat) (M v + (arc l i).f2) else M x) = if x = (arc l i).f1.toNat then max (M x) (M v + (arc l i).f2) else M x
   by_cases hx : x = (arc l i).f1.toNat
   ·rw [if_pos hx, if_pos hx, hx]
    unfold mx
    split <;> omega
   ·rw [if_neg hx, if_neg hx]
  ·rw [if_neg h, if_neg (fun k => h (c.2 k))]
theorem runO_farAll {N : Nat} {l : List Arc} (hg : NetGood N l) : ∀ (vs : List Int) (F : Nat → Int), runO l F vs = farAll (gr N l) F (vs.map Int.toNat)
 | [], _ => rfl
 | v :: vs, F => by
  have h := runA_farTo hg F v.toNat l.length (Nat.le_refl _)
  rw [List.take_length] at h
  show runO l (runA F v.toNat l) vs = farAll (gr N l) (farTo (gr N l) F v.toNat l.length) (vs.map Int.toNat)
  rw [runO_farAll hg vs, h]
theorem Ord.topo {N : Nat} {l : List Arc} (hg : NetGood N l) {out : List Int} (h : Ord l N out) (hN : out.length = N) : Topo (gr N l) (out.map Int.toNat) := by
 have hnd : (out.map Int.toNat).Nodup := by
  rw [List.Nodup, List.pairwise_map]
  exact (List.Pairwise.and_mem.1 h.once).imp (fun {a b} hab e => hab.2.2 (by have := h.node a hab.1; have := h.node b hab.2.1; omega))
 refine ⟨hnd, fun v => ?_, fun i hi p q e => ?_⟩
 ·rw [List.mem_map]
  constructor
  ·rintro ⟨a, ha, rfl⟩
   have := h.node a ha
   show a.toNat < N
   omega
  ·intro hv
   exact ⟨(v : Int), h.all hN v hv, by simp⟩
 ·have hi : i < l.length := hi
  obtain ⟨⟨a1, a2⟩, ⟨a3, a4⟩, _⟩ := hg.ok i hi
  have hlen : p.length < (out.map Int.toNat).length := by rw [e]; simp
  have hlen2 : p.length < out.length := by simpa using hlen
  have e1 : (out.map Int.toNat)[p.length]'hlen = (gr N l).fr i := by simp [e]
  rw [List.getElem_map] at e1
  have hno := h.node _ (List.getElem_mem hlen2)
  have e2 : out[p.length] = (arc l i).f0 := by have e3 : out[p.length].toNat = (arc l i).f0.toNat := e1; omega
  obtain ⟨j, hj, ej⟩ := List.getElem_of_mem (h.all hN (arc l i).f1.toNat (by omega))
  have hb := h.back j hj (arc l i) (arc_mem hi) (by rw [nth_get hj, ej]; omega)
  obtain ⟨t, ht, et⟩ := List.getElem_of_mem hb
  rw [List.length_take] at ht
  rw [List.getElem_take] at et
  have := (List.getElem_inj h.once).1 (et.trans e2.symm)
  have hj2 : j < (out.map Int.toNat).length := by simpa using hj
  have e5 : (out.map Int.toNat)[j]'hj2 = (arc l i).f1.toNat := by rw [List.getElem_map, ej]; exact Int.toNat_natCast _
  have hj3 : j < (p ++ (gr N l).fr i :: q).length := by rw [← e]; exact hj2
  have e6 : (p ++ (gr N l).fr i :: q)[j]'hj3 = (arc l i).f1.toNat := by simp only [← e]; exact e5
  show (arc l i).f1.toNat ∈ q
  rw [← e6]
  rw [List.getElem_append_right (by omega)]
  obtain ⟨s, hs⟩ : ∃ s, j - p.length = s + 1 := ⟨j - p.length - 1, by omega⟩
  simp only [hs, List.getElem_cons_succ]
  exact List.getElem_mem _
section
variable {N : Nat} {l : List Arc} (hg : NetGood N l) (ho : (orderV N l).2 = true)
include hg ho
theorem long_is : longV N l = mxI (lst N (farAll (gr N l) (fun _ => 0) ((orderV N l).1.map Int.toNat))) := by
 unfold longV
 rw [if_pos ho, Int.toNat_natCast, runO_farAll hg]
theorem long_topo : Topo (gr N l) ((orderV N l).1.map Int.toNat) := by
 obtain ⟨M, e, _, h1, h2⟩ := orderV_good ho
 obtain rfl : N = M := by omega
 exact h1.topo hg h2
theorem long_le {u v k : Nat} {c : Int} (w : Wk (gr N l) u v k c) (hv : v < N) : c ≤ longV N l := by
 have h1 := (long_topo hg ho).walk (gr_ok hg) w
 have h2 : 0 ≤ farAll (gr N l) (fun _ => 0) ((orderV N l).1.map Int.toNat) u := Sp.farAll_ge _ (fun _ => 0) u
 rw [long_is hg ho]
 have h3 := mxI_ge (lst N (farAll (gr N l) (fun _ => 0) ((orderV N l).1.map Int.toNat))) (farAll (gr N l) (fun _ => 0) ((orderV N l).1.map Int.toNat) v) (by simp [lst]; exact ⟨v, hv, rfl⟩)
 omega
theorem long_at : ∃ u v k, v < N ∧ Wk (gr N l) u v k (longV N l) := by
 have h1 := hg.n1
 have hne : lst N (farAll (gr N l) (fun _ => 0) ((orderV N l).1.map Int.toNat)) ≠ [] := by
  intro e
  have := lst_len N (farAll (gr N l) (fun _ => 0) ((orderV N l).1.map Int.toNat))
  rw [e] at this
  simp at this
  omega
 have hm := mxI_mem hne
 rw [← long_is hg ho] at hm
 have hm : ∃ v, v < N ∧ farAll (gr N l) (fun _ => 0) ((orderV N l).1.map Int.toNat) v = longV N l := by simpa [lst] using hm
 obtain ⟨v, hv, e⟩ := hm
 obtain ⟨u, k, w⟩ := (long_topo hg ho).real (gr_ok hg) (fun _ _ => rfl) v
 rw [e] at w
 exact ⟨u, v, k, hv, w⟩
theorem long_nn' : 0 ≤ longV N l := by
 have h1 := hg.n1
 exact long_le hg ho (.nil 0) (by omega)
theorem order_turned : (orderV N (back l)).2 = true := by
 obtain ⟨M, e, _, h1, h2⟩ := orderV_good ho
 obtain rfl : N = M := by omega
 have := ord_turned h1 h2 (fun a ha => ⟨(good_arcs hg a ha).1, (good_arcs hg a ha).2.1⟩)
 unfold orderV
 rw [if_pos ((netOkB_iff _ _).2 (back_good hg)), Int.toNat_natCast]
 exact this
theorem long_back : longV N (back l) = longV N l := by
 have hob := order_turned hg ho
 apply Int.le_antisymm
 ·obtain ⟨u, v, k, hv, w⟩ := long_at (back_good hg) hob
  have w2 := walk_back w
  rw [back_back] at w2
  exact long_le hg ho w2 (w.start_lt (gr_ok (back_good hg)) hv)
 ·obtain ⟨u, v, k, hv, w⟩ := long_at hg ho
  exact long_le (back_good hg) hob (walk_back w) (w.start_lt (gr_ok hg) hv)
theorem reach_l1 {c : Int} {s i : Nat} (hs : s < N) (T : List (List Int)) (hc : 0 ≤ c) (hk : ∀ v, v < N → far (dst N (back l) s v) = 99999 ∨ far (dst N (back l) s v) ≤ c) (hT : T.length ≤ 64) (hi : i < T.length) : ∀ (m j : Nat) (b : Int), N - j = m → j ≤ N → b ≤ c → (∀ b', b' ≤ c → Pv (fun k => impl_ReachFar.l0 k b' T (T.length : Int) ((i + 1 : Nat) : Int)) (· ≤ c)) →
  Pv (fun k => impl_ReachFar.l1 k b T (T.length : Int) (i : Int) (tab N l s) ((tab N l s).length : Int) (j : Int)) (· ≤ c) := by
 have h8 := hg.n8
 intro m
 induction m with
 | zero =>
  intro j b hd hj hb h
  refine Pv.go ?_ (fun k => by rw [impl_ReachFar.l1])
  rw [up1 hi (by simp only [maxLen]; omega)]
  unfold tab
  rw [lst_len]
  exact Pv.neg (by omega) (h b hb)
 | succ m ih =>
  intro j b hd hj hb h
  have hlt : j < N := by omega
  refine Pv.go ?_ (fun k => by rw [impl_ReachFar.l1])
  have e : rd (tab N l s) (j : Int) = far (dst N (back l) s j) := lst_rd _ hlt
  have el : (tab N l s).length = N := lst_len _ _
  rw [e, up1 hlt (by simp only [maxLen]; omega)]
  refine Pv.pos (by omega) (Pv.pos (by omega) (Pv.pos (by omega) (Pv.ite (fun _ => ih (j + 1) b (by omega) (by omega) hb h) (fun hne => ih (j + 1) _ (by omega) (by omega) ?_ h))))
  rcases hk j hlt with k | k
  ·exact absurd k hne
  ·exact mx_le hb k
theorem reach_pv : Pv (fun k => impl_ReachFar.f k N l) (· ≤ longV N l) := by
 have h8 := hg.n8
 have hnn := long_nn' hg ho
 have hk : ∀ s, s < N → ∀ v, v < N → far (dst N (back l) s v) = 99999 ∨ far (dst N (back l) s v) ≤ longV N l := by
  intro s hs v hv
  cases e : dst N (back l) s v with
  | none => exact .inl rfl
  | some x =>
   obtain ⟨k, w⟩ := (dst_opt (back_good hg) hs v hv).1 x e
   have w2 := walk_back w
   rw [back_back] at w2
   exact .inr (long_le hg ho w2 hv)
 unfold impl_ReachFar.f
 refine Pv.bind0 (show impl_NetOk.f N l = some (netOkB N l) from rfl) (Pv.pos ((netOkB_iff N l).2 hg) ?_)
 refine Pv.bind (R := fun T => T = (List.range N).map (tab N l)) (Pv.of (table_ev hg) rfl) (fun T hT => ?_)
 have hlen : T.length = N := by rw [hT]; simp
 have key : ∀ (m i : Nat) (b : Int), N - i = m → i ≤ N → b ≤ longV N l → Pv (fun k => impl_ReachFar.l0 k b T (T.length : Int) (i : Int)) (· ≤ longV N l) := by
  intro m
  induction m with
  | zero =>
   intro i b hd hi hb
   refine Pv.go ?_ (fun k => by rw [impl_ReachFar.l0])
   exact Pv.neg (by omega) (Pv.now hb)
  | succ m ih =>
   intro i b hd hi hb
   have hlt : i < N := by omega
   refine Pv.go ?_ (fun k => by rw [impl_ReachFar.l0])
   have e : rd_L1 T (i : Int) = tab N l i := by simp [rd_L1, hT, hlt]
   rw [e]
   exact Pv.pos (by omega) (Pv.pos (by omega) (Pv.pos (by omega) (reach_l1 hg ho (s := i) hlt T hnn (hk i hlt) (by omega) (by omega) _ 0 b rfl (Nat.zero_le _) hb (fun b' hb' => ih (i + 1) b' (by omega) (by omega) hb'))))
 exact key _ 0 0 rfl (Nat.zero_le _) hnn
end
end Go.Proofs.Ytmabopomecdidaa.Pure
end
section
set_option linter.unusedSimpArgs false
set_option linter.unusedVariables false
namespace Go.Proofs.Ytmabopomecdidaa.Pure
open Go.RowKit Go.Proofs.Ytmabopomecdidaa.Pr Go.Proofs.YtmabopomecdidaaW.PrintWords Go.Proofs.YtmabopomecdidaaW.PrintLast Go.Proofs.YtmabopomecdidaaW.PrintMore
structure Rdr (b : List Int) : Prop where
 len : b.length ≤ 2000
 rng : ∀ i, i < b.length → 0 ≤ nth b i ∧ nth b i ≤ 255
theorem Rdr.rd {b : List Int} (h : Rdr b) (i : Int) : 0 ≤ Go.Proofs.YtmabopomecdidaaW.PrintWords.rd b i ∧ Go.Proofs.YtmabopomecdidaaW.PrintWords.rd b i ≤ 255 := by
 have e : Go.Proofs.YtmabopomecdidaaW.PrintWords.rd b i = nth b i.toNat := rfl
 rw [e]
 by_cases c : i.toNat < b.length
 ·exact h.rng _ c
 ·have c2 : b.length ≤ i.toNat := by omega
  simp [nth, List.getElem?_eq_none c2]
theorem tm {x a : Int} (hx : 0 ≤ x) (ha : 0 < a) : 0 ≤ Int.tmod x a ∧ Int.tmod x a < a := by
 rw [Int.tmod_eq_emod_of_nonneg hx]
 exact ⟨Int.emod_nonneg _ (by omega), Int.emod_lt_of_pos _ ha⟩
theorem td {x a : Int} (hx : 0 ≤ x) (ha : 0 < a) : 0 ≤ Int.tdiv x a ∧ Int.tdiv x a ≤ x := by
 rw [Int.tdiv_eq_ediv_of_nonneg hx]
 exact ⟨Int.ediv_nonneg hx (by omega), Int.ediv_le_self _ hx⟩
theorem xor_nn {x y : Int} (hx : 0 ≤ x) (hx' : x < 4294967296) (hy : 0 ≤ y) (hy' : y < 4294967296) : 0 ≤ Go.bits .xor .i64 x y := by
 obtain ⟨x, rfl⟩ := Int.eq_ofNat_of_zero_le hx
 obtain ⟨y, rfl⟩ := Int.eq_ofNat_of_zero_le hy
 have h1 : x ^^^ y < 2 ^ 32 := Nat.xor_lt_two_pow (by omega) (by omega)
 have e : Go.bits .xor .i64 ((x : Nat) : Int) ((y : Nat) : Int) = wrap64 (((BitVec.ofInt 64 ((x : Nat) : Int) ^^^ BitVec.ofInt 64 ((y : Nat) : Int)).toNat : Nat) : Int) := by
  unfold Go.bits
  simp only [i64_w]
  rfl
 rw [e, BitVec.toNat_xor, BitVec.ofInt_natCast, BitVec.ofInt_natCast, BitVec.toNat_ofNat, BitVec.toNat_ofNat, Nat.mod_eq_of_lt (by omega), Nat.mod_eq_of_lt (by omega), w64 (by omega) (by omega)]
 omega
theorem pick_pv {b : List Int} (h : Rdr b) {p a : Int} (hp : 0 ≤ p) (hp' : p ≤ 1000000) : Pv (fun k => spec_l30Rd_pick.f k b p a) (fun r => (0 ≤ r.1 ∧ (a < 1 → r.1 = 0) ∧ (1 ≤ a → r.1 < a)) ∧ r.2 = p + 1) := by
 have w1 : wrap64 (p + 1) = p + 1 := w64 (by omega) (by omega)
 have w2 : wrap64 (p + 1 - 1) = p := by rw [w64 (by omega) (by omega)]; omega
 unfold spec_l30Rd_pick.f
 refine Pv.ite (fun c => ?_) (fun c => ?_)
 ·refine Pv.go ?_ (fun k => by rw [spec_l30Rd_pick.j0])
  exact Pv.pos rfl (Pv.now ⟨⟨Int.le_refl _, fun _ => rfl, fun c2 => by omega⟩, w1⟩)
 ·refine Pv.go ?_ (fun k => by rw [spec_l30Rd_pick.j0])
  refine Pv.ite (fun _ => Pv.now ⟨⟨Int.le_refl _, fun _ => rfl, fun c2 => by dsimp only; omega⟩, w1⟩) (fun c0 => ?_)
  have hb : 0 < (b.length : Int) := by
   have : (b.length : Int) ≠ 0 := by simpa using c0
   omega
  have hb2 := h.len
  rw [w1, w2]
  have fin : ∀ X : Int, 0 ≤ X → Pv (fun _ => some (Int.tmod X a, p + 1)) (fun r => (0 ≤ r.1 ∧ (a < 1 → r.1 = 0) ∧ (1 ≤ a → r.1 < a)) ∧ r.2 = p + 1) := by
   intro X hX
   have := tm hX (show 0 < a by omega)
   exact Pv.now ⟨⟨this.1, fun c2 => absurd c2 c, fun _ => this.2⟩, rfl⟩
  refine Pv.ite (fun c1 => Pv.pos hp (Pv.neg (by omega) ?_)) (fun c1 => ?_)
  ·have := h.rd p
   rw [w64 (n := Go.Proofs.YtmabopomecdidaaW.PrintWords.rd b p) (by omega) (by omega)]
   exact fin _ (by omega)
  ·have t1 := tm hp hb
   have e1 : wrap64 (p * 7) = p * 7 := w64 (by omega) (by omega)
   have e2 : wrap64 (p * 7 + 3) = p * 7 + 3 := w64 (by omega) (by omega)
   rw [e1, e2]
   have t2 := tm (show 0 ≤ p * 7 + 3 by omega) hb
   have r1 := h.rd (Int.tmod p b.length)
   have r2 := h.rd (Int.tmod (p * 7 + 3) b.length)
   have d1 := td hp hb
   refine Pv.neg (by omega) (Pv.pos t1.1 (Pv.pos t1.2 (Pv.pos t2.1 (Pv.pos t2.2 (Pv.neg (by omega) ?_)))))
   generalize Go.Proofs.YtmabopomecdidaaW.PrintWords.rd b (Int.tmod p b.length) = u at r1
   generalize Go.Proofs.YtmabopomecdidaaW.PrintWords.rd b (Int.tmod (p * 7 + 3) b.length) = v at r2
   generalize Int.tdiv p b.length = q at d1
   rw [w64 (n := u) (by omega) (by omega), w64 (n := v) (by omega) (by omega), w64 (n := q) (by omega) (by omega), w64 (n := u * 131) (by omega) (by omega), w64 (n := v * 1117) (by omega) (by omega), w64 (n := p * 29) (by omega) (by omega), w64 (n := q * 53) (by omega) (by omega), w64 (n := u * 131 + v * 1117) (by omega) (by omega), w64 (n := u * 131 + v * 1117 + p * 29) (by omega) (by omega), w64 (n := u * 131 + v * 1117 + p * 29 + q * 53) (by omega) (by omega)]
   have d2 := td (show 0 ≤ u * 131 + v * 1117 + p * 29 + q * 53 by omega) (show (0 : Int) < 64 by omega)
   generalize Int.tdiv (u * 131 + v * 1117 + p * 29 + q * 53) 64 = z at d2
   rw [w64 (n := z) (by omega) (by omega)]
   exact fin _ (xor_nn (by omega) (by omega) (by omega) (by omega))
theorem one_pv {b : List Int} (h : Rdr b) {p : Int} (hp : 0 ≤ p) (hp' : p ≤ 1000000) {l : List Int} (hl : 0 < l.length) : Pv (fun k => spec_l30Rd_one.f k b p l) (fun r => r.1 ∈ l ∧ r.2 = p + 1) := by
 unfold spec_l30Rd_one.f
 refine Pv.bind (pick_pv h hp hp') (fun r ⟨⟨h1, _, h2⟩, h3⟩ => ?_)
 have h2 := h2 (by omega)
 refine Pv.pos h1 (Pv.pos h2 (Pv.now ⟨?_, h3⟩))
 have e : Go.Proofs.YtmabopomecdidaaW.PrintWords.rd l r.1 = nth l r.1.toNat := rfl
 dsimp only
 rw [e]
 exact getD_mem (by omega)
theorem u8_range {x : Int} (h : (Lit.int .u8 x).wf = true) : 0 ≤ x ∧ x ≤ 255 := by
 simp only [Lit.wf] at h
 have h2 : IntKind.u8.min ≤ x ∧ x ≤ IntKind.u8.max := by simpa using h
 have e1 : IntKind.u8.min = 0 := by decide
 have e2 : IntKind.u8.max = 255 := by decide
 omega
theorem open_pv {l : List Int} (hl : ∀ x ∈ l, (Lit.int .u8 x).wf = true) : ∃ b, spec_l30Open.f l = some (b, 0) ∧ Rdr b := by
 have key : ∀ m : List Int, m.length ≤ 2000 → (∀ x ∈ m, x ∈ l) → Rdr m := fun m h1 h2 => ⟨h1, fun i hi => u8_range (hl _ (h2 _ (getD_mem hi)))⟩
 unfold spec_l30Open.f
 by_cases c : (l.length : Int) > 2000
 ·rw [if_pos c, if_pos (by omega)]
  exact ⟨_, rfl, key _ (by simp; omega) (fun x hx => List.mem_of_mem_take hx)⟩
 ·rw [if_neg c]
  exact ⟨_, rfl, key _ (by omega) (fun x hx => hx)⟩
end Go.Proofs.Ytmabopomecdidaa.Pure
end
section
set_option linter.unusedSimpArgs false
set_option linter.unusedVariables false
namespace Go.Proofs.Ytmabopomecdidaa.Pure
open Go.RowKit Go.Proofs.Ytmabopomecdidaa.Pr Go.Proofs.YtmabopomecdidaaW.PrintWords Go.Proofs.YtmabopomecdidaaW.PrintLast Go.Proofs.YtmabopomecdidaaW.PrintMore
def NetSz (p : Int) (r : Int × List Arc × Int) : Prop := (0 ≤ r.1 ∧ r.1 ≤ 9) ∧ r.2.1.length ≤ 13 ∧ (p ≤ r.2.2 ∧ r.2.2 ≤ p + 100)
theorem net_l {b : List Int} (h : Rdr b) (n : Int) (hn : 1 ≤ n ∧ n ≤ 9) : ∀ (m : Nat) (p : Int) (l : List Arc), 0 ≤ p → p + 6 * m ≤ 100000 → m ≤ 13 → l.length ≤ 13 - m → Pv (fun k => spec_l30Net.l0 k (m : Int) b p n l) (fun r => r.1 = n ∧ r.2.1.length ≤ 13 ∧ (p ≤ r.2.2 ∧ r.2.2 ≤ p + 6 * m)) := by
 intro m
 induction m with
 | zero =>
  intro p l hp hp' hm hl
  refine Pv.go ?_ (fun k => by rw [spec_l30Net.l0])
  exact Pv.neg (by omega) (Pv.now ⟨rfl, by dsimp only; omega, by dsimp only; omega⟩)
 | succ m ih =>
  intro p l hp hp' hm hl
  have hw : wrap64 (((m + 1 : Nat) : Int) - 1) = (m : Int) := by rw [w64 (by omega) (by omega)]; omega
  refine Pv.go ?_ (fun k => by rw [spec_l30Net.l0])
  rw [hw]
  refine Pv.pos (by omega) (Pv.bind (pick_pv h hp (by omega)) (fun r1 ⟨a1, e1⟩ => Pv.bind (pick_pv h (p := r1.2) (by omega) (by omega)) (fun r2 ⟨a2, e2⟩ => Pv.bind (pick_pv h (p := r2.2) (by omega) (by omega)) (fun r3 ⟨a3, e3⟩ => Pv.bind (one_pv h (p := r3.2) (by omega) (by omega) (by simp)) (fun r4 ⟨a4, e4⟩ => Pv.bind (one_pv h (p := r4.2) (by omega) (by omega) (by simp)) (fun r5 ⟨a5, e5⟩ => Pv.bind (pick_pv h (p := r5.2) (by omega) (by omega)) (fun r6 ⟨a6, e6⟩ => ?_)))))))
  have step : ∀ x : Arc, Pv (fun k => spec_l30Net.l0 k (m : Int) b r6.2 n (l ++ [x])) (fun r => r.1 = n ∧ r.2.1.length ≤ 13 ∧ (p ≤ r.2.2 ∧ r.2.2 ≤ p + 6 * ((m + 1 : Nat) : Int))) := fun x => (ih r6.2 (l ++ [x]) (by omega) (by omega) (by omega) (by simp; omega)).mono (fun r hr => ⟨hr.1, hr.2.1, by omega, by omega⟩)
  refine Pv.ite (fun _ => Pv.neg (by omega) (Pv.pos (by omega) (step _))) (fun _ => Pv.pos (by omega) (step _))
theorem net_pv {b : List Int} (h : Rdr b) {p : Int} (hp : 0 ≤ p) (hp' : p ≤ 10000) : Pv (fun k => spec_l30Net.f k b p) (fun r => (2 ≤ r.1 ∧ r.1 ≤ 6) ∧ r.2.1.length ≤ 13 ∧ (p ≤ r.2.2 ∧ r.2.2 ≤ p + 90)) := by
 unfold spec_l30Net.f
 refine Pv.bind (pick_pv h hp (by omega)) (fun r1 ⟨a1, e1⟩ => Pv.bind (pick_pv h (p := r1.2) (by omega) (by omega)) (fun r2 ⟨a2, e2⟩ => ?_))
 have b1 := a1.2.2 (by omega)
 have b2 := a2.2.2 (by omega)
 have hw : wrap64 (2 + r1.1) = 2 + r1.1 := w64 (by omega) (by omega)
 rw [hw]
 have := net_l h (2 + r1.1) (by omega) r2.1.toNat r2.2 [] (by omega) (by omega) (by omega) (by simp)
 rw [Int.toNat_of_nonneg a2.1] at this
 exact this.mono (fun r hr => ⟨⟨by omega, by omega⟩, hr.2.1, by omega, by omega⟩)
theorem anyNet_pv {b : List Int} (h : Rdr b) {p : Int} (hp : 0 ≤ p) (hp' : p ≤ 10000) : Pv (fun k => spec_l30AnyNet.f k b p) (NetSz p) := by
 unfold spec_l30AnyNet.f
 refine Pv.bind (net_pv h hp hp') (fun r0 ⟨a0, l0, e0⟩ => ?_)
 refine Pv.ite (fun c => ?_) (fun c => Pv.now ⟨by dsimp only; omega, l0, by dsimp only; omega⟩)
 refine Pv.bind (pick_pv h (p := r0.2.2) (by omega) (by omega)) (fun r1 ⟨a1, e1⟩ => Pv.bind (pick_pv h (p := r1.2) (by omega) (by omega)) (fun r2 ⟨a2, e2⟩ => ?_))
 have b1 := a1.2.2 (by omega)
 refine Pv.ite (fun c1 => Pv.pos a1.1 (Pv.pos b1 (Pv.bind (one_pv h (p := r2.2) (by omega) (by omega) (by simp)) (fun r3 ⟨a3, e3⟩ => Pv.now ⟨by dsimp only; omega, by simpa using l0, by dsimp only; omega⟩)))) (fun c1 => ?_)
 refine Pv.ite (fun c2 => Pv.bind (one_pv h (p := r2.2) (by omega) (by omega) (by simp)) (fun r3 ⟨a3, e3⟩ => Pv.pos a1.1 (Pv.pos b1 (Pv.now ⟨by dsimp only; omega, by simpa using l0, by dsimp only; omega⟩)))) (fun c2 => ?_)
 refine Pv.ite (fun c3 => Pv.bind (one_pv h (p := r2.2) (by omega) (by omega) (by simp)) (fun r3 ⟨a3, e3⟩ => Pv.now ⟨?_, l0, by dsimp only; omega⟩)) (fun c3 => Pv.now ⟨by dsimp only; omega, l0, by dsimp only; omega⟩)
 simp only [List.mem_cons, List.not_mem_nil, or_false] at a3
 dsimp only
 omega
end Go.Proofs.Ytmabopomecdidaa.Pure
end
section
set_option linter.unusedSimpArgs false
set_option linter.unusedVariables false
namespace Go.Proofs.Ytmabopomecdidaa.Pure
open Go.RowKit Go.Proofs.Ytmabopomecdidaa.Pr Go.Proofs.YtmabopomecdidaaW.PrintWords Go.Proofs.YtmabopomecdidaaW.PrintLast Go.Proofs.YtmabopomecdidaaW.PrintMore
theorem flat_l (b : List Int) (p n : Int) : ∀ (m i : Nat) (l : List Arc), l.length - i = m → i ≤ l.length → l.length ≤ 13 → Pv (fun k => spec_l30Flat.l0 k (i : Int) b p n l) (fun r => r.1 = n ∧ r.2.1.length = l.length ∧ r.2.2 = p) := by
 intro m
 induction m with
 | zero =>
  intro i l hd hi hl
  refine Pv.go ?_ (fun k => by rw [spec_l30Flat.l0])
  exact Pv.neg (by omega) (Pv.now ⟨rfl, rfl, rfl⟩)
 | succ m ih =>
  intro i l hd hi hl
  refine Pv.go ?_ (fun k => by rw [spec_l30Flat.l0])
  rw [up1 (show i < l.length by omega) (by simp only [maxLen]; omega)]
  refine Pv.pos (by omega) (Pv.pos (by omega) (Pv.ite (fun _ => Pv.bind0 rfl ?_) (fun _ => ih (i + 1) l (by omega) (by omega) hl)))
  exact (ih (i + 1) _ (by simp; omega) (by simp; omega) (by simp; omega)).mono (fun r hr => ⟨hr.1, by simpa using hr.2.1, hr.2.2⟩)
theorem flat_pv {b : List Int} (h : Rdr b) {p : Int} (hp : 0 ≤ p) (hp' : p ≤ 10000) : Pv (fun k => spec_l30Flat.f k b p) (fun r => (0 ≤ r.1 ∧ r.1 ≤ 9) ∧ r.2.1.length ≤ 13) := by
 unfold spec_l30Flat.f
 refine Pv.bind (anyNet_pv h hp hp') (fun r1 h1 => Pv.bind (pick_pv h (p := r1.2.2) (by have := h1.2.2; omega) (by have := h1.2.2; omega)) (fun r2 _ => ?_))
 refine Pv.ite (fun _ => ?_) (fun _ => Pv.now ⟨h1.1, h1.2.1⟩)
 exact (flat_l b r2.2 r1.1 _ 0 r1.2.1 rfl (Nat.zero_le _) h1.2.1).mono (fun r hr => ⟨by rw [hr.1]; exact h1.1, by rw [hr.2.1]; exact h1.2.1⟩)
end Go.Proofs.Ytmabopomecdidaa.Pure
end
section
set_option linter.unusedSimpArgs false
set_option linter.unusedVariables false
set_option linter.unusedSectionVars false
namespace Go.Proofs.Ytmabopomecdidaa.Pure
open Go.RowKit Go.Proofs.Ytmabopomecdidaa.Pr Go.Proofs.YtmabopomecdidaaW.PrintWords Go.Proofs.YtmabopomecdidaaW.PrintLast Go.Proofs.YtmabopomecdidaaW.PrintMore
section
variable {N : Nat} {l : List Arc} (hg : NetGood N l) (ho : (orderV N l).2 = true)
include hg ho
theorem ringLong_j3 {w : List Int} {u v : Int} (hc : Chain l u w v) (hu : 0 ≤ v ∧ v < N) (hw : w.length ≤ 8) : Pv (fun k => laws_FnRingLong.j3 k (longV N l) w N l) (· = true) := by
 refine Pv.go ?_ (fun k => by rw [laws_FnRingLong.j3])
 have h1 := walkOk_ev (N : Int) l w
 have e1 : walkV N l w = true := by
  unfold walkV
  rw [(netOkB_iff _ _).2 hg, hc.wkB w u v none (fun q hq => by cases hq)]
  simp
  omega
 rw [e1] at h1
 have h2 := cost_ev hg (w := w) (by omega) (hc.rng w u v)
 have hle := long_le hg ho (hc.walk hg w u v) (by omega)
 refine Pv.bind (R := fun t => t = sumW l w) (Pv.of (by unfold impl_WalkCost.f; exact Ev.bind h1 (Ev.pos rfl (Ev.bind h2 (Ev.now _)))) rfl) (fun t ht => ?_)
 refine Pv.pos (by rw [ht]; exact hle) (Pv.bind (R := fun b => b = ((N : Int), back l)) (Pv.of (implNetBack_ev hg) rfl) (fun b hb => ?_))
 rw [hb]
 refine Pv.bind (R := fun t => t = longV N l) (Pv.of ((implLong_ev N (back l)).cast (long_back hg ho)) rfl) (fun t ht => ?_)
 refine Pv.pos ht (Pv.bind (reach_pv hg ho) (fun t ht => Pv.now ?_))
 exact decide_eq_true ht
theorem ringLong_l0 {x1 : List Int} (hx : x1.length ≤ maxLen) : ∀ (m i : Nat) (w : List Int) (u v : Int), N - i = m → i ≤ N → Chain l u w v → (0 ≤ v ∧ v < N) → w.length ≤ i → Pv (fun k => laws_FnRingLong.l0 k x1 (longV N l) v w (i : Int) N l) (· = true) := by
 have h8 := hg.n8
 simp only [maxLen] at hx
 intro m
 induction m with
 | zero =>
  intro i w u v hd hi hc hv hw
  refine Pv.go ?_ (fun k => by rw [laws_FnRingLong.l0])
  exact Pv.neg (by omega) (ringLong_j3 hg ho hc hv (by omega))
 | succ m ih =>
  intro i w u v hd hi hc hv hw
  refine Pv.go ?_ (fun k => by rw [laws_FnRingLong.l0])
  refine Pv.pos (by omega) (Pv.bind (R := fun o => o = outF l v 0 l.length) (Pv.of (netOut_ev hg v) rfl) (fun o ho2 => ?_))
  refine Pv.ite (fun _ => ringLong_j3 hg ho hc hv (by omega)) (fun hne => ?_)
  have hq : 0 ≤ (x1.length : Int) / 7 ∧ (x1.length : Int) / 7 ≤ x1.length := by omega
  have w1 : wrap64 ((x1.length : Int) / 7) = (x1.length : Int) / 7 := w64 (by omega) (by omega)
  have w2 : wrap64 ((x1.length : Int) / 7 + (i : Int)) = (x1.length : Int) / 7 + (i : Int) := w64 (by omega) (by omega)
  rw [w1, w2, up1 (show i < N by omega) (by simp only [maxLen]; omega)]
  clear w1 w2
  have ht := tm (show 0 ≤ (x1.length : Int) / 7 + (i : Int) by omega) (show 0 < (o.length : Int) by omega)
  generalize Int.tmod ((x1.length : Int) / 7 + (i : Int)) (o.length : Int) = j at ht
  obtain ⟨j, rfl⟩ := Int.eq_ofNat_of_zero_le ht.1
  rw [rdg j]
  have hmem : nth o j ∈ o := getD_mem (by omega)
  rw [ho2] at hmem
  obtain ⟨t, h1, h2, h3⟩ := (outF_mem _ _ _).1 hmem
  rw [← ho2] at h2
  rw [h2, rda]
  have hok := hg.ok t (by omega)
  have hs := hc.snoc (k := (t : Int)) (by omega) (by omega) w u v (by rw [Int.toNat_natCast]; exact h3)
  rw [Int.toNat_natCast] at hs
  exact Pv.pos (by omega) (Pv.pos (by omega) (Pv.pos (by omega) (Pv.pos (by omega) (Pv.pos (by omega) (ih (i + 1) _ u _ (by omega) (by omega) hs (by omega) (by simp; omega))))))
end
theorem FnRingLong : laws_FnRingLong.Asked := by
 intro c d hc hd
 refine Pv.rounds ?_
 have key : ∀ b, Pv (fun k => laws_FnRingLong.j0 k c d b) (· = true) := by
  intro b
  refine Pv.go ?_ (fun k => by rw [laws_FnRingLong.j0])
  refine Pv.ite (fun _ => Pv.now rfl) (fun _ => ?_)
  unfold spec_DrawRingLong.f
  obtain ⟨b, e, hb⟩ := open_pv hc.2
  refine Pv.bind (R := fun r => (0 ≤ r.1 ∧ r.1 ≤ 9) ∧ r.2.length ≤ 13) (Pv.bind0 e (Pv.bind (flat_pv hb (p := 0) (by omega) (by omega)) (fun r1 h1 => Pv.now h1))) (fun r ⟨h1, h2⟩ => ?_)
  obtain ⟨n, l⟩ := r
  dsimp only at h1 h2 ⊢
  have hs := specLong_ev n l (by simp only [maxLen]; omega)
  refine Pv.bind (R := fun t => t = longV n l) (Pv.of (implLong_ev n l) rfl) (fun t ht => ?_)
  refine Pv.bind (R := fun t => t = longV n l) (Pv.of hs rfl) (fun t2 ht2 => ?_)
  subst ht ht2
  refine Pv.pos rfl (Pv.go ?_ (fun k => by rw [laws_FnRingLong.j1]))
  by_cases cn : longV n l < 0
  ·exact Pv.pos (decide_eq_true cn) (Pv.bind (R := fun t => t = longV n l) (Pv.of hs rfl) (fun t2 ht2 => Pv.now (by rw [ht2]; simp)))
  ·refine Pv.neg (by simp; omega) ?_
   have hob : (orderV n l).2 = true := by
    apply Classical.byContradiction
    intro hf
    apply cn
    unfold longV
    rw [if_neg hf]
    omega
   obtain ⟨N, rfl, hg, _, _⟩ := orderV_good hob
   have h1 := hg.n1
   refine Pv.neg (by omega) ?_
   have hm := Int.emod_nonneg (d.length : Int) (show (N : Int) ≠ 0 by omega)
   have hm2 := Int.emod_lt_of_pos (d.length : Int) (show 0 < (N : Int) by omega)
   exact ringLong_l0 hg hob hd.1 _ 0 [] _ _ rfl (Nat.zero_le _) rfl ⟨hm, hm2⟩ (by simp)
 unfold laws_FnRingLong.f
 exact Pv.ite (fun _ => key _) (fun _ => key _)
end Go.Proofs.Ytmabopomecdidaa.Pure
end
section
namespace Go.Proofs.Ytmabopomecdidaa.fnRingLong
open Go.ChangeShapes Go.WideShapes Go.ChangeAt Go.RowKit Go.Proofs.YtmabopomecdidaaW.PrintWords Go.Proofs.Ytmabopomecdidaa.Pr
open Go.ChangeMaps (open_string shut_string)
set_option linter.unusedVariables false
set_option linter.unusedSimpArgs false
theorem own : ownKnob Try.prog.godebug = none := by kernel_rfl
theorem laidOut : laidOutB Try.prog = true := by kernel_rfl
theorem opens0 : Opens Try.prog (Kd.slice 5 (Kd.int .u8)) 35 (fun l => l.length ≤ maxLen ∧ ∀ x ∈ l, (fun n => (Lit.int .u8 n).wf = true) x) := (opens_slice (P := Try.prog) Try.underlying35 (by kernel_rfl) (opens_int (P := Try.prog) (k := .u8) Try.underlying5))
theorem opens1 : Opens Try.prog (Kd.slice 5 (Kd.int .u8)) 35 (fun l => l.length ≤ maxLen ∧ ∀ x ∈ l, (fun n => (Lit.int .u8 n).wf = true) x) := (opens_slice (P := Try.prog) Try.underlying35 (by kernel_rfl) (opens_int (P := Try.prog) (k := .u8) Try.underlying5))
set_option maxRecDepth 100000 in
set_option maxHeartbeats 2000000 in
theorem lifted (os : Os) (started : os.Started) (H : Type) (enc : TypeId × Value → H) :
  ReturnsInHanded {} Try.checked os 14 .any (Rows.fnRingLongSpec.pre6 enc Try.prog Try.f14 Rows.fnRingLongRow.domain false) (Rows.fnRingLongSpec.post enc Try.prog Try.f14 false true false false) := by
 refine returnsInHanded_of_change_sized (C := Try.checked) own started (by kernel_rfl) Try.func14
  (ChangeSpec.witness6 (enc := enc) (C := Try.checked) false ⟨#[], #[(.slice none 0 0), (.slice none 0 0)], []⟩ 8 (by kernel_rfl) (by kernel_rfl) (by kernel_rfl) (by kernel_rfl)) ?_
 intro W base args ds gs before hval0 hW hcnd hsz0 _
 have hval : ∀ (j : Nat) t v, Try.f14.params[j]? = some t → args[j]? = some v → Value.okWide Try.prog W .any base t v := hval0
 have hW' := hW
 obtain ⟨p, q, hA0, hV, rfl, hfz, hnd⟩ := hW
 have hA : DataW.TrodAll enc Try.prog W 0 (fun _ => true) true Try.f14.params.toList args.toList ds p := hA0
 rw [Try.params14] at hA hval
 obtain ⟨v0, vs0, d0, ds0, p0, q0, hargs, rfl, rfl, h0, r0⟩ := trodAll_cons hA
 obtain ⟨v1, vs1, d1, ds1, p1, q1, rfl, rfl, rfl, h1, r1⟩ := trodAll_cons r0
 obtain ⟨rfl, rfl, rfl⟩ := trodAll_nil r1
 obtain rfl : args = #[v0, v1] := by cases args; simp_all
 obtain ⟨rfl, rfl⟩ := trodVars_none hV
 have k0 := h0
 have lt0 : ∀ x ∈ p0, x.block < W.heap.size := by obtain ⟨m, hm⟩ := k0; exact DataW.trod_lt m _ _ _ hm
 obtain ⟨a0, len0, cap0, rfl⟩ := okWide_slice Try.underlying35 (hval 0 35 v0 rfl rfl)
 obtain ⟨fuel0, hf0⟩ := h0
 obtain ⟨l0, ⟨A0, c0, e0, hc0, hr0⟩, w0⟩ := opens0 hf0
 have e0' : (Value.slice a0 len0 cap0) = .slice A0 l0.length c0 := (List.cons.inj e0).1
 injection e0' with e0a e0b e0c
 subst e0a e0b e0c
 have k1 := h1
 have lt1 : ∀ x ∈ p1, x.block < W.heap.size := by obtain ⟨m, hm⟩ := k1; exact DataW.trod_lt m _ _ _ hm
 obtain ⟨a1, len1, cap1, rfl⟩ := okWide_slice Try.underlying35 (hval 1 35 v1 rfl rfl)
 obtain ⟨fuel1, hf1⟩ := h1
 obtain ⟨l1, ⟨A1, c1, e1, hc1, hr1⟩, w1⟩ := opens1 hf1
 have e1' : (Value.slice a1 len1 cap1) = .slice A1 l1.length c1 := (List.cons.inj e1).1
 injection e1' with e1a e1b e1c
 subst e1a e1b e1c
 obtain ⟨k, hh⟩ := Pure.FnRingLong l0 l1 w0 w1
 refine (laws_FnRingLong.calls k _ _ l0 _ _ l1 true W hr0 hc0 hr1 hc1 hh).mono fun e W' ⟨he, bel0⟩ => ?_
 have bel : Below W.heap.size W W' := bel0
 subst he
 exact ⟨_, rfl, _, _, _, [], _, [], hW', trodAll_mk1 (shut_bool Try.underlying4 _), (trodAll_cons_mk (Below.trod laidOut (by kernel_rfl) (of_decide_eq_true (by kernel_rfl)) k0 bel lt0) (trodAll_cons_mk (Below.trod laidOut (by kernel_rfl) (of_decide_eq_true (by kernel_rfl)) k1 bel lt1) trodAll_mk0)), rfl, bel.frame _, fun h => by cases h⟩
theorem over : Rows.fnRingLongRow.holds Try.pinned (OpenSpec.ofChange Rows.fnRingLongSpec) :=
 OpenClaim.holds_of_wide 14 Try.f14 rfl rfl rfl rfl rfl rfl rfl ⟨rfl, rfl, rfl, rfl, rfl⟩ rfl rfl rfl rfl rfl (by kernel_rfl) Try.func14 (by kernel_rfl)
  (of_decide_eq_true (by kernel_rfl)) (by unfold Func.isWrapper; first | (rw [if_pos (by decide +kernel)]; kernel_rfl) | (rw [if_neg (by decide +kernel)]; exact ⟨rfl, rfl⟩))
  (fun os started H enc _ => lifted os started H enc)
theorem proved : Rows.FnRingLongSaid := over
#print axioms proved
end Go.Proofs.Ytmabopomecdidaa.fnRingLong
namespace Go.Proofs.Ytmabopomecdidaa
theorem fnRingLong_holds : Rows.FnRingLongSaid := fnRingLong.proved
end Go.Proofs.Ytmabopomecdidaa
end
