/- For the statement FnExactRingLong of this seat: it is proved here, with no further conditions (part 5 of its texts: words, walks of the functions, the plain law, the row). -/
import Derived.Deep.RegionLaw
import Derived.ChangeArms
import Derived.ChangeSlices
import Derived.Deep.Slices
import Derived.WideShapes
import Derived.DataReads
import Derived.Test.YtmabopomecdidaaKFnExactRingLong3
section
namespace Go.Proofs.Ytmabopomecdidaa.Pr
open Go.RowKit Go.Proofs.YtmabopomecdidaaW.PrintWords Go.Proofs.YtmabopomecdidaaW.PrintLast Go.Proofs.YtmabopomecdidaaW.PrintMore
attribute [local go_sem] max2_int min2_int max_two min_two max_three min_three max_four min_four
set_option linter.unusedVariables false
set_option linter.unusedSimpArgs false
def okArc (n : Int) (a : S45) : Bool := okN n a.f0 && okN n a.f1 && !(a.f0 == a.f1) && okC a.f2 && okC a.f3 && okN 10 a.f4
def netOkB (n : Int) (l : List S45) : Bool := decide (1 ≤ n) && decide (n ≤ 8) && decide ((l.length : Int) ≤ 16) && l.all (okArc n)
def impl_NetOk.f (a0_0 : Int) (l0_1 : List S45) : Option Bool := some (decide (1 ≤ a0_0) && decide (a0_0 ≤ 8) && decide ((l0_1.length : Int) ≤ 16) && l0_1.all (okArc a0_0))
theorem heap_alloc_at {W : World} {o : Obj} {k : Nat} (h : k = W.heap.size) : (W.alloc o).heap[k]? = some o := by subst h; exact heap_alloc_new W o
theorem two_reads (W : World) (b : Nat) (x y : Int) (h : W.heap[b]? = some (.cells #[.int .i64 x, .int .i64 y] 3 (0, 0))) : Kd.C (Kd.int .i64) W (some ⟨b, 0, none⟩) [x, y].length [x, y] :=
 Kd.C_of_reads (d := (0 : Int)) (h1 := fun _ => rfl) ⟨rfl, by simp, fun _ => ⟨_, rfl, fun j hj => by
  have h0 : W.cell? ⟨b, 0, none⟩ = some (.int .i64 x) := (blk_cell h 0).trans rfl
  have h1 : W.cell? ⟨b, 1, none⟩ = some (.int .i64 y) := (blk_cell h 1).trans rfl
  match j, hj with
  | 0, _ => rw [add_plain]; exact h0
  | 1, _ => rw [add_plain]; exact h1⟩⟩
set_option maxHeartbeats 8000000 in
set_option maxRecDepth 100000 in
theorem NetOk_closure (x : S45) (n : Int) (g : Nat) (A : Option Addr) (c : Nat) (l : List S45) (w : World) (hn : 1 ≤ n) (hn2 : n ≤ 8) (hr : Kd.C k45 w A l.length l) (hc : l.length ≤ c) (hb : w.heap[g]? = some (.cells #[.int .i64 n, .slice A l.length c] 38 (0, 0))) :
  Calls Try.prog 111 #[encA x, .pointer (some ⟨g, 0, none⟩)] w fun e w' => e = .returned (.bool (!okArc n x)) ∧ Below w.heap.size w w' := by
 have hcell : w.cell? ⟨g, 0, none⟩ = some (.int .i64 n) := (blk_cell hb 0).trans rfl
 have hcell1 : w.cell? ⟨g, 1, none⟩ = some (.slice A l.length c) := (blk_cell hb 1).trans rfl
 have hhas := fun (W : World) (a0 : Nat) (h1 : Below w.heap.size w W) (h2 : W.heap[a0]? = some (.cells #[.int .i64 x.f0, .int .i64 x.f1] 3 (0, 0))) => impl_Net_has.calls n A c l (some ⟨a0, 0, none⟩) 2 [x.f0, x.f1] ([x.f0, x.f1].all (okN n)) W (Kd.C_below hr h1) hc (two_reads W a0 x.f0 x.f1 h2) (by simp) (by unfold impl_Net_has.f; rw [if_pos (by omega), if_pos (by omega)])
 have hbl := World.block_lt_of_cell? _ _ hcell
 have hu := Try.underlying38
 have hu2 := Try.underlying45
 have hc2 := fun (W : World) => impl_costOk.calls x.f2 (okC x.f2) W (okC_costOk x.f2)
 have hc3 := fun (W : World) => impl_costOk.calls x.f3 (okC x.f3) W (okC_costOk x.f3)
 have hload := fun (W : World) => impl_within.calls x.f4 0 9 (okN 10 x.f4) W (okN_within 10 x.f4)
 clear hb hr
 unfold encA
 have hall : [x.f0, x.f1].all (okN n) = (okN n x.f0 && okN n x.f1) := by simp
 rw [hall] at hhas
 clear hall
 unfold okArc
 generalize hA : (okN n x.f0 && okN n x.f1) = b1 at hhas
 clear hA
 generalize okN 10 x.f4 = b5 at hload
 generalize okC x.f2 = b2 at hc2
 generalize okC x.f3 = b3 at hc3
 have HB := Aside0.mk (Below.refl w.heap.size w)
 have HN := Aside0.mk hn
 have HC := Aside0.mk hc
 clear hn hn2 hc
 have bcell : ∀ {W w1 : World}, Below W.heap.size W w1 → (∀ b o, b < W.heap.size → w1.cell? ⟨b, o, none⟩ = W.cell? ⟨b, o, none⟩) := fun hb b o h => hb.cell (p := ⟨b, o, none⟩) h
 have HCELL := Aside0.mk @bcell
 clear bcell
 have hcN := hbl
 cases b1 with
 | false =>
  go_enter Try.func111, Try.ntmps111
  go_wp2_with (go_at_call 112; refine (hhas _ _ ?h1 ?h2).mono ?_; (case h1 => repeat (first | exact Below.refl _ _ | apply below_alloc)); (case h2 => exact heap_alloc_at (by simp)); rintro e w1 ⟨rfl, hb'⟩)
  go_ret
  exact ⟨rfl, below_then (below_alloc (below_alloc (Below.refl _ _) _) _) (by simp; omega) hb'⟩
 | true =>
  by_cases hft : x.f0 = x.f1
  ·have e1 : (x.f0 == x.f1) = true := by simpa using hft
   clear hft
   rw [e1]
   go_enter Try.func111, Try.ntmps111
   go_wp2_with (go_at_call 112; refine (hhas _ _ ?h1 ?h2).mono ?_; (case h1 => repeat (first | exact Below.refl _ _ | apply below_alloc)); (case h2 => exact heap_alloc_at (by simp)); rintro e w1 ⟨rfl, hb'⟩; have hc1 := HCELL.out hb'; have HB1 := Aside0.mk hb'; clear hb')
   go_ret
   exact ⟨rfl, by repeat (first | apply pw_below_drewN | exact below_then (below_alloc (below_alloc (Below.refl _ _) _) _) (by simp; omega) HB1.out)⟩
  ·have e1 : (x.f0 == x.f1) = false := by simpa using hft
   clear hft
   rw [e1]
   cases b2 with
   | false =>
    go_enter Try.func111, Try.ntmps111
    go_wp2_with (first | (go_at_call 112; refine (hhas _ _ ?h1 ?h2).mono ?_; (case h1 => repeat (first | exact Below.refl _ _ | apply below_alloc)); (case h2 => exact heap_alloc_at (by simp)); rintro e w1 ⟨rfl, hb'⟩; have hc1 := HCELL.out hb'; have HB1 := Aside0.mk hb'; clear hb') | (go_at_call 100; (with_reducible refine (hc2 _).mono ?_); rintro e w2 ⟨rfl, ⟨nd2, rfl⟩⟩))
    go_ret
    exact ⟨rfl, by repeat (first | apply pw_below_drewN | exact below_then (below_alloc (below_alloc (Below.refl _ _) _) _) (by simp; omega) HB1.out)⟩
   | true =>
    cases b3 with
    | false =>
     go_enter Try.func111, Try.ntmps111
     go_wp2_with (first | (go_at_call 112; refine (hhas _ _ ?h1 ?h2).mono ?_; (case h1 => repeat (first | exact Below.refl _ _ | apply below_alloc)); (case h2 => exact heap_alloc_at (by simp)); rintro e w1 ⟨rfl, hb'⟩; have hc1 := HCELL.out hb'; have HB1 := Aside0.mk hb'; clear hb') | (go_at_call 100; (with_reducible refine (hc2 _).mono ?_); rintro e w2 ⟨rfl, ⟨nd2, rfl⟩⟩) | (go_at_call 100; (with_reducible refine (hc3 _).mono ?_); rintro e w3 ⟨rfl, ⟨nd3, rfl⟩⟩))
     go_ret
     exact ⟨rfl, by repeat (first | apply pw_below_drewN | exact below_then (below_alloc (below_alloc (Below.refl _ _) _) _) (by simp; omega) HB1.out)⟩
    | true =>
     go_enter Try.func111, Try.ntmps111
     go_wp2_with (first | (go_at_call 112; refine (hhas _ _ ?h1 ?h2).mono ?_; (case h1 => repeat (first | exact Below.refl _ _ | apply below_alloc)); (case h2 => exact heap_alloc_at (by simp)); rintro e w1 ⟨rfl, hb'⟩; have hc1 := HCELL.out hb'; have HB1 := Aside0.mk hb'; clear hb') | (go_at_call 100; (with_reducible refine (hc2 _).mono ?_); rintro e w2 ⟨rfl, ⟨nd2, rfl⟩⟩) | (go_at_call 100; (with_reducible refine (hc3 _).mono ?_); rintro e w3 ⟨rfl, ⟨nd3, rfl⟩⟩) | (go_at_call 77; refine (hload _).mono ?_; rintro e w4 ⟨rfl, ⟨nd4, rfl⟩⟩))
     go_ret
     exact ⟨by cases b5 <;> rfl, by repeat (first | apply pw_below_drewN | exact below_then (below_alloc (below_alloc (Below.refl _ _) _) _) (by simp; omega) HB1.out)⟩
set_option maxHeartbeats 8000000 in
set_option maxRecDepth 100000 in
theorem impl_NetOk.calls (a0_0 : Int) (A0_1 : Option Addr) (c0_1 : Nat) (l0_1 : List S45) (r : Bool) (w : World) (hr0_1 : Kd.C k45 w A0_1 l0_1.length l0_1) (hc0_1 : l0_1.length ≤ c0_1) (h : impl_NetOk.f a0_0 l0_1 = some r) :
  Calls Try.prog 67 #[.agg #[.int .i64 a0_0, .slice A0_1 l0_1.length c0_1]] w fun e w' => e = .returned (.bool r) ∧ Below w.heap.size w w' := by
 have hw1 := fun (W : World) => impl_within.calls a0_0 1 8 (decide (1 ≤ a0_0) && decide (a0_0 ≤ 8)) W (by
  unfold impl_within.f
  by_cases h : a0_0 ≥ 1
  ·rw [if_pos h]; simp [show (1 : Int) ≤ a0_0 from h]
  ·rw [if_neg h]; simp [show ¬ (1 : Int) ≤ a0_0 from h])
 obtain rfl := Option.some.inj h
 clear h
 have hu := Try.underlying38
 by_cases hn : 1 ≤ a0_0 ∧ a0_0 ≤ 8
 ·obtain ⟨hn1, hn2⟩ := hn
  rw [decide_eq_true hn1, decide_eq_true hn2] at hw1
  rw [decide_eq_true hn1, decide_eq_true hn2]
  have hbox := fun (nd : Nat) => slices_ContainsFunc_Arc.calls (fun v => !okArc a0_0 v) 111 #[.pointer (some ⟨w.heap.size, 0, none⟩)] (enters_of Try.func111 (by kernel_rfl) rfl) A0_1 c0_1 l0_1 ((w.alloc (.cells #[.int .i64 a0_0, .slice A0_1 l0_1.length c0_1] 38)).drewN nd) (Kd.C_below hr0_1 (pw_below_drewN (below_alloc (Below.refl _ _) _) nd)) hc0_1
   (fun W x _ hB => NetOk_closure x a0_0 w.heap.size A0_1 c0_1 l0_1 W hn1 hn2 (Kd.C_below hr0_1 (below_then (pw_below_drewN (below_alloc (Below.refl _ _) _) nd) (by simp) hB)) hc0_1 ((hB.block w.heap.size (by simp)).trans (heap_alloc_new w _)))
  have hall : (!(l0_1.any fun v => !okArc a0_0 v)) = l0_1.all (okArc a0_0) := by
   rw [List.not_any_eq_all_not]
   congr 1
   funext v
   simp
  rw [← hall]
  clear hall hr0_1 hc0_1 hn1 hn2
  generalize (l0_1.any fun v => !okArc a0_0 v) = b at hbox
  by_cases hl : (l0_1.length : Int) ≤ 16
  ·have e1 : decide ((l0_1.length : Int) ≤ 16) = true := decide_eq_true hl
   have e2 : decide (l0_1.length ≤ 16) = true := decide_eq_true (by omega)
   rw [e1]
   clear hl
   go_enter Try.func67, Try.ntmps67
   go_wp2_with (first | (go_at_call 77; refine (hw1 _).mono ?_; rintro e w1 ⟨rfl, ⟨nd, rfl⟩⟩) | (go_at_call 110; refine (hbox _).mono ?_; rintro e w2 ⟨rfl, hb'⟩))
   go_ret
   exact ⟨by cases b <;> rfl, below_then (pw_below_drewN (below_alloc (Below.refl _ _) _) _) (by simp) hb'⟩
  ·have e1 : decide ((l0_1.length : Int) ≤ 16) = false := decide_eq_false hl
   have e2 : decide (l0_1.length ≤ 16) = false := decide_eq_false (by omega)
   rw [e1]
   clear hl
   go_enter Try.func67, Try.ntmps67
   go_wp2_with (first | (go_at_call 77; refine (hw1 _).mono ?_; rintro e w1 ⟨rfl, ⟨nd, rfl⟩⟩))
   go_ret
   exact ⟨rfl, pw_below_drewN (below_alloc (Below.refl _ _) _) _⟩
 ·have e0 : (decide (1 ≤ a0_0) && decide (a0_0 ≤ 8)) = false := by
   rw [Bool.and_eq_false_iff]
   by_cases h1 : 1 ≤ a0_0
   ·exact .inr (decide_eq_false (fun h2 => hn ⟨h1, h2⟩))
   ·exact .inl (decide_eq_false h1)
  rw [e0] at hw1 ⊢
  clear hn e0
  go_enter Try.func67, Try.ntmps67
  go_wp2_with (first | (go_at_call 77; refine (hw1 _).mono ?_; rintro e w1 ⟨rfl, ⟨nd, rfl⟩⟩))
  go_ret
  exact ⟨by simp, pw_below_drewN (below_alloc (Below.refl _ _) _) _⟩
end Go.Proofs.Ytmabopomecdidaa.Pr
end
section
set_option linter.unusedVariables false
set_option linter.unusedSimpArgs false
namespace Go.Proofs.YtmabopomecdidaaW.PrintWords
open Go.RowKit
section
variable {P : Program} {ops : Array Oper} {rest : List Oper} {o : Oper} {a : Act} {Q : Exit → Act → World → Prop}
theorem put_event {W : World} (hgd : o.guard = none) (hN : o.dst = none) {t : TypeId} {p x : Operand} (ho : o.op = .store t p x) {g : Nat} {e : TypeId} {cur : Array Value} (hh : W.heap[g]? = some (.cells cur e (0, 0))) (k : Nat) (cur' : Array Value) (u : Value) (seg : List Value)
  (haddr : a.eval p = .pointer (some ⟨g, k, none⟩)) (hx : a.eval x = u) (hu : u.cells.toList = seg) (ht : (P.info? t).map (·.size) = some seg.length) (hfit : k + seg.length ≤ cur.size) (h1 : ∀ q ∈ seg, q.oneCell' = true) (hc : cur'.toList = cur.toList.take k ++ seg ++ cur.toList.drop (k + seg.length))
  (h : ∀ w1, w1.heap[g]? = some (.cells cur' e (0, 0)) → W.grownBy w1 (some g) → wpList P ops Q rest a w1) : wpList P ops Q (o :: rest) a W := by
 obtain ⟨c2, hh2, hs2, hl2⟩ := setCells_row seg k W cur hh hfit
 obtain ⟨s1, s2, s3, s4⟩ := setCells_same g seg k W
 have e2 : c2 = cur' := by
  apply Array.toList_inj.1
  rw [hl2, hc]
 subst e2
 have hrun := run_store_run (P := P) (w := W) t u seg hh hu ht hfit h1
 refine wpList_plain hgd fun K hK => ?_
 unfold Oper.wp execOp
 simp only [ho, haddr, hx, Sem.run_bind, Sem.run_pure, Result.andThen_ok, hrun]
 show K (a.put o.dst undef) _
 rw [hN]
 exact hK a _ (h _ hh2 ⟨s1, s2, s3, by rw [s4]; exact Nat.le_refl _, fun i _ hi => setCells_far seg k i (fun he => hi (by rw [he]))⟩)
end
end Go.Proofs.YtmabopomecdidaaW.PrintWords
end
section
namespace Go.Proofs.Ytmabopomecdidaa.Pr
open Go.RowKit Go.Proofs.YtmabopomecdidaaW.PrintWords Go.Proofs.YtmabopomecdidaaW.PrintLast Go.Proofs.YtmabopomecdidaaW.PrintMore
attribute [local go_sem] max2_int min2_int max_two min_two max_three min_three max_four min_four
set_option linter.unusedVariables false
set_option linter.unusedSimpArgs false
def slices_Index_int_int.l0 : Nat → List Int → Int → Int → Int → Option (Int)
 | 0, _, _, _, _ => none
 | k + 1, x0, x1, x7, x8 => if x8 < x7 then (if 0 ≤ x8 then (if x8 < (x0.length : Int) then (if x1 = (rd x0 x8) then (some x8) else (slices_Index_int_int.l0 k x0 x1 x7 (wrap64 (x8 + 1)))) else (none)) else (none)) else (some (-1))
def slices_Index_int_int.f (k : Nat) (l0 : List Int) (a1 : Int) : Option (Int) := slices_Index_int_int.l0 k l0 a1 (l0.length : Int) 0
theorem slices_Index_int_int.mono_l : ∀ k, (∀ y0 y1 y2 y3, LeO (slices_Index_int_int.l0 k y0 y1 y2 y3) (slices_Index_int_int.l0 (k + 1) y0 y1 y2 y3))
 | 0 => fun _ _ _ _ r h => by simp [slices_Index_int_int.l0] at h
 | k + 1 => by
  have ih0 := slices_Index_int_int.mono_l k
  ·intro y0 y1 y2 y3
   unfold slices_Index_int_int.l0
   repeat' first
   | (with_reducible exact ih0 _ _ _ _)
   | (with_reducible exact LeO.refl _)
   | (with_reducible exact LeO.none _)
   | (with_reducible refine LeO.ite ?_ ?_)
   | (with_reducible refine LeO.bind ?_ (fun _ => ?_))
   | exact ih0 _ _ _ _
   | exact LeO.none _
   | refine LeO.ite ?_ ?_
   | refine LeO.bind ?_ (fun _ => ?_)
theorem slices_Index_int_int.mono : ∀ a0 a1 k, LeO (slices_Index_int_int.f k a0 a1) (slices_Index_int_int.f (k + 1) a0 a1) := by
 intro a0 a1 k
 have ih0 := slices_Index_int_int.mono_l k
 unfold slices_Index_int_int.f
 repeat' first
   | (with_reducible exact ih0 _ _ _ _)
   | (with_reducible exact LeO.refl _)
   | (with_reducible exact LeO.none _)
   | (with_reducible refine LeO.ite ?_ ?_)
   | (with_reducible refine LeO.bind ?_ (fun _ => ?_))
   | exact ih0 _ _ _ _
   | exact LeO.none _
   | refine LeO.ite ?_ ?_
   | refine LeO.bind ?_ (fun _ => ?_)
set_option maxHeartbeats 8000000 in
set_option maxRecDepth 100000 in
theorem slices_Index_int_int.calls (k : Nat) (A0 : Option Addr) (c0 : Nat) (l0 : List Int) (a1 : Int) (r : Int) (w : World) (hr0 : Kd.C (Kd.int .i64) w A0 l0.length l0) (hc0 : l0.length ≤ c0) (h : slices_Index_int_int.f k l0 a1 = some r) :
  Calls Try.prog 132 #[.slice A0 l0.length c0, .int .i64 a1] w fun e w' => e = .returned (.int .i64 r) ∧ Drawn0 w w' := by
 have HR0 := Aside0.mk hr0
 have HC0 := Aside0.mk hc0
 clear hr0 hc0
 have H : (slices_Index_int_int.l0 k l0 a1 (l0.length : Int) 0) = some r := h
 clear h
 have H' := Aside0.mk H
 clear H
 go_enter Try.func132, Try.ntmps132
 go_wp2
 go_loopg [8] k (fun kq v8 w' => ∃ (x8_1 : Int), v8 = .int .i64 x8_1 ∧ Aside0 (slices_Index_int_int.l0 kq l0 a1 (l0.length : Int) x8_1 = some r) ∧ Aside0 (kq ≤ k) ∧ Drawn0 w w')
 case atStart => exact ⟨(0), (by first | rfl | (simp; done) | (simp [*]; done)), H', ⟨Nat.le_refl _⟩, by repeat (first | exact Drawn0.refl _ | apply Drawn0.step)⟩
 case round =>
  clear H'
  try clear c1
  try clear p2
  obtain ⟨x8_1, rfl, HA, HK1, ⟨m1, rfl⟩⟩ := hrel
  cases gk with
  | zero => exact absurd HA.out (by simp [slices_Index_int_int.l0])
  | succ k1 =>
   have H := HA.out
   clear HA
   simp only [slices_Index_int_int.l0] at H
   by_cases c3 : x8_1 < (l0.length : Int)
   ·rw [if_pos c3] at H
    have c3b0 : decide (x8_1 < (l0.length : Int)) = true := decide_eq_true c3
    clear c3
    by_cases c4 : 0 ≤ x8_1
    ·rw [if_pos c4] at H
     have c4b0 : decide (0 ≤ x8_1) = true := decide_eq_true c4
     clear c4
     by_cases c5 : x8_1 < (l0.length : Int)
     ·rw [if_pos c5] at H
      have c5b0 : decide (x8_1 < (l0.length : Int)) = true := decide_eq_true c5
      clear c5
      by_cases c6 : a1 = (rd l0 x8_1)
      ·rw [if_pos c6] at H
       have c6b0 : (a1 == (rd l0 x8_1)) = true := beq_iff_eq.mpr c6
       have c6b1 : (a1 != (rd l0 x8_1)) = false := bne_eq_false_iff_eq.mpr c6
       clear c6
       obtain rfl := Option.some.inj H
       have p294 : 0 ≤ (x8_1 : Int) := of_decide_eq_true (by first | (with_reducible assumption) | assumption)
       have q294 : x8_1 < (l0.length : Int) := of_decide_eq_true (by first | (with_reducible assumption) | assumption)
       obtain ⟨ad294, e294, hx294_0⟩ := Kd.at_int HR0.out x8_1 p294 q294
       cases e294
       replace p294 := eq_true p294
       replace q294 := eq_true q294
       go_wp2
       go_ret
       exact ⟨by first | rfl | (simp; done) | (simp [*]; done), by repeat (first | exact Drawn0.refl _ | apply Drawn0.step)⟩
      ·rw [if_neg c6] at H
       have c6b0 : (a1 == (rd l0 x8_1)) = false := beq_eq_false_iff_ne.mpr c6
       have c6b1 : (a1 != (rd l0 x8_1)) = true := bne_iff_ne.mpr c6
       have H' := Aside0.mk H
       clear H
       have p294 : 0 ≤ (x8_1 : Int) := of_decide_eq_true (by first | (with_reducible assumption) | assumption)
       have q294 : x8_1 < (l0.length : Int) := of_decide_eq_true (by first | (with_reducible assumption) | assumption)
       obtain ⟨ad294, e294, hx294_0⟩ := Kd.at_int HR0.out x8_1 p294 q294
       cases e294
       replace p294 := eq_true p294
       replace q294 := eq_true q294
       go_wp2
       go_roundg k1
       case measure => have := HK1.out; omega
       case rel => exact ⟨(wrap64 (x8_1 + 1)), (by first | rfl | (simp; done) | (simp [*]; done)), H', ⟨by have := HK1.out; omega⟩, by repeat (first | exact Drawn0.refl _ | apply Drawn0.step)⟩
     ·rw [if_neg c5] at H
      exact absurd H (by simp)
    ·rw [if_neg c4] at H
     exact absurd H (by simp)
   ·rw [if_neg c3] at H
    have c3b0 : decide (x8_1 < (l0.length : Int)) = false := decide_eq_false c3
    clear c3
    obtain rfl := Option.some.inj H
    go_wp2
    go_ret
    exact ⟨by first | rfl | (simp; done) | (simp [*]; done), by repeat (first | exact Drawn0.refl _ | apply Drawn0.step)⟩
end Go.Proofs.Ytmabopomecdidaa.Pr
end
section
namespace Go.Proofs.Ytmabopomecdidaa.Pr
open Go.RowKit Go.Proofs.YtmabopomecdidaaW.PrintWords Go.Proofs.YtmabopomecdidaaW.PrintLast Go.Proofs.YtmabopomecdidaaW.PrintMore
attribute [local go_sem] max2_int min2_int max_two min_two max_three min_three max_four min_four
set_option linter.unusedVariables false
set_option linter.unusedSimpArgs false
def slices_Contains_int_int.f (k : Nat) (l0 : List Int) (a1 : Int) : Option (Bool) := (slices_Index_int_int.f k l0 a1).bind fun t295 => (some (decide (t295 ≥ 0)))
theorem slices_Contains_int_int.mono : ∀ a0 a1 k, LeO (slices_Contains_int_int.f k a0 a1) (slices_Contains_int_int.f (k + 1) a0 a1) := by
 intro a0 a1 k
 unfold slices_Contains_int_int.f
 repeat' first
   | (with_reducible exact slices_Index_int_int.mono _ _ _)
   | (with_reducible exact LeO.refl _)
   | (with_reducible exact LeO.none _)
   | (with_reducible refine LeO.ite ?_ ?_)
   | (with_reducible refine LeO.bind ?_ (fun _ => ?_))
   | exact slices_Index_int_int.mono _ _ _
   | exact LeO.none _
   | refine LeO.ite ?_ ?_
   | refine LeO.bind ?_ (fun _ => ?_)
set_option maxHeartbeats 8000000 in
set_option maxRecDepth 100000 in
theorem slices_Contains_int_int.calls (k : Nat) (A0 : Option Addr) (c0 : Nat) (l0 : List Int) (a1 : Int) (r : Bool) (w : World) (hr0 : Kd.C (Kd.int .i64) w A0 l0.length l0) (hc0 : l0.length ≤ c0) (h : slices_Contains_int_int.f k l0 a1 = some r) :
  Calls Try.prog 114 #[.slice A0 l0.length c0, .int .i64 a1] w fun e w' => e = .returned (.bool r) ∧ Drawn0 w w' := by
 have HR0 := Aside0.mk hr0
 have HC0 := Aside0.mk hc0
 clear hr0 hc0
 have H : ((slices_Index_int_int.f k l0 a1).bind fun t295 => (some (decide (t295 ≥ 0)))) = some r := h
 clear h
 replace H := Option.bind_eq_some_iff.mp H
 obtain ⟨t295, A30, H⟩ := H
 replace H : (some (decide (t295 ≥ 0))) = some r := H
 have A3 := Aside0.mk A30
 clear A30
 obtain rfl := Option.some.inj H
 go_enter Try.func114, Try.ntmps114
 go_wp2_with (first | ((with_reducible refine gate_callee (f := 132) rfl ?_); refine goesL_ (some 7) rfl rfl Try.func132 (by kernel_rfl) rfl #[.slice A0 l0.length c0, .int .i64 a1] rfl (by (try simp only [List.map_toArray, List.map_cons, List.map_nil]); first | done | rfl | (simp only [List.length_drop, List.length_take]; rfl)) ?_; (with_reducible refine (slices_Index_int_int.calls k _ _ l0 a1 t295 _ ?side1 ?side2 A3.out).mono ?_); (case side1 => repeat (first | exact HR0.out | (with_reducible refine Kd.C_alloc ?_ _) | (with_reducible refine Kd.C_drewN ?_ _) | (with_reducible refine Kd.C_drew ?_))); (case side2 => exact HC0.out); rintro e w' ⟨rfl, ⟨nd, rfl⟩⟩; refine ⟨_, rfl, ?_⟩))
 go_ret
 exact ⟨by first | rfl | (simp; done) | (simp [*]; done), by repeat (first | exact Drawn0.refl _ | apply Drawn0.step)⟩
end Go.Proofs.Ytmabopomecdidaa.Pr
end
section
namespace Go.Proofs.Ytmabopomecdidaa.Pr
open Go.RowKit Go.Proofs.YtmabopomecdidaaW.PrintWords Go.Proofs.YtmabopomecdidaaW.PrintLast Go.Proofs.YtmabopomecdidaaW.PrintMore
attribute [local go_sem] max2_int min2_int max_two min_two max_three min_three max_four min_four
set_option linter.unusedVariables false
set_option linter.unusedSimpArgs false
theorem idx_some (l : List Int) (v : Int) (hl : l.length ≤ 64) : ∀ (d j : Nat), j + d = l.length → ∀ k, d < k → ∃ t, slices_Index_int_int.l0 k l v (l.length : Int) (j : Int) = some t ∧ decide (t ≥ 0) = (l.drop j).contains v
 | 0, j, hj, k + 1, _ => by
  refine ⟨-1, ?_, ?_⟩
  ·unfold slices_Index_int_int.l0
   rw [if_neg (by omega)]
  ·rw [List.drop_of_length_le (by omega)]
   simp
 | d + 1, j, hj, k + 1, hk => by
  have hlt : j < l.length := by omega
  have hr : rd l (j : Int) = l[j] := by simp [rd, hlt]
  have hd : l.drop j = l[j] :: l.drop (j + 1) := List.drop_eq_getElem_cons hlt
  unfold slices_Index_int_int.l0
  rw [if_pos (by omega), if_pos (by omega), if_pos (by omega), hr]
  by_cases hv : v = l[j]
  ·rw [if_pos hv]
   refine ⟨_, rfl, ?_⟩
   rw [hd, List.contains_cons, hv]
   simp
  ·rw [if_neg hv]
   obtain ⟨t, h1, h2⟩ := idx_some l v hl d (j + 1) (by omega) k (by omega)
   refine ⟨t, ?_, ?_⟩
   ·rw [show wrap64 ((j : Int) + 1) = ((j + 1 : Nat) : Int) by unfold wrap64; omega]
    exact h1
   ·rw [h2, hd, List.contains_cons]
    simp [hv]
theorem contains_some (l : List Int) (v : Int) (hl : l.length ≤ 64) : slices_Contains_int_int.f 66 l v = some (l.contains v) := by
 obtain ⟨t, h1, h2⟩ := idx_some l v hl l.length 0 (by omega) 66 (by omega)
 unfold slices_Contains_int_int.f slices_Index_int_int.f
 rw [show ((0 : Nat) : Int) = 0 from rfl] at h1
 rw [h1]
 show some (decide (t ≥ 0)) = _
 rw [h2]; rfl
theorem contains_ok (l : List Int) (v : Int) (hl : l.length ≤ 64) (A : Option Addr) (c : Nat) (w : World) (hK : Kd.C (Kd.int .i64) w A l.length l) (hc : l.length ≤ c) :
  Calls Try.prog 114 #[.slice A l.length c, .int .i64 v] w fun e w' => e = .returned (.bool (l.contains v)) ∧ Drawn0 w w' :=
 slices_Contains_int_int.calls 66 A c l v _ w hK hc (contains_some l v hl)
set_option maxHeartbeats 4000000 in
set_option maxRecDepth 100000 in
theorem order_closure (a : S45) (v : Int) (g1 g2 : Nat) (l : List Int) (hl : l.length ≤ 64) (A : Option Addr) (c : Nat) (w : World) (h1 : w.heap[g1]? = some (.cells #[.int .i64 v] 3 (0, 0))) (h2 : w.heap[g2]? = some (.cells #[.slice A l.length c] 22 (0, 0))) (hK : Kd.C (Kd.int .i64) w A l.length l) (hc : l.length ≤ c) :
  Calls Try.prog 113 #[encA a, .pointer (some ⟨g1, 0, none⟩), .pointer (some ⟨g2, 0, none⟩)] w fun e w' => e = .returned (.bool (decide (a.f1 = v) && !l.contains a.f0)) ∧ Below w.heap.size w w' := by
 have c1 : w.cell? ⟨g1, 0, none⟩ = some (.int .i64 v) := (blk_cell h1 0).trans rfl
 have c2 : w.cell? ⟨g2, 0, none⟩ = some (.slice A l.length c) := (blk_cell h2 0).trans rfl
 have hcall := fun (W : World) (hB : Below w.heap.size w W) => contains_ok l a.f0 hl A c W (Kd.C_below hK hB) hc
 have hu := Try.underlying45
 have l1 := blk_lt h1
 have l2 := blk_lt h2
 clear h1 h2 hK
 generalize l.contains a.f0 = b at hcall
 unfold encA
 by_cases hv : a.f1 = v
 ·have d1 : decide (a.f1 = v) = true := decide_eq_true hv
  rw [d1]
  go_enter Try.func113, Try.ntmps113
  go_wp2_with (go_at_call 114; refine (hcall _ ?hB).mono ?_; (case hB => exact below_alloc (Below.refl _ _) _); rintro e w' ⟨rfl, ⟨nd, rfl⟩⟩)
  go_ret
  exact ⟨rfl, pw_below_drewN (below_alloc (Below.refl _ _) _) _⟩
 ·have d1 : decide (a.f1 = v) = false := decide_eq_false hv
  rw [d1]
  go_enter Try.func113, Try.ntmps113
  go_wp2
  go_ret
  exact ⟨rfl, below_alloc (Below.refl _ _) _⟩
def candB (l : List S45) (out : List Int) (v : Int) : Bool := !(out.contains v) && !(l.any fun a => decide (a.f1 = v) && !out.contains a.f0)
def lowN (c : Int → Bool) : Nat → Int → Int
 | 0, nx => nx
 | n + 1, nx => lowN c n (if c (n : Int) = true then (n : Int) else nx)
def ordF (l : List S45) (N : Nat) : Nat → List Int → List Int × Bool
 | 0, out => (out, true)
 | k + 1, out => if lowN (candB l out) N (-1) < 0 then ([], false) else ordF l N k (out ++ [lowN (candB l out) N (-1)])
def impl_Net_order.f (a0_0 : Int) (l0_1 : List S45) : Option (List Int × Bool) := if 0 ≤ a0_0 then if a0_0 ≤ 64 then some (ordF l0_1 a0_0.toNat a0_0.toNat []) else none else none
theorem lowN_lt (c : Int → Bool) : ∀ (n : Nat) (nx : Int), nx ≤ 64 → -1 ≤ nx → n ≤ 64 → lowN c n nx ≤ 64 ∧ -1 ≤ lowN c n nx
 | 0, nx, h, h1, _ => ⟨h, h1⟩
 | n + 1, nx, h, h1, hn => by
  unfold lowN
  split
  ·exact lowN_lt c n _ (by omega) (by omega) (by omega)
  ·exact lowN_lt c n _ h h1 (by omega)
def OSt (w W : World) (gN g2 : Nat) (a0 : Int) (AV : Value) (out : List Int) (ok : Nat → Prop) : Prop :=
 W.heap[gN]? = some (.cells #[.int .i64 a0, AV] 38 (0, 0)) ∧ (∃ A c, W.heap[g2]? = some (.cells #[.slice A out.length c] 22 (0, 0)) ∧ Kd.R (Kd.int .i64) 3 W w.heap.size (fun k => ok k) (.slice A out.length c) out) ∧ Below w.heap.size w W ∧ w.heap.size ≤ gN ∧ w.heap.size ≤ g2
theorem OSt.below {w W W1 : World} {gN g2 : Nat} {a0 : Int} {AV : Value} {out : List Int} {ok : Nat → Prop} (h : OSt w W gN g2 a0 AV out ok) (hb : Below W.heap.size W W1) : OSt w W1 gN g2 a0 AV out ok := by
 obtain ⟨h1, ⟨A, c, h2, h3⟩, h4, h5, h6⟩ := h
 exact ⟨blk_below h1 hb, ⟨A, c, blk_below h2 hb, Kd.R_below h3 hb⟩, below_step h4 hb, h5, h6⟩
theorem OSt.mono {w W : World} {gN g2 : Nat} {a0 : Int} {AV : Value} {out : List Int} {ok ok' : Nat → Prop} (h : OSt w W gN g2 a0 AV out ok) (ho : ∀ k, ok k → ok' k) : OSt w W gN g2 a0 AV out ok' := by
 obtain ⟨h1, ⟨A, c, h2, h3⟩, h4, h5, h6⟩ := h
 exact ⟨h1, ⟨A, c, h2, Kd.R_mono h3 ho⟩, h4, h5, h6⟩
def St (w W : World) (gN g2 : Nat) (a0 : Int) (AV : Value) (out : List Int) (gv : Nat) (v : Int) : Prop :=
 OSt w W gN g2 a0 AV out (fun k => k ≠ gv) ∧ W.heap[gv]? = some (.cells #[.int .i64 v] 3 (0, 0)) ∧ w.heap.size ≤ gv
theorem OSt.box {w W W1 : World} {gN g2 : Nat} {a0 : Int} {AV : Value} {out : List Int} {ok : Nat → Prop} (h : OSt w W gN g2 a0 AV out ok) {g : Nat} (hg : g = W.heap.size) {v : Int} (hbox : W1.heap[g]? = some (.cells #[.int .i64 v] 3 (0, 0))) (hb : Below W.heap.size W W1) : St w W1 gN g2 a0 AV out g v := by
 obtain ⟨h1, ⟨A, c, h2, h3⟩, h4, h5, h6⟩ := h
 subst hg
 exact ⟨⟨blk_below h1 hb, ⟨A, c, blk_below h2 hb, Kd.R_mono (Kd.R_below (Kd.R_elderB h3 _ (Nat.le_refl _)) hb) (fun k hk => hk.2)⟩, below_step h4 hb, h5, h6⟩, hbox, below_size h4⟩
theorem St.below {w W W1 : World} {gN g2 : Nat} {a0 : Int} {AV : Value} {out : List Int} {gv : Nat} {v : Int} (h : St w W gN g2 a0 AV out gv v) (hb : Below W.heap.size W W1) : St w W1 gN g2 a0 AV out gv v :=
 ⟨h.1.below hb, blk_below h.2.1 hb, h.2.2⟩
theorem St.put {w W W1 : World} {gN g2 : Nat} {a0 : Int} {AV : Value} {out : List Int} {gv : Nat} {v v' : Int} (h : St w W gN g2 a0 AV out gv v) (hh : W1.heap[gv]? = some (.cells #[.int .i64 v'] 3 (0, 0))) (hg : W.grownBy W1 (some gv)) : St w W1 gN g2 a0 AV out gv v' := by
 obtain ⟨⟨h1, ⟨A, c, h2, h3⟩, h4, h5, h6⟩, h7, h8⟩ := h
 have e1 : some gN ≠ some gv := fun e => by
  injection e with e
  subst e
  rw [h1] at h7
  simp at h7
 have e2 : some g2 ≠ some gv := fun e => by
  injection e with e
  subst e
  rw [h2] at h7
  simp at h7
 exact ⟨⟨blk_grown h1 hg e1, ⟨A, c, blk_grown h2 hg e2, Kd.R_grown h3 hg (fun k hk e => hk (Option.some.inj e))⟩, pw_below_grown h4 _ (below_size h4) hg (fun k hk => by obtain rfl := Option.some.inj hk; exact h8), h5, h6⟩, hh, h8⟩
theorem St.mv {w W W1 : World} {gN g2 : Nat} {a0 : Int} {AV : Value} {out : List Int} {gv : Nat} {v : Int} (h : St w W gN g2 a0 AV out gv v) {g : Nat} (hg : g = W.heap.size) {x : Int} (hbox : W1.heap[g]? = some (.cells #[.int .i64 x] 3 (0, 0))) (hb : Below W.heap.size W W1) : St w W1 gN g2 a0 AV out g x := h.1.box hg hbox hb
theorem St.o {w W : World} {gN g2 : Nat} {a0 : Int} {AV : Value} {out : List Int} {gv : Nat} {v : Int} (h : St w W gN g2 a0 AV out gv v) : OSt w W gN g2 a0 AV out (fun _ => True) := h.1.mono (fun _ _ => trivial)
theorem OSt.push {w W1 W2 : World} {gN g2 : Nat} {a0 : Int} {AV : Value} (h5 : w.heap.size ≤ gN) (h6 : w.heap.size ≤ g2) {v : Value} {out1 : List Int} {ok1 : Nat → Prop} (hr : Kd.R (Kd.int .i64) 3 W1 w.heap.size ok1 v out1) (hb : Below w.heap.size w W1) (h1 : W1.heap[gN]? = some (.cells #[.int .i64 a0, AV] 38 (0, 0))) {u : Value} (hu : W1.heap[g2]? = some (.cells #[u] 22 (0, 0))) (h2 : W2.heap[g2]? = some (.cells #[v] 22 (0, 0))) (hg : W1.grownBy W2 (some g2)) : OSt w W2 gN g2 a0 AV out1 (fun _ => True) := by
 have e1 : some gN ≠ some g2 := fun e => by
  injection e with e
  subst e
  rw [h1] at hu
  simp at hu
 obtain ⟨r0, inner, ro, rr⟩ := hr
 have ha : ∃ A c, v = .slice A out1.length c := by
  rcases ro.2 with ⟨hv, hn⟩ | ⟨g, cap, cur, hv, _⟩
  ·exact ⟨none, 0, by rw [hn]; exact hv⟩
  ·exact ⟨_, _, hv⟩
 have hr : Kd.R (Kd.int .i64) 3 W1 w.heap.size ok1 v out1 := ⟨r0, inner, ro, rr⟩
 have hr2 : Kd.R (Kd.int .i64) 3 W2 w.heap.size (fun k => ok1 k ∧ k ≠ g2) v out1 := by
  refine Kd.R_grown (Kd.R_types hr hu (fun q hq => ?_)) hg (fun k hk e => hk.2 (Option.some.inj e))
  rcases List.mem_cons.1 hq with rfl | hq
  ·decide
  ·cases hq
 obtain ⟨A, c, rfl⟩ := ha
 exact ⟨blk_grown h1 hg e1, ⟨A, c, h2, Kd.R_mono hr2 (fun _ _ => trivial)⟩, pw_below_grown hb _ (below_size hb) hg (fun k hk => by obtain rfl := Option.some.inj hk; exact h6), h5, h6⟩
theorem R_shape {w : World} {base : Nat} {ok : Nat → Prop} {v : Value} {xs : List Int} (h : Kd.R (Kd.int .i64) 3 w base ok v xs) : ∃ A c, v = .slice A xs.length c := by
 obtain ⟨r0, inner, ro, rr⟩ := h
 rcases ro.2 with ⟨hv, hn⟩ | ⟨g, cap, cur, hv, _⟩
 ·exact ⟨none, 0, by rw [hn]; exact hv⟩
 ·exact ⟨_, _, hv⟩
set_option maxHeartbeats 4000000 in
set_option maxRecDepth 100000 in
theorem order_walk (N : Nat) (hN : N ≤ 64) (A0 : Option Addr) (c0 : Nat) (l0 : List S45) (w : World) (hr0 : Kd.C k45 w A0 l0.length l0) (hc0 : l0.length ≤ c0) :
  Calls Try.prog 68 #[.agg #[.int .i64 (N : Int), .slice A0 l0.length c0]] w fun e w' => ∃ v0_ : Value, e = .returned (.tuple #[v0_, .bool (ordF l0 N N []).2]) ∧ Kd.R (Kd.int .i64) 3 w' w.heap.size (fun _ => True) v0_ (ordF l0 N N []).1 ∧ Below w.heap.size w w' := by
 have hu := Try.underlying38
 obtain ⟨RR, hRR⟩ : ∃ r, ordF l0 N N [] = r := ⟨_, rfl⟩
 rw [hRR]
 have HRR := Aside0.mk hRR
 have HR0 := Aside0.mk hr0
 have HC0 := Aside0.mk hc0
 have HN := Aside0.mk hN
 clear hRR hr0 hc0 hN
 go_enter Try.func68, Try.ntmps68
 go_wp2_with (first
  | ((with_reducible refine gate_dst (N := 1) rfl ?_); refine box_event ?hg (N := 1) ?hd (cs := #[.int .i64 (N : Int), .slice A0 l0.length c0]) (t := 38) ?hr ?_; (case hd => rfl); (case hg => rfl); (case hr => first | (go_simp; done) | (go_simp; rfl)); intro gN hgN w1 hbox hb; have P1 := Aside0.mk hbox; have P2 := Aside0.mk hb; have P3 := Aside0.mk (show w.heap.size ≤ gN by rw [hgN]; exact Nat.le_refl _); have q1 : w1.cell? ⟨gN, 0, none⟩ = some (.int .i64 (N : Int)) := (blk_cell hbox 0).trans rfl; clear hbox hb hgN)
  | ((with_reducible refine gate_dst (N := 10) rfl ?_); refine Kd.R_make0 (Kd.int .i64) (w0 := w) w.heap.size 3 rfl rfl 22 (.const (.int .i64 0)) (.tmp 9) rfl (N : Int) rfl rfl Try.underlying22 (.int .i64 0) 8 info3 rfl (by decide) (by decide) (0 : Int) (ok := fun _ => True) (okp := fun _ => False) rfl (fun _ hk => hk.elim) trivial (by omega) (by have := HN.out; omega) P2.out (below_size P2.out) ?_; intro v1 w2 hR hB hG hO; obtain ⟨A1, c1, rfl⟩ := R_shape hR; have P4 := Aside0.mk hR; have P5 := Aside0.mk hB; have P6 := Aside0.mk (blk_grown P1.out hG (by simp)); clear q1 P1 P2 hR hB hG hO)
  | ((with_reducible refine gate_dst (N := 4) rfl ?_); refine box_event ?hg (N := 4) ?hd (cs := #[.slice none 0 0]) (t := 22) ?hr ?_; (case hd => rfl); (case hg => rfl); (case hr => first | (go_simp; done) | (go_simp; rfl)); intro g2 hg2 w3 hbox hb; have P7 := Aside0.mk hbox; have P8 := Aside0.mk (below_step P5.out hb); have P9 := Aside0.mk (show w.heap.size ≤ g2 by rw [hg2]; exact below_size P5.out); have P10 := Aside0.mk (blk_below P6.out hb); have P11 := Aside0.mk (Kd.R_below P4.out hb); clear P4 P5 P6 hbox hb hg2)
  | ((with_reducible refine gate_store (t := 22) (p := 4) (v := .tmp 10) rfl ?_); refine put_event rfl rfl rfl P7.out 0 #[.slice A1 ([] : List Int).length c1] (.slice A1 ([] : List Int).length c1) [.slice A1 ([] : List Int).length c1] (by first | rfl | (go_simp; done) | (go_simp; rfl)) (by first | rfl | (go_simp; done) | (go_simp; rfl)) rfl (by kernel_rfl) (by simp) (by simp [Value.oneCell']) rfl ?_; intro w4 hc hg; have S0 := Aside0.mk (OSt.push P3.out P9.out P11.out P8.out P10.out P7.out hc hg); clear hc hg P7 P8 P10 P11; have q4 : w4.cell? ⟨gN, 0, none⟩ = some (.int .i64 (N : Int)) := (blk_cell S0.out.1 0).trans rfl))
 clear q4
 go_loopg [13] N (fun gg s13 wr => ∃ (i : Nat) (out : List Int), s13 = .int .i64 (i : Int) ∧ Aside0 (i ≤ N) ∧ Aside0 (N - i ≤ gg) ∧ Aside0 (OSt w wr gN g2 (N : Int) (.slice A0 l0.length c0) out (fun _ => True)) ∧ Aside0 (out.length = i) ∧ Aside0 (ordF l0 N (N - i) out = RR))
 case atStart => exact ⟨0, [], rfl, ⟨by omega⟩, ⟨by omega⟩, S0, ⟨rfl⟩, HRR⟩
 case round =>
  clear S0 HRR
  obtain ⟨i, out, rfl, I0, I1, S1, L1, R1⟩ := hrel
  by_cases hi : i < N
  ·have c1 : decide ((i : Int) < (N : Int)) = true := decide_eq_true (by omega)
   have c2 : decide (i < N) = true := decide_eq_true hi
   have hR := R1.out
   obtain ⟨m, hm⟩ : ∃ m, N - i = m + 1 := ⟨N - i - 1, by omega⟩
   rw [hm] at hR
   unfold ordF at hR
   obtain ⟨NX, hNX⟩ : ∃ x, lowN (candB l0 out) N (-1) = x := ⟨_, rfl⟩
   rw [hNX] at hR
   have R2 := Aside0.mk hR
   have M1 := Aside0.mk hm
   have HNX := Aside0.mk hNX
   have HI := Aside0.mk hi
   have q5 : wr.cell? ⟨gN, 0, none⟩ = some (.int .i64 (N : Int)) := (blk_cell S1.out.1 0).trans rfl
   have hw : wrap64 ((N : Int) - 1) = (N : Int) - 1 := by have := HN.out; unfold wrap64; omega
   clear hR hm hNX hi R1
   go_wp2_with (first
    | ((with_reducible refine gate_dst (N := 6) rfl ?_); refine box_event ?hg (N := 6) ?hd (cs := #[.int .i64 0]) (t := 3) ?hr ?_; (case hd => rfl); (case hg => rfl); (case hr => first | (go_simp; done) | (go_simp; rfl)); intro gv hgv w5 hbox hb; have S2 := Aside0.mk (OSt.box S1.out hgv hbox hb); clear q5 S1 hbox hb hgv)
    | ((with_reducible refine gate_store (t := 3) (p := 6) (v := .tmp 17) rfl ?_); refine put_event rfl rfl rfl S2.out.2.1 0 #[.int .i64 ((N : Int) - 1)] (.int .i64 ((N : Int) - 1)) [.int .i64 ((N : Int) - 1)] (by first | rfl | (go_simp; done) | (go_simp; rfl)) (by rw [← hw]; first | rfl | (go_simp; done) | (go_simp; rfl)) rfl (by kernel_rfl) (by simp) (by simp [Value.oneCell']) rfl ?_; intro w6 hc hg; have S3 := Aside0.mk (St.put S2.out hc hg); clear S2 hc hg))
   have M2 : Aside0 (-1 ≤ NX ∧ NX ≤ 64) := ⟨by have h := lowN_lt (candB l0 out) N (-1) (by omega) (by omega) HN.out; rw [HNX.out] at h; exact ⟨h.2, h.1⟩⟩
   go_simp
   go_loopg [5, 6] N (fun gg s5 s6 wr => ∃ (n : Nat) (nx : Int) (gv : Nat), s5 = .int .i64 nx ∧ s6 = .pointer (some ⟨gv, 0, none⟩) ∧ Aside0 (n ≤ N) ∧ Aside0 (n ≤ gg) ∧ Aside0 (St w wr gN g2 (N : Int) (.slice A0 l0.length c0) out gv ((n : Int) - 1)) ∧ Aside0 (lowN (candB l0 out) n nx = NX))
   case atStart => exact ⟨N, -1, gv, rfl, rfl, ⟨Nat.le_refl _⟩, ⟨Nat.le_refl _⟩, S3, HNX⟩
   case round =>
    clear S3 HNX
    obtain ⟨n, nx, gu, rfl, rfl, J0, J1, S4, J2⟩ := hrel
    rcases n with _ | n
    ·obtain rfl : nx = NX := J2.out
     obtain ⟨⟨b1, ⟨A, c, b2, b3⟩, b4, _, _⟩, b5, b6⟩ := S4.out
     have q6 : wr.cell? ⟨gu, 0, none⟩ = some (.int .i64 (-1)) := (blk_cell b5 0).trans rfl
     have q7 : wr.cell? ⟨g2, 0, none⟩ = some (.slice A out.length c) := (blk_cell b2 0).trans rfl
     have B1 := Aside0.mk b1
     have B2 := Aside0.mk b2
     have B3 := Aside0.mk b3
     have B4 := Aside0.mk b4
     have B5 := Aside0.mk b5
     clear b1 b2 b3 b4 b5 b6 S4 J0 J1 J2
     by_cases hneg : nx < 0
     ·have d1 : decide (nx < 0) = true := decide_eq_true hneg
      have hRR : ([], false) = RR := by have := R2.out; rwa [if_pos hneg] at this
      subst hRR
      clear hneg R2
      go_wp2
      go_ret2
      exact ⟨_, rfl, Kd.R_nil _ _ _ _ _, B4.out⟩
     ·have d1 : decide (nx < 0) = false := decide_eq_false hneg
      have hRR : ordF l0 N m (out ++ [nx]) = RR := by have := R2.out; rwa [if_neg hneg] at this
      have R3 := Aside0.mk hRR
      have hw2 : wrap64 ((i : Int) + 1) = ((i + 1 : Nat) : Int) := by have h1 := HN.out; have h2 := HI.out; unfold wrap64; omega
      clear hneg R2 hRR
      go_wp2_with (first
       | ((with_reducible refine gate_builtin (b := .append) (xs := #[.tmp 38, .tmp 40]) rfl ?_); at_builtin; refine Kd.R_append (Kd.int .i64) (w0 := w) w.heap.size rfl (.tmp 38) (.tmp 40) 22 3 (.int .i64 0) 8 rfl Try.underlying22 info3 rfl (by decide) (by omega) (.slice A out.length c) out nx [.int .i64 nx] (fun k => k ≠ gu) (fun _ => False) rfl rfl ?aP (fun _ hk => hk.elim) ?aF B3.out B4.out ?aS ?aL ?_; (case aP => exact rfl); (case aF => intro k hk e; subst e; exact absurd (blk_lt B5.out) (by omega)); (case aS => exact below_size B4.out); (case aL => have h1 := HN.out; have h2 := HI.out; have h3 := L1.out; omega); intro v7 w7 ho hb hg hat; obtain ⟨A7, c7, rfl⟩ := R_shape ho; have D1 := Aside0.mk (blk_grown B1.out hg (Kd.R_ne B3.out B1.out (by decide))); have D2 := Aside0.mk (blk_grown B2.out hg (Kd.R_ne B3.out B2.out (by decide))); have D3 := Aside0.mk ho; have D4 := Aside0.mk hb; clear q6 q7 ho hb hg hat)
       | ((with_reducible refine gate_store (t := 22) (p := 4) (v := .tmp 41) rfl ?_); refine put_event rfl rfl rfl D2.out 0 #[.slice A7 (out ++ [nx]).length c7] (.slice A7 (out ++ [nx]).length c7) [.slice A7 (out ++ [nx]).length c7] (by first | rfl | (go_simp; done) | (go_simp; rfl)) (by first | rfl | (go_simp; done) | (go_simp; rfl)) rfl (by kernel_rfl) (by simp) (by simp [Value.oneCell']) rfl ?_; intro w8 hc hg; have S8 := Aside0.mk (OSt.push P3.out P9.out D3.out D4.out D1.out D2.out hc hg); clear hc hg D1 D2 D3 D4))
      have hi2 := HI.out
      have hm2 := M1.out
      go_roundg (N - (i + 1))
      case measure => have := I1.out; omega
      case rel => exact ⟨i + 1, out ++ [nx], by first | rfl | (rw [hw2]; done) | (simp [hw2]; done), ⟨by omega⟩, ⟨Nat.le_refl _⟩, S8, ⟨by rw [List.length_append, L1.out]; rfl⟩, ⟨by rw [show N - (i + 1) = m by omega]; exact R3.out⟩⟩
    ·have J3 := J2.out
     unfold lowN at J3
     have J4 := Aside0.mk J3
     obtain ⟨⟨b1, ⟨A, c, b2, b3⟩, b4, _, _⟩, b5, b6⟩ := S4.out
     have hv : ((n + 1 : Nat) : Int) - 1 = (n : Int) := by omega
     have S5 := S4.out
     rw [hv] at b5 S5
     have S6 := Aside0.mk S5
     have q6 : wr.cell? ⟨gu, 0, none⟩ = some (.int .i64 (n : Int)) := (blk_cell b5 0).trans rfl
     have q7 : wr.cell? ⟨g2, 0, none⟩ = some (.slice A out.length c) := (blk_cell b2 0).trans rfl
     have q8 : wr.cell? ⟨gN, 1, none⟩ = some (.slice A0 l0.length c0) := (blk_cell b1 1).trans rfl
     obtain ⟨_, e2, e3⟩ := Kd.R_reads' b3
     have hl : out.length ≤ 64 := by have h1 := HN.out; have h2 := HI.out; have h3 := L1.out; omega
     have hcon := (contains_ok out (n : Int) hl A c wr e3 e2).mono (R' := fun e w' => e = .returned (.bool (out.contains (n : Int))) ∧ Below wr.heap.size wr w') (fun e w' h => ⟨h.1, by obtain ⟨nd, rfl⟩ := h.2; exact pw_below_drewN (Below.refl _ _) nd⟩)
     have hfun := fun (W : World) (hB : Below wr.heap.size wr W) => slices_ContainsFunc_Arc.calls (fun a => decide (a.f1 = (n : Int)) && !out.contains a.f0) 113 #[.pointer (some ⟨gu, 0, none⟩), .pointer (some ⟨g2, 0, none⟩)] (enters_of Try.func113 (by kernel_rfl) rfl) A0 c0 l0 W (Kd.C_below (Kd.C_below HR0.out b4) hB) HC0.out (fun W1 x _ hB1 => order_closure x (n : Int) gu g2 out hl A c W1 (blk_below (blk_below b5 hB) hB1) (blk_below (blk_below b2 hB) hB1) (Kd.C_below (Kd.C_below e3 hB) hB1) e2)
     have hcand : candB l0 out (n : Int) = (!(out.contains (n : Int)) && !(l0.any fun a => decide (a.f1 = (n : Int)) && !out.contains a.f0)) := rfl
     generalize hb1 : out.contains (n : Int) = x1 at hcon hcand
     generalize hb2 : (l0.any fun a => decide (a.f1 = (n : Int)) && !out.contains a.f0) = x2 at hfun hcand
     have HF := Aside0.mk hfun
     have HC := Aside0.mk hcon
     have HCA := Aside0.mk hcand
     have d0 : decide ((n : Int) ≥ 0) = true := decide_eq_true (by omega)
     have hw3 : wrap64 ((n : Int) - 1) = (n : Int) - 1 := by have h1 := HN.out; have h2 := J0.out; unfold wrap64; omega
     have HW3 := Aside0.mk hw3
     clear b1 b2 b3 b4 b5 b6 S4 S5 J2 J3 hv e2 e3 hl hcon hfun hcand hb1 hb2 hw3
     cases x1
     ·cases x2
      ·go_wp2_with (first
        | (go_at_call 114; refine HC.out.mono ?_; rintro e w5 ⟨rfl, hb5⟩; have SY := Aside0.mk (S6.out.below hb5); have HF5 := Aside0.mk (HF.out _ hb5); clear q6 q7 q8 hb5; have q8 : w5.cell? ⟨gN, 1, none⟩ = some (.slice A0 l0.length c0) := (blk_cell SY.out.1.1 1).trans rfl)
        | (go_at_call 110; refine HF5.out.mono ?_; rintro e w6 ⟨rfl, hb'⟩; have SX := Aside0.mk (SY.out.below hb'); clear q8 hb'; have q6 : w6.cell? ⟨gu, 0, none⟩ = some (.int .i64 (n : Int)) := (blk_cell SX.out.2.1 0).trans rfl)
        | ((with_reducible refine gate_dst (N := 6) rfl ?_); refine box_event ?hg (N := 6) ?hd (cs := #[.int .i64 0]) (t := 3) ?hr ?_; (case hd => rfl); (case hg => rfl); (case hr => first | (go_simp; done) | (go_simp; rfl)); intro gx hgx w7 hbox hb; have T1 := Aside0.mk (St.mv SX.out hgx hbox hb); clear hbox hb hgx)
        | ((with_reducible refine gate_store (t := 3) (p := 6) (v := .tmp 35) rfl ?_); refine put_event rfl rfl rfl T1.out.2.1 0 #[.int .i64 (n : Int)] (.int .i64 (n : Int)) [.int .i64 (n : Int)] (by first | rfl | (go_simp; done) | (go_simp; rfl)) (by first | rfl | (go_simp; done) | (go_simp; rfl)) rfl (by kernel_rfl) (by simp) (by simp [Value.oneCell']) rfl ?_; intro w8 hc hg; have T2 := Aside0.mk (St.put T1.out hc hg); clear hc hg T1; have q9 : w8.cell? ⟨gx, 0, none⟩ = some (.int .i64 (n : Int)) := (blk_cell T2.out.2.1 0).trans rfl)
        | ((with_reducible refine gate_store (t := 3) (p := 6) (v := .tmp 21) rfl ?_); refine put_event rfl rfl rfl T2.out.2.1 0 #[.int .i64 (wrap64 ((n : Int) - 1))] (.int .i64 (wrap64 ((n : Int) - 1))) [.int .i64 (wrap64 ((n : Int) - 1))] (by first | rfl | (go_simp; done) | (go_simp; rfl)) (by first | rfl | (go_simp; done) | (go_simp; rfl)) rfl (by kernel_rfl) (by simp) (by simp [Value.oneCell']) rfl ?_; clear q9; intro w9 hc hg; have T3 := Aside0.mk (St.put T2.out hc hg); clear hc hg T2))
       go_roundg n
       case measure => have := J1.out; omega
       case rel => exact ⟨n, n, gx, rfl, rfl, ⟨by have := J0.out; omega⟩, ⟨Nat.le_refl _⟩, ⟨by have h := T3.out; rw [HW3.out] at h; exact h⟩, ⟨by have h := J4.out; rw [HCA.out] at h; exact h⟩⟩
      ·go_wp2_with (first
        | (go_at_call 114; refine HC.out.mono ?_; rintro e w5 ⟨rfl, hb5⟩; have SY := Aside0.mk (S6.out.below hb5); have HF5 := Aside0.mk (HF.out _ hb5); clear q6 q7 q8 hb5; have q8 : w5.cell? ⟨gN, 1, none⟩ = some (.slice A0 l0.length c0) := (blk_cell SY.out.1.1 1).trans rfl)
        | (go_at_call 110; refine HF5.out.mono ?_; rintro e w6 ⟨rfl, hb'⟩; have SX := Aside0.mk (SY.out.below hb'); clear q8 hb'; have q6 : w6.cell? ⟨gu, 0, none⟩ = some (.int .i64 (n : Int)) := (blk_cell SX.out.2.1 0).trans rfl)
        | ((with_reducible refine gate_dst (N := 6) rfl ?_); refine box_event ?hg (N := 6) ?hd (cs := #[.int .i64 0]) (t := 3) ?hr ?_; (case hd => rfl); (case hg => rfl); (case hr => first | (go_simp; done) | (go_simp; rfl)); intro gx hgx w7 hbox hb; have T1 := Aside0.mk (St.mv SX.out hgx hbox hb); clear hbox hb hgx)
        | ((with_reducible refine gate_store (t := 3) (p := 6) (v := .tmp 35) rfl ?_); refine put_event rfl rfl rfl T1.out.2.1 0 #[.int .i64 (n : Int)] (.int .i64 (n : Int)) [.int .i64 (n : Int)] (by first | rfl | (go_simp; done) | (go_simp; rfl)) (by first | rfl | (go_simp; done) | (go_simp; rfl)) rfl (by kernel_rfl) (by simp) (by simp [Value.oneCell']) rfl ?_; intro w8 hc hg; have T2 := Aside0.mk (St.put T1.out hc hg); clear hc hg T1; have q9 : w8.cell? ⟨gx, 0, none⟩ = some (.int .i64 (n : Int)) := (blk_cell T2.out.2.1 0).trans rfl)
        | ((with_reducible refine gate_store (t := 3) (p := 6) (v := .tmp 21) rfl ?_); refine put_event rfl rfl rfl T2.out.2.1 0 #[.int .i64 (wrap64 ((n : Int) - 1))] (.int .i64 (wrap64 ((n : Int) - 1))) [.int .i64 (wrap64 ((n : Int) - 1))] (by first | rfl | (go_simp; done) | (go_simp; rfl)) (by first | rfl | (go_simp; done) | (go_simp; rfl)) rfl (by kernel_rfl) (by simp) (by simp [Value.oneCell']) rfl ?_; clear q9; intro w9 hc hg; have T3 := Aside0.mk (St.put T2.out hc hg); clear hc hg T2))
       go_roundg n
       case measure => have := J1.out; omega
       case rel => exact ⟨n, nx, gx, rfl, rfl, ⟨by have := J0.out; omega⟩, ⟨Nat.le_refl _⟩, ⟨by have h := T3.out; rw [HW3.out] at h; exact h⟩, ⟨by have h := J4.out; rw [HCA.out] at h; exact h⟩⟩
     ·go_wp2_with (first
       | (go_at_call 114; refine HC.out.mono ?_; rintro e w5 ⟨rfl, hb5⟩; have SX := Aside0.mk (S6.out.below hb5); clear q6 q7 q8 hb5; have q6 : w5.cell? ⟨gu, 0, none⟩ = some (.int .i64 (n : Int)) := (blk_cell SX.out.2.1 0).trans rfl)
       | ((with_reducible refine gate_dst (N := 6) rfl ?_); refine box_event ?hg (N := 6) ?hd (cs := #[.int .i64 0]) (t := 3) ?hr ?_; (case hd => rfl); (case hg => rfl); (case hr => first | (go_simp; done) | (go_simp; rfl)); intro gx hgx w7 hbox hb; have T1 := Aside0.mk (St.mv SX.out hgx hbox hb); clear hbox hb hgx)
       | ((with_reducible refine gate_store (t := 3) (p := 6) (v := .tmp 35) rfl ?_); refine put_event rfl rfl rfl T1.out.2.1 0 #[.int .i64 (n : Int)] (.int .i64 (n : Int)) [.int .i64 (n : Int)] (by first | rfl | (go_simp; done) | (go_simp; rfl)) (by first | rfl | (go_simp; done) | (go_simp; rfl)) rfl (by kernel_rfl) (by simp) (by simp [Value.oneCell']) rfl ?_; intro w8 hc hg; have T2 := Aside0.mk (St.put T1.out hc hg); clear hc hg T1; have q9 : w8.cell? ⟨gx, 0, none⟩ = some (.int .i64 (n : Int)) := (blk_cell T2.out.2.1 0).trans rfl)
       | ((with_reducible refine gate_store (t := 3) (p := 6) (v := .tmp 21) rfl ?_); refine put_event rfl rfl rfl T2.out.2.1 0 #[.int .i64 (wrap64 ((n : Int) - 1))] (.int .i64 (wrap64 ((n : Int) - 1))) [.int .i64 (wrap64 ((n : Int) - 1))] (by first | rfl | (go_simp; done) | (go_simp; rfl)) (by first | rfl | (go_simp; done) | (go_simp; rfl)) rfl (by kernel_rfl) (by simp) (by simp [Value.oneCell']) rfl ?_; clear q9; intro w9 hc hg; have T3 := Aside0.mk (St.put T2.out hc hg); clear hc hg T2))
      go_roundg n
      case measure => have := J1.out; omega
      case rel => exact ⟨n, nx, gx, rfl, rfl, ⟨by have := J0.out; omega⟩, ⟨Nat.le_refl _⟩, ⟨by have h := T3.out; rw [HW3.out] at h; exact h⟩, ⟨by have h := J4.out; rw [HCA.out] at h; exact h⟩⟩
  ·have c1 : decide ((i : Int) < (N : Int)) = false := decide_eq_false (by omega)
   have c2 : decide (i < N) = false := decide_eq_false hi
   have hiN : i = N := by have := I0.out; omega
   subst hiN
   have c3 : decide (i < i) = false := decide_eq_false (by omega)
   have hRR : (out, true) = RR := by have := R1.out; rwa [Nat.sub_self] at this
   subst hRR
   obtain ⟨b1, ⟨A, c, b2, b3⟩, b4, _, _⟩ := S1.out
   have q7 : wr.cell? ⟨g2, 0, none⟩ = some (.slice A out.length c) := (blk_cell b2 0).trans rfl
   have B3 := Aside0.mk b3
   have B4 := Aside0.mk b4
   clear b1 b2 b3 b4 S1 R1 hi I0 I1
   go_wp2
   go_ret2
   exact ⟨_, rfl, Kd.R_mono B3.out (fun _ _ => trivial), B4.out⟩
set_option maxHeartbeats 4000000 in
set_option maxRecDepth 100000 in
theorem impl_Net_order.calls (a0_0 : Int) (A0_1 : Option Addr) (c0_1 : Nat) (l0_1 : List S45) (r1 : List Int) (r2 : Bool) (w : World) (hr0_1 : Kd.C k45 w A0_1 l0_1.length l0_1) (hc0_1 : l0_1.length ≤ c0_1) (h : impl_Net_order.f a0_0 l0_1 = some (r1, r2)) :
  Calls Try.prog 68 #[.agg #[.int .i64 a0_0, .slice A0_1 l0_1.length c0_1]] w fun e w' => ∃ v0_ : Value, e = .returned (.tuple #[v0_, .bool r2]) ∧ Kd.R (Kd.int .i64) 3 w' w.heap.size (fun _ => True) v0_ r1 ∧ Below w.heap.size w w' := by
 unfold impl_Net_order.f at h
 by_cases h1 : 0 ≤ a0_0
 ·rw [if_pos h1] at h
  by_cases h2 : a0_0 ≤ 64
  ·rw [if_pos h2] at h
   obtain ⟨N, rfl⟩ := Int.eq_ofNat_of_zero_le h1
   have hw := order_walk N (by omega) A0_1 c0_1 l0_1 w hr0_1 hc0_1
   have he := Option.some.inj h
   rw [Int.toNat_natCast] at he
   rw [he] at hw
   exact hw
  ·rw [if_neg h2] at h; cases h
 ·rw [if_neg h1] at h; cases h
end Go.Proofs.Ytmabopomecdidaa.Pr
end
section
namespace Go.Proofs.Ytmabopomecdidaa.Pr
open Go.RowKit Go.Proofs.YtmabopomecdidaaW.PrintWords Go.Proofs.YtmabopomecdidaaW.PrintLast Go.Proofs.YtmabopomecdidaaW.PrintMore
attribute [local go_sem] max2_int min2_int max_two min_two max_three min_three max_four min_four
set_option linter.unusedVariables false
set_option linter.unusedSimpArgs false
def impl_RingOrder.f (a0_0 : Int) (l0_1 : List (S45)) : Option (List Int × Bool) := (impl_NetOk.f a0_0 l0_1).bind fun t297 => (if t297 = true then ((impl_Net_order.f a0_0 l0_1).bind fun bt298 => (some (bt298.1, bt298.2))) else (some (([] : List Int), false)))
set_option maxHeartbeats 8000000 in
set_option maxRecDepth 100000 in
theorem impl_RingOrder.calls (a0_0 : Int) (A0_1 : Option Addr) (c0_1 : Nat) (l0_1 : List (S45)) (r1 : List Int) (r2 : Bool) (w : World) (hr0_1 : Kd.C k45 w A0_1 l0_1.length l0_1) (hc0_1 : l0_1.length ≤ c0_1) (h : impl_RingOrder.f a0_0 l0_1 = some (r1, r2)) :
  Calls Try.prog 24 #[.agg #[.int .i64 a0_0, .slice A0_1 l0_1.length c0_1]] w fun e w' => ∃ v0_ : Value, e = .returned (.tuple #[v0_, .bool r2]) ∧ Kd.R (Kd.int .i64) 3 w' w.heap.size (fun _ => True) v0_ r1 ∧ Below w.heap.size w w' := by
 have hu38 := Try.underlying38
 have HR0_1 := Aside0.mk hr0_1
 have HC0_1 := Aside0.mk hc0_1
 clear hr0_1 hc0_1
 have HB := Aside0.mk (Below.refl w.heap.size w)
 have H : ((impl_NetOk.f a0_0 l0_1).bind fun t297 => (if t297 = true then ((impl_Net_order.f a0_0 l0_1).bind fun bt298 => (some (bt298.1, bt298.2))) else (some (([] : List Int), false)))) = some (r1, r2) := h
 clear h
 replace H := Option.bind_eq_some_iff.mp H
 obtain ⟨t297, A20, H⟩ := H
 replace H : (if t297 = true then ((impl_Net_order.f a0_0 l0_1).bind fun bt298 => (some (bt298.1, bt298.2))) else (some (([] : List Int), false))) = some (r1, r2) := H
 have A2 := Aside0.mk A20
 clear A20
 by_cases c3 : t297 = true
 ·subst c3
  have H1 : ((impl_Net_order.f a0_0 l0_1).bind fun bt298 => (some (bt298.1, bt298.2))) = some (r1, r2) := by rw [if_pos rfl] at H; exact H
  clear H
  have H := H1
  clear H1
  replace H := Option.bind_eq_some_iff.mp H
  obtain ⟨⟨t298, t301⟩, A40, H⟩ := H
  replace H : (some (t298, t301)) = some (r1, r2) := H
  have A4 := Aside0.mk A40
  clear A40
  simp only [Option.some.injEq, Prod.mk.injEq] at H
  obtain ⟨rfl, rfl⟩ := H
  go_enter Try.func24, Try.ntmps24
  go_wp2_with (first | ((with_reducible refine gate_dst (N := 1) rfl ?_); refine box_event ?hg (N := 1) ?hd (cs := #[.int .i64 a0_0, .slice A0_1 l0_1.length c0_1]) (t := 38) ?hr ?_; (case hd => rfl); (case hg => rfl); (case hr => first | (go_simp; done) | (go_simp; rfl)); intro gb296 hg w5 hbox hb; have n0_ := Aside0.mk (below_step (by repeat (first | (with_reducible first | exact HB.out | apply below_alloc | apply pw_below_drewN | apply below_drew1) | exact HB.out)) hb); have n1_ := Aside0.mk (hbox); have n2_ := Aside0.mk ((by rw [hg]; exact (below_size (by repeat (first | (with_reducible first | exact HB.out | apply below_alloc | apply pw_below_drewN | apply below_drew1) | exact HB.out))) : w.heap.size ≤ gb296)); have n3_ := Aside0.mk ((by rw [hg]; exact (below_size (by repeat (first | (with_reducible first | exact HB.out | apply below_alloc | apply pw_below_drewN | apply below_drew1) | exact HB.out))) : w.heap.size ≤ gb296)); clear HB; have HB := n0_; have BK296 := n1_; have GW296 := n2_; have GE296 := n3_; clear n0_ n1_ n2_ n3_; clear hb hbox hg; have hcz6_0 : w5.cell? ⟨gb296, 0, none⟩ = some (.int .i64 a0_0) := (blk_cell BK296.out 0).trans rfl; have hcz6_1 : w5.cell? ⟨gb296, 1, none⟩ = some (.slice A0_1 l0_1.length c0_1) := (blk_cell BK296.out 1).trans rfl; have hfz6_0 := blk_frozen BK296.out 0; have hfz6_1 := blk_frozen BK296.out 1) | ((with_reducible refine gate_callee (f := 67) rfl ?_); refine goesL_ (some 5) rfl rfl Try.func67 (by kernel_rfl) rfl #[.agg #[.int .i64 a0_0, .slice A0_1 l0_1.length c0_1]] rfl (by (try simp only [List.map_toArray, List.map_cons, List.map_nil]); first | done | rfl | (simp only [List.length_drop, List.length_take]; rfl)) ?_; (with_reducible refine (impl_NetOk.calls a0_0 _ _ l0_1 true _ ?side1 ?side2 A2.out).mono ?_); (case side1 => repeat (first | exact (Kd.C_below HR0_1.out HB.out) | (with_reducible refine Kd.C_alloc ?_ _) | (with_reducible refine Kd.C_drewN ?_ _) | (with_reducible refine Kd.C_drew ?_))); (case side2 => exact HC0_1.out); rintro e w7 ⟨rfl, hb⟩; refine ⟨_, rfl, ?_⟩; have n0_ := Aside0.mk (blk_below (g := gb296) (o := .cells #[.int .i64 a0_0, .slice A0_1 l0_1.length c0_1] 38 (0, 0)) (by (with_reducible repeat (first | refine blk_drewN ?_ _ | refine blk_drew ?_ | refine blk_alloc ?_ _)); exact BK296.out) hb); have n1_ := Aside0.mk (below_step (by repeat (first | (with_reducible first | exact HB.out | apply below_alloc | apply pw_below_drewN | apply below_drew1 | refine below_set ?_ GE296.out) | exact HB.out)) hb); clear BK296; clear HB; have BK296 := n0_; have HB := n1_; clear n0_ n1_; (try clear hb); (try clear hb2); (try clear hk); (try clear hi); have hcz8_0 : w7.cell? ⟨gb296, 0, none⟩ = some (.int .i64 a0_0) := (blk_cell BK296.out 0).trans rfl; have hcz8_1 : w7.cell? ⟨gb296, 1, none⟩ = some (.slice A0_1 l0_1.length c0_1) := (blk_cell BK296.out 1).trans rfl; have hfz8_0 := blk_frozen BK296.out 0; have hfz8_1 := blk_frozen BK296.out 1) | ((with_reducible refine gate_callee (f := 68) rfl ?_); refine goesL_ (some 8) rfl rfl Try.func68 (by kernel_rfl) rfl #[.agg #[.int .i64 a0_0, .slice A0_1 l0_1.length c0_1]] rfl (by (try simp only [List.map_toArray, List.map_cons, List.map_nil]); first | done | rfl | (simp only [List.length_drop, List.length_take]; rfl)) ?_; (with_reducible refine (impl_Net_order.calls a0_0 _ _ l0_1 t298 t301 _ ?side1 ?side2 A4.out).mono ?_); (case side1 => repeat (first | exact (Kd.C_below HR0_1.out HB.out) | (with_reducible refine Kd.C_alloc ?_ _) | (with_reducible refine Kd.C_drewN ?_ _) | (with_reducible refine Kd.C_drew ?_))); (case side2 => exact HC0_1.out); rintro e w9 ⟨v299, rfl, ho0, hb⟩; refine ⟨_, rfl, ?_⟩; have n0_ := Aside0.mk (Kd.R_lower ho0 (below_size (by repeat (first | (with_reducible first | exact HB.out | apply below_alloc | apply pw_below_drewN | apply below_drew1 | refine below_set ?_ GE296.out) | exact HB.out)))); have n1_ := Aside0.mk (blk_below (g := gb296) (o := .cells #[.int .i64 a0_0, .slice A0_1 l0_1.length c0_1] 38 (0, 0)) (by (with_reducible repeat (first | refine blk_drewN ?_ _ | refine blk_drew ?_ | refine blk_alloc ?_ _)); exact BK296.out) hb); have n2_ := Aside0.mk (below_step (by repeat (first | (with_reducible first | exact HB.out | apply below_alloc | apply pw_below_drewN | apply below_drew1 | refine below_set ?_ GE296.out) | exact HB.out)) hb); clear BK296; clear HB; have HO300 := n0_; have BK296 := n1_; have HB := n2_; clear n0_ n1_ n2_; (try clear hb); (try clear hb2); (try clear hk); (try clear hi); (try clear ho0)))
  go_ret2
  exact ⟨_, by first | rfl | (simp [errW_none, errW_some] <;> rfl) | (simp [*, errW_none, errW_some] <;> rfl), by (with_reducible repeat (first | apply Kd.R_alloc | apply Kd.R_drewN | apply Kd.R_drew)); exact HO300.out, by repeat (first | (with_reducible first | exact HB.out | apply below_alloc | apply pw_below_drewN | apply below_drew1 | refine below_set ?_ GE296.out) | exact HB.out)⟩
 ·replace c3 := Bool.eq_false_iff.mpr c3
  subst c3
  have H1 : (some (([] : List Int), false)) = some (r1, r2) := by rw [if_neg (show ¬ (false = true) by decide)] at H; exact H
  clear H
  have H := H1
  clear H1
  simp only [Option.some.injEq, Prod.mk.injEq] at H
  obtain ⟨rfl, rfl⟩ := H
  go_enter Try.func24, Try.ntmps24
  go_wp2_with (first | ((with_reducible refine gate_dst (N := 1) rfl ?_); refine box_event ?hg (N := 1) ?hd (cs := #[.int .i64 a0_0, .slice A0_1 l0_1.length c0_1]) (t := 38) ?hr ?_; (case hd => rfl); (case hg => rfl); (case hr => first | (go_simp; done) | (go_simp; rfl)); intro gb296 hg w10 hbox hb; have n0_ := Aside0.mk (below_step (by repeat (first | (with_reducible first | exact HB.out | apply below_alloc | apply pw_below_drewN | apply below_drew1) | exact HB.out)) hb); have n1_ := Aside0.mk (hbox); have n2_ := Aside0.mk ((by rw [hg]; exact (below_size (by repeat (first | (with_reducible first | exact HB.out | apply below_alloc | apply pw_below_drewN | apply below_drew1) | exact HB.out))) : w.heap.size ≤ gb296)); have n3_ := Aside0.mk ((by rw [hg]; exact (below_size (by repeat (first | (with_reducible first | exact HB.out | apply below_alloc | apply pw_below_drewN | apply below_drew1) | exact HB.out))) : w.heap.size ≤ gb296)); clear HB; have HB := n0_; have BK296 := n1_; have GW296 := n2_; have GE296 := n3_; clear n0_ n1_ n2_ n3_; clear hb hbox hg; have hcz11_0 : w10.cell? ⟨gb296, 0, none⟩ = some (.int .i64 a0_0) := (blk_cell BK296.out 0).trans rfl; have hcz11_1 : w10.cell? ⟨gb296, 1, none⟩ = some (.slice A0_1 l0_1.length c0_1) := (blk_cell BK296.out 1).trans rfl; have hfz11_0 := blk_frozen BK296.out 0; have hfz11_1 := blk_frozen BK296.out 1) | ((with_reducible refine gate_callee (f := 67) rfl ?_); refine goesL_ (some 5) rfl rfl Try.func67 (by kernel_rfl) rfl #[.agg #[.int .i64 a0_0, .slice A0_1 l0_1.length c0_1]] rfl (by (try simp only [List.map_toArray, List.map_cons, List.map_nil]); first | done | rfl | (simp only [List.length_drop, List.length_take]; rfl)) ?_; (with_reducible refine (impl_NetOk.calls a0_0 _ _ l0_1 false _ ?side1 ?side2 A2.out).mono ?_); (case side1 => repeat (first | exact (Kd.C_below HR0_1.out HB.out) | (with_reducible refine Kd.C_alloc ?_ _) | (with_reducible refine Kd.C_drewN ?_ _) | (with_reducible refine Kd.C_drew ?_))); (case side2 => exact HC0_1.out); rintro e w12 ⟨rfl, hb⟩; refine ⟨_, rfl, ?_⟩; have n0_ := Aside0.mk (blk_below (g := gb296) (o := .cells #[.int .i64 a0_0, .slice A0_1 l0_1.length c0_1] 38 (0, 0)) (by (with_reducible repeat (first | refine blk_drewN ?_ _ | refine blk_drew ?_ | refine blk_alloc ?_ _)); exact BK296.out) hb); have n1_ := Aside0.mk (below_step (by repeat (first | (with_reducible first | exact HB.out | apply below_alloc | apply pw_below_drewN | apply below_drew1 | refine below_set ?_ GE296.out) | exact HB.out)) hb); clear BK296; clear HB; have BK296 := n0_; have HB := n1_; clear n0_ n1_; (try clear hb); (try clear hb2); (try clear hk); (try clear hi)))
  go_ret2
  exact ⟨_, by first | rfl | (simp [errW_none, errW_some] <;> rfl) | (simp [*, errW_none, errW_some] <;> rfl), by first | exact Kd.R_nil _ _ _ _ _ | exact Kd.N_nil _ _ _ _ _ | exact Kd.V_nil _ _ _ _ _ | exact Kd.Q_nil _ _ _ _ _ | exact Kd.S_nil _ _ _ _ _, by repeat (first | (with_reducible first | exact HB.out | apply below_alloc | apply pw_below_drewN | apply below_drew1 | refine below_set ?_ GE296.out) | exact HB.out)⟩
end Go.Proofs.Ytmabopomecdidaa.Pr
end
section
namespace Go.Proofs.Ytmabopomecdidaa.Pr
open Go.RowKit Go.Proofs.YtmabopomecdidaaW.PrintWords Go.Proofs.YtmabopomecdidaaW.PrintLast Go.Proofs.YtmabopomecdidaaW.PrintMore
attribute [local go_sem] max2_int min2_int max_two min_two max_three min_three max_four min_four
set_option linter.unusedVariables false
set_option linter.unusedSimpArgs false
def mxI : List Int → Int
 | [] => 0
 | a :: r => r.foldl (fun m x => if m < x then x else m) a
theorem mxI_step {xs : List Int} (h : xs ≠ []) (y : Int) : mxI (xs ++ [y]) = if mxI xs < y then y else mxI xs := by
 cases xs with
 | nil => exact absurd rfl h
 | cons a r => simp [mxI, List.foldl_append]; try rfl
def slices_Max_int_int.f (l0 : List Int) : Option Int := if l0.length = 0 then none else some (mxI l0)
set_option maxHeartbeats 4000000 in
set_option maxRecDepth 100000 in
theorem slices_Max_int_int.calls (A0 : Option Addr) (c0 : Nat) (l0 : List Int) (r : Int) (w : World) (hr0 : Kd.C (Kd.int .i64) w A0 l0.length l0) (hc0 : l0.length ≤ c0) (h : slices_Max_int_int.f l0 = some r) :
  Calls Try.prog 88 #[.slice A0 l0.length c0] w fun e w' => e = .returned (.int .i64 r) ∧ Below w.heap.size w w' := by
 have hlen := Kd.C_max hr0
 have HR0 := Aside0.mk hr0
 have HL := Aside0.mk hlen
 have h0 : l0.length ≠ 0 := fun e => by unfold slices_Max_int_int.f at h; rw [if_pos e] at h; cases h
 have hr : mxI l0 = r := by unfold slices_Max_int_int.f at h; rw [if_neg h0] at h; exact Option.some.inj h
 have HRR := Aside0.mk hr
 have H0 := Aside0.mk h0
 have d0 : decide ((l0.length : Int) < 1) = false := decide_eq_false (by omega)
 have d1 : decide (l0.length < 1) = false := decide_eq_false (by omega)
 have d2 : ((l0.length : Int) < 1) = False := eq_false (by omega)
 obtain ⟨ad, e, hx0⟩ := Kd.at_int HR0.out 0 (by omega) (by omega)
 cases e
 have hx1 : w.cell? ad = some (.int .i64 (rd l0 0)) := by simpa [Addr.add] using hx0
 clear hx0
 have p0 : (0 : Int) < (l0.length : Int) := by omega
 have q0 := eq_true p0
 have q0n : (0 < l0.length) = True := eq_true (by omega)
 clear hr hlen h h0 hr0 p0
 go_enter Try.func88, Try.ntmps88
 go_wp2
 clear hx1
 go_loopg [3, 4] l0.length (fun gg s3 s4 wr => ∃ n : Nat, s3 = .int .i64 (mxI (l0.take n)) ∧ s4 = .int .i64 (n : Int) ∧ Aside0 (1 ≤ n ∧ n ≤ l0.length) ∧ Aside0 (l0.length - n ≤ gg) ∧ Drawn0 w wr)
 case atStart => exact ⟨1, by
  have h := H0.out
  cases l0 with
  | nil => exact absurd rfl h
  | cons a r => rfl, rfl, ⟨by have := H0.out; omega⟩, ⟨by omega⟩, by repeat (first | exact Drawn0.refl _ | apply Drawn0.step)⟩
 case round =>
  obtain ⟨n, rfl, rfl, N1, N2, ⟨m1, rfl⟩⟩ := hrel
  by_cases hn : n < l0.length
  ·have c1 : decide ((n : Int) < (l0.length : Int)) = true := decide_eq_true (by omega)
   have c2 : decide (n < l0.length) = true := decide_eq_true hn
   have p1 : (0 : Int) ≤ (n : Int) := by omega
   have q1 : (n : Int) < (l0.length : Int) := by omega
   obtain ⟨ad2, e, hx2⟩ := Kd.at_int HR0.out (n : Int) p1 q1
   cases e
   have hx3 : w.cell? (ad.add n) = some (.int .i64 (rd l0 (n : Int))) := by simpa using hx2
   clear hx2
   have hw : wrap64 ((n : Int) + 1) = ((n + 1 : Nat) : Int) := by have := HL.out; unfold wrap64; omega
   have hs : mxI (l0.take (n + 1)) = if mxI (l0.take n) < rd l0 (n : Int) then rd l0 (n : Int) else mxI (l0.take n) := by
    rw [List.take_succ_eq_append_getElem hn, mxI_step (by
     intro h
     have h2 : (l0.take n).length = 0 := by rw [h]; rfl
     rw [List.length_take] at h2
     have := N1.out
     have := H0.out
     omega)]
    have : rd l0 (n : Int) = l0[n] := by simp [rd, hn]
    rw [this]
   have HS := Aside0.mk hs
   have HW := Aside0.mk hw
   have HNN := Aside0.mk hn
   have p2 := eq_true p1
   have q2 := eq_true q1
   clear hs hw hn p1 q1
   generalize mxI (l0.take n) = mm at HS
   go_wp2
   all_goals
    go_roundg (l0.length - (n + 1))
    case measure => have := N2.out; have := HNN.out; omega
    case rel => exact ⟨n + 1, by rw [HS.out]; first | rfl | (split <;> first | rfl | omega), by rw [HW.out], ⟨by have := HNN.out; omega⟩, ⟨Nat.le_refl _⟩, by repeat (first | exact Drawn0.refl _ | apply Drawn0.step)⟩
  ·have c1 : decide ((n : Int) < (l0.length : Int)) = false := decide_eq_false (by omega)
   have c2 : decide (n < l0.length) = false := decide_eq_false hn
   have hr2 : mxI (l0.take n) = r := by rw [List.take_of_length_le (by omega)]; exact HRR.out
   clear hn
   go_wp2
   go_ret
   exact ⟨by first | rfl | (rw [hr2]; rfl), pw_below_drewN (Below.refl _ _) _⟩
end Go.Proofs.Ytmabopomecdidaa.Pr
end
section
namespace Go.Proofs.Ytmabopomecdidaa.Pr
open Go.RowKit Go.Proofs.YtmabopomecdidaaW.PrintWords Go.Proofs.YtmabopomecdidaaW.PrintLast Go.Proofs.YtmabopomecdidaaW.PrintMore
attribute [local go_sem] max2_int min2_int max_two min_two max_three min_three max_four min_four
set_option linter.unusedVariables false
set_option linter.unusedSimpArgs false
mutual
def impl_RingLong.l0 : Nat → List Int → List Int → Int → Int → Int → List (S45) → Option (Int)
 | 0, _, _, _, _, _, _ => none
 | k + 1, x3, x5, x21, x22, x671000, x671001 => if x22 < x21 then (if 0 ≤ x22 then (if x22 < (x3.length : Int) then (impl_RingLong.l1 k x3 x5 (rd x3 x22) x21 x22 x671001 (x671001.length : Int) 0 x671000 x671001) else (none)) else (none)) else ((slices_Max_int_int.f x5).bind fun t678 => (some t678))
def impl_RingLong.l1 : Nat → List Int → List Int → Int → Int → Int → List (S45) → Int → Int → Int → List (S45) → Option (Int)
 | 0, _, _, _, _, _, _, _, _, _, _ => none
 | k + 1, x3, x5, x7, x21, x22, x27, x28, x29, x671000, x671001 => if x29 < x28 then (if 0 ≤ x29 then (if x29 < (x27.length : Int) then (if ((rd_T45 x27 x29).f0) = x7 then (if 0 ≤ ((rd_T45 x27 x29).f1) then (if ((rd_T45 x27 x29).f1) < (x5.length : Int) then (if 0 ≤ x7 then (if x7 < (x5.length : Int) then (impl_RingLong.l1 k x3 (x5.set (((rd_T45 x27 x29).f1) : Int).toNat (mx (rd x5 ((rd_T45 x27 x29).f1)) (wrap64 ((rd x5 x7) + ((rd_T45 x27 x29).f2))))) x7 x21 x22 x27 x28 (wrap64 (x29 + 1)) x671000 x671001) else (none)) else (none)) else (none)) else (none)) else (impl_RingLong.l1 k x3 x5 x7 x21 x22 x27 x28 (wrap64 (x29 + 1)) x671000 x671001)) else (none)) else (none)) else (impl_RingLong.l0 k x3 x5 x21 (wrap64 (x22 + 1)) x671000 x671001)
end
def impl_RingLong.f (k : Nat) (a0_0 : Int) (l0_1 : List (S45)) : Option (Int) := (impl_RingOrder.f a0_0 l0_1).bind fun bt671 => (if bt671.2 = true then (if 0 ≤ a0_0 then (if (a0_0 : Int).toNat ≤ 35184372088832 then (impl_RingLong.l0 k bt671.1 (List.replicate (a0_0 : Int).toNat 0) (bt671.1.length : Int) 0 a0_0 l0_1) else (none)) else (none)) else (some (-1)))
theorem impl_RingLong.mono_l : ∀ k, (∀ y0 y1 y2 y3 y4 y5, LeO (impl_RingLong.l0 k y0 y1 y2 y3 y4 y5) (impl_RingLong.l0 (k + 1) y0 y1 y2 y3 y4 y5)) ∧ (∀ y0 y1 y2 y3 y4 y5 y6 y7 y8 y9, LeO (impl_RingLong.l1 k y0 y1 y2 y3 y4 y5 y6 y7 y8 y9) (impl_RingLong.l1 (k + 1) y0 y1 y2 y3 y4 y5 y6 y7 y8 y9))
 | 0 => ⟨fun _ _ _ _ _ _ r h => by simp [impl_RingLong.l0] at h, fun _ _ _ _ _ _ _ _ _ _ r h => by simp [impl_RingLong.l1] at h⟩
 | k + 1 => by
  obtain ⟨ih0, ih1⟩ := impl_RingLong.mono_l k
  refine ⟨?_, ?_⟩
  ·intro y0 y1 y2 y3 y4 y5
   unfold impl_RingLong.l0
   repeat' first
   | (with_reducible exact ih0 _ _ _ _ _ _)
   | (with_reducible exact ih1 _ _ _ _ _ _ _ _ _ _)
   | (with_reducible exact LeO.refl _)
   | (with_reducible exact LeO.none _)
   | (with_reducible refine LeO.ite ?_ ?_)
   | (with_reducible refine LeO.bind ?_ (fun _ => ?_))
   | exact ih0 _ _ _ _ _ _
   | exact ih1 _ _ _ _ _ _ _ _ _ _
   | exact LeO.none _
   | refine LeO.ite ?_ ?_
   | refine LeO.bind ?_ (fun _ => ?_)
  ·intro y0 y1 y2 y3 y4 y5 y6 y7 y8 y9
   unfold impl_RingLong.l1
   repeat' first
   | (with_reducible exact ih0 _ _ _ _ _ _)
   | (with_reducible exact ih1 _ _ _ _ _ _ _ _ _ _)
   | (with_reducible exact LeO.refl _)
   | (with_reducible exact LeO.none _)
   | (with_reducible refine LeO.ite ?_ ?_)
   | (with_reducible refine LeO.bind ?_ (fun _ => ?_))
   | exact ih0 _ _ _ _ _ _
   | exact ih1 _ _ _ _ _ _ _ _ _ _
   | exact LeO.none _
   | refine LeO.ite ?_ ?_
   | refine LeO.bind ?_ (fun _ => ?_)
theorem impl_RingLong.mono : ∀ a0 a1 k, LeO (impl_RingLong.f k a0 a1) (impl_RingLong.f (k + 1) a0 a1) := by
 intro a0 a1 k
 obtain ⟨ih0, ih1⟩ := impl_RingLong.mono_l k
 unfold impl_RingLong.f
 repeat' first
   | (with_reducible exact ih0 _ _ _ _ _ _)
   | (with_reducible exact ih1 _ _ _ _ _ _ _ _ _ _)
   | (with_reducible exact LeO.refl _)
   | (with_reducible exact LeO.none _)
   | (with_reducible refine LeO.ite ?_ ?_)
   | (with_reducible refine LeO.bind ?_ (fun _ => ?_))
   | exact ih0 _ _ _ _ _ _
   | exact ih1 _ _ _ _ _ _ _ _ _ _
   | exact LeO.none _
   | refine LeO.ite ?_ ?_
   | refine LeO.bind ?_ (fun _ => ?_)
def impl_RingLong.T12 : Bool × List (List Nat × List Nat) := (true, [([], []), ([], []), ([1], [1]), ([], []), ([], []), ([4], [4]), ([3, 5], [3, 5]), ([6], [6]), ([], []), ([], []), ([8, 9], [8, 9]), ([10], [10]), ([], []), ([12], [12]), ([11, 13], [11, 13]), ([7, 14], [7, 14]), ([0, 2, 0, 1, 2, 3, 4, 5, 6, 7, 8, 9, 10, 11, 12, 13, 14, 15], [0, 2]), ([16, 15, 0, 1, 2, 3, 4, 5, 6, 7, 8, 9, 10, 11, 12, 13, 14, 15], [15, 16])])
def impl_RingLong.B12 : List Nat := [0, 0, 2, 0, 0, 16, 56, 120, 0, 0, 768, 1792, 0, 4096, 16128, 32760, 65535, 131071]
theorem impl_RingLong.tab12 : rtab .any (opsOf Try.f44 12) = impl_RingLong.T12 := by kernel_rfl
theorem impl_RingLong.bits12 : waitsOk impl_RingLong.T12.2 impl_RingLong.B12 = true := by kernel_rfl
set_option maxHeartbeats 8000000 in
set_option maxRecDepth 100000 in
theorem impl_RingLong.calls (k : Nat) (a0_0 : Int) (A0_1 : Option Addr) (c0_1 : Nat) (l0_1 : List (S45)) (r : Int) (w : World) (hr0_1 : Kd.C k45 w A0_1 l0_1.length l0_1) (hc0_1 : l0_1.length ≤ c0_1) (h : impl_RingLong.f k a0_0 l0_1 = some r) :
  Calls Try.prog 44 #[.agg #[.int .i64 a0_0, .slice A0_1 l0_1.length c0_1]] w fun e w' => e = .returned (.int .i64 r) ∧ Below w.heap.size w w' := by
 have hu38 := Try.underlying38
 have hu45 := Try.underlying45
 have HR0_1 := Aside0.mk hr0_1
 have HC0_1 := Aside0.mk hc0_1
 clear hr0_1 hc0_1
 have HB := Aside0.mk (Below.refl w.heap.size w)
 have H : ((impl_RingOrder.f a0_0 l0_1).bind fun bt671 => (if bt671.2 = true then (if 0 ≤ a0_0 then (if (a0_0 : Int).toNat ≤ 35184372088832 then (impl_RingLong.l0 k bt671.1 (List.replicate (a0_0 : Int).toNat 0) (bt671.1.length : Int) 0 a0_0 l0_1) else (none)) else (none)) else (some (-1)))) = some r := h
 clear h
 replace H := Option.bind_eq_some_iff.mp H
 obtain ⟨⟨t671, t674⟩, A20, H⟩ := H
 replace H : (if t674 = true then (if 0 ≤ a0_0 then (if (a0_0 : Int).toNat ≤ 35184372088832 then (impl_RingLong.l0 k t671 (List.replicate (a0_0 : Int).toNat 0) (t671.length : Int) 0 a0_0 l0_1) else (none)) else (none)) else (some (-1))) = some r := H
 have A2 := Aside0.mk A20
 clear A20
 by_cases c3 : t674 = true
 ·subst c3
  have H1 : (if 0 ≤ a0_0 then (if (a0_0 : Int).toNat ≤ 35184372088832 then (impl_RingLong.l0 k t671 (List.replicate (a0_0 : Int).toNat 0) (t671.length : Int) 0 a0_0 l0_1) else (none)) else (none)) = some r := by rw [if_pos rfl] at H; exact H
  clear H
  have H := H1
  clear H1
  by_cases c4 : 0 ≤ a0_0
  ·rw [if_pos c4] at H
   have c4b0 := eq_true c4
   have c4b1 : decide (0 ≤ a0_0) = true := decide_eq_true c4
   clear c4
   by_cases c5 : (a0_0 : Int).toNat ≤ 35184372088832
   ·rw [if_pos c5] at H
    have c5b0 := eq_true c5
    have c5b1 : decide ((a0_0 : Int).toNat ≤ 35184372088832) = true := decide_eq_true c5
    clear c5
    obtain ⟨y675, hy675⟩ : ∃ y_ : List Int, y_ = (List.replicate (a0_0 : Int).toNat 0) := ⟨_, rfl⟩
    replace H : (impl_RingLong.l0 k t671 y675 (t671.length : Int) 0 a0_0 l0_1) = some r := by first | (rw [hy675]; with_reducible exact H) | (have H2_ := (Option.bind_some _ _).symm.trans H; rw [hy675]; with_reducible exact H2_) | (have H2_ := (Option.bind_some _ _).symm.trans H; with_reducible exact H2_) | with_reducible exact H | (rw [hy675]; exact H) | exact H
    have Ny675 := Aside0.mk hy675
    clear hy675
    have H' := Aside0.mk H
    clear H
    go_enter Try.func44, Try.ntmps44
    go_wp2_with (first | ((with_reducible refine gate_dst (N := 1) rfl ?_); refine box_event ?hg (N := 1) ?hd (cs := #[.int .i64 a0_0, .slice A0_1 l0_1.length c0_1]) (t := 38) ?hr ?_; (case hd => rfl); (case hg => rfl); (case hr => first | (go_simp; done) | (go_simp; rfl)); intro gb670 hg w6 hbox hb; have n0_ := Aside0.mk (below_step (by repeat (first | (with_reducible first | exact HB.out | apply below_alloc | apply pw_below_drewN | apply below_drew1) | exact HB.out)) hb); have n1_ := Aside0.mk (hbox); have n2_ := Aside0.mk ((by rw [hg]; exact (below_size (by repeat (first | (with_reducible first | exact HB.out | apply below_alloc | apply pw_below_drewN | apply below_drew1) | exact HB.out))) : w.heap.size ≤ gb670)); have n3_ := Aside0.mk ((by rw [hg]; exact (below_size (by repeat (first | (with_reducible first | exact HB.out | apply below_alloc | apply pw_below_drewN | apply below_drew1) | exact HB.out))) : w.heap.size ≤ gb670)); clear HB; have HB := n0_; have BK670 := n1_; have GW670 := n2_; have GE670 := n3_; clear n0_ n1_ n2_ n3_; clear hb hbox hg; have hcz7_0 : w6.cell? ⟨gb670, 0, none⟩ = some (.int .i64 a0_0) := (blk_cell BK670.out 0).trans rfl; have hcz7_1 : w6.cell? ⟨gb670, 1, none⟩ = some (.slice A0_1 l0_1.length c0_1) := (blk_cell BK670.out 1).trans rfl; have hfz7_0 := blk_frozen BK670.out 0; have hfz7_1 := blk_frozen BK670.out 1) | ((with_reducible refine gate_callee (f := 24) rfl ?_); refine goesL_ (some 12) rfl rfl Try.func24 (by kernel_rfl) rfl #[.agg #[.int .i64 a0_0, .slice A0_1 l0_1.length c0_1]] rfl (by (try simp only [List.map_toArray, List.map_cons, List.map_nil]); first | done | rfl | (simp only [List.length_drop, List.length_take]; rfl)) ?_; (with_reducible refine (impl_RingOrder.calls a0_0 _ _ l0_1 t671 true _ ?side1 ?side2 A2.out).mono ?_); (case side1 => repeat (first | exact (Kd.C_below HR0_1.out HB.out) | (with_reducible refine Kd.C_alloc ?_ _) | (with_reducible refine Kd.C_drewN ?_ _) | (with_reducible refine Kd.C_drew ?_))); (case side2 => exact HC0_1.out); rintro e w8 ⟨v672, rfl, ho0, hb⟩; refine ⟨_, rfl, ?_⟩; have n0_ := Aside0.mk (Kd.R_lower ho0 (below_size (by repeat (first | (with_reducible first | exact HB.out | apply below_alloc | apply pw_below_drewN | apply below_drew1 | refine below_set ?_ GE670.out) | exact HB.out)))); have n1_ := Aside0.mk (blk_below (g := gb670) (o := .cells #[.int .i64 a0_0, .slice A0_1 l0_1.length c0_1] 38 (0, 0)) (by (with_reducible repeat (first | refine blk_drewN ?_ _ | refine blk_drew ?_ | refine blk_alloc ?_ _)); exact BK670.out) hb); have n2_ := Aside0.mk (below_step (by repeat (first | (with_reducible first | exact HB.out | apply below_alloc | apply pw_below_drewN | apply below_drew1 | refine below_set ?_ GE670.out) | exact HB.out)) hb); clear BK670; clear HB; have HO673 := n0_; have BK670 := n1_; have HB := n2_; clear n0_ n1_ n2_; (try clear hb); (try clear hb2); (try clear hk); (try clear hi); (try clear ho0); have hcz9_0 : w8.cell? ⟨gb670, 0, none⟩ = some (.int .i64 a0_0) := (blk_cell BK670.out 0).trans rfl; have hcz9_1 : w8.cell? ⟨gb670, 1, none⟩ = some (.slice A0_1 l0_1.length c0_1) := (blk_cell BK670.out 1).trans rfl; have hfz9_0 := blk_frozen BK670.out 0; have hfz9_1 := blk_frozen BK670.out 1) | ((with_reducible refine gate_dst (N := 19) rfl ?_); refine Kd.R_make (Kd.int .i64) _ 3 rfl (N := 19) rfl 22 _ _ rfl a0_0 (by first | rfl | (go_simp; done) | (go_simp; rfl)) (by first | rfl | (go_simp; done) | (go_simp; rfl)) Try.underlying22 (.int .i64 0) 8 info3 rfl (by decide) (by omega) 0 (ok := fun _ => True) (okp := fun _ => True) rfl (fun _ hk => hk) trivial (of_decide_eq_true (by first | (with_reducible assumption) | assumption)) (Nat.le_trans (Nat.mul_le_mul_right _ (of_decide_eq_true (by first | (with_reducible assumption) | assumption) : a0_0.toNat ≤ 35184372088832)) (by omega)) (Below.refl _ _) (Nat.le_refl _) ?_; intro v676 w10 ho11 hb hg_ hnew_; clear hg_ hnew_; (first | rw [← Ny675.out] at ho11 | (simp only [Int.reduceToNat] at ho11; rw [← Ny675.out] at ho11)); have n0_ := Aside0.mk (Kd.R_elder' (by (with_reducible repeat (first | apply Kd.R_alloc | apply Kd.R_drewN | apply Kd.R_drew)); exact HO673.out) (Kd.R_base ho11) hb); have n1_ := Aside0.mk (Kd.R_lower (Kd.R_new' ho11 (Kd.R_lt (by (with_reducible repeat (first | apply Kd.R_alloc | apply Kd.R_drewN | apply Kd.R_drew)); exact HO673.out))) (below_size (by repeat (first | (with_reducible first | exact HB.out | apply below_alloc | apply pw_below_drewN | apply below_drew1 | refine below_set ?_ GE670.out) | exact HB.out)))); have n2_ := Aside0.mk (blk_below (g := gb670) (o := .cells #[.int .i64 a0_0, .slice A0_1 l0_1.length c0_1] 38 (0, 0)) (by (with_reducible repeat (first | refine blk_drewN ?_ _ | refine blk_drew ?_ | refine blk_alloc ?_ _)); exact BK670.out) hb); have n3_ := Aside0.mk (below_step (by repeat (first | (with_reducible first | exact HB.out | apply below_alloc | apply pw_below_drewN | apply below_drew1 | refine below_set ?_ GE670.out) | exact HB.out)) hb); clear HO673; clear BK670; clear HB; have HO673 := n0_; have HO677 := n1_; have BK670 := n2_; have HB := n3_; clear n0_ n1_ n2_ n3_; clear hb ho11; obtain ⟨Ao12, co12, eo12⟩ := Kd.R_slice HO673.out; subst eo12))
    go_loopg [22] k (fun kq v22 w' => ∃ (x5_1 : List Int) (x22_1 : Int), v22 = .int .i64 x22_1 ∧ Aside0 (impl_RingLong.l0 kq t671 x5_1 (t671.length : Int) x22_1 a0_0 l0_1 = some r) ∧ Aside0 (kq ≤ k) ∧ Aside0 (Kd.R (Kd.int .i64) 3 w' w.heap.size (fun k_ => some k_ ≠ (v676 : Value).ownBlock) (.slice Ao12 t671.length co12) t671) ∧ Aside0 (Kd.R (Kd.int .i64) 3 w' w.heap.size (fun k_ => some k_ ≠ ((.slice Ao12 t671.length co12) : Value).ownBlock) v676 x5_1) ∧ Aside0 (w'.heap[gb670]? = some (.cells #[.int .i64 a0_0, (.slice A0_1 l0_1.length c0_1)] 38 (0, 0))) ∧ Aside0 (Below w.heap.size w w'))
    case atStart => exact ⟨(y675), (0), (by first | rfl | (simp; done) | (simp [*]; done)), H', ⟨Nat.le_refl _⟩, ⟨by (with_reducible repeat (first | apply Kd.R_alloc | apply Kd.R_drewN | apply Kd.R_drew)); exact Kd.R_mono HO673.out (fun _ hk => hk.2)⟩, ⟨by (with_reducible repeat (first | apply Kd.R_alloc | apply Kd.R_drewN | apply Kd.R_drew)); exact Kd.R_mono HO677.out (fun _ hk => hk.2)⟩, ⟨by (with_reducible repeat (first | refine blk_drewN ?_ _ | refine blk_drew ?_ | refine blk_alloc ?_ _)); exact BK670.out⟩, ⟨by repeat (first | (with_reducible first | exact HB.out | apply below_alloc | apply pw_below_drewN | apply below_drew1 | refine below_set ?_ GE670.out) | exact HB.out)⟩⟩
    case round =>
     clear H'
     try clear c2
     try clear p2
     try clear c3
     try clear c4
     try clear c4b0
     try clear c4b1
     try clear c5
     try clear c5b0
     try clear c5b1
     try clear hcz7_0
     try clear hcz7_1
     try clear hcz9_0
     try clear hcz9_1
     try clear hfz7_0
     try clear hfz7_1
     try clear hfz9_0
     try clear hfz9_1
     obtain ⟨x5_1, x22_1, rfl, HA, HK1, HO_3, HO_5, BK670, HB⟩ := hrel
     cases gk with
     | zero => exact absurd HA.out (by simp [impl_RingLong.l0])
     | succ k1 =>
      have H := HA.out
      clear HA
      simp only [impl_RingLong.l0] at H
      by_cases c13 : x22_1 < (t671.length : Int)
      ·rw [if_pos c13] at H
       have c13b0 : decide (x22_1 < (t671.length : Int)) = true := decide_eq_true c13
       clear c13
       by_cases c14 : 0 ≤ x22_1
       ·rw [if_pos c14] at H
        have c14b0 : decide (0 ≤ x22_1) = true := decide_eq_true c14
        clear c14
        by_cases c15 : x22_1 < (t671.length : Int)
        ·rw [if_pos c15] at H
         have c15b0 : decide (x22_1 < (t671.length : Int)) = true := decide_eq_true c15
         clear c15
         have H' := Aside0.mk H
         clear H
         have p679 : 0 ≤ (x22_1 : Int) := of_decide_eq_true (by first | (with_reducible assumption) | assumption)
         have q679 : x22_1 < (t671.length : Int) := of_decide_eq_true (by first | (with_reducible assumption) | assumption)
         obtain ⟨ad679, e679, hx679_0⟩ := Kd.at_int (Kd.R_reads' HO_3.out).2.2 x22_1 p679 q679
         cases e679
         replace p679 := eq_true p679
         replace q679 := eq_true q679
         have hcz16_0 : wr.cell? ⟨gb670, 0, none⟩ = some (.int .i64 a0_0) := (blk_cell BK670.out 0).trans rfl
         have hcz16_1 : wr.cell? ⟨gb670, 1, none⟩ = some (.slice A0_1 l0_1.length c0_1) := (blk_cell BK670.out 1).trans rfl
         have hfz16_0 := blk_frozen BK670.out 0
         have hfz16_1 := blk_frozen BK670.out 1
         go_wp2
         go_loopg [29] k1 (fun kq v29 w' => ∃ (x5_2 : List Int) (x29_2 : Int), v29 = .int .i64 x29_2 ∧ Aside0 (impl_RingLong.l1 kq t671 x5_2 (rd t671 x22_1) (t671.length : Int) x22_1 l0_1 (l0_1.length : Int) x29_2 a0_0 l0_1 = some r) ∧ Aside0 (kq ≤ k1) ∧ Aside0 (Kd.R (Kd.int .i64) 3 w' w.heap.size (fun k_ => some k_ ≠ (v676 : Value).ownBlock) (.slice (some ad679) t671.length co12) t671) ∧ Aside0 (Kd.R (Kd.int .i64) 3 w' w.heap.size (fun k_ => some k_ ≠ ((.slice (some ad679) t671.length co12) : Value).ownBlock) v676 x5_2) ∧ Aside0 (w'.heap[gb670]? = some (.cells #[.int .i64 a0_0, (.slice A0_1 l0_1.length c0_1)] 38 (0, 0))) ∧ Aside0 (Below w.heap.size w w'))
         case atStart => exact ⟨(x5_1), (0), (by first | rfl | (simp; done) | (simp [*]; done)), H', ⟨Nat.le_refl _⟩, ⟨by (with_reducible repeat (first | apply Kd.R_alloc | apply Kd.R_drewN | apply Kd.R_drew)); exact HO_3.out⟩, ⟨by (with_reducible repeat (first | apply Kd.R_alloc | apply Kd.R_drewN | apply Kd.R_drew)); exact HO_5.out⟩, ⟨by (with_reducible repeat (first | refine blk_drewN ?_ _ | refine blk_drew ?_ | refine blk_alloc ?_ _)); exact BK670.out⟩, ⟨by repeat (first | (with_reducible first | exact HB.out | apply below_alloc | apply pw_below_drewN | apply below_drew1 | refine below_set ?_ GE670.out) | exact HB.out)⟩⟩
         case round =>
          clear H'
          try clear c1
          try clear c2
          try clear p2
          try clear c3
          try clear c4
          try clear c4b0
          try clear c4b1
          try clear c5
          try clear c5b0
          try clear c5b1
          try clear p6
          try clear q6
          try clear hx6
          try clear c13
          try clear c13b0
          try clear c14
          try clear c14b0
          try clear c15
          try clear c15b0
          try clear hcz16_0
          try clear hcz16_1
          try clear hcz7_0
          try clear hcz7_1
          try clear hcz9_0
          try clear hcz9_1
          try clear hfz16_0
          try clear hfz16_1
          try clear hfz7_0
          try clear hfz7_1
          try clear hfz9_0
          try clear hfz9_1
          try clear hx679_0
          try clear p2
          try clear p679
          try clear q679
          obtain ⟨x5_2, x29_2, rfl, HA, HK2, HO_3, HO_5, BK670, HB⟩ := hrel
          cases gk with
          | zero => exact absurd HA.out (by simp [impl_RingLong.l1])
          | succ k2 =>
           have H := HA.out
           clear HA
           simp only [impl_RingLong.l1] at H
           by_cases c17 : x29_2 < (l0_1.length : Int)
           ·rw [if_pos c17] at H
            have c17b0 : decide (x29_2 < (l0_1.length : Int)) = true := decide_eq_true c17
            clear c17
            by_cases c18 : 0 ≤ x29_2
            ·rw [if_pos c18] at H
             have c18b0 : decide (0 ≤ x29_2) = true := decide_eq_true c18
             clear c18
             by_cases c19 : x29_2 < (l0_1.length : Int)
             ·rw [if_pos c19] at H
              have c19b0 : decide (x29_2 < (l0_1.length : Int)) = true := decide_eq_true c19
              clear c19
              by_cases c20 : ((rd_T45 l0_1 x29_2).f0) = (rd t671 x22_1)
              ·rw [if_pos c20] at H
               have c20b0 : (((rd_T45 l0_1 x29_2).f0) == (rd t671 x22_1)) = true := beq_iff_eq.mpr c20
               have c20b1 : (((rd_T45 l0_1 x29_2).f0) != (rd t671 x22_1)) = false := bne_eq_false_iff_eq.mpr c20
               clear c20
               by_cases c21 : 0 ≤ ((rd_T45 l0_1 x29_2).f1)
               ·rw [if_pos c21] at H
                have c21b0 : decide (0 ≤ ((rd_T45 l0_1 x29_2).f1)) = true := decide_eq_true c21
                clear c21
                by_cases c22 : ((rd_T45 l0_1 x29_2).f1) < (x5_2.length : Int)
                ·rw [if_pos c22] at H
                 have c22b0 : decide (((rd_T45 l0_1 x29_2).f1) < (x5_2.length : Int)) = true := decide_eq_true c22
                 clear c22
                 by_cases c23 : 0 ≤ (rd t671 x22_1)
                 ·rw [if_pos c23] at H
                  have c23b0 : decide (0 ≤ (rd t671 x22_1)) = true := decide_eq_true c23
                  clear c23
                  by_cases c24 : (rd t671 x22_1) < (x5_2.length : Int)
                  ·rw [if_pos c24] at H
                   have c24b0 : decide ((rd t671 x22_1) < (x5_2.length : Int)) = true := decide_eq_true c24
                   clear c24
                   obtain ⟨ji25, hji25⟩ : ∃ j_ : Int, (mx (rd x5_2 ((rd_T45 l0_1 x29_2).f1)) (wrap64 ((rd x5_2 (rd t671 x22_1)) + ((rd_T45 l0_1 x29_2).f2)))) = j_ := ⟨_, rfl⟩
                   replace H : (impl_RingLong.l1 k2 t671 (x5_2.set (((rd_T45 l0_1 x29_2).f1) : Int).toNat (ji25)) (rd t671 x22_1) (t671.length : Int) x22_1 l0_1 (l0_1.length : Int) (wrap64 (x29_2 + 1)) a0_0 l0_1) = some r := by first | (rw [hji25] at H; exact H) | (simp only [hji25] at H ⊢; exact H)
                   have hji25_ : (if (rd x5_2 ((rd_T45 l0_1 x29_2).f1)) < (wrap64 ((rd x5_2 (rd t671 x22_1)) + ((rd_T45 l0_1 x29_2).f2))) then (wrap64 ((rd x5_2 (rd t671 x22_1)) + ((rd_T45 l0_1 x29_2).f2))) else (rd x5_2 ((rd_T45 l0_1 x29_2).f1))) = ji25 := hji25
                   obtain ⟨y684, hy684⟩ : ∃ y_ : List Int, y_ = (x5_2.set (((rd_T45 l0_1 x29_2).f1) : Int).toNat (ji25)) := ⟨_, rfl⟩
                   replace H : (impl_RingLong.l1 k2 t671 y684 (rd t671 x22_1) (t671.length : Int) x22_1 l0_1 (l0_1.length : Int) (wrap64 (x29_2 + 1)) a0_0 l0_1) = some r := by first | (rw [hy684]; with_reducible exact H) | (have H2_ := (Option.bind_some _ _).symm.trans H; rw [hy684]; with_reducible exact H2_) | (have H2_ := (Option.bind_some _ _).symm.trans H; with_reducible exact H2_) | with_reducible exact H | (rw [hy684]; exact H) | exact H
                   have Ny684 := Aside0.mk hy684
                   clear hy684
                   have H' := Aside0.mk H
                   clear H
                   have p680 : 0 ≤ (x29_2 : Int) := of_decide_eq_true (by first | (with_reducible assumption) | assumption)
                   have q680 : x29_2 < (l0_1.length : Int) := of_decide_eq_true (by first | (with_reducible assumption) | assumption)
                   obtain ⟨ad680, e680, hx680_0, hx680_1, hx680_2, hx680_3, hx680_4⟩ := at_T45 HR0_1.out x29_2 p680 q680
                   cases e680
                   replace hx680_0 := (HB.out.cell (World.block_lt_of_cell? w _ hx680_0)).trans hx680_0
                   replace hx680_1 := (HB.out.cell (World.block_lt_of_cell? w _ hx680_1)).trans hx680_1
                   replace hx680_2 := (HB.out.cell (World.block_lt_of_cell? w _ hx680_2)).trans hx680_2
                   replace hx680_3 := (HB.out.cell (World.block_lt_of_cell? w _ hx680_3)).trans hx680_3
                   replace hx680_4 := (HB.out.cell (World.block_lt_of_cell? w _ hx680_4)).trans hx680_4
                   replace p680 := eq_true p680
                   replace q680 := eq_true q680
                   try go_wp2_with (first | ((with_reducible refine gate_dst (N := 9) rfl ?_); refine box_event ?hg (N := 9) ?hd (cs := #[.int .i64 0, .int .i64 0, .int .i64 0, .int .i64 0, .int .i64 0]) (t := 45) ?hr ?_; (case hd => rfl); (case hg => rfl); (case hr => first | (go_simp; done) | (go_simp; rfl)); intro gb681 hg w27 hbox hb; have n0_ := Aside0.mk (Kd.R_below (by (with_reducible repeat (first | apply Kd.R_alloc | apply Kd.R_drewN | apply Kd.R_drew)); exact HO_3.out) hb); have n1_ := Aside0.mk (Kd.R_below (by (with_reducible repeat (first | apply Kd.R_alloc | apply Kd.R_drewN | apply Kd.R_drew)); exact HO_5.out) hb); have n2_ := Aside0.mk (blk_below (g := gb670) (o := .cells #[.int .i64 a0_0, .slice (some ad680) l0_1.length c0_1] 38 (0, 0)) (by (with_reducible repeat (first | refine blk_drewN ?_ _ | refine blk_drew ?_ | refine blk_alloc ?_ _)); exact BK670.out) hb); have n3_ := Aside0.mk (below_step (by repeat (first | (with_reducible first | exact HB.out | apply below_alloc | apply pw_below_drewN | apply below_drew1 | refine below_set ?_ GE670.out) | exact HB.out)) hb); have n4_ := Aside0.mk (hbox); have n5_ := Aside0.mk ((by rw [hg]; exact (below_size (by repeat (first | (with_reducible first | exact HB.out | apply below_alloc | apply pw_below_drewN | apply below_drew1 | refine below_set ?_ GE670.out) | exact HB.out))) : w.heap.size ≤ gb681)); have n6_ := Aside0.mk ((by rw [hg]; exact (below_size (by repeat (first | (with_reducible first | exact HB.out | apply below_alloc | apply pw_below_drewN | apply below_drew1 | refine below_set ?_ GE670.out) | exact HB.out))) : w.heap.size ≤ gb681)); have n7_ := Aside0.mk ((by rw [hg]; exact Nat.ne_of_lt (blk_lt (g := gb670) (o := .cells #[.int .i64 a0_0, .slice (some ad680) l0_1.length c0_1] 38 (0, 0)) (by (with_reducible repeat (first | refine blk_drewN ?_ _ | refine blk_drew ?_ | refine blk_alloc ?_ _)); exact BK670.out)) : gb670 ≠ gb681)); have n8_ := Aside0.mk ((by rw [hg]; exact Nat.ne_of_gt (blk_lt (g := gb670) (o := .cells #[.int .i64 a0_0, .slice (some ad680) l0_1.length c0_1] 38 (0, 0)) (by (with_reducible repeat (first | refine blk_drewN ?_ _ | refine blk_drew ?_ | refine blk_alloc ?_ _)); exact BK670.out)) : gb681 ≠ gb670)); clear HO_3; clear HO_5; clear BK670; clear HB; have HO_3 := n0_; have HO_5 := n1_; have BK670 := n2_; have HB := n3_; have BK681 := n4_; have GW681 := n5_; have GE681 := n6_; have NB670_681 := n7_; have NB681_670 := n8_; clear n0_ n1_ n2_ n3_ n4_ n5_ n6_ n7_ n8_; clear hb hbox hg; have hnb28 := NB681_670.out; have hnc28 := NB670_681.out; have hcz29_0 : w27.cell? ⟨gb681, 0, none⟩ = some (.int .i64 0) := (blk_cell BK681.out 0).trans rfl; have hcz29_1 : w27.cell? ⟨gb681, 1, none⟩ = some (.int .i64 0) := (blk_cell BK681.out 1).trans rfl; have hcz29_2 : w27.cell? ⟨gb681, 2, none⟩ = some (.int .i64 0) := (blk_cell BK681.out 2).trans rfl; have hcz29_3 : w27.cell? ⟨gb681, 3, none⟩ = some (.int .i64 0) := (blk_cell BK681.out 3).trans rfl; have hcz29_4 : w27.cell? ⟨gb681, 4, none⟩ = some (.int .i64 0) := (blk_cell BK681.out 4).trans rfl; have hfz29_0 := blk_frozen BK681.out 0; have hfz29_1 := blk_frozen BK681.out 1; have hfz29_2 := blk_frozen BK681.out 2; have hfz29_3 := blk_frozen BK681.out 3; have hfz29_4 := blk_frozen BK681.out 4))
                   have n0_ : Aside0 (Kd.R (Kd.int .i64) 3 (((((w27.setCell ⟨gb681, 0, none⟩ (.int .i64 ((rd_T45 l0_1 x29_2).f0))).setCell ⟨gb681, 1, none⟩ (.int .i64 ((rd_T45 l0_1 x29_2).f1))).setCell ⟨gb681, 2, none⟩ (.int .i64 ((rd_T45 l0_1 x29_2).f2))).setCell ⟨gb681, 3, none⟩ (.int .i64 ((rd_T45 l0_1 x29_2).f3))).setCell ⟨gb681, 4, none⟩ (.int .i64 ((rd_T45 l0_1 x29_2).f4))) w.heap.size (fun k_ => some k_ ≠ (v676 : Value).ownBlock) (.slice (some ad679) t671.length co12) t671) := ⟨by (with_reducible repeat (first | apply Kd.R_alloc | apply Kd.R_drewN | apply Kd.R_drew)); exact Kd.R_mono (Kd.R_far (p := ⟨gb681, 4, none⟩) (Kd.R_far (p := ⟨gb681, 3, none⟩) (Kd.R_far (p := ⟨gb681, 2, none⟩) (Kd.R_far (p := ⟨gb681, 1, none⟩) (Kd.R_far (p := ⟨gb681, 0, none⟩) (Kd.R_types HO_3.out BK681.out (by decide)) (fun _ hk => hk.2) (.int .i64 ((rd_T45 l0_1 x29_2).f0))) (fun _ hk => hk.2) (.int .i64 ((rd_T45 l0_1 x29_2).f1))) (fun _ hk => hk.2) (.int .i64 ((rd_T45 l0_1 x29_2).f2))) (fun _ hk => hk.2) (.int .i64 ((rd_T45 l0_1 x29_2).f3))) (fun _ hk => hk.2) (.int .i64 ((rd_T45 l0_1 x29_2).f4))) (fun _ hk => hk.1)⟩
                   have n1_ : Aside0 (Kd.R (Kd.int .i64) 3 (((((w27.setCell ⟨gb681, 0, none⟩ (.int .i64 ((rd_T45 l0_1 x29_2).f0))).setCell ⟨gb681, 1, none⟩ (.int .i64 ((rd_T45 l0_1 x29_2).f1))).setCell ⟨gb681, 2, none⟩ (.int .i64 ((rd_T45 l0_1 x29_2).f2))).setCell ⟨gb681, 3, none⟩ (.int .i64 ((rd_T45 l0_1 x29_2).f3))).setCell ⟨gb681, 4, none⟩ (.int .i64 ((rd_T45 l0_1 x29_2).f4))) w.heap.size (fun k_ => some k_ ≠ (.slice (some ad679) t671.length co12 : Value).ownBlock) v676 x5_2) := ⟨by (with_reducible repeat (first | apply Kd.R_alloc | apply Kd.R_drewN | apply Kd.R_drew)); exact Kd.R_mono (Kd.R_far (p := ⟨gb681, 4, none⟩) (Kd.R_far (p := ⟨gb681, 3, none⟩) (Kd.R_far (p := ⟨gb681, 2, none⟩) (Kd.R_far (p := ⟨gb681, 1, none⟩) (Kd.R_far (p := ⟨gb681, 0, none⟩) (Kd.R_types HO_5.out BK681.out (by decide)) (fun _ hk => hk.2) (.int .i64 ((rd_T45 l0_1 x29_2).f0))) (fun _ hk => hk.2) (.int .i64 ((rd_T45 l0_1 x29_2).f1))) (fun _ hk => hk.2) (.int .i64 ((rd_T45 l0_1 x29_2).f2))) (fun _ hk => hk.2) (.int .i64 ((rd_T45 l0_1 x29_2).f3))) (fun _ hk => hk.2) (.int .i64 ((rd_T45 l0_1 x29_2).f4))) (fun _ hk => hk.1)⟩
                   have n2_ : Aside0 ((((((w27.setCell ⟨gb681, 0, none⟩ (.int .i64 ((rd_T45 l0_1 x29_2).f0))).setCell ⟨gb681, 1, none⟩ (.int .i64 ((rd_T45 l0_1 x29_2).f1))).setCell ⟨gb681, 2, none⟩ (.int .i64 ((rd_T45 l0_1 x29_2).f2))).setCell ⟨gb681, 3, none⟩ (.int .i64 ((rd_T45 l0_1 x29_2).f3))).setCell ⟨gb681, 4, none⟩ (.int .i64 ((rd_T45 l0_1 x29_2).f4))).heap[gb670]? = some (.cells #[.int .i64 a0_0, .slice (some ad680) l0_1.length c0_1] 38 (0, 0))) := ⟨by (with_reducible repeat (first | refine blk_drewN ?_ _ | refine blk_drew ?_ | refine blk_alloc ?_ _)); refine blk_far ?_ NB670_681.out _; (with_reducible repeat (first | refine blk_drewN ?_ _ | refine blk_drew ?_ | refine blk_alloc ?_ _)); refine blk_far ?_ NB670_681.out _; (with_reducible repeat (first | refine blk_drewN ?_ _ | refine blk_drew ?_ | refine blk_alloc ?_ _)); refine blk_far ?_ NB670_681.out _; (with_reducible repeat (first | refine blk_drewN ?_ _ | refine blk_drew ?_ | refine blk_alloc ?_ _)); refine blk_far ?_ NB670_681.out _; (with_reducible repeat (first | refine blk_drewN ?_ _ | refine blk_drew ?_ | refine blk_alloc ?_ _)); refine blk_far ?_ NB670_681.out _; (with_reducible repeat (first | refine blk_drewN ?_ _ | refine blk_drew ?_ | refine blk_alloc ?_ _)); exact BK670.out⟩
                   have n3_ : Aside0 ((((((w27.setCell ⟨gb681, 0, none⟩ (.int .i64 ((rd_T45 l0_1 x29_2).f0))).setCell ⟨gb681, 1, none⟩ (.int .i64 ((rd_T45 l0_1 x29_2).f1))).setCell ⟨gb681, 2, none⟩ (.int .i64 ((rd_T45 l0_1 x29_2).f2))).setCell ⟨gb681, 3, none⟩ (.int .i64 ((rd_T45 l0_1 x29_2).f3))).setCell ⟨gb681, 4, none⟩ (.int .i64 ((rd_T45 l0_1 x29_2).f4))).heap[gb681]? = some (.cells #[.int .i64 ((rd_T45 l0_1 x29_2).f0), .int .i64 ((rd_T45 l0_1 x29_2).f1), .int .i64 ((rd_T45 l0_1 x29_2).f2), .int .i64 ((rd_T45 l0_1 x29_2).f3), .int .i64 ((rd_T45 l0_1 x29_2).f4)] 45 (0, 0))) := ⟨by (with_reducible repeat (first | refine blk_drewN ?_ _ | refine blk_drew ?_ | refine blk_alloc ?_ _)); refine blk_put (cs := #[.int .i64 ((rd_T45 l0_1 x29_2).f0), .int .i64 ((rd_T45 l0_1 x29_2).f1), .int .i64 ((rd_T45 l0_1 x29_2).f2), .int .i64 ((rd_T45 l0_1 x29_2).f3), .int .i64 0]) ?_ 4 _ rfl; (with_reducible repeat (first | refine blk_drewN ?_ _ | refine blk_drew ?_ | refine blk_alloc ?_ _)); refine blk_put (cs := #[.int .i64 ((rd_T45 l0_1 x29_2).f0), .int .i64 ((rd_T45 l0_1 x29_2).f1), .int .i64 ((rd_T45 l0_1 x29_2).f2), .int .i64 0, .int .i64 0]) ?_ 3 _ rfl; (with_reducible repeat (first | refine blk_drewN ?_ _ | refine blk_drew ?_ | refine blk_alloc ?_ _)); refine blk_put (cs := #[.int .i64 ((rd_T45 l0_1 x29_2).f0), .int .i64 ((rd_T45 l0_1 x29_2).f1), .int .i64 0, .int .i64 0, .int .i64 0]) ?_ 2 _ rfl; (with_reducible repeat (first | refine blk_drewN ?_ _ | refine blk_drew ?_ | refine blk_alloc ?_ _)); refine blk_put (cs := #[.int .i64 ((rd_T45 l0_1 x29_2).f0), .int .i64 0, .int .i64 0, .int .i64 0, .int .i64 0]) ?_ 1 _ rfl; (with_reducible repeat (first | refine blk_drewN ?_ _ | refine blk_drew ?_ | refine blk_alloc ?_ _)); refine blk_put (cs := #[.int .i64 0, .int .i64 0, .int .i64 0, .int .i64 0, .int .i64 0]) ?_ 0 _ rfl; (with_reducible repeat (first | refine blk_drewN ?_ _ | refine blk_drew ?_ | refine blk_alloc ?_ _)); exact BK681.out⟩
                   have n4_ : Aside0 (Below w.heap.size w (((((w27.setCell ⟨gb681, 0, none⟩ (.int .i64 ((rd_T45 l0_1 x29_2).f0))).setCell ⟨gb681, 1, none⟩ (.int .i64 ((rd_T45 l0_1 x29_2).f1))).setCell ⟨gb681, 2, none⟩ (.int .i64 ((rd_T45 l0_1 x29_2).f2))).setCell ⟨gb681, 3, none⟩ (.int .i64 ((rd_T45 l0_1 x29_2).f3))).setCell ⟨gb681, 4, none⟩ (.int .i64 ((rd_T45 l0_1 x29_2).f4)))) := ⟨by repeat (first | (with_reducible first | exact HB.out | apply below_alloc | apply pw_below_drewN | apply below_drew1 | refine below_set ?_ GE670.out | refine below_set ?_ GE681.out) | exact HB.out)⟩
                   (try clear HO_3)
                   (try clear HO_5)
                   (try clear BK670)
                   (try clear BK681)
                   (try clear HB)
                   generalize (((((w27.setCell ⟨gb681, 0, none⟩ (.int .i64 ((rd_T45 l0_1 x29_2).f0))).setCell ⟨gb681, 1, none⟩ (.int .i64 ((rd_T45 l0_1 x29_2).f1))).setCell ⟨gb681, 2, none⟩ (.int .i64 ((rd_T45 l0_1 x29_2).f2))).setCell ⟨gb681, 3, none⟩ (.int .i64 ((rd_T45 l0_1 x29_2).f3))).setCell ⟨gb681, 4, none⟩ (.int .i64 ((rd_T45 l0_1 x29_2).f4))) = w30 at n0_ n1_ n2_ n3_ n4_ ⊢
                   have HO_3 := n0_
                   have HO_5 := n1_
                   have BK670 := n2_
                   have BK681 := n3_
                   have HB := n4_
                   clear n0_ n1_ n2_ n3_ n4_
                   have n0_ := Aside0.mk (Kd.R_drew HO_3.out)
                   have n1_ := Aside0.mk (Kd.R_drew HO_5.out)
                   have n2_ := Aside0.mk (blk_drew BK670.out)
                   have n3_ := Aside0.mk (blk_drew BK681.out)
                   have n4_ := Aside0.mk (below_drew1 HB.out)
                   clear HO_3
                   clear HO_5
                   clear BK670
                   clear BK681
                   clear HB
                   have HO_3 := n0_
                   have HO_5 := n1_
                   have BK670 := n2_
                   have BK681 := n3_
                   have HB := n4_
                   clear n0_ n1_ n2_ n3_ n4_
                   obtain ⟨Ao32, co32, eo32⟩ := Kd.R_slice HO_5.out
                   (first | subst eo32 | (injection eo32 with f1_ f2_ f3_; have f4_ := f1_.symm; have f5_ := f3_.symm; clear f1_ f2_ f3_; subst f4_; subst f5_))
                   have p682 : 0 ≤ (((rd_T45 l0_1 x29_2).f1) : Int) := of_decide_eq_true (by first | (with_reducible assumption) | assumption)
                   have q682 : ((rd_T45 l0_1 x29_2).f1) < (x5_2.length : Int) := of_decide_eq_true (by first | (with_reducible assumption) | assumption)
                   obtain ⟨ad682, e682, hx682_0⟩ := Kd.at_int (Kd.R_reads' HO_5.out).2.2 ((rd_T45 l0_1 x29_2).f1) p682 q682
                   cases e682
                   replace p682 := eq_true p682
                   replace q682 := eq_true q682
                   have p683 : 0 ≤ ((rd t671 x22_1) : Int) := of_decide_eq_true (by first | (with_reducible assumption) | assumption)
                   have q683 : (rd t671 x22_1) < (x5_2.length : Int) := of_decide_eq_true (by first | (with_reducible assumption) | assumption)
                   obtain ⟨ad683, e683, hx683_0⟩ := Kd.at_int (Kd.R_reads' HO_5.out).2.2 (rd t671 x22_1) p683 q683
                   obtain rfl : ad682 = ad683 := (by injection e683)
                   replace p683 := eq_true p683
                   replace q683 := eq_true q683
                   have p26 : 0 ≤ (((rd_T45 l0_1 x29_2).f1) : Int) := of_decide_eq_true (by first | (with_reducible assumption) | assumption)
                   have q26 : (((rd_T45 l0_1 x29_2).f1) : Int) < ((x5_2.length : Int) : Int) := of_decide_eq_true (by first | (with_reducible assumption) | assumption)
                   obtain ⟨go26, co26, eo26, gb26, gl26, cl26, HG26⟩ := Kd.R_form HO_5.out (by omega)
                   (first | cases eo26 | (injection eo26 with ea_ en_ ec_; (first | subst ea_ | (injection ea_ with ea_; subst ea_)); subst ec_; clear en_))
                   have GB26 := Aside0.mk gb26
                   have GG26 := Aside0.mk HG26
                   clear gb26 gl26 HG26
                   (first | simp only [add_plain] at hx682_0 | skip)
                   (first | simp only [add_plain] at hx683_0 | skip)
                   obtain ⟨hx26_0, hf26_0⟩ := Kd.R_celln 0 HO_5.out (((rd_T45 l0_1 x29_2).f1) : Int) p26 q26
                   replace p26 := eq_true p26
                   replace q26 := eq_true q26
                   have HP33 := Kd.R_putn HO_5.out (((rd_T45 l0_1 x29_2).f1) : Int) ji25
                   rw [← Ny684.out] at HP33
                   have HQ33 := Aside0.mk HP33
                   clear HP33
                   refine start_ (n := 18) (S := fun w' => w'.cell? ⟨gb681, 0, none⟩ = some (.int .i64 ((rd_T45 l0_1 x29_2).f0)) ∧ w'.cell? ⟨gb681, 1, none⟩ = some (.int .i64 ((rd_T45 l0_1 x29_2).f1)) ∧ w'.cell? ⟨gb681, 2, none⟩ = some (.int .i64 ((rd_T45 l0_1 x29_2).f2)) ∧ w'.cell? ⟨gb681, 3, none⟩ = some (.int .i64 ((rd_T45 l0_1 x29_2).f3)) ∧ w'.cell? ⟨gb681, 4, none⟩ = some (.int .i64 ((rd_T45 l0_1 x29_2).f4)) ∧ w'.cell? ⟨go26, (((rd_T45 l0_1 x29_2).f1)).toNat, none⟩ = some (.int .i64 (rd x5_2 ((rd_T45 l0_1 x29_2).f1))) ∧ w'.cell? ⟨go26, ((rd t671 x22_1)).toNat, none⟩ = some (.int .i64 (rd x5_2 (rd t671 x22_1)))) (ds := [17]) #[false, false, false, false, false, false, false, false, false, false, false, false, false, false, false, false, false, false] (by kernel_rfl) rfl rfl ⟨(blk_cell BK681.out 0).trans rfl, (blk_cell BK681.out 1).trans rfl, (blk_cell BK681.out 2).trans rfl, (blk_cell BK681.out 3).trans rfl, (blk_cell BK681.out 4).trans rfl, hx682_0, hx683_0⟩ (fun hHeld => ?_); refine with_tabW impl_RingLong.tab12 impl_RingLong.bits12 (fun HT_ HW_ => ?_)
                   generalize w30.drew = w31 at HO_3 HO_5 BK670 BK681 HB GG26 HQ33 hf26_0 hx26_0 hx682_0 hx683_0 hHeld ⊢
                   refine pure_ (i := 0) (N := some 37) (v := ?_) (a' := ?_) #[true, false, false, false, false, false, false, false, false, false, false, false, false, false, false, false, false, false] rfl rfl (any_of HT_.out (by kernel_rfl)) (fun _ _ _ h => h) (Or.inl ⟨by rfl, ?_⟩) ?_ ?_
                   rotate_left
                   ·intro w'
                    go_simp
                    with_reducible rfl
                   rotate_left
                   ·simp only [Act.put, List.setIfInBounds_toArray, List.set_cons_zero, List.set_cons_succ, i64_w, i32_w]
                    rfl
                   refine pure_ (i := 1) (N := some 38) (v := ?_) (a' := ?_) #[true, true, false, false, false, false, false, false, false, false, false, false, false, false, false, false, false, false] rfl rfl (any_of HT_.out (by kernel_rfl)) (fun _ _ _ h => h) (Or.inl ⟨by rfl, ?_⟩) ?_ ?_
                   rotate_left
                   ·intro w'
                    go_simp
                    with_reducible rfl
                   rotate_left
                   ·simp only [Act.put, List.setIfInBounds_toArray, List.set_cons_zero, List.set_cons_succ, i64_w, i32_w]
                    rfl
                   refine pure_ (i := 3) (N := some 40) (v := ?_) (a' := ?_) #[true, true, false, true, false, false, false, false, false, false, false, false, false, false, false, false, false, false] rfl rfl (any_of HT_.out (by kernel_rfl)) (fun _ _ _ h => h) (Or.inl ⟨by rfl, ?_⟩) ?_ ?_
                   rotate_left
                   ·intro w'
                    go_simp
                    with_reducible rfl
                   rotate_left
                   ·simp only [Act.put, List.setIfInBounds_toArray, List.set_cons_zero, List.set_cons_succ, i64_w, i32_w]
                    rfl
                   refine pure_ (i := 4) (N := some 41) (v := ?_) (a' := ?_) #[true, true, false, true, true, false, false, false, false, false, false, false, false, false, false, false, false, false] rfl rfl (any_of HT_.out (by kernel_rfl)) (fun _ _ _ h => h) (Or.inl ⟨by rfl, ?_⟩) ?_ ?_
                   rotate_left
                   ·intro w'
                    go_simp
                    with_reducible rfl
                   rotate_left
                   ·simp only [Act.put, List.setIfInBounds_toArray, List.set_cons_zero, List.set_cons_succ, i64_w, i32_w]
                    rfl
                   refine pure_ (i := 8) (N := some 45) (v := ?_) (a' := ?_) #[true, true, false, true, true, false, false, false, true, false, false, false, false, false, false, false, false, false] rfl rfl (any_of HT_.out (by kernel_rfl)) (fun _ _ _ h => h) (Or.inl ⟨by rfl, ?_⟩) ?_ ?_
                   rotate_left
                   ·intro w'
                    go_simp
                    with_reducible rfl
                   rotate_left
                   ·simp only [Act.put, List.setIfInBounds_toArray, List.set_cons_zero, List.set_cons_succ, i64_w, i32_w]
                    rfl
                   refine pure_ (i := 9) (N := some 46) (v := ?_) (a' := ?_) #[true, true, false, true, true, false, false, false, true, true, false, false, false, false, false, false, false, false] rfl rfl (any_of HT_.out (by kernel_rfl)) (fun _ _ _ h => h) (Or.inl ⟨by rfl, ?_⟩) ?_ ?_
                   rotate_left
                   ·intro w'
                    go_simp
                    with_reducible rfl
                   rotate_left
                   ·simp only [Act.put, List.setIfInBounds_toArray, List.set_cons_zero, List.set_cons_succ, i64_w, i32_w]
                    rfl
                   refine pure_ (i := 10) (N := some 47) (v := ?_) (a' := ?_) #[true, true, false, true, true, false, false, false, true, true, true, false, false, false, false, false, false, false] rfl rfl (any_of HT_.out (by kernel_rfl)) (fun _ _ _ h => h) (Or.inl ⟨by rfl, ?_⟩) ?_ ?_
                   rotate_left
                   ·intro w'
                    go_simp
                    with_reducible rfl
                   rotate_left
                   ·simp only [Act.put, List.setIfInBounds_toArray, List.set_cons_zero, List.set_cons_succ, i64_w, i32_w]
                    rfl
                   refine pure_ (i := 12) (N := some 49) (v := ?_) (a' := ?_) #[true, true, false, true, true, false, false, false, true, true, true, false, true, false, false, false, false, false] rfl rfl (any_of HT_.out (by kernel_rfl)) (fun _ _ _ h => h) (Or.inl ⟨by rfl, ?_⟩) ?_ ?_
                   rotate_left
                   ·intro w'
                    go_simp
                    with_reducible rfl
                   rotate_left
                   ·simp only [Act.put, List.setIfInBounds_toArray, List.set_cons_zero, List.set_cons_succ, i64_w, i32_w]
                    rfl
                   refine take_ (i := 2) (N := some 39) (v := ?_) (a' := ?_) #[true, true, true, true, true, false, false, false, true, true, true, false, true, false, false, false, false, false] rfl rfl (take_ofW HT_.out HW_.out (by kernel_rfl)) (fun _ _ _ h => h) (Or.inl ⟨by rfl, ?_⟩) hHeld ?_ ?_
                   rotate_left
                   ·rintro w' ⟨s0, s1, s2, s3, s4, s5, s6⟩
                    go_simp
                    with_reducible rfl
                   rotate_left
                   ·simp only [Act.put, List.setIfInBounds_toArray, List.set_cons_zero, List.set_cons_succ, i64_w, i32_w]
                    rfl
                   refine take_ (i := 5) (N := some 42) (v := ?_) (a' := ?_) #[true, true, true, true, true, true, false, false, true, true, true, false, true, false, false, false, false, false] rfl rfl (take_ofW HT_.out HW_.out (by kernel_rfl)) (fun _ _ _ h => h) (Or.inl ⟨by rfl, ?_⟩) hHeld ?_ ?_
                   rotate_left
                   ·rintro w' ⟨s0, s1, s2, s3, s4, s5, s6⟩
                    go_simp
                    with_reducible rfl
                   rotate_left
                   ·simp only [Act.put, List.setIfInBounds_toArray, List.set_cons_zero, List.set_cons_succ, i64_w, i32_w]
                    rfl
                   refine pure_ (i := 6) (N := some 43) (v := ?_) (a' := ?_) #[true, true, true, true, true, true, true, false, true, true, true, false, true, false, false, false, false, false] rfl rfl (any_of HT_.out (by kernel_rfl)) (fun _ _ _ h => h) (Or.inl ⟨by rfl, ?_⟩) ?_ ?_
                   rotate_left
                   ·intro w'
                    go_simp
                    with_reducible rfl
                   rotate_left
                   ·simp only [Act.put, List.setIfInBounds_toArray, List.set_cons_zero, List.set_cons_succ, i64_w, i32_w]
                    rfl
                   refine take_ (i := 7) (N := some 44) (v := ?_) (a' := ?_) #[true, true, true, true, true, true, true, true, true, true, true, false, true, false, false, false, false, false] rfl rfl (take_ofW HT_.out HW_.out (by kernel_rfl)) (fun _ _ _ h => h) (Or.inl ⟨by rfl, ?_⟩) hHeld ?_ ?_
                   rotate_left
                   ·rintro w' ⟨s0, s1, s2, s3, s4, s5, s6⟩
                    go_simp
                    with_reducible rfl
                   rotate_left
                   ·simp only [Act.put, List.setIfInBounds_toArray, List.set_cons_zero, List.set_cons_succ, i64_w, i32_w]
                    rfl
                   refine take_ (i := 11) (N := some 48) (v := ?_) (a' := ?_) #[true, true, true, true, true, true, true, true, true, true, true, true, true, false, false, false, false, false] rfl rfl (take_ofW HT_.out HW_.out (by kernel_rfl)) (fun _ _ _ h => h) (Or.inl ⟨by rfl, ?_⟩) hHeld ?_ ?_
                   rotate_left
                   ·rintro w' ⟨s0, s1, s2, s3, s4, s5, s6⟩
                    go_simp
                    with_reducible rfl
                   rotate_left
                   ·simp only [Act.put, List.setIfInBounds_toArray, List.set_cons_zero, List.set_cons_succ, i64_w, i32_w]
                    rfl
                   refine take_ (i := 13) (N := some 50) (v := ?_) (a' := ?_) #[true, true, true, true, true, true, true, true, true, true, true, true, true, true, false, false, false, false] rfl rfl (take_ofW HT_.out HW_.out (by kernel_rfl)) (fun _ _ _ h => h) (Or.inl ⟨by rfl, ?_⟩) hHeld ?_ ?_
                   rotate_left
                   ·rintro w' ⟨s0, s1, s2, s3, s4, s5, s6⟩
                    go_simp
                    with_reducible rfl
                   rotate_left
                   ·simp only [Act.put, List.setIfInBounds_toArray, List.set_cons_zero, List.set_cons_succ, i64_w, i32_w]
                    rfl
                   refine pure_ (i := 14) (N := some 51) (v := ?_) (a' := ?_) #[true, true, true, true, true, true, true, true, true, true, true, true, true, true, true, false, false, false] rfl rfl (any_of HT_.out (by kernel_rfl)) (fun _ _ _ h => h) (Or.inl ⟨by rfl, ?_⟩) ?_ ?_
                   rotate_left
                   ·intro w'
                    go_simp
                    with_reducible rfl
                   rotate_left
                   ·simp only [Act.put, List.setIfInBounds_toArray, List.set_cons_zero, List.set_cons_succ, i64_w, i32_w]
                    rfl
                   refine pure_ (i := 15) (N := some 52) (v := ?_) (a' := ?_) #[true, true, true, true, true, true, true, true, true, true, true, true, true, true, true, true, false, false] rfl rfl (any_of HT_.out (by kernel_rfl)) (fun _ _ _ h => h) (Or.inl ⟨by rfl, ?_⟩) ?_ ?_
                   rotate_left
                   ·intro w'
                    go_simp
                    with_reducible rfl
                   rotate_left
                   ·simp only [Act.put, List.setIfInBounds_toArray, List.set_cons_zero, List.set_cons_succ, i64_w, i32_w]
                    rfl
                   refine pure_ (i := 16) (N := some 53) (v := ?_) (a' := ?_) #[true, true, true, true, true, true, true, true, true, true, true, true, true, true, true, true, true, false] rfl rfl (any_of HT_.out (by kernel_rfl)) (fun _ _ _ h => h) (Or.inl ⟨by rfl, ?_⟩) ?_ ?_
                   rotate_left
                   ·intro w'
                    go_simp
                    with_reducible rfl
                   rotate_left
                   ·simp only [Act.put, List.setIfInBounds_toArray, List.set_cons_zero, List.set_cons_succ, i64_w, i32_w]
                    rfl
                   refine last_ (i := 17) (N := none) #[true, true, true, true, true, true, true, true, true, true, true, true, true, true, true, true, true, true] rfl rfl (one_of HT_.out (by kernel_rfl)) (by decide) (fun K hK => ?_)
                   refine skip_ (w1 := ?_) (by rfl) rfl ?_ ?_
                   rotate_left
                   ·go_simp
                    rfl
                   refine hK.out _ _ ?_
                   clear hK K
                   refine done_ (done_of HT_.out (by kernel_rfl)) ?_
                   try go_wp2
                   go_roundg k2
                   case measure => have := HK1.out; have := HK2.out; omega
                   case rel => exact ⟨(y684), (wrap64 (x29_2 + 1)), (by first | rfl | (simp; done) | (simp [*]; done)), H', ⟨by have := HK1.out; have := HK2.out; omega⟩, ⟨by (with_reducible repeat (first | apply Kd.R_alloc | apply Kd.R_drewN | apply Kd.R_drew)); exact Kd.R_mono (Kd.R_far (p := ⟨go26, (((rd_T45 l0_1 x29_2).f1) : Int).toNat, none⟩) (Kd.R_mono HO_3.out (fun k_ hk => (⟨hk, fun e_ => hk (by rw [e_]; rfl)⟩ : _ ∧ k_ ≠ go26))) (fun _ hk => hk.2) (.int .i64 ji25)) (fun _ hk => hk.1)⟩, ⟨by (with_reducible repeat (first | apply Kd.R_alloc | apply Kd.R_drewN | apply Kd.R_drew)); exact HQ33.out⟩, ⟨by (with_reducible repeat (first | refine blk_drewN ?_ _ | refine blk_drew ?_ | refine blk_alloc ?_ _)); refine blk_far ?_ (by have h_ := Kd.R_ne HO_5.out BK670.out (by decide); intro e_; exact h_ (by rw [e_]; rfl)) _; (with_reducible repeat (first | refine blk_drewN ?_ _ | refine blk_drew ?_ | refine blk_alloc ?_ _)); exact BK670.out⟩, ⟨by repeat (first | (with_reducible first | exact HB.out | apply below_alloc | apply pw_below_drewN | apply below_drew1 | refine below_set ?_ GB26.out | refine below_set ?_ GE670.out | refine below_set ?_ GE681.out) | exact HB.out)⟩⟩
                  ·rw [if_neg c24] at H
                   exact absurd H (by simp)
                 ·rw [if_neg c23] at H
                  exact absurd H (by simp)
                ·rw [if_neg c22] at H
                 exact absurd H (by simp)
               ·rw [if_neg c21] at H
                exact absurd H (by simp)
              ·rw [if_neg c20] at H
               have c20b0 : (((rd_T45 l0_1 x29_2).f0) == (rd t671 x22_1)) = false := beq_eq_false_iff_ne.mpr c20
               have c20b1 : (((rd_T45 l0_1 x29_2).f0) != (rd t671 x22_1)) = true := bne_iff_ne.mpr c20
               have H' := Aside0.mk H
               clear H
               have p680 : 0 ≤ (x29_2 : Int) := of_decide_eq_true (by first | (with_reducible assumption) | assumption)
               have q680 : x29_2 < (l0_1.length : Int) := of_decide_eq_true (by first | (with_reducible assumption) | assumption)
               obtain ⟨ad680, e680, hx680_0, hx680_1, hx680_2, hx680_3, hx680_4⟩ := at_T45 HR0_1.out x29_2 p680 q680
               cases e680
               replace hx680_0 := (HB.out.cell (World.block_lt_of_cell? w _ hx680_0)).trans hx680_0
               replace hx680_1 := (HB.out.cell (World.block_lt_of_cell? w _ hx680_1)).trans hx680_1
               replace hx680_2 := (HB.out.cell (World.block_lt_of_cell? w _ hx680_2)).trans hx680_2
               replace hx680_3 := (HB.out.cell (World.block_lt_of_cell? w _ hx680_3)).trans hx680_3
               replace hx680_4 := (HB.out.cell (World.block_lt_of_cell? w _ hx680_4)).trans hx680_4
               replace p680 := eq_true p680
               replace q680 := eq_true q680
               go_wp2_with (first | ((with_reducible refine gate_dst (N := 9) rfl ?_); refine box_event ?hg (N := 9) ?hd (cs := #[.int .i64 0, .int .i64 0, .int .i64 0, .int .i64 0, .int .i64 0]) (t := 45) ?hr ?_; (case hd => rfl); (case hg => rfl); (case hr => first | (go_simp; done) | (go_simp; rfl)); intro gb681 hg w34 hbox hb; have n0_ := Aside0.mk (Kd.R_below (by (with_reducible repeat (first | apply Kd.R_alloc | apply Kd.R_drewN | apply Kd.R_drew)); exact HO_3.out) hb); have n1_ := Aside0.mk (Kd.R_below (by (with_reducible repeat (first | apply Kd.R_alloc | apply Kd.R_drewN | apply Kd.R_drew)); exact HO_5.out) hb); have n2_ := Aside0.mk (blk_below (g := gb670) (o := .cells #[.int .i64 a0_0, .slice (some ad680) l0_1.length c0_1] 38 (0, 0)) (by (with_reducible repeat (first | refine blk_drewN ?_ _ | refine blk_drew ?_ | refine blk_alloc ?_ _)); exact BK670.out) hb); have n3_ := Aside0.mk (below_step (by repeat (first | (with_reducible first | exact HB.out | apply below_alloc | apply pw_below_drewN | apply below_drew1 | refine below_set ?_ GE670.out) | exact HB.out)) hb); have n4_ := Aside0.mk (hbox); have n5_ := Aside0.mk ((by rw [hg]; exact (below_size (by repeat (first | (with_reducible first | exact HB.out | apply below_alloc | apply pw_below_drewN | apply below_drew1 | refine below_set ?_ GE670.out) | exact HB.out))) : w.heap.size ≤ gb681)); have n6_ := Aside0.mk ((by rw [hg]; exact (below_size (by repeat (first | (with_reducible first | exact HB.out | apply below_alloc | apply pw_below_drewN | apply below_drew1 | refine below_set ?_ GE670.out) | exact HB.out))) : w.heap.size ≤ gb681)); have n7_ := Aside0.mk ((by rw [hg]; exact Nat.ne_of_lt (blk_lt (g := gb670) (o := .cells #[.int .i64 a0_0, .slice (some ad680) l0_1.length c0_1] 38 (0, 0)) (by (with_reducible repeat (first | refine blk_drewN ?_ _ | refine blk_drew ?_ | refine blk_alloc ?_ _)); exact BK670.out)) : gb670 ≠ gb681)); have n8_ := Aside0.mk ((by rw [hg]; exact Nat.ne_of_gt (blk_lt (g := gb670) (o := .cells #[.int .i64 a0_0, .slice (some ad680) l0_1.length c0_1] 38 (0, 0)) (by (with_reducible repeat (first | refine blk_drewN ?_ _ | refine blk_drew ?_ | refine blk_alloc ?_ _)); exact BK670.out)) : gb681 ≠ gb670)); clear HO_3; clear HO_5; clear BK670; clear HB; have HO_3 := n0_; have HO_5 := n1_; have BK670 := n2_; have HB := n3_; have BK681 := n4_; have GW681 := n5_; have GE681 := n6_; have NB670_681 := n7_; have NB681_670 := n8_; clear n0_ n1_ n2_ n3_ n4_ n5_ n6_ n7_ n8_; clear hb hbox hg; have hnb35 := NB681_670.out; have hnc35 := NB670_681.out; have hcz36_0 : w34.cell? ⟨gb681, 0, none⟩ = some (.int .i64 0) := (blk_cell BK681.out 0).trans rfl; have hcz36_1 : w34.cell? ⟨gb681, 1, none⟩ = some (.int .i64 0) := (blk_cell BK681.out 1).trans rfl; have hcz36_2 : w34.cell? ⟨gb681, 2, none⟩ = some (.int .i64 0) := (blk_cell BK681.out 2).trans rfl; have hcz36_3 : w34.cell? ⟨gb681, 3, none⟩ = some (.int .i64 0) := (blk_cell BK681.out 3).trans rfl; have hcz36_4 : w34.cell? ⟨gb681, 4, none⟩ = some (.int .i64 0) := (blk_cell BK681.out 4).trans rfl; have hfz36_0 := blk_frozen BK681.out 0; have hfz36_1 := blk_frozen BK681.out 1; have hfz36_2 := blk_frozen BK681.out 2; have hfz36_3 := blk_frozen BK681.out 3; have hfz36_4 := blk_frozen BK681.out 4))
               go_roundg k2
               case measure => have := HK1.out; have := HK2.out; omega
               case rel => exact ⟨(x5_2), (wrap64 (x29_2 + 1)), (by first | rfl | (simp; done) | (simp [*]; done)), H', ⟨by have := HK1.out; have := HK2.out; omega⟩, ⟨by (with_reducible repeat (first | apply Kd.R_alloc | apply Kd.R_drewN | apply Kd.R_drew)); exact Kd.R_mono (Kd.R_far (p := ⟨gb681, 4, none⟩) (Kd.R_far (p := ⟨gb681, 3, none⟩) (Kd.R_far (p := ⟨gb681, 2, none⟩) (Kd.R_far (p := ⟨gb681, 1, none⟩) (Kd.R_far (p := ⟨gb681, 0, none⟩) (Kd.R_types HO_3.out BK681.out (by decide)) (fun _ hk => hk.2) (.int .i64 ((rd_T45 l0_1 x29_2).f0))) (fun _ hk => hk.2) (.int .i64 ((rd_T45 l0_1 x29_2).f1))) (fun _ hk => hk.2) (.int .i64 ((rd_T45 l0_1 x29_2).f2))) (fun _ hk => hk.2) (.int .i64 ((rd_T45 l0_1 x29_2).f3))) (fun _ hk => hk.2) (.int .i64 ((rd_T45 l0_1 x29_2).f4))) (fun _ hk => hk.1)⟩, ⟨by (with_reducible repeat (first | apply Kd.R_alloc | apply Kd.R_drewN | apply Kd.R_drew)); exact Kd.R_mono (Kd.R_far (p := ⟨gb681, 4, none⟩) (Kd.R_far (p := ⟨gb681, 3, none⟩) (Kd.R_far (p := ⟨gb681, 2, none⟩) (Kd.R_far (p := ⟨gb681, 1, none⟩) (Kd.R_far (p := ⟨gb681, 0, none⟩) (Kd.R_types HO_5.out BK681.out (by decide)) (fun _ hk => hk.2) (.int .i64 ((rd_T45 l0_1 x29_2).f0))) (fun _ hk => hk.2) (.int .i64 ((rd_T45 l0_1 x29_2).f1))) (fun _ hk => hk.2) (.int .i64 ((rd_T45 l0_1 x29_2).f2))) (fun _ hk => hk.2) (.int .i64 ((rd_T45 l0_1 x29_2).f3))) (fun _ hk => hk.2) (.int .i64 ((rd_T45 l0_1 x29_2).f4))) (fun _ hk => hk.1)⟩, ⟨by (with_reducible repeat (first | refine blk_drewN ?_ _ | refine blk_drew ?_ | refine blk_alloc ?_ _)); refine blk_far ?_ NB670_681.out _; (with_reducible repeat (first | refine blk_drewN ?_ _ | refine blk_drew ?_ | refine blk_alloc ?_ _)); refine blk_far ?_ NB670_681.out _; (with_reducible repeat (first | refine blk_drewN ?_ _ | refine blk_drew ?_ | refine blk_alloc ?_ _)); refine blk_far ?_ NB670_681.out _; (with_reducible repeat (first | refine blk_drewN ?_ _ | refine blk_drew ?_ | refine blk_alloc ?_ _)); refine blk_far ?_ NB670_681.out _; (with_reducible repeat (first | refine blk_drewN ?_ _ | refine blk_drew ?_ | refine blk_alloc ?_ _)); refine blk_far ?_ NB670_681.out _; (with_reducible repeat (first | refine blk_drewN ?_ _ | refine blk_drew ?_ | refine blk_alloc ?_ _)); exact BK670.out⟩, ⟨by repeat (first | (with_reducible first | exact HB.out | apply below_alloc | apply pw_below_drewN | apply below_drew1 | refine below_set ?_ GE670.out | refine below_set ?_ GE681.out) | exact HB.out)⟩⟩
             ·rw [if_neg c19] at H
              exact absurd H (by simp)
            ·rw [if_neg c18] at H
             exact absurd H (by simp)
           ·rw [if_neg c17] at H
            have c17b0 : decide (x29_2 < (l0_1.length : Int)) = false := decide_eq_false c17
            clear c17
            have H' := Aside0.mk H
            clear H
            go_wp2
            go_roundg k2
            case measure => have := HK1.out; have := HK2.out; omega
            case rel => exact ⟨(x5_2), (wrap64 (x22_1 + 1)), (by first | rfl | (simp; done) | (simp [*]; done)), H', ⟨by have := HK1.out; have := HK2.out; omega⟩, ⟨by (with_reducible repeat (first | apply Kd.R_alloc | apply Kd.R_drewN | apply Kd.R_drew)); exact HO_3.out⟩, ⟨by (with_reducible repeat (first | apply Kd.R_alloc | apply Kd.R_drewN | apply Kd.R_drew)); exact HO_5.out⟩, ⟨by (with_reducible repeat (first | refine blk_drewN ?_ _ | refine blk_drew ?_ | refine blk_alloc ?_ _)); exact BK670.out⟩, ⟨by repeat (first | (with_reducible first | exact HB.out | apply below_alloc | apply pw_below_drewN | apply below_drew1 | refine below_set ?_ GE670.out) | exact HB.out)⟩⟩
        ·rw [if_neg c15] at H
         exact absurd H (by simp)
       ·rw [if_neg c14] at H
        exact absurd H (by simp)
      ·rw [if_neg c13] at H
       have c13b0 : decide (x22_1 < (t671.length : Int)) = false := decide_eq_false c13
       clear c13
       replace H := Option.bind_eq_some_iff.mp H
       obtain ⟨t678, A370, H⟩ := H
       replace H : (some t678) = some r := H
       have A37 := Aside0.mk A370
       clear A370
       obtain rfl := Option.some.inj H
       obtain ⟨Ao38, co38, eo38⟩ := Kd.R_slice HO_5.out
       subst eo38
       go_wp2_with (first | ((with_reducible refine gate_callee (f := 88) rfl ?_); refine goesL_ (some 57) rfl rfl Try.func88 (by kernel_rfl) rfl #[.slice Ao38 x5_1.length co38] rfl (by (try simp only [List.map_toArray, List.map_cons, List.map_nil]); first | done | rfl | (simp only [List.length_drop, List.length_take]; rfl)) ?_; (with_reducible refine (slices_Max_int_int.calls _ _ x5_1 t678 _ ?side1 ?side2 A37.out).mono ?_); (case side1 => repeat (first | exact (Kd.R_reads' HO_5.out).2.2 | (with_reducible refine Kd.C_alloc ?_ _) | (with_reducible refine Kd.C_drewN ?_ _) | (with_reducible refine Kd.C_drew ?_))); (case side2 => exact (Kd.R_reads' HO_5.out).2.1); rintro e w39 ⟨rfl, hb⟩; refine ⟨_, rfl, ?_⟩; have n0_ := Aside0.mk (Kd.R_below (by (with_reducible repeat (first | apply Kd.R_alloc | apply Kd.R_drewN | apply Kd.R_drew)); exact HO_3.out) hb); have n1_ := Aside0.mk (Kd.R_below (by (with_reducible repeat (first | apply Kd.R_alloc | apply Kd.R_drewN | apply Kd.R_drew)); exact HO_5.out) hb); have n2_ := Aside0.mk (blk_below (g := gb670) (o := .cells #[.int .i64 a0_0, .slice A0_1 l0_1.length c0_1] 38 (0, 0)) (by (with_reducible repeat (first | refine blk_drewN ?_ _ | refine blk_drew ?_ | refine blk_alloc ?_ _)); exact BK670.out) hb); have n3_ := Aside0.mk (below_step (by repeat (first | (with_reducible first | exact HB.out | apply below_alloc | apply pw_below_drewN | apply below_drew1 | refine below_set ?_ GE670.out) | exact HB.out)) hb); clear HO_3; clear HO_5; clear BK670; clear HB; have HO_3 := n0_; have HO_5 := n1_; have BK670 := n2_; have HB := n3_; clear n0_ n1_ n2_ n3_; (try clear hb); (try clear hb2); (try clear hk); (try clear hi)))
       go_ret
       exact ⟨by first | rfl | (simp [errW_none, errW_some] <;> rfl) | (simp [*, errW_none, errW_some] <;> rfl), by repeat (first | (with_reducible first | exact HB.out | apply below_alloc | apply pw_below_drewN | apply below_drew1 | refine below_set ?_ GE670.out) | exact HB.out)⟩
   ·rw [if_neg c5] at H
    exact absurd H (by simp)
  ·rw [if_neg c4] at H
   exact absurd H (by simp)
 ·replace c3 := Bool.eq_false_iff.mpr c3
  subst c3
  have H1 : (some (-1)) = some r := by rw [if_neg (show ¬ (false = true) by decide)] at H; exact H
  clear H
  have H := H1
  clear H1
  obtain rfl := Option.some.inj H
  go_enter Try.func44, Try.ntmps44
  go_wp2_with (first | ((with_reducible refine gate_dst (N := 1) rfl ?_); refine box_event ?hg (N := 1) ?hd (cs := #[.int .i64 a0_0, .slice A0_1 l0_1.length c0_1]) (t := 38) ?hr ?_; (case hd => rfl); (case hg => rfl); (case hr => first | (go_simp; done) | (go_simp; rfl)); intro gb670 hg w40 hbox hb; have n0_ := Aside0.mk (below_step (by repeat (first | (with_reducible first | exact HB.out | apply below_alloc | apply pw_below_drewN | apply below_drew1) | exact HB.out)) hb); have n1_ := Aside0.mk (hbox); have n2_ := Aside0.mk ((by rw [hg]; exact (below_size (by repeat (first | (with_reducible first | exact HB.out | apply below_alloc | apply pw_below_drewN | apply below_drew1) | exact HB.out))) : w.heap.size ≤ gb670)); have n3_ := Aside0.mk ((by rw [hg]; exact (below_size (by repeat (first | (with_reducible first | exact HB.out | apply below_alloc | apply pw_below_drewN | apply below_drew1) | exact HB.out))) : w.heap.size ≤ gb670)); clear HB; have HB := n0_; have BK670 := n1_; have GW670 := n2_; have GE670 := n3_; clear n0_ n1_ n2_ n3_; clear hb hbox hg; have hcz41_0 : w40.cell? ⟨gb670, 0, none⟩ = some (.int .i64 a0_0) := (blk_cell BK670.out 0).trans rfl; have hcz41_1 : w40.cell? ⟨gb670, 1, none⟩ = some (.slice A0_1 l0_1.length c0_1) := (blk_cell BK670.out 1).trans rfl; have hfz41_0 := blk_frozen BK670.out 0; have hfz41_1 := blk_frozen BK670.out 1) | ((with_reducible refine gate_callee (f := 24) rfl ?_); refine goesL_ (some 12) rfl rfl Try.func24 (by kernel_rfl) rfl #[.agg #[.int .i64 a0_0, .slice A0_1 l0_1.length c0_1]] rfl (by (try simp only [List.map_toArray, List.map_cons, List.map_nil]); first | done | rfl | (simp only [List.length_drop, List.length_take]; rfl)) ?_; (with_reducible refine (impl_RingOrder.calls a0_0 _ _ l0_1 t671 false _ ?side1 ?side2 A2.out).mono ?_); (case side1 => repeat (first | exact (Kd.C_below HR0_1.out HB.out) | (with_reducible refine Kd.C_alloc ?_ _) | (with_reducible refine Kd.C_drewN ?_ _) | (with_reducible refine Kd.C_drew ?_))); (case side2 => exact HC0_1.out); rintro e w42 ⟨v672, rfl, ho0, hb⟩; refine ⟨_, rfl, ?_⟩; have n0_ := Aside0.mk (Kd.R_lower ho0 (below_size (by repeat (first | (with_reducible first | exact HB.out | apply below_alloc | apply pw_below_drewN | apply below_drew1 | refine below_set ?_ GE670.out) | exact HB.out)))); have n1_ := Aside0.mk (blk_below (g := gb670) (o := .cells #[.int .i64 a0_0, .slice A0_1 l0_1.length c0_1] 38 (0, 0)) (by (with_reducible repeat (first | refine blk_drewN ?_ _ | refine blk_drew ?_ | refine blk_alloc ?_ _)); exact BK670.out) hb); have n2_ := Aside0.mk (below_step (by repeat (first | (with_reducible first | exact HB.out | apply below_alloc | apply pw_below_drewN | apply below_drew1 | refine below_set ?_ GE670.out) | exact HB.out)) hb); clear BK670; clear HB; have HO673 := n0_; have BK670 := n1_; have HB := n2_; clear n0_ n1_ n2_; (try clear hb); (try clear hb2); (try clear hk); (try clear hi); (try clear ho0)))
  go_ret
  exact ⟨by first | rfl | (simp [errW_none, errW_some] <;> rfl) | (simp [*, errW_none, errW_some] <;> rfl), by repeat (first | (with_reducible first | exact HB.out | apply below_alloc | apply pw_below_drewN | apply below_drew1 | refine below_set ?_ GE670.out) | exact HB.out)⟩
end Go.Proofs.Ytmabopomecdidaa.Pr
end
section
namespace Go.Proofs.Ytmabopomecdidaa.Pr
open Go.RowKit Go.Proofs.YtmabopomecdidaaW.PrintWords Go.Proofs.YtmabopomecdidaaW.PrintLast Go.Proofs.YtmabopomecdidaaW.PrintMore
attribute [local go_sem] max2_int min2_int max_two min_two max_three min_three max_four min_four
set_option linter.unusedVariables false
set_option linter.unusedSimpArgs false
def laws_FnExactRingLong.f (k : Nat) (a0_0 : Int) (l0_1 : List (S117)) : Option (Bool) := (laws_szNet.f a0_0 l0_1 1048576).bind fun t686 => (if t686 < 0 then (some true) else ((laws_toNet.f k a0_0 l0_1).bind fun bt687 => ((spec_RingLong.f k bt687.1 bt687.2).bind fun t691 => ((laws_toNet.f k a0_0 l0_1).bind fun bt692 => ((impl_RingLong.f k bt692.1 bt692.2).bind fun t697 => (if t697 = t691 then ((laws_toNet.f k a0_0 l0_1).bind fun bt698 => ((laws_eqNet.f k bt692.1 bt692.2 bt698.1 bt698.2).bind fun t702 => (if t702 = true then (some true) else (some false)))) else (some false)))))))
theorem laws_FnExactRingLong.mono : ∀ a0 a1 k, LeO (laws_FnExactRingLong.f k a0 a1) (laws_FnExactRingLong.f (k + 1) a0 a1) := by
 intro a0 a1 k
 unfold laws_FnExactRingLong.f
 repeat' first
   | (with_reducible exact impl_RingLong.mono _ _ _)
   | (with_reducible exact laws_eqNet.mono _ _ _ _ _)
   | (with_reducible exact laws_toNet.mono _ _ _)
   | (with_reducible exact spec_RingLong.mono _ _ _)
   | (with_reducible exact LeO.refl _)
   | (with_reducible exact LeO.none _)
   | (with_reducible refine LeO.ite ?_ ?_)
   | (with_reducible refine LeO.bind ?_ (fun _ => ?_))
   | exact impl_RingLong.mono _ _ _
   | exact laws_eqNet.mono _ _ _ _ _
   | exact laws_toNet.mono _ _ _
   | exact spec_RingLong.mono _ _ _
   | exact LeO.none _
   | refine LeO.ite ?_ ?_
   | refine LeO.bind ?_ (fun _ => ?_)
set_option maxHeartbeats 8000000 in
set_option maxRecDepth 100000 in
theorem laws_FnExactRingLong.calls (k : Nat) (a0_0 : Int) (A0_1 : Option Addr) (c0_1 : Nat) (l0_1 : List (S117)) (r : Bool) (w : World) (hr0_1 : Kd.C k117 w A0_1 l0_1.length l0_1) (hc0_1 : l0_1.length ≤ c0_1) (h : laws_FnExactRingLong.f k a0_0 l0_1 = some r) :
  Calls Try.prog 7 #[.agg #[.int .i64 a0_0, .slice A0_1 l0_1.length c0_1]] w fun e w' => e = .returned (.bool r) ∧ Below w.heap.size w w' := by
 have hu55 := Try.underlying55
 have hu38 := Try.underlying38
 have HR0_1 := Aside0.mk hr0_1
 have HC0_1 := Aside0.mk hc0_1
 clear hr0_1 hc0_1
 have HB := Aside0.mk (Below.refl w.heap.size w)
 have H : ((laws_szNet.f a0_0 l0_1 1048576).bind fun t686 => (if t686 < 0 then (some true) else ((laws_toNet.f k a0_0 l0_1).bind fun bt687 => ((spec_RingLong.f k bt687.1 bt687.2).bind fun t691 => ((laws_toNet.f k a0_0 l0_1).bind fun bt692 => ((impl_RingLong.f k bt692.1 bt692.2).bind fun t697 => (if t697 = t691 then ((laws_toNet.f k a0_0 l0_1).bind fun bt698 => ((laws_eqNet.f k bt692.1 bt692.2 bt698.1 bt698.2).bind fun t702 => (if t702 = true then (some true) else (some false)))) else (some false)))))))) = some r := h
 clear h
 replace H := Option.bind_eq_some_iff.mp H
 obtain ⟨t686, A20, H⟩ := H
 replace H : (if t686 < 0 then (some true) else ((laws_toNet.f k a0_0 l0_1).bind fun bt687 => ((spec_RingLong.f k bt687.1 bt687.2).bind fun t691 => ((laws_toNet.f k a0_0 l0_1).bind fun bt692 => ((impl_RingLong.f k bt692.1 bt692.2).bind fun t697 => (if t697 = t691 then ((laws_toNet.f k a0_0 l0_1).bind fun bt698 => ((laws_eqNet.f k bt692.1 bt692.2 bt698.1 bt698.2).bind fun t702 => (if t702 = true then (some true) else (some false)))) else (some false))))))) = some r := H
 have A2 := Aside0.mk A20
 clear A20
 by_cases c3 : t686 < 0
 ·rw [if_pos c3] at H
  have c3b0 : decide (t686 < 0) = true := decide_eq_true c3
  clear c3
  obtain rfl := Option.some.inj H
  go_enter Try.func7, Try.ntmps7
  go_wp2_with (first | ((with_reducible refine gate_dst (N := 1) rfl ?_); refine box_event ?hg (N := 1) ?hd (cs := #[.int .i64 a0_0, .slice A0_1 l0_1.length c0_1]) (t := 55) ?hr ?_; (case hd => rfl); (case hg => rfl); (case hr => first | (go_simp; done) | (go_simp; rfl)); intro gb685 hg w4 hbox hb; have n0_ := Aside0.mk (below_step (by repeat (first | (with_reducible first | exact HB.out | apply below_alloc | apply pw_below_drewN | apply below_drew1) | exact HB.out)) hb); have n1_ := Aside0.mk (hbox); have n2_ := Aside0.mk ((by rw [hg]; exact (below_size (by repeat (first | (with_reducible first | exact HB.out | apply below_alloc | apply pw_below_drewN | apply below_drew1) | exact HB.out))) : w.heap.size ≤ gb685)); have n3_ := Aside0.mk ((by rw [hg]; exact (below_size (by repeat (first | (with_reducible first | exact HB.out | apply below_alloc | apply pw_below_drewN | apply below_drew1) | exact HB.out))) : w.heap.size ≤ gb685)); clear HB; have HB := n0_; have BK685 := n1_; have GW685 := n2_; have GE685 := n3_; clear n0_ n1_ n2_ n3_; clear hb hbox hg; have hcz5_0 : w4.cell? ⟨gb685, 0, none⟩ = some (.int .i64 a0_0) := (blk_cell BK685.out 0).trans rfl; have hcz5_1 : w4.cell? ⟨gb685, 1, none⟩ = some (.slice A0_1 l0_1.length c0_1) := (blk_cell BK685.out 1).trans rfl; have hfz5_0 := blk_frozen BK685.out 0; have hfz5_1 := blk_frozen BK685.out 1) | ((with_reducible refine gate_callee (f := 33) rfl ?_); refine goesL_ (some 9) rfl rfl Try.func33 (by kernel_rfl) rfl #[.agg #[.int .i64 a0_0, .slice A0_1 l0_1.length c0_1], .int .i64 1048576] rfl (by (try simp only [List.map_toArray, List.map_cons, List.map_nil]); first | done | rfl | (simp only [List.length_drop, List.length_take]; rfl)) ?_; (with_reducible refine (laws_szNet.calls a0_0 _ _ l0_1 1048576 t686 _ ?side1 ?side2 A2.out).mono ?_); (case side1 => repeat (first | exact (Kd.C_below HR0_1.out HB.out) | (with_reducible refine Kd.C_alloc ?_ _) | (with_reducible refine Kd.C_drewN ?_ _) | (with_reducible refine Kd.C_drew ?_))); (case side2 => exact HC0_1.out); rintro e w6 ⟨rfl, hb⟩; refine ⟨_, rfl, ?_⟩; have n0_ := Aside0.mk (blk_below (g := gb685) (o := .cells #[.int .i64 a0_0, .slice A0_1 l0_1.length c0_1] 55 (0, 0)) (by (with_reducible repeat (first | refine blk_drewN ?_ _ | refine blk_drew ?_ | refine blk_alloc ?_ _)); exact BK685.out) hb); have n1_ := Aside0.mk (below_step (by repeat (first | (with_reducible first | exact HB.out | apply below_alloc | apply pw_below_drewN | apply below_drew1 | refine below_set ?_ GE685.out) | exact HB.out)) hb); clear BK685; clear HB; have BK685 := n0_; have HB := n1_; clear n0_ n1_; (try clear hb); (try clear hb2); (try clear hk); (try clear hi)))
  go_ret
  exact ⟨by first | rfl | (simp [errW_none, errW_some] <;> rfl) | (simp [*, errW_none, errW_some] <;> rfl), by repeat (first | (with_reducible first | exact HB.out | apply below_alloc | apply pw_below_drewN | apply below_drew1 | refine below_set ?_ GE685.out) | exact HB.out)⟩
 ·rw [if_neg c3] at H
  have c3b0 : decide (t686 < 0) = false := decide_eq_false c3
  clear c3
  replace H := Option.bind_eq_some_iff.mp H
  obtain ⟨⟨t687, t688⟩, A70, H⟩ := H
  replace H : ((spec_RingLong.f k t687 t688).bind fun t691 => ((laws_toNet.f k a0_0 l0_1).bind fun bt692 => ((impl_RingLong.f k bt692.1 bt692.2).bind fun t697 => (if t697 = t691 then ((laws_toNet.f k a0_0 l0_1).bind fun bt698 => ((laws_eqNet.f k bt692.1 bt692.2 bt698.1 bt698.2).bind fun t702 => (if t702 = true then (some true) else (some false)))) else (some false))))) = some r := H
  have A7 := Aside0.mk A70
  clear A70
  replace H := Option.bind_eq_some_iff.mp H
  obtain ⟨t691, A80, H⟩ := H
  replace H : ((laws_toNet.f k a0_0 l0_1).bind fun bt692 => ((impl_RingLong.f k bt692.1 bt692.2).bind fun t697 => (if t697 = t691 then ((laws_toNet.f k a0_0 l0_1).bind fun bt698 => ((laws_eqNet.f k bt692.1 bt692.2 bt698.1 bt698.2).bind fun t702 => (if t702 = true then (some true) else (some false)))) else (some false)))) = some r := H
  have A8 := Aside0.mk A80
  clear A80
  replace H := Option.bind_eq_some_iff.mp H
  obtain ⟨⟨t692, t693⟩, A90, H⟩ := H
  replace H : ((impl_RingLong.f k t692 t693).bind fun t697 => (if t697 = t691 then ((laws_toNet.f k a0_0 l0_1).bind fun bt698 => ((laws_eqNet.f k t692 t693 bt698.1 bt698.2).bind fun t702 => (if t702 = true then (some true) else (some false)))) else (some false))) = some r := H
  have A9 := Aside0.mk A90
  clear A90
  replace H := Option.bind_eq_some_iff.mp H
  obtain ⟨t697, A100, H⟩ := H
  replace H : (if t697 = t691 then ((laws_toNet.f k a0_0 l0_1).bind fun bt698 => ((laws_eqNet.f k t692 t693 bt698.1 bt698.2).bind fun t702 => (if t702 = true then (some true) else (some false)))) else (some false)) = some r := H
  have A10 := Aside0.mk A100
  clear A100
  by_cases c11 : t697 = t691
  ·rw [if_pos c11] at H
   have c11b0 : (t697 == t691) = true := beq_iff_eq.mpr c11
   have c11b1 : (t697 != t691) = false := bne_eq_false_iff_eq.mpr c11
   clear c11
   replace H := Option.bind_eq_some_iff.mp H
   obtain ⟨⟨t698, t699⟩, A120, H⟩ := H
   replace H : ((laws_eqNet.f k t692 t693 t698 t699).bind fun t702 => (if t702 = true then (some true) else (some false))) = some r := H
   have A12 := Aside0.mk A120
   clear A120
   replace H := Option.bind_eq_some_iff.mp H
   obtain ⟨t702, A130, H⟩ := H
   replace H : (if t702 = true then (some true) else (some false)) = some r := H
   have A13 := Aside0.mk A130
   clear A130
   by_cases c14 : t702 = true
   ·subst c14
    have H1 : (some true) = some r := by rw [if_pos rfl] at H; exact H
    clear H
    have H := H1
    clear H1
    obtain rfl := Option.some.inj H
    go_enter Try.func7, Try.ntmps7
    try go_wp2_with (first | ((with_reducible refine gate_dst (N := 1) rfl ?_); refine box_event ?hg (N := 1) ?hd (cs := #[.int .i64 a0_0, .slice A0_1 l0_1.length c0_1]) (t := 55) ?hr ?_; (case hd => rfl); (case hg => rfl); (case hr => first | (go_simp; done) | (go_simp; rfl)); intro gb685 hg w15 hbox hb; have n0_ := Aside0.mk (below_step (by repeat (first | (with_reducible first | exact HB.out | apply below_alloc | apply pw_below_drewN | apply below_drew1) | exact HB.out)) hb); have n1_ := Aside0.mk (hbox); have n2_ := Aside0.mk ((by rw [hg]; exact (below_size (by repeat (first | (with_reducible first | exact HB.out | apply below_alloc | apply pw_below_drewN | apply below_drew1) | exact HB.out))) : w.heap.size ≤ gb685)); have n3_ := Aside0.mk ((by rw [hg]; exact (below_size (by repeat (first | (with_reducible first | exact HB.out | apply below_alloc | apply pw_below_drewN | apply below_drew1) | exact HB.out))) : w.heap.size ≤ gb685)); clear HB; have HB := n0_; have BK685 := n1_; have GW685 := n2_; have GE685 := n3_; clear n0_ n1_ n2_ n3_; clear hb hbox hg; have hcz16_0 : w15.cell? ⟨gb685, 0, none⟩ = some (.int .i64 a0_0) := (blk_cell BK685.out 0).trans rfl; have hcz16_1 : w15.cell? ⟨gb685, 1, none⟩ = some (.slice A0_1 l0_1.length c0_1) := (blk_cell BK685.out 1).trans rfl; have hfz16_0 := blk_frozen BK685.out 0; have hfz16_1 := blk_frozen BK685.out 1) | ((with_reducible refine gate_callee (f := 33) rfl ?_); refine goesL_ (some 9) rfl rfl Try.func33 (by kernel_rfl) rfl #[.agg #[.int .i64 a0_0, .slice A0_1 l0_1.length c0_1], .int .i64 1048576] rfl (by (try simp only [List.map_toArray, List.map_cons, List.map_nil]); first | done | rfl | (simp only [List.length_drop, List.length_take]; rfl)) ?_; (with_reducible refine (laws_szNet.calls a0_0 _ _ l0_1 1048576 t686 _ ?side1 ?side2 A2.out).mono ?_); (case side1 => repeat (first | exact (Kd.C_below HR0_1.out HB.out) | (with_reducible refine Kd.C_alloc ?_ _) | (with_reducible refine Kd.C_drewN ?_ _) | (with_reducible refine Kd.C_drew ?_))); (case side2 => exact HC0_1.out); rintro e w17 ⟨rfl, hb⟩; refine ⟨_, rfl, ?_⟩; have n0_ := Aside0.mk (blk_below (g := gb685) (o := .cells #[.int .i64 a0_0, .slice A0_1 l0_1.length c0_1] 55 (0, 0)) (by (with_reducible repeat (first | refine blk_drewN ?_ _ | refine blk_drew ?_ | refine blk_alloc ?_ _)); exact BK685.out) hb); have n1_ := Aside0.mk (below_step (by repeat (first | (with_reducible first | exact HB.out | apply below_alloc | apply pw_below_drewN | apply below_drew1 | refine below_set ?_ GE685.out) | exact HB.out)) hb); clear BK685; clear HB; have BK685 := n0_; have HB := n1_; clear n0_ n1_; (try clear hb); (try clear hb2); (try clear hk); (try clear hi); have hcz18_0 : w17.cell? ⟨gb685, 0, none⟩ = some (.int .i64 a0_0) := (blk_cell BK685.out 0).trans rfl; have hcz18_1 : w17.cell? ⟨gb685, 1, none⟩ = some (.slice A0_1 l0_1.length c0_1) := (blk_cell BK685.out 1).trans rfl; have hfz18_0 := blk_frozen BK685.out 0; have hfz18_1 := blk_frozen BK685.out 1) | ((with_reducible refine gate_callee (f := 35) rfl ?_); refine goesL_ (some 13) rfl rfl Try.func35 (by kernel_rfl) rfl #[.agg #[.int .i64 a0_0, .slice A0_1 l0_1.length c0_1]] rfl (by (try simp only [List.map_toArray, List.map_cons, List.map_nil]); first | done | rfl | (simp only [List.length_drop, List.length_take]; rfl)) ?_; (with_reducible refine (laws_toNet.calls k a0_0 _ _ l0_1 t687 t688 _ ?side1 ?side2 A7.out).mono ?_); (case side1 => repeat (first | exact (Kd.C_below HR0_1.out HB.out) | (with_reducible refine Kd.C_alloc ?_ _) | (with_reducible refine Kd.C_drewN ?_ _) | (with_reducible refine Kd.C_drew ?_))); (case side2 => exact HC0_1.out); rintro e w19 ⟨v689, rfl, ho0, hb⟩; refine ⟨_, rfl, ?_⟩; have n0_ := Aside0.mk (Kd.R_lower ho0 (below_size (by repeat (first | (with_reducible first | exact HB.out | apply below_alloc | apply pw_below_drewN | apply below_drew1 | refine below_set ?_ GE685.out) | exact HB.out)))); have n1_ := Aside0.mk (blk_below (g := gb685) (o := .cells #[.int .i64 a0_0, .slice A0_1 l0_1.length c0_1] 55 (0, 0)) (by (with_reducible repeat (first | refine blk_drewN ?_ _ | refine blk_drew ?_ | refine blk_alloc ?_ _)); exact BK685.out) hb); have n2_ := Aside0.mk (below_step (by repeat (first | (with_reducible first | exact HB.out | apply below_alloc | apply pw_below_drewN | apply below_drew1 | refine below_set ?_ GE685.out) | exact HB.out)) hb); clear BK685; clear HB; have HO690 := n0_; have BK685 := n1_; have HB := n2_; clear n0_ n1_ n2_; (try clear hb); (try clear hb2); (try clear hk); (try clear hi); (try clear ho0); obtain ⟨Ao20, co20, eo20⟩ := Kd.R_slice HO690.out; subst eo20) | ((with_reducible refine gate_callee (f := 43) rfl ?_); refine goesL_ (some 14) rfl rfl Try.func43 (by kernel_rfl) rfl #[.agg #[.int .i64 t687, .slice Ao20 t688.length co20]] rfl (by (try simp only [List.map_toArray, List.map_cons, List.map_nil]); first | done | rfl | (simp only [List.length_drop, List.length_take]; rfl)) ?_; (with_reducible refine (spec_RingLong.calls k t687 _ _ t688 t691 _ ?side1 ?side2 A8.out).mono ?_); (case side1 => repeat (first | exact (Kd.R_reads' HO690.out).2.2 | (with_reducible refine Kd.C_alloc ?_ _) | (with_reducible refine Kd.C_drewN ?_ _) | (with_reducible refine Kd.C_drew ?_))); (case side2 => exact (Kd.R_reads' HO690.out).2.1); rintro e w21 ⟨rfl, hb⟩; refine ⟨_, rfl, ?_⟩; have n0_ := Aside0.mk (Kd.R_below (by (with_reducible repeat (first | apply Kd.R_alloc | apply Kd.R_drewN | apply Kd.R_drew)); exact HO690.out) hb); have n1_ := Aside0.mk (blk_below (g := gb685) (o := .cells #[.int .i64 a0_0, .slice A0_1 l0_1.length c0_1] 55 (0, 0)) (by (with_reducible repeat (first | refine blk_drewN ?_ _ | refine blk_drew ?_ | refine blk_alloc ?_ _)); exact BK685.out) hb); have n2_ := Aside0.mk (below_step (by repeat (first | (with_reducible first | exact HB.out | apply below_alloc | apply pw_below_drewN | apply below_drew1 | refine below_set ?_ GE685.out) | exact HB.out)) hb); clear HO690; clear BK685; clear HB; have HO690 := n0_; have BK685 := n1_; have HB := n2_; clear n0_ n1_ n2_; (try clear hb); (try clear hb2); (try clear hk); (try clear hi); have hcz22_0 : w21.cell? ⟨gb685, 0, none⟩ = some (.int .i64 a0_0) := (blk_cell BK685.out 0).trans rfl; have hcz22_1 : w21.cell? ⟨gb685, 1, none⟩ = some (.slice A0_1 l0_1.length c0_1) := (blk_cell BK685.out 1).trans rfl; have hfz22_0 := blk_frozen BK685.out 0; have hfz22_1 := blk_frozen BK685.out 1) | ((with_reducible refine gate_callee (f := 35) rfl ?_); refine goesL_ (some 16) rfl rfl Try.func35 (by kernel_rfl) rfl #[.agg #[.int .i64 a0_0, .slice A0_1 l0_1.length c0_1]] rfl (by (try simp only [List.map_toArray, List.map_cons, List.map_nil]); first | done | rfl | (simp only [List.length_drop, List.length_take]; rfl)) ?_; (with_reducible refine (laws_toNet.calls k a0_0 _ _ l0_1 t692 t693 _ ?side1 ?side2 A9.out).mono ?_); (case side1 => repeat (first | exact (Kd.C_below HR0_1.out HB.out) | (with_reducible refine Kd.C_alloc ?_ _) | (with_reducible refine Kd.C_drewN ?_ _) | (with_reducible refine Kd.C_drew ?_))); (case side2 => exact HC0_1.out); rintro e w23 ⟨v694, rfl, ho0, hb⟩; refine ⟨_, rfl, ?_⟩; have n0_ := Aside0.mk (Kd.R_elder' (by (with_reducible repeat (first | apply Kd.R_alloc | apply Kd.R_drewN | apply Kd.R_drew)); exact HO690.out) (Kd.R_base ho0) hb); have n1_ := Aside0.mk (Kd.R_lower (Kd.R_new' ho0 (Kd.R_lt (by (with_reducible repeat (first | apply Kd.R_alloc | apply Kd.R_drewN | apply Kd.R_drew)); exact HO690.out))) (below_size (by repeat (first | (with_reducible first | exact HB.out | apply below_alloc | apply pw_below_drewN | apply below_drew1 | refine below_set ?_ GE685.out) | exact HB.out)))); have n2_ := Aside0.mk (blk_below (g := gb685) (o := .cells #[.int .i64 a0_0, .slice A0_1 l0_1.length c0_1] 55 (0, 0)) (by (with_reducible repeat (first | refine blk_drewN ?_ _ | refine blk_drew ?_ | refine blk_alloc ?_ _)); exact BK685.out) hb); have n3_ := Aside0.mk (below_step (by repeat (first | (with_reducible first | exact HB.out | apply below_alloc | apply pw_below_drewN | apply below_drew1 | refine below_set ?_ GE685.out) | exact HB.out)) hb); clear HO690; clear BK685; clear HB; have HO690 := n0_; have HO695 := n1_; have BK685 := n2_; have HB := n3_; clear n0_ n1_ n2_ n3_; (try clear hb); (try clear hb2); (try clear hk); (try clear hi); (try clear ho0)) | ((with_reducible refine gate_dst (N := 5) rfl ?_); refine box_event ?hg (N := 5) ?hd (cs := #[.int .i64 0, .slice none 0 0]) (t := 38) ?hr ?_; (case hd => rfl); (case hg => rfl); (case hr => first | (go_simp; done) | (go_simp; rfl)); intro gb696 hg w24 hbox hb; have n0_ := Aside0.mk (Kd.R_below (by (with_reducible repeat (first | apply Kd.R_alloc | apply Kd.R_drewN | apply Kd.R_drew)); exact HO690.out) hb); have n1_ := Aside0.mk (Kd.R_below (by (with_reducible repeat (first | apply Kd.R_alloc | apply Kd.R_drewN | apply Kd.R_drew)); exact HO695.out) hb); have n2_ := Aside0.mk (blk_below (g := gb685) (o := .cells #[.int .i64 a0_0, .slice A0_1 l0_1.length c0_1] 55 (0, 0)) (by (with_reducible repeat (first | refine blk_drewN ?_ _ | refine blk_drew ?_ | refine blk_alloc ?_ _)); exact BK685.out) hb); have n3_ := Aside0.mk (below_step (by repeat (first | (with_reducible first | exact HB.out | apply below_alloc | apply pw_below_drewN | apply below_drew1 | refine below_set ?_ GE685.out) | exact HB.out)) hb); have n4_ := Aside0.mk (hbox); have n5_ := Aside0.mk ((by rw [hg]; exact (below_size (by repeat (first | (with_reducible first | exact HB.out | apply below_alloc | apply pw_below_drewN | apply below_drew1 | refine below_set ?_ GE685.out) | exact HB.out))) : w.heap.size ≤ gb696)); have n6_ := Aside0.mk ((by rw [hg]; exact (below_size (by repeat (first | (with_reducible first | exact HB.out | apply below_alloc | apply pw_below_drewN | apply below_drew1 | refine below_set ?_ GE685.out) | exact HB.out))) : w.heap.size ≤ gb696)); have n7_ := Aside0.mk ((by rw [hg]; exact Nat.ne_of_lt (blk_lt (g := gb685) (o := .cells #[.int .i64 a0_0, .slice A0_1 l0_1.length c0_1] 55 (0, 0)) (by (with_reducible repeat (first | refine blk_drewN ?_ _ | refine blk_drew ?_ | refine blk_alloc ?_ _)); exact BK685.out)) : gb685 ≠ gb696)); have n8_ := Aside0.mk ((by rw [hg]; exact Nat.ne_of_gt (blk_lt (g := gb685) (o := .cells #[.int .i64 a0_0, .slice A0_1 l0_1.length c0_1] 55 (0, 0)) (by (with_reducible repeat (first | refine blk_drewN ?_ _ | refine blk_drew ?_ | refine blk_alloc ?_ _)); exact BK685.out)) : gb696 ≠ gb685)); clear HO690; clear HO695; clear BK685; clear HB; have HO690 := n0_; have HO695 := n1_; have BK685 := n2_; have HB := n3_; have BK696 := n4_; have GW696 := n5_; have GE696 := n6_; have NB685_696 := n7_; have NB696_685 := n8_; clear n0_ n1_ n2_ n3_ n4_ n5_ n6_ n7_ n8_; clear hb hbox hg; have hnb25 := NB696_685.out; have hnc25 := NB685_696.out; have hcz26_0 : w24.cell? ⟨gb696, 0, none⟩ = some (.int .i64 0) := (blk_cell BK696.out 0).trans rfl; have hcz26_1 : w24.cell? ⟨gb696, 1, none⟩ = some (.slice none 0 0) := (blk_cell BK696.out 1).trans rfl; have hfz26_0 := blk_frozen BK696.out 0; have hfz26_1 := blk_frozen BK696.out 1; obtain ⟨Ao27, co27, eo27⟩ := Kd.R_slice HO695.out; subst eo27) | ((with_reducible refine gate_callee (f := 44) rfl ?_); refine goesL_ (some 18) rfl rfl Try.func44 (by kernel_rfl) rfl #[.agg #[.int .i64 t692, .slice Ao27 t693.length co27]] rfl (by (try simp only [List.map_toArray, List.map_cons, List.map_nil]); first | done | rfl | (simp only [List.length_drop, List.length_take]; rfl)) ?_; (with_reducible refine (impl_RingLong.calls k t692 _ _ t693 t697 _ ?side1 ?side2 A10.out).mono ?_); (case side1 => refine (Kd.R_reads' (e := 45) (base := w.heap.size) (ok := fun k_ => (True ∧ some k_ ≠ (.slice Ao20 t688.length co20 : Value).ownBlock)) (n := t693.length) (c := co27) ?_).2.2; exact (by (with_reducible repeat (first | apply Kd.R_alloc | apply Kd.R_drewN | apply Kd.R_drew)); exact (Kd.R_mono (Kd.R_far (p := ⟨gb696, 1, none⟩) (Kd.R_far (p := ⟨gb696, 0, none⟩) (Kd.R_types HO695.out BK696.out (by decide)) (fun _ hk => hk.2) (.int .i64 t692)) (fun _ hk => hk.2) (.slice Ao27 t693.length co27)) (fun _ h_ => h_.1)))); (case side2 => exact (Kd.R_reads' HO695.out).2.1); rintro e w28 ⟨rfl, hb⟩; refine ⟨_, rfl, ?_⟩; have n0_ := Aside0.mk (Kd.R_below (by (with_reducible repeat (first | apply Kd.R_alloc | apply Kd.R_drewN | apply Kd.R_drew)); exact (Kd.R_mono (Kd.R_far (p := ⟨gb696, 1, none⟩) (Kd.R_far (p := ⟨gb696, 0, none⟩) (Kd.R_types HO690.out BK696.out (by decide)) (fun _ hk => hk.2) (.int .i64 t692)) (fun _ hk => hk.2) (.slice Ao27 t693.length co27)) (fun _ h_ => h_.1))) hb); have n1_ := Aside0.mk (Kd.R_below (by (with_reducible repeat (first | apply Kd.R_alloc | apply Kd.R_drewN | apply Kd.R_drew)); exact (Kd.R_mono (Kd.R_far (p := ⟨gb696, 1, none⟩) (Kd.R_far (p := ⟨gb696, 0, none⟩) (Kd.R_types HO695.out BK696.out (by decide)) (fun _ hk => hk.2) (.int .i64 t692)) (fun _ hk => hk.2) (.slice Ao27 t693.length co27)) (fun _ h_ => h_.1))) hb); have n2_ := Aside0.mk (blk_below (g := gb685) (o := .cells #[.int .i64 a0_0, .slice A0_1 l0_1.length c0_1] 55 (0, 0)) (by (with_reducible repeat (first | refine blk_drewN ?_ _ | refine blk_drew ?_ | refine blk_alloc ?_ _)); refine blk_far ?_ NB685_696.out _; (with_reducible repeat (first | refine blk_drewN ?_ _ | refine blk_drew ?_ | refine blk_alloc ?_ _)); refine blk_far ?_ NB685_696.out _; (with_reducible repeat (first | refine blk_drewN ?_ _ | refine blk_drew ?_ | refine blk_alloc ?_ _)); exact BK685.out) hb); have n3_ := Aside0.mk (blk_below (g := gb696) (o := .cells #[.int .i64 t692, .slice Ao27 t693.length co27] 38 (0, 0)) (by (with_reducible repeat (first | refine blk_drewN ?_ _ | refine blk_drew ?_ | refine blk_alloc ?_ _)); refine blk_put (cs := #[.int .i64 t692, .slice none 0 0]) ?_ 1 _ rfl; (with_reducible repeat (first | refine blk_drewN ?_ _ | refine blk_drew ?_ | refine blk_alloc ?_ _)); refine blk_put (cs := #[.int .i64 0, .slice none 0 0]) ?_ 0 _ rfl; (with_reducible repeat (first | refine blk_drewN ?_ _ | refine blk_drew ?_ | refine blk_alloc ?_ _)); exact BK696.out) hb); have n4_ := Aside0.mk (below_step (by repeat (first | (with_reducible first | exact HB.out | apply below_alloc | apply pw_below_drewN | apply below_drew1 | refine below_set ?_ GE685.out | refine below_set ?_ GE696.out) | exact HB.out)) hb); clear HO690; clear HO695; clear BK685; clear BK696; clear HB; have HO690 := n0_; have HO695 := n1_; have BK685 := n2_; have BK696 := n3_; have HB := n4_; clear n0_ n1_ n2_ n3_ n4_; (try clear hb); (try clear hb2); (try clear hk); (try clear hi)))
    have n0_ := Aside0.mk (Kd.R_drew HO690.out)
    have n1_ := Aside0.mk (Kd.R_drew HO695.out)
    have n2_ := Aside0.mk (blk_drew BK685.out)
    have n3_ := Aside0.mk (blk_drew BK696.out)
    have n4_ := Aside0.mk (below_drew1 HB.out)
    clear HO690
    clear HO695
    clear BK685
    clear BK696
    clear HB
    have HO690 := n0_
    have HO695 := n1_
    have BK685 := n2_
    have BK696 := n3_
    have HB := n4_
    clear n0_ n1_ n2_ n3_ n4_
    refine start_ (n := 5) (S := fun w' => w'.cell? ⟨gb696, 0, none⟩ = some (.int .i64 t692) ∧ w'.cell? ⟨gb696, 1, none⟩ = some (.slice Ao27 t693.length co27) ∧ w'.cell? ⟨gb685, 0, none⟩ = some (.int .i64 a0_0) ∧ w'.cell? ⟨gb685, 1, none⟩ = some (.slice A0_1 l0_1.length c0_1)) (ds := []) #[false, false, false, false, false] (by kernel_rfl) rfl rfl ⟨(blk_cell BK696.out 0).trans rfl, (blk_cell BK696.out 1).trans rfl, (blk_cell BK685.out 0).trans rfl, (blk_cell BK685.out 1).trans rfl⟩ (fun hHeld => ?_)
    generalize w28.drew = w29 at HO690 HO695 BK685 BK696 HB hHeld ⊢
    refine take_ (i := 0) (N := some 22) (v := ?_) (a' := ?_) #[true, false, false, false, false] rfl rfl (by kernel_rfl) (fun _ _ _ h => h) (Or.inl ⟨by rfl, ?_⟩) hHeld ?_ ?_
    rotate_left
    ·rintro w' ⟨s0, s1, s2, s3⟩
     go_simp
     with_reducible rfl
    rotate_left
    ·simp only [Act.put, List.setIfInBounds_toArray, List.set_cons_zero, List.set_cons_succ, i64_w, i32_w]
     rfl
    refine take_ (i := 1) (N := some 23) (v := ?_) (a' := ?_) #[true, true, false, false, false] rfl rfl (by kernel_rfl) (fun _ _ _ h => h) (Or.inl ⟨by rfl, ?_⟩) hHeld ?_ ?_
    rotate_left
    ·rintro w' ⟨s0, s1, s2, s3⟩
     go_simp
     with_reducible rfl
    rotate_left
    ·simp only [Act.put, List.setIfInBounds_toArray, List.set_cons_zero, List.set_cons_succ, i64_w, i32_w]
     rfl
    refine one_ (i := 2) (N := some 24) #[true, true, true, false, false] rfl rfl (by kernel_rfl) (by decide) (fun K hK => ?_)
    refine goes_ Try.func35 (by kernel_rfl) rfl #[.agg #[.int .i64 a0_0, .slice A0_1 l0_1.length c0_1]] (by rfl) rfl rfl (by (try simp only [List.map_toArray, List.map_cons, List.map_nil]); first | done | rfl | (simp only [List.length_drop, List.length_take]; rfl)) ?_
    with_reducible refine (laws_toNet.calls k a0_0 _ _ l0_1 t698 t699 _ ?side1 ?side2 A12.out).mono ?_
    (case side1 => repeat (first | exact (Kd.C_below HR0_1.out HB.out) | (with_reducible refine Kd.C_alloc ?_ _) | (with_reducible refine Kd.C_drewN ?_ _) | (with_reducible refine Kd.C_drew ?_)))
    (case side2 => exact HC0_1.out)
    rintro e w30 ⟨v700, rfl, ho0, hb⟩
    refine ⟨_, rfl, ?_⟩
    have n0_ := Aside0.mk (Kd.R_elder' (by (with_reducible repeat (first | apply Kd.R_alloc | apply Kd.R_drewN | apply Kd.R_drew)); exact HO690.out) (Kd.R_base ho0) hb)
    have n1_ := Aside0.mk (Kd.R_elder' (by (with_reducible repeat (first | apply Kd.R_alloc | apply Kd.R_drewN | apply Kd.R_drew)); exact HO695.out) (Kd.R_base ho0) hb)
    have n2_ := Aside0.mk (Kd.R_lower (Kd.R_new' (Kd.R_new' ho0 (Kd.R_lt (by (with_reducible repeat (first | apply Kd.R_alloc | apply Kd.R_drewN | apply Kd.R_drew)); exact HO690.out))) (Kd.R_lt (by (with_reducible repeat (first | apply Kd.R_alloc | apply Kd.R_drewN | apply Kd.R_drew)); exact HO695.out))) (below_size (by repeat (first | (with_reducible first | exact HB.out | apply below_alloc | apply pw_below_drewN | apply below_drew1 | refine below_set ?_ GE685.out | refine below_set ?_ GE696.out) | exact HB.out))))
    have n3_ := Aside0.mk (blk_below (g := gb685) (o := .cells #[.int .i64 a0_0, .slice A0_1 l0_1.length c0_1] 55 (0, 0)) (by (with_reducible repeat (first | refine blk_drewN ?_ _ | refine blk_drew ?_ | refine blk_alloc ?_ _)); exact BK685.out) hb)
    have n4_ := Aside0.mk (blk_below (g := gb696) (o := .cells #[.int .i64 t692, .slice Ao27 t693.length co27] 38 (0, 0)) (by (with_reducible repeat (first | refine blk_drewN ?_ _ | refine blk_drew ?_ | refine blk_alloc ?_ _)); exact BK696.out) hb)
    have n5_ := Aside0.mk (below_step (by repeat (first | (with_reducible first | exact HB.out | apply below_alloc | apply pw_below_drewN | apply below_drew1 | refine below_set ?_ GE685.out | refine below_set ?_ GE696.out) | exact HB.out)) hb)
    clear HO690
    clear HO695
    clear BK685
    clear BK696
    clear HB
    have HO690 := n0_
    have HO695 := n1_
    have HO701 := n2_
    have BK685 := n3_
    have BK696 := n4_
    have HB := n5_
    clear n0_ n1_ n2_ n3_ n4_ n5_
    (try clear hb)
    (try clear hb2)
    (try clear hk)
    (try clear hi)
    (try clear ho0)
    obtain ⟨Ao31, co31, eo31⟩ := Kd.R_slice HO701.out
    (first | subst eo31 | (injection eo31 with f1_ f2_ f3_; have f4_ := f1_.symm; have f5_ := f3_.symm; clear f1_ f2_ f3_; subst f4_; subst f5_))
    refine hK.out _ _ ⟨(blk_cell BK696.out 0).trans rfl, (blk_cell BK696.out 1).trans rfl, (blk_cell BK685.out 0).trans rfl, (blk_cell BK685.out 1).trans rfl⟩ (fun hHeld => ?_)
    clear hK K
    refine norm_ (a' := ?_) ?_ ?_
    rotate_left
    ·show Act.put _ (some 24) _ = _
     simp only [Act.put, List.setIfInBounds_toArray, List.set_cons_zero, List.set_cons_succ, i64_w, i32_w]
     rfl
    refine one_ (i := 3) (N := some 25) #[true, true, true, true, false] rfl rfl (by kernel_rfl) (by decide) (fun K hK => ?_)
    refine goes_ Try.func39 (by kernel_rfl) rfl #[.agg #[.int .i64 t692, .slice Ao27 t693.length co27], .agg #[.int .i64 t698, .slice Ao31 t699.length co31]] (by rfl) rfl rfl (by (try simp only [List.map_toArray, List.map_cons, List.map_nil]); first | done | rfl | (simp only [List.length_drop, List.length_take]; rfl)) ?_
    with_reducible refine (laws_eqNet.calls k t692 _ _ t693 t698 _ _ t699 true _ ?side1 ?side2 ?side3 ?side4 A13.out).mono ?_
    (case side1 => repeat (first | exact (Kd.R_reads' HO695.out).2.2 | (with_reducible refine Kd.C_alloc ?_ _) | (with_reducible refine Kd.C_drewN ?_ _) | (with_reducible refine Kd.C_drew ?_)))
    (case side2 => exact (Kd.R_reads' HO695.out).2.1)
    (case side3 => repeat (first | exact (Kd.R_reads' HO701.out).2.2 | (with_reducible refine Kd.C_alloc ?_ _) | (with_reducible refine Kd.C_drewN ?_ _) | (with_reducible refine Kd.C_drew ?_)))
    (case side4 => exact (Kd.R_reads' HO701.out).2.1)
    rintro e w32 ⟨rfl, hb⟩
    refine ⟨_, rfl, ?_⟩
    have n0_ := Aside0.mk (Kd.R_below (by (with_reducible repeat (first | apply Kd.R_alloc | apply Kd.R_drewN | apply Kd.R_drew)); exact HO690.out) hb)
    have n1_ := Aside0.mk (Kd.R_below (by (with_reducible repeat (first | apply Kd.R_alloc | apply Kd.R_drewN | apply Kd.R_drew)); exact HO695.out) hb)
    have n2_ := Aside0.mk (Kd.R_below (by (with_reducible repeat (first | apply Kd.R_alloc | apply Kd.R_drewN | apply Kd.R_drew)); exact HO701.out) hb)
    have n3_ := Aside0.mk (blk_below (g := gb685) (o := .cells #[.int .i64 a0_0, .slice A0_1 l0_1.length c0_1] 55 (0, 0)) (by (with_reducible repeat (first | refine blk_drewN ?_ _ | refine blk_drew ?_ | refine blk_alloc ?_ _)); exact BK685.out) hb)
    have n4_ := Aside0.mk (blk_below (g := gb696) (o := .cells #[.int .i64 t692, .slice Ao27 t693.length co27] 38 (0, 0)) (by (with_reducible repeat (first | refine blk_drewN ?_ _ | refine blk_drew ?_ | refine blk_alloc ?_ _)); exact BK696.out) hb)
    have n5_ := Aside0.mk (below_step (by repeat (first | (with_reducible first | exact HB.out | apply below_alloc | apply pw_below_drewN | apply below_drew1 | refine below_set ?_ GE685.out | refine below_set ?_ GE696.out) | exact HB.out)) hb)
    clear HO690
    clear HO695
    clear HO701
    clear BK685
    clear BK696
    clear HB
    have HO690 := n0_
    have HO695 := n1_
    have HO701 := n2_
    have BK685 := n3_
    have BK696 := n4_
    have HB := n5_
    clear n0_ n1_ n2_ n3_ n4_ n5_
    (try clear hb)
    (try clear hb2)
    (try clear hk)
    (try clear hi)
    refine hK.out _ _ ⟨(blk_cell BK696.out 0).trans rfl, (blk_cell BK696.out 1).trans rfl, (blk_cell BK685.out 0).trans rfl, (blk_cell BK685.out 1).trans rfl⟩ (fun hHeld => ?_)
    clear hK K
    refine norm_ (a' := ?_) ?_ ?_
    rotate_left
    ·show Act.put _ (some 25) _ = _
     simp only [Act.put, List.setIfInBounds_toArray, List.set_cons_zero, List.set_cons_succ, i64_w, i32_w]
     rfl
    refine pure_ (i := 4) (N := some 26) (v := ?_) (a' := ?_) #[true, true, true, true, true] rfl rfl (by kernel_rfl) (fun _ _ _ h => h) (Or.inl ⟨by rfl, ?_⟩) ?_ ?_
    rotate_left
    ·intro w'
     go_simp
     with_reducible rfl
    rotate_left
    ·simp only [Act.put, List.setIfInBounds_toArray, List.set_cons_zero, List.set_cons_succ, i64_w, i32_w]
     rfl
    refine done_ (by kernel_rfl) ?_
    try go_wp2
    go_ret
    exact ⟨by first | rfl | (simp [errW_none, errW_some] <;> rfl) | (simp [*, errW_none, errW_some] <;> rfl), by repeat (first | (with_reducible first | exact HB.out | apply below_alloc | apply pw_below_drewN | apply below_drew1 | refine below_set ?_ GE685.out | refine below_set ?_ GE696.out) | exact HB.out)⟩
   ·replace c14 := Bool.eq_false_iff.mpr c14
    subst c14
    have H1 : (some false) = some r := by rw [if_neg (show ¬ (false = true) by decide)] at H; exact H
    clear H
    have H := H1
    clear H1
    obtain rfl := Option.some.inj H
    go_enter Try.func7, Try.ntmps7
    try go_wp2_with (first | ((with_reducible refine gate_dst (N := 1) rfl ?_); refine box_event ?hg (N := 1) ?hd (cs := #[.int .i64 a0_0, .slice A0_1 l0_1.length c0_1]) (t := 55) ?hr ?_; (case hd => rfl); (case hg => rfl); (case hr => first | (go_simp; done) | (go_simp; rfl)); intro gb685 hg w33 hbox hb; have n0_ := Aside0.mk (below_step (by repeat (first | (with_reducible first | exact HB.out | apply below_alloc | apply pw_below_drewN | apply below_drew1) | exact HB.out)) hb); have n1_ := Aside0.mk (hbox); have n2_ := Aside0.mk ((by rw [hg]; exact (below_size (by repeat (first | (with_reducible first | exact HB.out | apply below_alloc | apply pw_below_drewN | apply below_drew1) | exact HB.out))) : w.heap.size ≤ gb685)); have n3_ := Aside0.mk ((by rw [hg]; exact (below_size (by repeat (first | (with_reducible first | exact HB.out | apply below_alloc | apply pw_below_drewN | apply below_drew1) | exact HB.out))) : w.heap.size ≤ gb685)); clear HB; have HB := n0_; have BK685 := n1_; have GW685 := n2_; have GE685 := n3_; clear n0_ n1_ n2_ n3_; clear hb hbox hg; have hcz34_0 : w33.cell? ⟨gb685, 0, none⟩ = some (.int .i64 a0_0) := (blk_cell BK685.out 0).trans rfl; have hcz34_1 : w33.cell? ⟨gb685, 1, none⟩ = some (.slice A0_1 l0_1.length c0_1) := (blk_cell BK685.out 1).trans rfl; have hfz34_0 := blk_frozen BK685.out 0; have hfz34_1 := blk_frozen BK685.out 1) | ((with_reducible refine gate_callee (f := 33) rfl ?_); refine goesL_ (some 9) rfl rfl Try.func33 (by kernel_rfl) rfl #[.agg #[.int .i64 a0_0, .slice A0_1 l0_1.length c0_1], .int .i64 1048576] rfl (by (try simp only [List.map_toArray, List.map_cons, List.map_nil]); first | done | rfl | (simp only [List.length_drop, List.length_take]; rfl)) ?_; (with_reducible refine (laws_szNet.calls a0_0 _ _ l0_1 1048576 t686 _ ?side1 ?side2 A2.out).mono ?_); (case side1 => repeat (first | exact (Kd.C_below HR0_1.out HB.out) | (with_reducible refine Kd.C_alloc ?_ _) | (with_reducible refine Kd.C_drewN ?_ _) | (with_reducible refine Kd.C_drew ?_))); (case side2 => exact HC0_1.out); rintro e w35 ⟨rfl, hb⟩; refine ⟨_, rfl, ?_⟩; have n0_ := Aside0.mk (blk_below (g := gb685) (o := .cells #[.int .i64 a0_0, .slice A0_1 l0_1.length c0_1] 55 (0, 0)) (by (with_reducible repeat (first | refine blk_drewN ?_ _ | refine blk_drew ?_ | refine blk_alloc ?_ _)); exact BK685.out) hb); have n1_ := Aside0.mk (below_step (by repeat (first | (with_reducible first | exact HB.out | apply below_alloc | apply pw_below_drewN | apply below_drew1 | refine below_set ?_ GE685.out) | exact HB.out)) hb); clear BK685; clear HB; have BK685 := n0_; have HB := n1_; clear n0_ n1_; (try clear hb); (try clear hb2); (try clear hk); (try clear hi); have hcz36_0 : w35.cell? ⟨gb685, 0, none⟩ = some (.int .i64 a0_0) := (blk_cell BK685.out 0).trans rfl; have hcz36_1 : w35.cell? ⟨gb685, 1, none⟩ = some (.slice A0_1 l0_1.length c0_1) := (blk_cell BK685.out 1).trans rfl; have hfz36_0 := blk_frozen BK685.out 0; have hfz36_1 := blk_frozen BK685.out 1) | ((with_reducible refine gate_callee (f := 35) rfl ?_); refine goesL_ (some 13) rfl rfl Try.func35 (by kernel_rfl) rfl #[.agg #[.int .i64 a0_0, .slice A0_1 l0_1.length c0_1]] rfl (by (try simp only [List.map_toArray, List.map_cons, List.map_nil]); first | done | rfl | (simp only [List.length_drop, List.length_take]; rfl)) ?_; (with_reducible refine (laws_toNet.calls k a0_0 _ _ l0_1 t687 t688 _ ?side1 ?side2 A7.out).mono ?_); (case side1 => repeat (first | exact (Kd.C_below HR0_1.out HB.out) | (with_reducible refine Kd.C_alloc ?_ _) | (with_reducible refine Kd.C_drewN ?_ _) | (with_reducible refine Kd.C_drew ?_))); (case side2 => exact HC0_1.out); rintro e w37 ⟨v689, rfl, ho0, hb⟩; refine ⟨_, rfl, ?_⟩; have n0_ := Aside0.mk (Kd.R_lower ho0 (below_size (by repeat (first | (with_reducible first | exact HB.out | apply below_alloc | apply pw_below_drewN | apply below_drew1 | refine below_set ?_ GE685.out) | exact HB.out)))); have n1_ := Aside0.mk (blk_below (g := gb685) (o := .cells #[.int .i64 a0_0, .slice A0_1 l0_1.length c0_1] 55 (0, 0)) (by (with_reducible repeat (first | refine blk_drewN ?_ _ | refine blk_drew ?_ | refine blk_alloc ?_ _)); exact BK685.out) hb); have n2_ := Aside0.mk (below_step (by repeat (first | (with_reducible first | exact HB.out | apply below_alloc | apply pw_below_drewN | apply below_drew1 | refine below_set ?_ GE685.out) | exact HB.out)) hb); clear BK685; clear HB; have HO690 := n0_; have BK685 := n1_; have HB := n2_; clear n0_ n1_ n2_; (try clear hb); (try clear hb2); (try clear hk); (try clear hi); (try clear ho0); obtain ⟨Ao38, co38, eo38⟩ := Kd.R_slice HO690.out; subst eo38) | ((with_reducible refine gate_callee (f := 43) rfl ?_); refine goesL_ (some 14) rfl rfl Try.func43 (by kernel_rfl) rfl #[.agg #[.int .i64 t687, .slice Ao38 t688.length co38]] rfl (by (try simp only [List.map_toArray, List.map_cons, List.map_nil]); first | done | rfl | (simp only [List.length_drop, List.length_take]; rfl)) ?_; (with_reducible refine (spec_RingLong.calls k t687 _ _ t688 t691 _ ?side1 ?side2 A8.out).mono ?_); (case side1 => repeat (first | exact (Kd.R_reads' HO690.out).2.2 | (with_reducible refine Kd.C_alloc ?_ _) | (with_reducible refine Kd.C_drewN ?_ _) | (with_reducible refine Kd.C_drew ?_))); (case side2 => exact (Kd.R_reads' HO690.out).2.1); rintro e w39 ⟨rfl, hb⟩; refine ⟨_, rfl, ?_⟩; have n0_ := Aside0.mk (Kd.R_below (by (with_reducible repeat (first | apply Kd.R_alloc | apply Kd.R_drewN | apply Kd.R_drew)); exact HO690.out) hb); have n1_ := Aside0.mk (blk_below (g := gb685) (o := .cells #[.int .i64 a0_0, .slice A0_1 l0_1.length c0_1] 55 (0, 0)) (by (with_reducible repeat (first | refine blk_drewN ?_ _ | refine blk_drew ?_ | refine blk_alloc ?_ _)); exact BK685.out) hb); have n2_ := Aside0.mk (below_step (by repeat (first | (with_reducible first | exact HB.out | apply below_alloc | apply pw_below_drewN | apply below_drew1 | refine below_set ?_ GE685.out) | exact HB.out)) hb); clear HO690; clear BK685; clear HB; have HO690 := n0_; have BK685 := n1_; have HB := n2_; clear n0_ n1_ n2_; (try clear hb); (try clear hb2); (try clear hk); (try clear hi); have hcz40_0 : w39.cell? ⟨gb685, 0, none⟩ = some (.int .i64 a0_0) := (blk_cell BK685.out 0).trans rfl; have hcz40_1 : w39.cell? ⟨gb685, 1, none⟩ = some (.slice A0_1 l0_1.length c0_1) := (blk_cell BK685.out 1).trans rfl; have hfz40_0 := blk_frozen BK685.out 0; have hfz40_1 := blk_frozen BK685.out 1) | ((with_reducible refine gate_callee (f := 35) rfl ?_); refine goesL_ (some 16) rfl rfl Try.func35 (by kernel_rfl) rfl #[.agg #[.int .i64 a0_0, .slice A0_1 l0_1.length c0_1]] rfl (by (try simp only [List.map_toArray, List.map_cons, List.map_nil]); first | done | rfl | (simp only [List.length_drop, List.length_take]; rfl)) ?_; (with_reducible refine (laws_toNet.calls k a0_0 _ _ l0_1 t692 t693 _ ?side1 ?side2 A9.out).mono ?_); (case side1 => repeat (first | exact (Kd.C_below HR0_1.out HB.out) | (with_reducible refine Kd.C_alloc ?_ _) | (with_reducible refine Kd.C_drewN ?_ _) | (with_reducible refine Kd.C_drew ?_))); (case side2 => exact HC0_1.out); rintro e w41 ⟨v694, rfl, ho0, hb⟩; refine ⟨_, rfl, ?_⟩; have n0_ := Aside0.mk (Kd.R_elder' (by (with_reducible repeat (first | apply Kd.R_alloc | apply Kd.R_drewN | apply Kd.R_drew)); exact HO690.out) (Kd.R_base ho0) hb); have n1_ := Aside0.mk (Kd.R_lower (Kd.R_new' ho0 (Kd.R_lt (by (with_reducible repeat (first | apply Kd.R_alloc | apply Kd.R_drewN | apply Kd.R_drew)); exact HO690.out))) (below_size (by repeat (first | (with_reducible first | exact HB.out | apply below_alloc | apply pw_below_drewN | apply below_drew1 | refine below_set ?_ GE685.out) | exact HB.out)))); have n2_ := Aside0.mk (blk_below (g := gb685) (o := .cells #[.int .i64 a0_0, .slice A0_1 l0_1.length c0_1] 55 (0, 0)) (by (with_reducible repeat (first | refine blk_drewN ?_ _ | refine blk_drew ?_ | refine blk_alloc ?_ _)); exact BK685.out) hb); have n3_ := Aside0.mk (below_step (by repeat (first | (with_reducible first | exact HB.out | apply below_alloc | apply pw_below_drewN | apply below_drew1 | refine below_set ?_ GE685.out) | exact HB.out)) hb); clear HO690; clear BK685; clear HB; have HO690 := n0_; have HO695 := n1_; have BK685 := n2_; have HB := n3_; clear n0_ n1_ n2_ n3_; (try clear hb); (try clear hb2); (try clear hk); (try clear hi); (try clear ho0)) | ((with_reducible refine gate_dst (N := 5) rfl ?_); refine box_event ?hg (N := 5) ?hd (cs := #[.int .i64 0, .slice none 0 0]) (t := 38) ?hr ?_; (case hd => rfl); (case hg => rfl); (case hr => first | (go_simp; done) | (go_simp; rfl)); intro gb696 hg w42 hbox hb; have n0_ := Aside0.mk (Kd.R_below (by (with_reducible repeat (first | apply Kd.R_alloc | apply Kd.R_drewN | apply Kd.R_drew)); exact HO690.out) hb); have n1_ := Aside0.mk (Kd.R_below (by (with_reducible repeat (first | apply Kd.R_alloc | apply Kd.R_drewN | apply Kd.R_drew)); exact HO695.out) hb); have n2_ := Aside0.mk (blk_below (g := gb685) (o := .cells #[.int .i64 a0_0, .slice A0_1 l0_1.length c0_1] 55 (0, 0)) (by (with_reducible repeat (first | refine blk_drewN ?_ _ | refine blk_drew ?_ | refine blk_alloc ?_ _)); exact BK685.out) hb); have n3_ := Aside0.mk (below_step (by repeat (first | (with_reducible first | exact HB.out | apply below_alloc | apply pw_below_drewN | apply below_drew1 | refine below_set ?_ GE685.out) | exact HB.out)) hb); have n4_ := Aside0.mk (hbox); have n5_ := Aside0.mk ((by rw [hg]; exact (below_size (by repeat (first | (with_reducible first | exact HB.out | apply below_alloc | apply pw_below_drewN | apply below_drew1 | refine below_set ?_ GE685.out) | exact HB.out))) : w.heap.size ≤ gb696)); have n6_ := Aside0.mk ((by rw [hg]; exact (below_size (by repeat (first | (with_reducible first | exact HB.out | apply below_alloc | apply pw_below_drewN | apply below_drew1 | refine below_set ?_ GE685.out) | exact HB.out))) : w.heap.size ≤ gb696)); have n7_ := Aside0.mk ((by rw [hg]; exact Nat.ne_of_lt (blk_lt (g := gb685) (o := .cells #[.int .i64 a0_0, .slice A0_1 l0_1.length c0_1] 55 (0, 0)) (by (with_reducible repeat (first | refine blk_drewN ?_ _ | refine blk_drew ?_ | refine blk_alloc ?_ _)); exact BK685.out)) : gb685 ≠ gb696)); have n8_ := Aside0.mk ((by rw [hg]; exact Nat.ne_of_gt (blk_lt (g := gb685) (o := .cells #[.int .i64 a0_0, .slice A0_1 l0_1.length c0_1] 55 (0, 0)) (by (with_reducible repeat (first | refine blk_drewN ?_ _ | refine blk_drew ?_ | refine blk_alloc ?_ _)); exact BK685.out)) : gb696 ≠ gb685)); clear HO690; clear HO695; clear BK685; clear HB; have HO690 := n0_; have HO695 := n1_; have BK685 := n2_; have HB := n3_; have BK696 := n4_; have GW696 := n5_; have GE696 := n6_; have NB685_696 := n7_; have NB696_685 := n8_; clear n0_ n1_ n2_ n3_ n4_ n5_ n6_ n7_ n8_; clear hb hbox hg; have hnb43 := NB696_685.out; have hnc43 := NB685_696.out; have hcz44_0 : w42.cell? ⟨gb696, 0, none⟩ = some (.int .i64 0) := (blk_cell BK696.out 0).trans rfl; have hcz44_1 : w42.cell? ⟨gb696, 1, none⟩ = some (.slice none 0 0) := (blk_cell BK696.out 1).trans rfl; have hfz44_0 := blk_frozen BK696.out 0; have hfz44_1 := blk_frozen BK696.out 1; obtain ⟨Ao45, co45, eo45⟩ := Kd.R_slice HO695.out; subst eo45) | ((with_reducible refine gate_callee (f := 44) rfl ?_); refine goesL_ (some 18) rfl rfl Try.func44 (by kernel_rfl) rfl #[.agg #[.int .i64 t692, .slice Ao45 t693.length co45]] rfl (by (try simp only [List.map_toArray, List.map_cons, List.map_nil]); first | done | rfl | (simp only [List.length_drop, List.length_take]; rfl)) ?_; (with_reducible refine (impl_RingLong.calls k t692 _ _ t693 t697 _ ?side1 ?side2 A10.out).mono ?_); (case side1 => refine (Kd.R_reads' (e := 45) (base := w.heap.size) (ok := fun k_ => (True ∧ some k_ ≠ (.slice Ao38 t688.length co38 : Value).ownBlock)) (n := t693.length) (c := co45) ?_).2.2; exact (by (with_reducible repeat (first | apply Kd.R_alloc | apply Kd.R_drewN | apply Kd.R_drew)); exact (Kd.R_mono (Kd.R_far (p := ⟨gb696, 1, none⟩) (Kd.R_far (p := ⟨gb696, 0, none⟩) (Kd.R_types HO695.out BK696.out (by decide)) (fun _ hk => hk.2) (.int .i64 t692)) (fun _ hk => hk.2) (.slice Ao45 t693.length co45)) (fun _ h_ => h_.1)))); (case side2 => exact (Kd.R_reads' HO695.out).2.1); rintro e w46 ⟨rfl, hb⟩; refine ⟨_, rfl, ?_⟩; have n0_ := Aside0.mk (Kd.R_below (by (with_reducible repeat (first | apply Kd.R_alloc | apply Kd.R_drewN | apply Kd.R_drew)); exact (Kd.R_mono (Kd.R_far (p := ⟨gb696, 1, none⟩) (Kd.R_far (p := ⟨gb696, 0, none⟩) (Kd.R_types HO690.out BK696.out (by decide)) (fun _ hk => hk.2) (.int .i64 t692)) (fun _ hk => hk.2) (.slice Ao45 t693.length co45)) (fun _ h_ => h_.1))) hb); have n1_ := Aside0.mk (Kd.R_below (by (with_reducible repeat (first | apply Kd.R_alloc | apply Kd.R_drewN | apply Kd.R_drew)); exact (Kd.R_mono (Kd.R_far (p := ⟨gb696, 1, none⟩) (Kd.R_far (p := ⟨gb696, 0, none⟩) (Kd.R_types HO695.out BK696.out (by decide)) (fun _ hk => hk.2) (.int .i64 t692)) (fun _ hk => hk.2) (.slice Ao45 t693.length co45)) (fun _ h_ => h_.1))) hb); have n2_ := Aside0.mk (blk_below (g := gb685) (o := .cells #[.int .i64 a0_0, .slice A0_1 l0_1.length c0_1] 55 (0, 0)) (by (with_reducible repeat (first | refine blk_drewN ?_ _ | refine blk_drew ?_ | refine blk_alloc ?_ _)); refine blk_far ?_ NB685_696.out _; (with_reducible repeat (first | refine blk_drewN ?_ _ | refine blk_drew ?_ | refine blk_alloc ?_ _)); refine blk_far ?_ NB685_696.out _; (with_reducible repeat (first | refine blk_drewN ?_ _ | refine blk_drew ?_ | refine blk_alloc ?_ _)); exact BK685.out) hb); have n3_ := Aside0.mk (blk_below (g := gb696) (o := .cells #[.int .i64 t692, .slice Ao45 t693.length co45] 38 (0, 0)) (by (with_reducible repeat (first | refine blk_drewN ?_ _ | refine blk_drew ?_ | refine blk_alloc ?_ _)); refine blk_put (cs := #[.int .i64 t692, .slice none 0 0]) ?_ 1 _ rfl; (with_reducible repeat (first | refine blk_drewN ?_ _ | refine blk_drew ?_ | refine blk_alloc ?_ _)); refine blk_put (cs := #[.int .i64 0, .slice none 0 0]) ?_ 0 _ rfl; (with_reducible repeat (first | refine blk_drewN ?_ _ | refine blk_drew ?_ | refine blk_alloc ?_ _)); exact BK696.out) hb); have n4_ := Aside0.mk (below_step (by repeat (first | (with_reducible first | exact HB.out | apply below_alloc | apply pw_below_drewN | apply below_drew1 | refine below_set ?_ GE685.out | refine below_set ?_ GE696.out) | exact HB.out)) hb); clear HO690; clear HO695; clear BK685; clear BK696; clear HB; have HO690 := n0_; have HO695 := n1_; have BK685 := n2_; have BK696 := n3_; have HB := n4_; clear n0_ n1_ n2_ n3_ n4_; (try clear hb); (try clear hb2); (try clear hk); (try clear hi)))
    have n0_ := Aside0.mk (Kd.R_drew HO690.out)
    have n1_ := Aside0.mk (Kd.R_drew HO695.out)
    have n2_ := Aside0.mk (blk_drew BK685.out)
    have n3_ := Aside0.mk (blk_drew BK696.out)
    have n4_ := Aside0.mk (below_drew1 HB.out)
    clear HO690
    clear HO695
    clear BK685
    clear BK696
    clear HB
    have HO690 := n0_
    have HO695 := n1_
    have BK685 := n2_
    have BK696 := n3_
    have HB := n4_
    clear n0_ n1_ n2_ n3_ n4_
    refine start_ (n := 5) (S := fun w' => w'.cell? ⟨gb696, 0, none⟩ = some (.int .i64 t692) ∧ w'.cell? ⟨gb696, 1, none⟩ = some (.slice Ao45 t693.length co45) ∧ w'.cell? ⟨gb685, 0, none⟩ = some (.int .i64 a0_0) ∧ w'.cell? ⟨gb685, 1, none⟩ = some (.slice A0_1 l0_1.length c0_1)) (ds := []) #[false, false, false, false, false] (by kernel_rfl) rfl rfl ⟨(blk_cell BK696.out 0).trans rfl, (blk_cell BK696.out 1).trans rfl, (blk_cell BK685.out 0).trans rfl, (blk_cell BK685.out 1).trans rfl⟩ (fun hHeld => ?_)
    generalize w46.drew = w47 at HO690 HO695 BK685 BK696 HB hHeld ⊢
    refine take_ (i := 0) (N := some 22) (v := ?_) (a' := ?_) #[true, false, false, false, false] rfl rfl (by kernel_rfl) (fun _ _ _ h => h) (Or.inl ⟨by rfl, ?_⟩) hHeld ?_ ?_
    rotate_left
    ·rintro w' ⟨s0, s1, s2, s3⟩
     go_simp
     with_reducible rfl
    rotate_left
    ·simp only [Act.put, List.setIfInBounds_toArray, List.set_cons_zero, List.set_cons_succ, i64_w, i32_w]
     rfl
    refine take_ (i := 1) (N := some 23) (v := ?_) (a' := ?_) #[true, true, false, false, false] rfl rfl (by kernel_rfl) (fun _ _ _ h => h) (Or.inl ⟨by rfl, ?_⟩) hHeld ?_ ?_
    rotate_left
    ·rintro w' ⟨s0, s1, s2, s3⟩
     go_simp
     with_reducible rfl
    rotate_left
    ·simp only [Act.put, List.setIfInBounds_toArray, List.set_cons_zero, List.set_cons_succ, i64_w, i32_w]
     rfl
    refine one_ (i := 2) (N := some 24) #[true, true, true, false, false] rfl rfl (by kernel_rfl) (by decide) (fun K hK => ?_)
    refine goes_ Try.func35 (by kernel_rfl) rfl #[.agg #[.int .i64 a0_0, .slice A0_1 l0_1.length c0_1]] (by rfl) rfl rfl (by (try simp only [List.map_toArray, List.map_cons, List.map_nil]); first | done | rfl | (simp only [List.length_drop, List.length_take]; rfl)) ?_
    with_reducible refine (laws_toNet.calls k a0_0 _ _ l0_1 t698 t699 _ ?side1 ?side2 A12.out).mono ?_
    (case side1 => repeat (first | exact (Kd.C_below HR0_1.out HB.out) | (with_reducible refine Kd.C_alloc ?_ _) | (with_reducible refine Kd.C_drewN ?_ _) | (with_reducible refine Kd.C_drew ?_)))
    (case side2 => exact HC0_1.out)
    rintro e w48 ⟨v700, rfl, ho0, hb⟩
    refine ⟨_, rfl, ?_⟩
    have n0_ := Aside0.mk (Kd.R_elder' (by (with_reducible repeat (first | apply Kd.R_alloc | apply Kd.R_drewN | apply Kd.R_drew)); exact HO690.out) (Kd.R_base ho0) hb)
    have n1_ := Aside0.mk (Kd.R_elder' (by (with_reducible repeat (first | apply Kd.R_alloc | apply Kd.R_drewN | apply Kd.R_drew)); exact HO695.out) (Kd.R_base ho0) hb)
    have n2_ := Aside0.mk (Kd.R_lower (Kd.R_new' (Kd.R_new' ho0 (Kd.R_lt (by (with_reducible repeat (first | apply Kd.R_alloc | apply Kd.R_drewN | apply Kd.R_drew)); exact HO690.out))) (Kd.R_lt (by (with_reducible repeat (first | apply Kd.R_alloc | apply Kd.R_drewN | apply Kd.R_drew)); exact HO695.out))) (below_size (by repeat (first | (with_reducible first | exact HB.out | apply below_alloc | apply pw_below_drewN | apply below_drew1 | refine below_set ?_ GE685.out | refine below_set ?_ GE696.out) | exact HB.out))))
    have n3_ := Aside0.mk (blk_below (g := gb685) (o := .cells #[.int .i64 a0_0, .slice A0_1 l0_1.length c0_1] 55 (0, 0)) (by (with_reducible repeat (first | refine blk_drewN ?_ _ | refine blk_drew ?_ | refine blk_alloc ?_ _)); exact BK685.out) hb)
    have n4_ := Aside0.mk (blk_below (g := gb696) (o := .cells #[.int .i64 t692, .slice Ao45 t693.length co45] 38 (0, 0)) (by (with_reducible repeat (first | refine blk_drewN ?_ _ | refine blk_drew ?_ | refine blk_alloc ?_ _)); exact BK696.out) hb)
    have n5_ := Aside0.mk (below_step (by repeat (first | (with_reducible first | exact HB.out | apply below_alloc | apply pw_below_drewN | apply below_drew1 | refine below_set ?_ GE685.out | refine below_set ?_ GE696.out) | exact HB.out)) hb)
    clear HO690
    clear HO695
    clear BK685
    clear BK696
    clear HB
    have HO690 := n0_
    have HO695 := n1_
    have HO701 := n2_
    have BK685 := n3_
    have BK696 := n4_
    have HB := n5_
    clear n0_ n1_ n2_ n3_ n4_ n5_
    (try clear hb)
    (try clear hb2)
    (try clear hk)
    (try clear hi)
    (try clear ho0)
    obtain ⟨Ao49, co49, eo49⟩ := Kd.R_slice HO701.out
    (first | subst eo49 | (injection eo49 with f1_ f2_ f3_; have f4_ := f1_.symm; have f5_ := f3_.symm; clear f1_ f2_ f3_; subst f4_; subst f5_))
    refine hK.out _ _ ⟨(blk_cell BK696.out 0).trans rfl, (blk_cell BK696.out 1).trans rfl, (blk_cell BK685.out 0).trans rfl, (blk_cell BK685.out 1).trans rfl⟩ (fun hHeld => ?_)
    clear hK K
    refine norm_ (a' := ?_) ?_ ?_
    rotate_left
    ·show Act.put _ (some 24) _ = _
     simp only [Act.put, List.setIfInBounds_toArray, List.set_cons_zero, List.set_cons_succ, i64_w, i32_w]
     rfl
    refine one_ (i := 3) (N := some 25) #[true, true, true, true, false] rfl rfl (by kernel_rfl) (by decide) (fun K hK => ?_)
    refine goes_ Try.func39 (by kernel_rfl) rfl #[.agg #[.int .i64 t692, .slice Ao45 t693.length co45], .agg #[.int .i64 t698, .slice Ao49 t699.length co49]] (by rfl) rfl rfl (by (try simp only [List.map_toArray, List.map_cons, List.map_nil]); first | done | rfl | (simp only [List.length_drop, List.length_take]; rfl)) ?_
    with_reducible refine (laws_eqNet.calls k t692 _ _ t693 t698 _ _ t699 false _ ?side1 ?side2 ?side3 ?side4 A13.out).mono ?_
    (case side1 => repeat (first | exact (Kd.R_reads' HO695.out).2.2 | (with_reducible refine Kd.C_alloc ?_ _) | (with_reducible refine Kd.C_drewN ?_ _) | (with_reducible refine Kd.C_drew ?_)))
    (case side2 => exact (Kd.R_reads' HO695.out).2.1)
    (case side3 => repeat (first | exact (Kd.R_reads' HO701.out).2.2 | (with_reducible refine Kd.C_alloc ?_ _) | (with_reducible refine Kd.C_drewN ?_ _) | (with_reducible refine Kd.C_drew ?_)))
    (case side4 => exact (Kd.R_reads' HO701.out).2.1)
    rintro e w50 ⟨rfl, hb⟩
    refine ⟨_, rfl, ?_⟩
    have n0_ := Aside0.mk (Kd.R_below (by (with_reducible repeat (first | apply Kd.R_alloc | apply Kd.R_drewN | apply Kd.R_drew)); exact HO690.out) hb)
    have n1_ := Aside0.mk (Kd.R_below (by (with_reducible repeat (first | apply Kd.R_alloc | apply Kd.R_drewN | apply Kd.R_drew)); exact HO695.out) hb)
    have n2_ := Aside0.mk (Kd.R_below (by (with_reducible repeat (first | apply Kd.R_alloc | apply Kd.R_drewN | apply Kd.R_drew)); exact HO701.out) hb)
    have n3_ := Aside0.mk (blk_below (g := gb685) (o := .cells #[.int .i64 a0_0, .slice A0_1 l0_1.length c0_1] 55 (0, 0)) (by (with_reducible repeat (first | refine blk_drewN ?_ _ | refine blk_drew ?_ | refine blk_alloc ?_ _)); exact BK685.out) hb)
    have n4_ := Aside0.mk (blk_below (g := gb696) (o := .cells #[.int .i64 t692, .slice Ao45 t693.length co45] 38 (0, 0)) (by (with_reducible repeat (first | refine blk_drewN ?_ _ | refine blk_drew ?_ | refine blk_alloc ?_ _)); exact BK696.out) hb)
    have n5_ := Aside0.mk (below_step (by repeat (first | (with_reducible first | exact HB.out | apply below_alloc | apply pw_below_drewN | apply below_drew1 | refine below_set ?_ GE685.out | refine below_set ?_ GE696.out) | exact HB.out)) hb)
    clear HO690
    clear HO695
    clear HO701
    clear BK685
    clear BK696
    clear HB
    have HO690 := n0_
    have HO695 := n1_
    have HO701 := n2_
    have BK685 := n3_
    have BK696 := n4_
    have HB := n5_
    clear n0_ n1_ n2_ n3_ n4_ n5_
    (try clear hb)
    (try clear hb2)
    (try clear hk)
    (try clear hi)
    refine hK.out _ _ ⟨(blk_cell BK696.out 0).trans rfl, (blk_cell BK696.out 1).trans rfl, (blk_cell BK685.out 0).trans rfl, (blk_cell BK685.out 1).trans rfl⟩ (fun hHeld => ?_)
    clear hK K
    refine norm_ (a' := ?_) ?_ ?_
    rotate_left
    ·show Act.put _ (some 25) _ = _
     simp only [Act.put, List.setIfInBounds_toArray, List.set_cons_zero, List.set_cons_succ, i64_w, i32_w]
     rfl
    refine pure_ (i := 4) (N := some 26) (v := ?_) (a' := ?_) #[true, true, true, true, true] rfl rfl (by kernel_rfl) (fun _ _ _ h => h) (Or.inl ⟨by rfl, ?_⟩) ?_ ?_
    rotate_left
    ·intro w'
     go_simp
     with_reducible rfl
    rotate_left
    ·simp only [Act.put, List.setIfInBounds_toArray, List.set_cons_zero, List.set_cons_succ, i64_w, i32_w]
     rfl
    refine done_ (by kernel_rfl) ?_
    try go_wp2
    go_ret
    exact ⟨by first | rfl | (simp [errW_none, errW_some] <;> rfl) | (simp [*, errW_none, errW_some] <;> rfl), by repeat (first | (with_reducible first | exact HB.out | apply below_alloc | apply pw_below_drewN | apply below_drew1 | refine below_set ?_ GE685.out | refine below_set ?_ GE696.out) | exact HB.out)⟩
  ·rw [if_neg c11] at H
   have c11b0 : (t697 == t691) = false := beq_eq_false_iff_ne.mpr c11
   have c11b1 : (t697 != t691) = true := bne_iff_ne.mpr c11
   obtain rfl := Option.some.inj H
   go_enter Try.func7, Try.ntmps7
   go_wp2_with (first | ((with_reducible refine gate_dst (N := 1) rfl ?_); refine box_event ?hg (N := 1) ?hd (cs := #[.int .i64 a0_0, .slice A0_1 l0_1.length c0_1]) (t := 55) ?hr ?_; (case hd => rfl); (case hg => rfl); (case hr => first | (go_simp; done) | (go_simp; rfl)); intro gb685 hg w51 hbox hb; have n0_ := Aside0.mk (below_step (by repeat (first | (with_reducible first | exact HB.out | apply below_alloc | apply pw_below_drewN | apply below_drew1) | exact HB.out)) hb); have n1_ := Aside0.mk (hbox); have n2_ := Aside0.mk ((by rw [hg]; exact (below_size (by repeat (first | (with_reducible first | exact HB.out | apply below_alloc | apply pw_below_drewN | apply below_drew1) | exact HB.out))) : w.heap.size ≤ gb685)); have n3_ := Aside0.mk ((by rw [hg]; exact (below_size (by repeat (first | (with_reducible first | exact HB.out | apply below_alloc | apply pw_below_drewN | apply below_drew1) | exact HB.out))) : w.heap.size ≤ gb685)); clear HB; have HB := n0_; have BK685 := n1_; have GW685 := n2_; have GE685 := n3_; clear n0_ n1_ n2_ n3_; clear hb hbox hg; have hcz52_0 : w51.cell? ⟨gb685, 0, none⟩ = some (.int .i64 a0_0) := (blk_cell BK685.out 0).trans rfl; have hcz52_1 : w51.cell? ⟨gb685, 1, none⟩ = some (.slice A0_1 l0_1.length c0_1) := (blk_cell BK685.out 1).trans rfl; have hfz52_0 := blk_frozen BK685.out 0; have hfz52_1 := blk_frozen BK685.out 1) | ((with_reducible refine gate_callee (f := 33) rfl ?_); refine goesL_ (some 9) rfl rfl Try.func33 (by kernel_rfl) rfl #[.agg #[.int .i64 a0_0, .slice A0_1 l0_1.length c0_1], .int .i64 1048576] rfl (by (try simp only [List.map_toArray, List.map_cons, List.map_nil]); first | done | rfl | (simp only [List.length_drop, List.length_take]; rfl)) ?_; (with_reducible refine (laws_szNet.calls a0_0 _ _ l0_1 1048576 t686 _ ?side1 ?side2 A2.out).mono ?_); (case side1 => repeat (first | exact (Kd.C_below HR0_1.out HB.out) | (with_reducible refine Kd.C_alloc ?_ _) | (with_reducible refine Kd.C_drewN ?_ _) | (with_reducible refine Kd.C_drew ?_))); (case side2 => exact HC0_1.out); rintro e w53 ⟨rfl, hb⟩; refine ⟨_, rfl, ?_⟩; have n0_ := Aside0.mk (blk_below (g := gb685) (o := .cells #[.int .i64 a0_0, .slice A0_1 l0_1.length c0_1] 55 (0, 0)) (by (with_reducible repeat (first | refine blk_drewN ?_ _ | refine blk_drew ?_ | refine blk_alloc ?_ _)); exact BK685.out) hb); have n1_ := Aside0.mk (below_step (by repeat (first | (with_reducible first | exact HB.out | apply below_alloc | apply pw_below_drewN | apply below_drew1 | refine below_set ?_ GE685.out) | exact HB.out)) hb); clear BK685; clear HB; have BK685 := n0_; have HB := n1_; clear n0_ n1_; (try clear hb); (try clear hb2); (try clear hk); (try clear hi); have hcz54_0 : w53.cell? ⟨gb685, 0, none⟩ = some (.int .i64 a0_0) := (blk_cell BK685.out 0).trans rfl; have hcz54_1 : w53.cell? ⟨gb685, 1, none⟩ = some (.slice A0_1 l0_1.length c0_1) := (blk_cell BK685.out 1).trans rfl; have hfz54_0 := blk_frozen BK685.out 0; have hfz54_1 := blk_frozen BK685.out 1) | ((with_reducible refine gate_callee (f := 35) rfl ?_); refine goesL_ (some 13) rfl rfl Try.func35 (by kernel_rfl) rfl #[.agg #[.int .i64 a0_0, .slice A0_1 l0_1.length c0_1]] rfl (by (try simp only [List.map_toArray, List.map_cons, List.map_nil]); first | done | rfl | (simp only [List.length_drop, List.length_take]; rfl)) ?_; (with_reducible refine (laws_toNet.calls k a0_0 _ _ l0_1 t687 t688 _ ?side1 ?side2 A7.out).mono ?_); (case side1 => repeat (first | exact (Kd.C_below HR0_1.out HB.out) | (with_reducible refine Kd.C_alloc ?_ _) | (with_reducible refine Kd.C_drewN ?_ _) | (with_reducible refine Kd.C_drew ?_))); (case side2 => exact HC0_1.out); rintro e w55 ⟨v689, rfl, ho0, hb⟩; refine ⟨_, rfl, ?_⟩; have n0_ := Aside0.mk (Kd.R_lower ho0 (below_size (by repeat (first | (with_reducible first | exact HB.out | apply below_alloc | apply pw_below_drewN | apply below_drew1 | refine below_set ?_ GE685.out) | exact HB.out)))); have n1_ := Aside0.mk (blk_below (g := gb685) (o := .cells #[.int .i64 a0_0, .slice A0_1 l0_1.length c0_1] 55 (0, 0)) (by (with_reducible repeat (first | refine blk_drewN ?_ _ | refine blk_drew ?_ | refine blk_alloc ?_ _)); exact BK685.out) hb); have n2_ := Aside0.mk (below_step (by repeat (first | (with_reducible first | exact HB.out | apply below_alloc | apply pw_below_drewN | apply below_drew1 | refine below_set ?_ GE685.out) | exact HB.out)) hb); clear BK685; clear HB; have HO690 := n0_; have BK685 := n1_; have HB := n2_; clear n0_ n1_ n2_; (try clear hb); (try clear hb2); (try clear hk); (try clear hi); (try clear ho0); obtain ⟨Ao56, co56, eo56⟩ := Kd.R_slice HO690.out; subst eo56) | ((with_reducible refine gate_callee (f := 43) rfl ?_); refine goesL_ (some 14) rfl rfl Try.func43 (by kernel_rfl) rfl #[.agg #[.int .i64 t687, .slice Ao56 t688.length co56]] rfl (by (try simp only [List.map_toArray, List.map_cons, List.map_nil]); first | done | rfl | (simp only [List.length_drop, List.length_take]; rfl)) ?_; (with_reducible refine (spec_RingLong.calls k t687 _ _ t688 t691 _ ?side1 ?side2 A8.out).mono ?_); (case side1 => repeat (first | exact (Kd.R_reads' HO690.out).2.2 | (with_reducible refine Kd.C_alloc ?_ _) | (with_reducible refine Kd.C_drewN ?_ _) | (with_reducible refine Kd.C_drew ?_))); (case side2 => exact (Kd.R_reads' HO690.out).2.1); rintro e w57 ⟨rfl, hb⟩; refine ⟨_, rfl, ?_⟩; have n0_ := Aside0.mk (Kd.R_below (by (with_reducible repeat (first | apply Kd.R_alloc | apply Kd.R_drewN | apply Kd.R_drew)); exact HO690.out) hb); have n1_ := Aside0.mk (blk_below (g := gb685) (o := .cells #[.int .i64 a0_0, .slice A0_1 l0_1.length c0_1] 55 (0, 0)) (by (with_reducible repeat (first | refine blk_drewN ?_ _ | refine blk_drew ?_ | refine blk_alloc ?_ _)); exact BK685.out) hb); have n2_ := Aside0.mk (below_step (by repeat (first | (with_reducible first | exact HB.out | apply below_alloc | apply pw_below_drewN | apply below_drew1 | refine below_set ?_ GE685.out) | exact HB.out)) hb); clear HO690; clear BK685; clear HB; have HO690 := n0_; have BK685 := n1_; have HB := n2_; clear n0_ n1_ n2_; (try clear hb); (try clear hb2); (try clear hk); (try clear hi); have hcz58_0 : w57.cell? ⟨gb685, 0, none⟩ = some (.int .i64 a0_0) := (blk_cell BK685.out 0).trans rfl; have hcz58_1 : w57.cell? ⟨gb685, 1, none⟩ = some (.slice A0_1 l0_1.length c0_1) := (blk_cell BK685.out 1).trans rfl; have hfz58_0 := blk_frozen BK685.out 0; have hfz58_1 := blk_frozen BK685.out 1) | ((with_reducible refine gate_callee (f := 35) rfl ?_); refine goesL_ (some 16) rfl rfl Try.func35 (by kernel_rfl) rfl #[.agg #[.int .i64 a0_0, .slice A0_1 l0_1.length c0_1]] rfl (by (try simp only [List.map_toArray, List.map_cons, List.map_nil]); first | done | rfl | (simp only [List.length_drop, List.length_take]; rfl)) ?_; (with_reducible refine (laws_toNet.calls k a0_0 _ _ l0_1 t692 t693 _ ?side1 ?side2 A9.out).mono ?_); (case side1 => repeat (first | exact (Kd.C_below HR0_1.out HB.out) | (with_reducible refine Kd.C_alloc ?_ _) | (with_reducible refine Kd.C_drewN ?_ _) | (with_reducible refine Kd.C_drew ?_))); (case side2 => exact HC0_1.out); rintro e w59 ⟨v694, rfl, ho0, hb⟩; refine ⟨_, rfl, ?_⟩; have n0_ := Aside0.mk (Kd.R_elder' (by (with_reducible repeat (first | apply Kd.R_alloc | apply Kd.R_drewN | apply Kd.R_drew)); exact HO690.out) (Kd.R_base ho0) hb); have n1_ := Aside0.mk (Kd.R_lower (Kd.R_new' ho0 (Kd.R_lt (by (with_reducible repeat (first | apply Kd.R_alloc | apply Kd.R_drewN | apply Kd.R_drew)); exact HO690.out))) (below_size (by repeat (first | (with_reducible first | exact HB.out | apply below_alloc | apply pw_below_drewN | apply below_drew1 | refine below_set ?_ GE685.out) | exact HB.out)))); have n2_ := Aside0.mk (blk_below (g := gb685) (o := .cells #[.int .i64 a0_0, .slice A0_1 l0_1.length c0_1] 55 (0, 0)) (by (with_reducible repeat (first | refine blk_drewN ?_ _ | refine blk_drew ?_ | refine blk_alloc ?_ _)); exact BK685.out) hb); have n3_ := Aside0.mk (below_step (by repeat (first | (with_reducible first | exact HB.out | apply below_alloc | apply pw_below_drewN | apply below_drew1 | refine below_set ?_ GE685.out) | exact HB.out)) hb); clear HO690; clear BK685; clear HB; have HO690 := n0_; have HO695 := n1_; have BK685 := n2_; have HB := n3_; clear n0_ n1_ n2_ n3_; (try clear hb); (try clear hb2); (try clear hk); (try clear hi); (try clear ho0)) | ((with_reducible refine gate_dst (N := 5) rfl ?_); refine box_event ?hg (N := 5) ?hd (cs := #[.int .i64 0, .slice none 0 0]) (t := 38) ?hr ?_; (case hd => rfl); (case hg => rfl); (case hr => first | (go_simp; done) | (go_simp; rfl)); intro gb696 hg w60 hbox hb; have n0_ := Aside0.mk (Kd.R_below (by (with_reducible repeat (first | apply Kd.R_alloc | apply Kd.R_drewN | apply Kd.R_drew)); exact HO690.out) hb); have n1_ := Aside0.mk (Kd.R_below (by (with_reducible repeat (first | apply Kd.R_alloc | apply Kd.R_drewN | apply Kd.R_drew)); exact HO695.out) hb); have n2_ := Aside0.mk (blk_below (g := gb685) (o := .cells #[.int .i64 a0_0, .slice A0_1 l0_1.length c0_1] 55 (0, 0)) (by (with_reducible repeat (first | refine blk_drewN ?_ _ | refine blk_drew ?_ | refine blk_alloc ?_ _)); exact BK685.out) hb); have n3_ := Aside0.mk (below_step (by repeat (first | (with_reducible first | exact HB.out | apply below_alloc | apply pw_below_drewN | apply below_drew1 | refine below_set ?_ GE685.out) | exact HB.out)) hb); have n4_ := Aside0.mk (hbox); have n5_ := Aside0.mk ((by rw [hg]; exact (below_size (by repeat (first | (with_reducible first | exact HB.out | apply below_alloc | apply pw_below_drewN | apply below_drew1 | refine below_set ?_ GE685.out) | exact HB.out))) : w.heap.size ≤ gb696)); have n6_ := Aside0.mk ((by rw [hg]; exact (below_size (by repeat (first | (with_reducible first | exact HB.out | apply below_alloc | apply pw_below_drewN | apply below_drew1 | refine below_set ?_ GE685.out) | exact HB.out))) : w.heap.size ≤ gb696)); have n7_ := Aside0.mk ((by rw [hg]; exact Nat.ne_of_lt (blk_lt (g := gb685) (o := .cells #[.int .i64 a0_0, .slice A0_1 l0_1.length c0_1] 55 (0, 0)) (by (with_reducible repeat (first | refine blk_drewN ?_ _ | refine blk_drew ?_ | refine blk_alloc ?_ _)); exact BK685.out)) : gb685 ≠ gb696)); have n8_ := Aside0.mk ((by rw [hg]; exact Nat.ne_of_gt (blk_lt (g := gb685) (o := .cells #[.int .i64 a0_0, .slice A0_1 l0_1.length c0_1] 55 (0, 0)) (by (with_reducible repeat (first | refine blk_drewN ?_ _ | refine blk_drew ?_ | refine blk_alloc ?_ _)); exact BK685.out)) : gb696 ≠ gb685)); clear HO690; clear HO695; clear BK685; clear HB; have HO690 := n0_; have HO695 := n1_; have BK685 := n2_; have HB := n3_; have BK696 := n4_; have GW696 := n5_; have GE696 := n6_; have NB685_696 := n7_; have NB696_685 := n8_; clear n0_ n1_ n2_ n3_ n4_ n5_ n6_ n7_ n8_; clear hb hbox hg; have hnb61 := NB696_685.out; have hnc61 := NB685_696.out; have hcz62_0 : w60.cell? ⟨gb696, 0, none⟩ = some (.int .i64 0) := (blk_cell BK696.out 0).trans rfl; have hcz62_1 : w60.cell? ⟨gb696, 1, none⟩ = some (.slice none 0 0) := (blk_cell BK696.out 1).trans rfl; have hfz62_0 := blk_frozen BK696.out 0; have hfz62_1 := blk_frozen BK696.out 1; obtain ⟨Ao63, co63, eo63⟩ := Kd.R_slice HO695.out; subst eo63) | ((with_reducible refine gate_callee (f := 44) rfl ?_); refine goesL_ (some 18) rfl rfl Try.func44 (by kernel_rfl) rfl #[.agg #[.int .i64 t692, .slice Ao63 t693.length co63]] rfl (by (try simp only [List.map_toArray, List.map_cons, List.map_nil]); first | done | rfl | (simp only [List.length_drop, List.length_take]; rfl)) ?_; (with_reducible refine (impl_RingLong.calls k t692 _ _ t693 t697 _ ?side1 ?side2 A10.out).mono ?_); (case side1 => refine (Kd.R_reads' (e := 45) (base := w.heap.size) (ok := fun k_ => (True ∧ some k_ ≠ (.slice Ao56 t688.length co56 : Value).ownBlock)) (n := t693.length) (c := co63) ?_).2.2; exact (by (with_reducible repeat (first | apply Kd.R_alloc | apply Kd.R_drewN | apply Kd.R_drew)); exact (Kd.R_mono (Kd.R_far (p := ⟨gb696, 1, none⟩) (Kd.R_far (p := ⟨gb696, 0, none⟩) (Kd.R_types HO695.out BK696.out (by decide)) (fun _ hk => hk.2) (.int .i64 t692)) (fun _ hk => hk.2) (.slice Ao63 t693.length co63)) (fun _ h_ => h_.1)))); (case side2 => exact (Kd.R_reads' HO695.out).2.1); rintro e w64 ⟨rfl, hb⟩; refine ⟨_, rfl, ?_⟩; have n0_ := Aside0.mk (Kd.R_below (by (with_reducible repeat (first | apply Kd.R_alloc | apply Kd.R_drewN | apply Kd.R_drew)); exact (Kd.R_mono (Kd.R_far (p := ⟨gb696, 1, none⟩) (Kd.R_far (p := ⟨gb696, 0, none⟩) (Kd.R_types HO690.out BK696.out (by decide)) (fun _ hk => hk.2) (.int .i64 t692)) (fun _ hk => hk.2) (.slice Ao63 t693.length co63)) (fun _ h_ => h_.1))) hb); have n1_ := Aside0.mk (Kd.R_below (by (with_reducible repeat (first | apply Kd.R_alloc | apply Kd.R_drewN | apply Kd.R_drew)); exact (Kd.R_mono (Kd.R_far (p := ⟨gb696, 1, none⟩) (Kd.R_far (p := ⟨gb696, 0, none⟩) (Kd.R_types HO695.out BK696.out (by decide)) (fun _ hk => hk.2) (.int .i64 t692)) (fun _ hk => hk.2) (.slice Ao63 t693.length co63)) (fun _ h_ => h_.1))) hb); have n2_ := Aside0.mk (blk_below (g := gb685) (o := .cells #[.int .i64 a0_0, .slice A0_1 l0_1.length c0_1] 55 (0, 0)) (by (with_reducible repeat (first | refine blk_drewN ?_ _ | refine blk_drew ?_ | refine blk_alloc ?_ _)); refine blk_far ?_ NB685_696.out _; (with_reducible repeat (first | refine blk_drewN ?_ _ | refine blk_drew ?_ | refine blk_alloc ?_ _)); refine blk_far ?_ NB685_696.out _; (with_reducible repeat (first | refine blk_drewN ?_ _ | refine blk_drew ?_ | refine blk_alloc ?_ _)); exact BK685.out) hb); have n3_ := Aside0.mk (blk_below (g := gb696) (o := .cells #[.int .i64 t692, .slice Ao63 t693.length co63] 38 (0, 0)) (by (with_reducible repeat (first | refine blk_drewN ?_ _ | refine blk_drew ?_ | refine blk_alloc ?_ _)); refine blk_put (cs := #[.int .i64 t692, .slice none 0 0]) ?_ 1 _ rfl; (with_reducible repeat (first | refine blk_drewN ?_ _ | refine blk_drew ?_ | refine blk_alloc ?_ _)); refine blk_put (cs := #[.int .i64 0, .slice none 0 0]) ?_ 0 _ rfl; (with_reducible repeat (first | refine blk_drewN ?_ _ | refine blk_drew ?_ | refine blk_alloc ?_ _)); exact BK696.out) hb); have n4_ := Aside0.mk (below_step (by repeat (first | (with_reducible first | exact HB.out | apply below_alloc | apply pw_below_drewN | apply below_drew1 | refine below_set ?_ GE685.out | refine below_set ?_ GE696.out) | exact HB.out)) hb); clear HO690; clear HO695; clear BK685; clear BK696; clear HB; have HO690 := n0_; have HO695 := n1_; have BK685 := n2_; have BK696 := n3_; have HB := n4_; clear n0_ n1_ n2_ n3_ n4_; (try clear hb); (try clear hb2); (try clear hk); (try clear hi)))
   go_ret
   exact ⟨by first | rfl | (simp [errW_none, errW_some] <;> rfl) | (simp [*, errW_none, errW_some] <;> rfl), by repeat (first | (with_reducible first | exact HB.out | apply below_alloc | apply pw_below_drewN | apply below_drew1 | refine below_set ?_ GE685.out | refine below_set ?_ GE696.out) | exact HB.out)⟩
end Go.Proofs.Ytmabopomecdidaa.Pr
end
section
set_option linter.unusedVariables false
namespace Go.Proofs.YtmabopomecdidaaW.PrintWords
open Go.RowKit Go.ChangeShapes Go.WideShapes
def Opens (P : Program) {α : Type} (d : Kd α) (t : TypeId) (wf : α → Prop) : Prop :=
 ∀ {H : Type} {enc : TypeId × Value → H} {w : World} {sp : Nat → Bool} {held : Bool} {fuel : Nat} {cs : List Value} {x : DataW H × List MemPlace}, DataW.trod enc P w 0 sp held fuel t cs = some x → ∃ a, d.K w a cs ∧ wf a
def OpensF (P : Program) {α : Type} (d : Kd α) (fs : List Field) (off tot : Nat) (wf : α → Prop) : Prop :=
 ∀ {H : Type} {enc : TypeId × Value → H} {w : World} {sp : Nat → Bool} {held : Bool} {fuel : Nat} {cs : List Value}, cs.length = tot → (∀ f ∈ fs, ∃ y, DataW.trod enc P w 0 sp held fuel f.type ((cs.drop f.offset).take (P.cellsOf f.type)) = some y) → ∃ a, d.K w a (cs.drop off) ∧ wf a
section
variable {P : Program} {α β : Type}
def I64 (n : Int) : Prop := -9223372036854775808 ≤ n ∧ n ≤ 9223372036854775807
theorem I64_of {n : Int} (h : (Lit.int .i64 n).wf = true) : I64 n := by
 simp only [Lit.wf, Bool.and_eq_true, decide_eq_true_eq] at h
 have h1 : IntKind.i64.min = -9223372036854775808 := rfl
 have h2 : IntKind.i64.max = 9223372036854775807 := rfl
 unfold I64
 omega
theorem opens_i64 {t : TypeId} (ht : P.underlying t = some (.int .i64)) : Opens P (Kd.int .i64) t I64 := by
 intro H enc w sp held fuel cs x h
 obtain ⟨n, rfl, _, hw⟩ := DataW.trod_int ht h
 exact ⟨n, rfl, I64_of hw⟩
theorem Opens.imp {d : Kd α} {t : TypeId} {wf wf' : α → Prop} (h : Opens P d t wf) (hi : ∀ a, wf a → wf' a) : Opens P d t wf' := by
 intro H enc w sp held fuel cs x hx
 obtain ⟨a, h1, h2⟩ := h hx
 exact ⟨a, h1, hi a h2⟩
theorem addr_add_add (a : Addr) (i j : Nat) : (a.add i).add j = a.add (i + j) := by
 unfold Addr.add
 by_cases hi : i = 0 <;> by_cases hj : j = 0 <;> simp [hi, hj, Nat.add_assoc]
theorem opens_slice [Inhabited α] {d : Kd α} {t e : TypeId} {wf : α → Prop} (ht : P.underlying t = some (.slice e)) (hc : P.cellsOf e = d.sz) (he : Opens P d e wf) : Opens P (Kd.slice e d) t (fun l => l.length ≤ maxLen ∧ ∀ x ∈ l, wf x) := by
 intro H enc w sp held fuel cs x h
 rcases Deep.open_slice ht h with ⟨rfl, _⟩ | ⟨a, len, cap, m, n, D, Pl, rfl, _, hl, hm, hmm, _, hel⟩
 ·exact ⟨[], ⟨none, 0, rfl, Nat.le_refl _, Kd.C_nil d w⟩, by simp, by simp⟩
 ·have hlm : len ≤ m := by rw [hmm]; split <;> omega
  have hx : ∀ i, i < len → ∃ y : α, (∃ c, c.length = d.sz ∧ d.K w y c ∧ ∀ j u, c[j]? = some u → w.cell? (a.add (i * d.sz + j)) = some u) ∧ wf y := by
   intro i hi
   obtain ⟨cs', hcs, htr⟩ := hel i (by omega)
   obtain ⟨y, hk, hw⟩ := he htr
   obtain ⟨_, hlen, hcell⟩ := World.cells?_some hcs
   refine ⟨y, ⟨cs', d.K_len hk, hk, fun j u hu => ?_⟩, hw⟩
   have hj : j < P.cellsOf e := by
    have := (List.getElem?_eq_some_iff.1 hu).1
    omega
   have := hcell j hj
   rw [addr_add_add, hc, hu] at this
   exact this
  obtain ⟨f, hf⟩ := Deep.choose_lt hx
  refine ⟨(List.range len).map f, ⟨some a, cap, by simp, by simpa using hl, by simp, by simp only [maxLen] at hm; simp; omega, fun _ => ⟨a, rfl, fun j p hj => ?_⟩⟩, by simp; omega, fun y hy => ?_⟩
  ·obtain ⟨hj1, hj2⟩ := List.getElem?_eq_some_iff.1 hj
   simp at hj1 hj2
   subst hj2
   exact (hf j hj1).1
  ·simp only [List.mem_map, List.mem_range] at hy
   obtain ⟨i, hi, rfl⟩ := hy
   exact (hf i hi).2
theorem opensF_last {d : Kd α} {f : Field} {off tot : Nat} {wf : α → Prop} (ho : f.offset = off) (hn : off + P.cellsOf f.type = tot) (h : Opens P d f.type wf) : OpensF P d [f] off tot wf := by
 intro H enc w sp held fuel cs hl hf
 obtain ⟨y, hy⟩ := hf f (by simp)
 obtain ⟨a, hk, hw⟩ := h hy
 refine ⟨a, ?_, hw⟩
 rwa [ho, List.take_of_length_le (by rw [List.length_drop]; omega)] at hk
theorem opensF_cons {d : Kd α} {d' : Kd β} {f : Field} {fs : List Field} {off tot : Nat} {wf : α → Prop} {wf' : β → Prop} (ho : f.offset = off) (h : Opens P d f.type wf) (h' : OpensF P d' fs (off + P.cellsOf f.type) tot wf') :
  OpensF P (Kd.pair d d') (f :: fs) off tot (fun x => wf x.1 ∧ wf' x.2) := by
 intro H enc w sp held fuel cs hl hf
 obtain ⟨y, hy⟩ := hf f (by simp)
 obtain ⟨a, hk, hw⟩ := h hy
 obtain ⟨b, hk', hw'⟩ := h' hl (fun g hg => hf g (by simp [hg]))
 refine ⟨(a, b), ⟨_, _, ?_, hk, hk'⟩, hw, hw'⟩
 rw [ho, ← List.drop_drop, List.take_append_drop]
theorem opens_struct {d : Kd α} {t : TypeId} {fs : Array Field} {wf : α → Prop} (ht : P.underlying t = some (.struct fs)) (h : OpensF P d fs.toList 0 (P.cellsOf t) wf) : Opens P d t wf := by
 intro H enc w sp held fuel cs x hx
 obtain ⟨xs, n, _, _, hl, hlen, hf⟩ := DataW.trod_struct ht hx
 obtain ⟨a, hk, hw⟩ := h hl (fun f hfm => by
  obtain ⟨i, hi, rfl⟩ := List.getElem_of_mem hfm
  have hi' : i < fs.size := by simpa using hi
  have h1 := hf i fs[i] (Array.getElem?_eq_getElem hi')
  rw [List.getElem?_eq_getElem (by omega)] at h1
  exact ⟨_, by simpa using h1⟩)
 exact ⟨a, by simpa using hk, hw⟩
theorem opens_iso {d : Kd α} {t : TypeId} {wf : α → Prop} (f : β → α) (g : α → β) (hfg : ∀ a, f (g a) = a) (h : Opens P d t wf) : Opens P (Kd.iso d f) t (fun b => wf (f b)) := by
 intro H enc w sp held fuel cs x hx
 obtain ⟨a, hk, hw⟩ := h hx
 exact ⟨g a, by show d.K w (f (g a)) cs; rw [hfg]; exact hk, by show wf (f (g a)); rw [hfg]; exact hw⟩
end
end Go.Proofs.YtmabopomecdidaaW.PrintWords
end
section
namespace Go.Proofs.Ytmabopomecdidaa.Pr
open Go.RowKit Go.Proofs.YtmabopomecdidaaW.PrintWords Go.Proofs.YtmabopomecdidaaW.PrintLast Go.Proofs.YtmabopomecdidaaW.PrintMore
def laws_FnExactRingLong.Asked : Prop := ∀ (a0_0 : Int) (l0_1 : List (S117)), I64 a0_0 → (l0_1.length ≤ maxLen ∧ ∀ x_ ∈ l0_1, (I64 x_.f0 ∧ I64 x_.f1 ∧ I64 x_.f2 ∧ I64 x_.f3 ∧ I64 x_.f4)) → ∃ k, laws_FnExactRingLong.f k a0_0 l0_1 = some true
end Go.Proofs.Ytmabopomecdidaa.Pr
end
section
set_option linter.unusedVariables false
namespace Go.Proofs.YtmabopomecdidaaW.PrintWords
open Go.RowKit
section
variable {α β : Type}
theorem Ev.pos {c : Prop} [Decidable c] {t e : Nat → Option α} {r : α} (h : c) (k : Ev t r) : Ev (fun n => if c then t n else e n) r := by
 simp only [if_pos h]; exact k
theorem Ev.neg {c : Prop} [Decidable c] {t e : Nat → Option α} {r : α} (h : ¬ c) (k : Ev e r) : Ev (fun n => if c then t n else e n) r := by
 simp only [if_neg h]; exact k
theorem Ev.bind0 {g : Option α} {f : Nat → α → Option β} {a : α} {r : β} (h : g = some a) (k : Ev (fun n => f n a) r) : Ev (fun n => g.bind (f n)) r := by
 subst h; exact k
theorem Ev.is {a r : α} (h : a = r) : Ev (fun _ => some a) r := by subst h; exact Ev.now _
theorem Ev.cast {g : Nat → Option α} {a r : α} (k : Ev g a) (h : a = r) : Ev g r := h ▸ k
theorem Ev.go {g f : Nat → Option α} {r : α} (k : Ev f r) (h : ∀ k, g (k + 1) = f k) : Ev g r := Ev.step h k
end
theorem w64 {n : Int} (h : -9223372036854775808 ≤ n) (h' : n ≤ 9223372036854775807) : wrap64 n = n := by unfold wrap64; omega
end Go.Proofs.YtmabopomecdidaaW.PrintWords
end
section
namespace Go.Proofs.Ytmabopomecdidaa.Pr
open Go.RowKit Go.Proofs.YtmabopomecdidaaW.PrintWords Go.Proofs.YtmabopomecdidaaW.PrintLast Go.Proofs.YtmabopomecdidaaW.PrintMore
attribute [local go_sem] max2_int min2_int max_two min_two max_three min_three max_four min_four
set_option linter.unusedVariables false
set_option linter.unusedSimpArgs false
def laws_toIntS.l0 : Nat → List Int → List Int → Int → Option (List Int)
 | 0, _, _, _ => none
 | k + 1, x0, x3, x4 => if x4 < (x0.length : Int) then (if 0 ≤ x4 then (if x4 < (x3.length : Int) then (laws_toIntS.l0 k x0 (x3.set (x4 : Int).toNat (rd x0 x4)) (wrap64 (x4 + 1))) else (none)) else (none)) else (some x3)
def laws_toIntS.f (k : Nat) (l0 : List Int) : Option (List Int) := if 0 ≤ (l0.length : Int) then (if ((l0.length : Int) : Int).toNat ≤ 35184372088832 then (laws_toIntS.l0 k l0 (List.replicate ((l0.length : Int) : Int).toNat 0) 0) else (none)) else (none)
theorem laws_toIntS.mono_l : ∀ k, (∀ y0 y1 y2, LeO (laws_toIntS.l0 k y0 y1 y2) (laws_toIntS.l0 (k + 1) y0 y1 y2))
 | 0 => fun _ _ _ r h => by simp [laws_toIntS.l0] at h
 | k + 1 => by
  have ih0 := laws_toIntS.mono_l k
  ·intro y0 y1 y2
   unfold laws_toIntS.l0
   repeat' first
   | (with_reducible exact ih0 _ _ _)
   | (with_reducible exact LeO.refl _)
   | (with_reducible exact LeO.none _)
   | (with_reducible refine LeO.ite ?_ ?_)
   | (with_reducible refine LeO.bind ?_ (fun _ => ?_))
   | exact ih0 _ _ _
   | exact LeO.none _
   | refine LeO.ite ?_ ?_
   | refine LeO.bind ?_ (fun _ => ?_)
theorem laws_toIntS.mono : ∀ a0 k, LeO (laws_toIntS.f k a0) (laws_toIntS.f (k + 1) a0) := by
 intro a0 k
 have ih0 := laws_toIntS.mono_l k
 unfold laws_toIntS.f
 repeat' first
   | (with_reducible exact ih0 _ _ _)
   | (with_reducible exact LeO.refl _)
   | (with_reducible exact LeO.none _)
   | (with_reducible refine LeO.ite ?_ ?_)
   | (with_reducible refine LeO.bind ?_ (fun _ => ?_))
   | exact ih0 _ _ _
   | exact LeO.none _
   | refine LeO.ite ?_ ?_
   | refine LeO.bind ?_ (fun _ => ?_)
set_option maxHeartbeats 8000000 in
set_option maxRecDepth 100000 in
theorem laws_toIntS.calls (k : Nat) (A0 : Option Addr) (c0 : Nat) (l0 : List Int) (r : List Int) (w : World) (hr0 : Kd.C (Kd.int .i64) w A0 l0.length l0) (hc0 : l0.length ≤ c0) (h : laws_toIntS.f k l0 = some r) :
  Calls Try.prog 36 #[.slice A0 l0.length c0] w fun e w' => ∃ v0_ : Value, e = .returned (v0_) ∧ Kd.R (Kd.int .i64) 3 w' w.heap.size (fun _ => True) v0_ r ∧ Below w.heap.size w w' := by
 have HR0 := Aside0.mk hr0
 have HC0 := Aside0.mk hc0
 clear hr0 hc0
 have HB := Aside0.mk (Below.refl w.heap.size w)
 have H : (if 0 ≤ (l0.length : Int) then (if ((l0.length : Int) : Int).toNat ≤ 35184372088832 then (laws_toIntS.l0 k l0 (List.replicate ((l0.length : Int) : Int).toNat 0) 0) else (none)) else (none)) = some r := h
 clear h
 by_cases c2 : 0 ≤ (l0.length : Int)
 ·rw [if_pos c2] at H
  have c2b0 := eq_true c2
  have c2b1 : decide (0 ≤ (l0.length : Int)) = true := decide_eq_true c2
  clear c2
  by_cases c3 : ((l0.length : Int) : Int).toNat ≤ 35184372088832
  ·rw [if_pos c3] at H
   have c3b0 := eq_true c3
   have c3b1 : decide (((l0.length : Int) : Int).toNat ≤ 35184372088832) = true := decide_eq_true c3
   clear c3
   obtain ⟨y122, hy122⟩ : ∃ y_ : List Int, y_ = (List.replicate ((l0.length : Int) : Int).toNat 0) := ⟨_, rfl⟩
   replace H : (laws_toIntS.l0 k l0 y122 0) = some r := by first | (rw [hy122]; with_reducible exact H) | (have H2_ := (Option.bind_some _ _).symm.trans H; rw [hy122]; with_reducible exact H2_) | (have H2_ := (Option.bind_some _ _).symm.trans H; with_reducible exact H2_) | with_reducible exact H | (rw [hy122]; exact H) | exact H
   have Ny122 := Aside0.mk hy122
   clear hy122
   have H' := Aside0.mk H
   clear H
   go_enter Try.func36, Try.ntmps36
   go_wp2_with (first | ((with_reducible refine gate_dst (N := 7) rfl ?_); refine Kd.R_make (Kd.int .i64) _ 3 rfl (N := 7) rfl 22 _ _ rfl (l0.length : Int) (by first | rfl | (go_simp; done) | (go_simp; rfl)) (by first | rfl | (go_simp; done) | (go_simp; rfl)) Try.underlying22 (.int .i64 0) 8 info3 rfl (by decide) (by omega) 0 (ok := fun _ => True) (okp := fun _ => True) rfl (fun _ hk => hk) trivial (of_decide_eq_true (by first | (with_reducible assumption) | assumption)) (Nat.le_trans (Nat.mul_le_mul_right _ (of_decide_eq_true (by first | (with_reducible assumption) | assumption) : (l0.length : Int).toNat ≤ 35184372088832)) (by omega)) (Below.refl _ _) (Nat.le_refl _) ?_; intro v123 w4 ho5 hb hg_ hnew_; clear hg_ hnew_; (first | rw [← Ny122.out] at ho5 | (simp only [Int.reduceToNat] at ho5; rw [← Ny122.out] at ho5)); have n0_ := Aside0.mk (Kd.R_lower ho5 (below_size (by repeat (first | (with_reducible first | exact HB.out | apply below_alloc | apply pw_below_drewN | apply below_drew1) | exact HB.out)))); have n1_ := Aside0.mk (below_step (by repeat (first | (with_reducible first | exact HB.out | apply below_alloc | apply pw_below_drewN | apply below_drew1) | exact HB.out)) hb); clear HB; have HO124 := n0_; have HB := n1_; clear n0_ n1_; clear hb ho5))
   go_loopg [4] k (fun kq v4 w' => ∃ (x3_1 : List Int) (x4_1 : Int), v4 = .int .i64 x4_1 ∧ Aside0 (laws_toIntS.l0 kq l0 x3_1 x4_1 = some r) ∧ Aside0 (kq ≤ k) ∧ Aside0 (Kd.R (Kd.int .i64) 3 w' w.heap.size (fun _ => True) v123 x3_1) ∧ Aside0 (Below w.heap.size w w'))
   case atStart => exact ⟨(y122), (0), (by first | rfl | (simp; done) | (simp [*]; done)), H', ⟨Nat.le_refl _⟩, ⟨by (with_reducible repeat (first | apply Kd.R_alloc | apply Kd.R_drewN | apply Kd.R_drew)); exact HO124.out⟩, ⟨by repeat (first | (with_reducible first | exact HB.out | apply below_alloc | apply pw_below_drewN | apply below_drew1) | exact HB.out)⟩⟩
   case round =>
    clear H'
    try clear c2
    try clear c2b0
    try clear c2b1
    try clear p2
    try clear c3
    try clear c3b0
    try clear c3b1
    obtain ⟨x3_1, x4_1, rfl, HA, HK1, HO_3, HB⟩ := hrel
    cases gk with
    | zero => exact absurd HA.out (by simp [laws_toIntS.l0])
    | succ k1 =>
     have H := HA.out
     clear HA
     simp only [laws_toIntS.l0] at H
     by_cases c6 : x4_1 < (l0.length : Int)
     ·rw [if_pos c6] at H
      have c6b0 : decide (x4_1 < (l0.length : Int)) = true := decide_eq_true c6
      clear c6
      by_cases c7 : 0 ≤ x4_1
      ·rw [if_pos c7] at H
       have c7b0 : decide (0 ≤ x4_1) = true := decide_eq_true c7
       clear c7
       by_cases c8 : x4_1 < (x3_1.length : Int)
       ·rw [if_pos c8] at H
        have c8b0 : decide (x4_1 < (x3_1.length : Int)) = true := decide_eq_true c8
        clear c8
        obtain ⟨y126, hy126⟩ : ∃ y_ : List Int, y_ = (x3_1.set (x4_1 : Int).toNat (rd l0 x4_1)) := ⟨_, rfl⟩
        replace H : (laws_toIntS.l0 k1 l0 y126 (wrap64 (x4_1 + 1))) = some r := by first | (rw [hy126]; with_reducible exact H) | (have H2_ := (Option.bind_some _ _).symm.trans H; rw [hy126]; with_reducible exact H2_) | (have H2_ := (Option.bind_some _ _).symm.trans H; with_reducible exact H2_) | with_reducible exact H | (rw [hy126]; exact H) | exact H
        have Ny126 := Aside0.mk hy126
        clear hy126
        have H' := Aside0.mk H
        clear H
        have p125 : 0 ≤ (x4_1 : Int) := of_decide_eq_true (by first | (with_reducible assumption) | assumption)
        have q125 : x4_1 < (l0.length : Int) := of_decide_eq_true (by first | (with_reducible assumption) | assumption)
        obtain ⟨ad125, e125, hx125_0⟩ := Kd.at_int HR0.out x4_1 p125 q125
        cases e125
        replace hx125_0 := (HB.out.cell (World.block_lt_of_cell? w _ hx125_0)).trans hx125_0
        replace p125 := eq_true p125
        replace q125 := eq_true q125
        have p9 : 0 ≤ (x4_1 : Int) := of_decide_eq_true (by first | (with_reducible assumption) | assumption)
        have q9 : (x4_1 : Int) < ((x3_1.length : Int) : Int) := of_decide_eq_true (by first | (with_reducible assumption) | assumption)
        obtain ⟨go9, co9, eo9, gb9, gl9, cl9, HG9⟩ := Kd.R_form HO_3.out (by omega)
        (first | cases eo9 | (injection eo9 with ea_ en_ ec_; (first | subst ea_ | (injection ea_ with ea_; subst ea_)); subst ec_; clear en_))
        have GB9 := Aside0.mk gb9
        have GG9 := Aside0.mk HG9
        clear gb9 gl9 HG9
        obtain ⟨hx9_0, hf9_0⟩ := Kd.R_celln 0 HO_3.out (x4_1 : Int) p9 q9
        replace p9 := eq_true p9
        replace q9 := eq_true q9
        have HP10 := Kd.R_putg HO_3.out (x4_1 : Int) (rd l0 x4_1)
        go_wp2_with (first | ((with_reducible refine gate_store (t := 3) (p := 20) rfl ?_); refine store_event (t := 3) (p := 20) (v := ?vo_w11) (w1 := (wr.setCell ⟨go9, (x4_1 : Int).toNat, none⟩ (.int .i64 (rd l0 x4_1)))) ?hg ?ho ?hn ?hr ?_; (case ho => rfl); (case hg => rfl); (case hn => rfl); (case hr => first | (go_simp; done) | (go_simp; rfl)); intro w11 hw; have hg : wr.grownBy w11 (some go9) := (by rw [hw]; exact HP10.2); have hp_ : Kd.R (Kd.int .i64) 3 w11 w.heap.size (fun _ => True) (.slice (some ⟨go9, 0, none⟩) x3_1.length co9) y126 := (by rw [hw, Ny126.out]; exact HP10.1); clear HP10; have n0_ := Aside0.mk (hp_); have n1_ := Aside0.mk ((by rw [hw]; exact below_set (HB.out) GB9.out : Below w.heap.size w w11)); clear HO_3; clear HB; have HO_3 := n0_; have HB := n1_; clear n0_ n1_; clear hg hw hp_))
        go_roundg k1
        case measure => have := HK1.out; omega
        case rel => exact ⟨(y126), (wrap64 (x4_1 + 1)), (by first | rfl | (simp; done) | (simp [*]; done)), H', ⟨by have := HK1.out; omega⟩, ⟨by (with_reducible repeat (first | apply Kd.R_alloc | apply Kd.R_drewN | apply Kd.R_drew)); exact HO_3.out⟩, ⟨by repeat (first | (with_reducible first | exact HB.out | apply below_alloc | apply pw_below_drewN | apply below_drew1) | exact HB.out)⟩⟩
       ·rw [if_neg c8] at H
        exact absurd H (by simp)
      ·rw [if_neg c7] at H
       exact absurd H (by simp)
     ·rw [if_neg c6] at H
      have c6b0 : decide (x4_1 < (l0.length : Int)) = false := decide_eq_false c6
      clear c6
      obtain rfl := Option.some.inj H
      go_wp2
      go_ret
      exact ⟨_, by first | rfl | (simp [errW_none, errW_some] <;> rfl) | (simp [*, errW_none, errW_some] <;> rfl), by (with_reducible repeat (first | apply Kd.R_alloc | apply Kd.R_drewN | apply Kd.R_drew)); exact HO_3.out, by repeat (first | (with_reducible first | exact HB.out | apply below_alloc | apply pw_below_drewN | apply below_drew1) | exact HB.out)⟩
  ·rw [if_neg c3] at H
   exact absurd H (by simp)
 ·rw [if_neg c2] at H
  exact absurd H (by simp)
end Go.Proofs.Ytmabopomecdidaa.Pr
end
section
namespace Go.Proofs.Ytmabopomecdidaa.Pr
open Go.RowKit Go.Proofs.YtmabopomecdidaaW.PrintWords Go.Proofs.YtmabopomecdidaaW.PrintLast Go.Proofs.YtmabopomecdidaaW.PrintMore
attribute [local go_sem] max2_int min2_int max_two min_two max_three min_three max_four min_four
set_option linter.unusedVariables false
set_option linter.unusedSimpArgs false
def laws_eqIntS.l0 : Nat → List Int → List Int → Int → Option (Bool)
 | 0, _, _, _ => none
 | k + 1, x0, x1, x5 => if x5 < (x0.length : Int) then (if 0 ≤ x5 then (if x5 < (x1.length : Int) then (if (rd x0 x5) = (rd x1 x5) then (laws_eqIntS.l0 k x0 x1 (wrap64 (x5 + 1))) else (some false)) else (none)) else (none)) else (some true)
def laws_eqIntS.f (k : Nat) (l0 : List Int) (l1 : List Int) : Option (Bool) := if (l0.length : Int) = (l1.length : Int) then (laws_eqIntS.l0 k l0 l1 0) else (some false)
theorem laws_eqIntS.mono_l : ∀ k, (∀ y0 y1 y2, LeO (laws_eqIntS.l0 k y0 y1 y2) (laws_eqIntS.l0 (k + 1) y0 y1 y2))
 | 0 => fun _ _ _ r h => by simp [laws_eqIntS.l0] at h
 | k + 1 => by
  have ih0 := laws_eqIntS.mono_l k
  ·intro y0 y1 y2
   unfold laws_eqIntS.l0
   repeat' first
   | (with_reducible exact ih0 _ _ _)
   | (with_reducible exact LeO.refl _)
   | (with_reducible exact LeO.none _)
   | (with_reducible refine LeO.ite ?_ ?_)
   | (with_reducible refine LeO.bind ?_ (fun _ => ?_))
   | exact ih0 _ _ _
   | exact LeO.none _
   | refine LeO.ite ?_ ?_
   | refine LeO.bind ?_ (fun _ => ?_)
theorem laws_eqIntS.mono : ∀ a0 a1 k, LeO (laws_eqIntS.f k a0 a1) (laws_eqIntS.f (k + 1) a0 a1) := by
 intro a0 a1 k
 have ih0 := laws_eqIntS.mono_l k
 unfold laws_eqIntS.f
 repeat' first
   | (with_reducible exact ih0 _ _ _)
   | (with_reducible exact LeO.refl _)
   | (with_reducible exact LeO.none _)
   | (with_reducible refine LeO.ite ?_ ?_)
   | (with_reducible refine LeO.bind ?_ (fun _ => ?_))
   | exact ih0 _ _ _
   | exact LeO.none _
   | refine LeO.ite ?_ ?_
   | refine LeO.bind ?_ (fun _ => ?_)
set_option maxHeartbeats 8000000 in
set_option maxRecDepth 100000 in
theorem laws_eqIntS.calls (k : Nat) (A0 : Option Addr) (c0 : Nat) (l0 : List Int) (A1 : Option Addr) (c1 : Nat) (l1 : List Int) (r : Bool) (w : World) (hr0 : Kd.C (Kd.int .i64) w A0 l0.length l0) (hc0 : l0.length ≤ c0) (hr1 : Kd.C (Kd.int .i64) w A1 l1.length l1) (hc1 : l1.length ≤ c1) (h : laws_eqIntS.f k l0 l1 = some r) :
  Calls Try.prog 38 #[.slice A0 l0.length c0, .slice A1 l1.length c1] w fun e w' => e = .returned (.bool r) ∧ Drawn0 w w' := by
 have HR0 := Aside0.mk hr0
 have HC0 := Aside0.mk hc0
 clear hr0 hc0
 have HR1 := Aside0.mk hr1
 have HC1 := Aside0.mk hc1
 clear hr1 hc1
 have H : (if (l0.length : Int) = (l1.length : Int) then (laws_eqIntS.l0 k l0 l1 0) else (some false)) = some r := h
 clear h
 by_cases c3 : (l0.length : Int) = (l1.length : Int)
 ·rw [if_pos c3] at H
  have c3b0 : ((l0.length : Int) == (l1.length : Int)) = true := beq_iff_eq.mpr c3
  have c3b1 : ((l0.length : Int) != (l1.length : Int)) = false := bne_eq_false_iff_eq.mpr c3
  have c3b2 : (l0.length == l1.length) = true := by first | simpa using c3 | (simp at c3 ⊢; omega)
  clear c3
  have H' := Aside0.mk H
  clear H
  go_enter Try.func38, Try.ntmps38
  go_wp2
  repeat (go_quiet (fail); try go_wp2)
  go_loopg [5] k (fun kq v5 w' => ∃ (x5_1 : Int), v5 = .int .i64 x5_1 ∧ Aside0 (laws_eqIntS.l0 kq l0 l1 x5_1 = some r) ∧ Aside0 (kq ≤ k) ∧ Drawn0 w w')
  case atStart => exact ⟨(0), (by first | rfl | (simp; done) | (simp [*]; done)), H', ⟨Nat.le_refl _⟩, by repeat (first | exact Drawn0.refl _ | apply Drawn0.step)⟩
  case round =>
   clear H'
   try clear c1
   try clear p2
   try clear c3
   try clear c3b0
   try clear c3b1
   try clear c3b2
   obtain ⟨x5_1, rfl, HA, HK1, ⟨m1, rfl⟩⟩ := hrel
   cases gk with
   | zero => exact absurd HA.out (by simp [laws_eqIntS.l0])
   | succ k1 =>
    have H := HA.out
    clear HA
    simp only [laws_eqIntS.l0] at H
    by_cases c4 : x5_1 < (l0.length : Int)
    ·rw [if_pos c4] at H
     have c4b0 : decide (x5_1 < (l0.length : Int)) = true := decide_eq_true c4
     clear c4
     by_cases c5 : 0 ≤ x5_1
     ·rw [if_pos c5] at H
      have c5b0 : decide (0 ≤ x5_1) = true := decide_eq_true c5
      clear c5
      by_cases c6 : x5_1 < (l1.length : Int)
      ·rw [if_pos c6] at H
       have c6b0 : decide (x5_1 < (l1.length : Int)) = true := decide_eq_true c6
       clear c6
       by_cases c7 : (rd l0 x5_1) = (rd l1 x5_1)
       ·rw [if_pos c7] at H
        have c7b0 : ((rd l0 x5_1) == (rd l1 x5_1)) = true := beq_iff_eq.mpr c7
        have c7b1 : ((rd l0 x5_1) != (rd l1 x5_1)) = false := bne_eq_false_iff_eq.mpr c7
        clear c7
        have H' := Aside0.mk H
        clear H
        have p161 : 0 ≤ (x5_1 : Int) := of_decide_eq_true (by first | (with_reducible assumption) | assumption)
        have q161 : x5_1 < (l0.length : Int) := of_decide_eq_true (by first | (with_reducible assumption) | assumption)
        obtain ⟨ad161, e161, hx161_0⟩ := Kd.at_int HR0.out x5_1 p161 q161
        cases e161
        replace p161 := eq_true p161
        replace q161 := eq_true q161
        have p162 : 0 ≤ (x5_1 : Int) := of_decide_eq_true (by first | (with_reducible assumption) | assumption)
        have q162 : x5_1 < (l1.length : Int) := of_decide_eq_true (by first | (with_reducible assumption) | assumption)
        obtain ⟨ad162, e162, hx162_0⟩ := Kd.at_int HR1.out x5_1 p162 q162
        cases e162
        replace p162 := eq_true p162
        replace q162 := eq_true q162
        go_wp2
        repeat (go_quiet (fail); try go_wp2)
        go_roundg k1
        case measure => have := HK1.out; omega
        case rel => exact ⟨(wrap64 (x5_1 + 1)), (by first | rfl | (simp; done) | (simp [*]; done)), H', ⟨by have := HK1.out; omega⟩, by repeat (first | exact Drawn0.refl _ | apply Drawn0.step)⟩
       ·rw [if_neg c7] at H
        have c7b0 : ((rd l0 x5_1) == (rd l1 x5_1)) = false := beq_eq_false_iff_ne.mpr c7
        have c7b1 : ((rd l0 x5_1) != (rd l1 x5_1)) = true := bne_iff_ne.mpr c7
        obtain rfl := Option.some.inj H
        have p161 : 0 ≤ (x5_1 : Int) := of_decide_eq_true (by first | (with_reducible assumption) | assumption)
        have q161 : x5_1 < (l0.length : Int) := of_decide_eq_true (by first | (with_reducible assumption) | assumption)
        obtain ⟨ad161, e161, hx161_0⟩ := Kd.at_int HR0.out x5_1 p161 q161
        cases e161
        replace p161 := eq_true p161
        replace q161 := eq_true q161
        have p162 : 0 ≤ (x5_1 : Int) := of_decide_eq_true (by first | (with_reducible assumption) | assumption)
        have q162 : x5_1 < (l1.length : Int) := of_decide_eq_true (by first | (with_reducible assumption) | assumption)
        obtain ⟨ad162, e162, hx162_0⟩ := Kd.at_int HR1.out x5_1 p162 q162
        cases e162
        replace p162 := eq_true p162
        replace q162 := eq_true q162
        go_wp2
        repeat (go_quiet (fail); try go_wp2)
        go_ret
        exact ⟨by first | rfl | (simp; done) | (simp [*]; done), by repeat (first | exact Drawn0.refl _ | apply Drawn0.step)⟩
      ·rw [if_neg c6] at H
       exact absurd H (by simp)
     ·rw [if_neg c5] at H
      exact absurd H (by simp)
    ·rw [if_neg c4] at H
     have c4b0 : decide (x5_1 < (l0.length : Int)) = false := decide_eq_false c4
     clear c4
     obtain rfl := Option.some.inj H
     go_wp2
     repeat (go_quiet (fail); try go_wp2)
     go_ret
     exact ⟨by first | rfl | (simp; done) | (simp [*]; done), by repeat (first | exact Drawn0.refl _ | apply Drawn0.step)⟩
 ·rw [if_neg c3] at H
  have c3b0 : ((l0.length : Int) == (l1.length : Int)) = false := beq_eq_false_iff_ne.mpr c3
  have c3b1 : ((l0.length : Int) != (l1.length : Int)) = true := bne_iff_ne.mpr c3
  have c3b2 : (l0.length == l1.length) = false := by first | simpa using c3 | (simp at c3 ⊢; omega)
  obtain rfl := Option.some.inj H
  go_enter Try.func38, Try.ntmps38
  go_wp2
  repeat (go_quiet (fail); try go_wp2)
  go_ret
  exact ⟨by first | rfl | (simp; done) | (simp [*]; done), by repeat (first | exact Drawn0.refl _ | apply Drawn0.step)⟩
end Go.Proofs.Ytmabopomecdidaa.Pr
end
section
set_option linter.unusedSimpArgs false
set_option linter.unusedVariables false
namespace Go.Proofs.Ytmabopomecdidaa.Pure
open Go.RowKit Go.Proofs.Ytmabopomecdidaa.Pr Go.Proofs.YtmabopomecdidaaW.PrintWords Go.Proofs.YtmabopomecdidaaW.PrintLast Go.Proofs.YtmabopomecdidaaW.PrintMore
def inB (x a b : Int) : Bool := decide (a ≤ x) && decide (x ≤ b)
theorem inB_iff {x a b : Int} : inB x a b = true ↔ a ≤ x ∧ x ≤ b := by simp [inB]
theorem in1 (x a b : Int) : spec_l1In.f x a b = some (inB x a b) := by
 unfold spec_l1In.f inB
 by_cases h : x ≥ a
 ·rw [if_pos h]; simp [show a ≤ x from h]
 ·rw [if_neg h]; simp [show ¬ a ≤ x from h]
theorem up1 {i n : Nat} (h : i < n) (hn : n ≤ maxLen) : wrap64 ((i : Int) + 1) = ((i + 1 : Nat) : Int) := by
 simp only [maxLen] at hn
 rw [w64 (by omega) (by omega)]; omega
def nth (l : List Int) (i : Nat) : Int := l.getD i 0
theorem rdg {l : List Int} (i : Nat) : rd l (i : Int) = nth l i := by simp [rd, nth]
theorem nth_get {l : List Int} {i : Nat} (h : i < l.length) : nth l i = l[i] := by simp [nth, h]
theorem drop_cons {α : Type} {l : List α} {i : Nat} (h : i < l.length) : l.drop i = l[i] :: l.drop (i + 1) := List.drop_eq_getElem_cons h
def Pv {α : Type} (g : Nat → Option α) (P : α → Prop) : Prop := ∃ r, Ev g r ∧ P r
section
variable {α β : Type} {P : α → Prop}
theorem Pv.now {a : α} (h : P a) : Pv (fun _ => some a) P := ⟨a, Ev.now a, h⟩
theorem Pv.pos {c : Prop} [Decidable c] {t e : Nat → Option α} (h : c) (k : Pv t P) : Pv (fun n => if c then t n else e n) P := by
 obtain ⟨r, k, hp⟩ := k
 exact ⟨r, Ev.pos h k, hp⟩
theorem Pv.neg {c : Prop} [Decidable c] {t e : Nat → Option α} (h : ¬ c) (k : Pv e P) : Pv (fun n => if c then t n else e n) P := by
 obtain ⟨r, k, hp⟩ := k
 exact ⟨r, Ev.neg h k, hp⟩
theorem Pv.ite {c : Prop} [Decidable c] {t e : Nat → Option α} (h : c → Pv t P) (k : ¬ c → Pv e P) : Pv (fun n => if c then t n else e n) P := by
 by_cases hc : c
 ·exact Pv.pos hc (h hc)
 ·exact Pv.neg hc (k hc)
theorem Pv.bind {g : Nat → Option β} {f : Nat → β → Option α} {R : β → Prop} (h : Pv g R) (k : ∀ b, R b → Pv (fun n => f n b) P) : Pv (fun n => (g n).bind (f n)) P := by
 obtain ⟨b, h, hb⟩ := h
 obtain ⟨r, k, hp⟩ := k b hb
 exact ⟨r, Ev.bind h k, hp⟩
theorem Pv.bind0 {g : Option β} {f : Nat → β → Option α} {b : β} (h : g = some b) (k : Pv (fun n => f n b) P) : Pv (fun n => g.bind (f n)) P := by
 obtain ⟨r, k, hp⟩ := k
 exact ⟨r, Ev.bind0 h k, hp⟩
theorem Pv.go {g f : Nat → Option α} (k : Pv f P) (h : ∀ k, g (k + 1) = f k) : Pv g P := by
 obtain ⟨r, k, hp⟩ := k
 exact ⟨r, Ev.go k h, hp⟩
theorem Pv.mono {g : Nat → Option α} {R : α → Prop} (h : Pv g R) (k : ∀ a, R a → P a) : Pv g P := by
 obtain ⟨r, h, hr⟩ := h
 exact ⟨r, h, k r hr⟩
end
theorem Pv.rounds {g : Nat → Option Bool} (h : Pv g (· = true)) : ∃ k, g k = some true := by
 obtain ⟨r, h, rfl⟩ := h
 exact Ev.rounds h
end Go.Proofs.Ytmabopomecdidaa.Pure
end
section
namespace Go.Proofs.Ytmabopomecdidaa.Pr
open Go.RowKit Go.Proofs.YtmabopomecdidaaW.PrintWords Go.Proofs.YtmabopomecdidaaW.PrintLast Go.Proofs.YtmabopomecdidaaW.PrintMore
attribute [local go_sem] max2_int min2_int max_two min_two max_three min_three max_four min_four
set_option linter.unusedVariables false
set_option linter.unusedSimpArgs false
def impl_nodesIn.f (a0_0 : Int) (l0_1 : List (S45)) (l1 : List Int) : Option (Bool) := (impl_NetOk.f a0_0 l0_1).bind fun t460 => (if t460 = true then ((impl_Net_has.f a0_0 l0_1 l1).bind fun t461 => (some t461)) else (some false))
set_option maxHeartbeats 8000000 in
set_option maxRecDepth 100000 in
theorem impl_nodesIn.calls (a0_0 : Int) (A0_1 : Option Addr) (c0_1 : Nat) (l0_1 : List (S45)) (A1 : Option Addr) (c1 : Nat) (l1 : List Int) (r : Bool) (w : World) (hr0_1 : Kd.C k45 w A0_1 l0_1.length l0_1) (hc0_1 : l0_1.length ≤ c0_1) (hr1 : Kd.C (Kd.int .i64) w A1 l1.length l1) (hc1 : l1.length ≤ c1) (h : impl_nodesIn.f a0_0 l0_1 l1 = some r) :
  Calls Try.prog 106 #[.agg #[.int .i64 a0_0, .slice A0_1 l0_1.length c0_1], .slice A1 l1.length c1] w fun e w' => e = .returned (.bool r) ∧ Below w.heap.size w w' := by
 have hu38 := Try.underlying38
 have HR0_1 := Aside0.mk hr0_1
 have HC0_1 := Aside0.mk hc0_1
 clear hr0_1 hc0_1
 have HR1 := Aside0.mk hr1
 have HC1 := Aside0.mk hc1
 clear hr1 hc1
 have HB := Aside0.mk (Below.refl w.heap.size w)
 have H : ((impl_NetOk.f a0_0 l0_1).bind fun t460 => (if t460 = true then ((impl_Net_has.f a0_0 l0_1 l1).bind fun t461 => (some t461)) else (some false))) = some r := h
 clear h
 replace H := Option.bind_eq_some_iff.mp H
 obtain ⟨t460, A30, H⟩ := H
 replace H : (if t460 = true then ((impl_Net_has.f a0_0 l0_1 l1).bind fun t461 => (some t461)) else (some false)) = some r := H
 have A3 := Aside0.mk A30
 clear A30
 by_cases c4 : t460 = true
 ·subst c4
  have H1 : ((impl_Net_has.f a0_0 l0_1 l1).bind fun t461 => (some t461)) = some r := by rw [if_pos rfl] at H; exact H
  clear H
  have H := H1
  clear H1
  replace H := Option.bind_eq_some_iff.mp H
  obtain ⟨t461, A50, H⟩ := H
  replace H : (some t461) = some r := H
  have A5 := Aside0.mk A50
  clear A50
  obtain rfl := Option.some.inj H
  go_enter Try.func106, Try.ntmps106
  go_wp2_with (first | ((with_reducible refine gate_dst (N := 2) rfl ?_); refine box_event ?hg (N := 2) ?hd (cs := #[.int .i64 a0_0, .slice A0_1 l0_1.length c0_1]) (t := 38) ?hr ?_; (case hd => rfl); (case hg => rfl); (case hr => first | (go_simp; done) | (go_simp; rfl)); intro gb459 hg w6 hbox hb; have n0_ := Aside0.mk (below_step (by repeat (first | (with_reducible first | exact HB.out | apply below_alloc | apply pw_below_drewN | apply below_drew1) | exact HB.out)) hb); have n1_ := Aside0.mk (hbox); have n2_ := Aside0.mk ((by rw [hg]; exact (below_size (by repeat (first | (with_reducible first | exact HB.out | apply below_alloc | apply pw_below_drewN | apply below_drew1) | exact HB.out))) : w.heap.size ≤ gb459)); have n3_ := Aside0.mk ((by rw [hg]; exact (below_size (by repeat (first | (with_reducible first | exact HB.out | apply below_alloc | apply pw_below_drewN | apply below_drew1) | exact HB.out))) : w.heap.size ≤ gb459)); clear HB; have HB := n0_; have BK459 := n1_; have GW459 := n2_; have GE459 := n3_; clear n0_ n1_ n2_ n3_; clear hb hbox hg; have hcz7_0 : w6.cell? ⟨gb459, 0, none⟩ = some (.int .i64 a0_0) := (blk_cell BK459.out 0).trans rfl; have hcz7_1 : w6.cell? ⟨gb459, 1, none⟩ = some (.slice A0_1 l0_1.length c0_1) := (blk_cell BK459.out 1).trans rfl; have hfz7_0 := blk_frozen BK459.out 0; have hfz7_1 := blk_frozen BK459.out 1) | ((with_reducible refine gate_callee (f := 67) rfl ?_); refine goesL_ (some 6) rfl rfl Try.func67 (by kernel_rfl) rfl #[.agg #[.int .i64 a0_0, .slice A0_1 l0_1.length c0_1]] rfl (by (try simp only [List.map_toArray, List.map_cons, List.map_nil]); first | done | rfl | (simp only [List.length_drop, List.length_take]; rfl)) ?_; (with_reducible refine (impl_NetOk.calls a0_0 _ _ l0_1 true _ ?side1 ?side2 A3.out).mono ?_); (case side1 => repeat (first | exact (Kd.C_below HR0_1.out HB.out) | (with_reducible refine Kd.C_alloc ?_ _) | (with_reducible refine Kd.C_drewN ?_ _) | (with_reducible refine Kd.C_drew ?_))); (case side2 => exact HC0_1.out); rintro e w8 ⟨rfl, hb⟩; refine ⟨_, rfl, ?_⟩; have n0_ := Aside0.mk (blk_below (g := gb459) (o := .cells #[.int .i64 a0_0, .slice A0_1 l0_1.length c0_1] 38 (0, 0)) (by (with_reducible repeat (first | refine blk_drewN ?_ _ | refine blk_drew ?_ | refine blk_alloc ?_ _)); exact BK459.out) hb); have n1_ := Aside0.mk (below_step (by repeat (first | (with_reducible first | exact HB.out | apply below_alloc | apply pw_below_drewN | apply below_drew1 | refine below_set ?_ GE459.out) | exact HB.out)) hb); clear BK459; clear HB; have BK459 := n0_; have HB := n1_; clear n0_ n1_; (try clear hb); (try clear hb2); (try clear hk); (try clear hi); have hcz9_0 : w8.cell? ⟨gb459, 0, none⟩ = some (.int .i64 a0_0) := (blk_cell BK459.out 0).trans rfl; have hcz9_1 : w8.cell? ⟨gb459, 1, none⟩ = some (.slice A0_1 l0_1.length c0_1) := (blk_cell BK459.out 1).trans rfl; have hfz9_0 := blk_frozen BK459.out 0; have hfz9_1 := blk_frozen BK459.out 1) | (go_at_call 112; (with_reducible refine (impl_Net_has.calls a0_0 _ _ l0_1 _ _ l1 t461 _ ?side1 ?side2 ?side3 ?side4 A5.out).mono ?_); (case side1 => repeat (first | exact (Kd.C_below HR0_1.out HB.out) | (with_reducible refine Kd.C_alloc ?_ _) | (with_reducible refine Kd.C_drewN ?_ _) | (with_reducible refine Kd.C_drew ?_))); (case side2 => exact HC0_1.out); (case side3 => repeat (first | exact (Kd.C_below HR1.out HB.out) | (with_reducible refine Kd.C_alloc ?_ _) | (with_reducible refine Kd.C_drewN ?_ _) | (with_reducible refine Kd.C_drew ?_))); (case side4 => exact HC1.out); rintro e w10 ⟨rfl, hb⟩; have n0_ := Aside0.mk (blk_below (g := gb459) (o := .cells #[.int .i64 a0_0, .slice A0_1 l0_1.length c0_1] 38 (0, 0)) (by (with_reducible repeat (first | refine blk_drewN ?_ _ | refine blk_drew ?_ | refine blk_alloc ?_ _)); exact BK459.out) hb); have n1_ := Aside0.mk (below_step (by repeat (first | (with_reducible first | exact HB.out | apply below_alloc | apply pw_below_drewN | apply below_drew1 | refine below_set ?_ GE459.out) | exact HB.out)) hb); clear BK459; clear HB; have BK459 := n0_; have HB := n1_; clear n0_ n1_; (try clear hb); (try clear hb2); (try clear hk); (try clear hi)))
  go_ret
  exact ⟨by first | rfl | (simp [errW_none, errW_some] <;> rfl) | (simp [*, errW_none, errW_some] <;> rfl), by repeat (first | (with_reducible first | exact HB.out | apply below_alloc | apply pw_below_drewN | apply below_drew1 | refine below_set ?_ GE459.out) | exact HB.out)⟩
 ·replace c4 := Bool.eq_false_iff.mpr c4
  subst c4
  have H1 : (some false) = some r := by rw [if_neg (show ¬ (false = true) by decide)] at H; exact H
  clear H
  have H := H1
  clear H1
  obtain rfl := Option.some.inj H
  go_enter Try.func106, Try.ntmps106
  go_wp2_with (first | ((with_reducible refine gate_dst (N := 2) rfl ?_); refine box_event ?hg (N := 2) ?hd (cs := #[.int .i64 a0_0, .slice A0_1 l0_1.length c0_1]) (t := 38) ?hr ?_; (case hd => rfl); (case hg => rfl); (case hr => first | (go_simp; done) | (go_simp; rfl)); intro gb459 hg w11 hbox hb; have n0_ := Aside0.mk (below_step (by repeat (first | (with_reducible first | exact HB.out | apply below_alloc | apply pw_below_drewN | apply below_drew1) | exact HB.out)) hb); have n1_ := Aside0.mk (hbox); have n2_ := Aside0.mk ((by rw [hg]; exact (below_size (by repeat (first | (with_reducible first | exact HB.out | apply below_alloc | apply pw_below_drewN | apply below_drew1) | exact HB.out))) : w.heap.size ≤ gb459)); have n3_ := Aside0.mk ((by rw [hg]; exact (below_size (by repeat (first | (with_reducible first | exact HB.out | apply below_alloc | apply pw_below_drewN | apply below_drew1) | exact HB.out))) : w.heap.size ≤ gb459)); clear HB; have HB := n0_; have BK459 := n1_; have GW459 := n2_; have GE459 := n3_; clear n0_ n1_ n2_ n3_; clear hb hbox hg; have hcz12_0 : w11.cell? ⟨gb459, 0, none⟩ = some (.int .i64 a0_0) := (blk_cell BK459.out 0).trans rfl; have hcz12_1 : w11.cell? ⟨gb459, 1, none⟩ = some (.slice A0_1 l0_1.length c0_1) := (blk_cell BK459.out 1).trans rfl; have hfz12_0 := blk_frozen BK459.out 0; have hfz12_1 := blk_frozen BK459.out 1) | ((with_reducible refine gate_callee (f := 67) rfl ?_); refine goesL_ (some 6) rfl rfl Try.func67 (by kernel_rfl) rfl #[.agg #[.int .i64 a0_0, .slice A0_1 l0_1.length c0_1]] rfl (by (try simp only [List.map_toArray, List.map_cons, List.map_nil]); first | done | rfl | (simp only [List.length_drop, List.length_take]; rfl)) ?_; (with_reducible refine (impl_NetOk.calls a0_0 _ _ l0_1 false _ ?side1 ?side2 A3.out).mono ?_); (case side1 => repeat (first | exact (Kd.C_below HR0_1.out HB.out) | (with_reducible refine Kd.C_alloc ?_ _) | (with_reducible refine Kd.C_drewN ?_ _) | (with_reducible refine Kd.C_drew ?_))); (case side2 => exact HC0_1.out); rintro e w13 ⟨rfl, hb⟩; refine ⟨_, rfl, ?_⟩; have n0_ := Aside0.mk (blk_below (g := gb459) (o := .cells #[.int .i64 a0_0, .slice A0_1 l0_1.length c0_1] 38 (0, 0)) (by (with_reducible repeat (first | refine blk_drewN ?_ _ | refine blk_drew ?_ | refine blk_alloc ?_ _)); exact BK459.out) hb); have n1_ := Aside0.mk (below_step (by repeat (first | (with_reducible first | exact HB.out | apply below_alloc | apply pw_below_drewN | apply below_drew1 | refine below_set ?_ GE459.out) | exact HB.out)) hb); clear BK459; clear HB; have BK459 := n0_; have HB := n1_; clear n0_ n1_; (try clear hb); (try clear hb2); (try clear hk); (try clear hi)))
  go_ret
  exact ⟨by first | rfl | (simp [errW_none, errW_some] <;> rfl) | (simp [*, errW_none, errW_some] <;> rfl), by repeat (first | (with_reducible first | exact HB.out | apply below_alloc | apply pw_below_drewN | apply below_drew1 | refine below_set ?_ GE459.out) | exact HB.out)⟩
end Go.Proofs.Ytmabopomecdidaa.Pr
end
section
namespace Go.Proofs.Ytmabopomecdidaa.Pr
open Go.RowKit Go.Proofs.YtmabopomecdidaaW.PrintWords Go.Proofs.YtmabopomecdidaaW.PrintLast Go.Proofs.YtmabopomecdidaaW.PrintMore
attribute [local go_sem] max2_int min2_int max_two min_two max_three min_three max_four min_four
set_option linter.unusedVariables false
set_option linter.unusedSimpArgs false
def impl_apart.f (a0_0 : Int) (l0_1 : List (S45)) (a1 : Int) (a2 : Int) : Option (Bool) := (impl_nodesIn.f a0_0 l0_1 (([a1, a2] : List Int))).bind fun t466 => (if t466 = true then (some (a1 != a2)) else (some false))
set_option maxHeartbeats 8000000 in
set_option maxRecDepth 100000 in
theorem impl_apart.calls (a0_0 : Int) (A0_1 : Option Addr) (c0_1 : Nat) (l0_1 : List (S45)) (a1 : Int) (a2 : Int) (r : Bool) (w : World) (hr0_1 : Kd.C k45 w A0_1 l0_1.length l0_1) (hc0_1 : l0_1.length ≤ c0_1) (h : impl_apart.f a0_0 l0_1 a1 a2 = some r) :
  Calls Try.prog 76 #[.agg #[.int .i64 a0_0, .slice A0_1 l0_1.length c0_1], .int .i64 a1, .int .i64 a2] w fun e w' => e = .returned (.bool r) ∧ Below w.heap.size w w' := by
 have hu38 := Try.underlying38
 have HR0_1 := Aside0.mk hr0_1
 have HC0_1 := Aside0.mk hc0_1
 clear hr0_1 hc0_1
 have HB := Aside0.mk (Below.refl w.heap.size w)
 have H : ((impl_nodesIn.f a0_0 l0_1 (([a1, a2] : List Int))).bind fun t466 => (if t466 = true then (some (a1 != a2)) else (some false))) = some r := h
 clear h
 obtain ⟨y463, hy463⟩ : ∃ y_ : List Int, y_ = (([a1, a2] : List Int)) := ⟨_, rfl⟩
 replace H : ((impl_nodesIn.f a0_0 l0_1 y463).bind fun t466 => (if t466 = true then (some (a1 != a2)) else (some false))) = some r := by first | (rw [hy463]; with_reducible exact H) | (have H2_ := (Option.bind_some _ _).symm.trans H; rw [hy463]; with_reducible exact H2_) | (have H2_ := (Option.bind_some _ _).symm.trans H; with_reducible exact H2_) | with_reducible exact H | (rw [hy463]; exact H) | exact H
 have Ny463 := Aside0.mk hy463
 clear hy463
 replace H := Option.bind_eq_some_iff.mp H
 obtain ⟨t466, A40, H⟩ := H
 replace H : (if t466 = true then (some (a1 != a2)) else (some false)) = some r := H
 have A4 := Aside0.mk A40
 clear A40
 by_cases c5 : t466 = true
 ·subst c5
  have H1 : (some (a1 != a2)) = some r := by rw [if_pos rfl] at H; exact H
  clear H
  have H := H1
  clear H1
  obtain rfl := Option.some.inj H
  go_enter Try.func76, Try.ntmps76
  go_wp2_with (first | ((with_reducible refine gate_dst (N := 3) rfl ?_); refine box_event ?hg (N := 3) ?hd (cs := #[.int .i64 a0_0, .slice A0_1 l0_1.length c0_1]) (t := 38) ?hr ?_; (case hd => rfl); (case hg => rfl); (case hr => first | (go_simp; done) | (go_simp; rfl)); intro gb462 hg w6 hbox hb; have n0_ := Aside0.mk (below_step (by repeat (first | (with_reducible first | exact HB.out | apply below_alloc | apply pw_below_drewN | apply below_drew1) | exact HB.out)) hb); have n1_ := Aside0.mk (hbox); have n2_ := Aside0.mk ((by rw [hg]; exact (below_size (by repeat (first | (with_reducible first | exact HB.out | apply below_alloc | apply pw_below_drewN | apply below_drew1) | exact HB.out))) : w.heap.size ≤ gb462)); have n3_ := Aside0.mk ((by rw [hg]; exact (below_size (by repeat (first | (with_reducible first | exact HB.out | apply below_alloc | apply pw_below_drewN | apply below_drew1) | exact HB.out))) : w.heap.size ≤ gb462)); clear HB; have HB := n0_; have BK462 := n1_; have GW462 := n2_; have GE462 := n3_; clear n0_ n1_ n2_ n3_; clear hb hbox hg; have hcz7_0 : w6.cell? ⟨gb462, 0, none⟩ = some (.int .i64 a0_0) := (blk_cell BK462.out 0).trans rfl; have hcz7_1 : w6.cell? ⟨gb462, 1, none⟩ = some (.slice A0_1 l0_1.length c0_1) := (blk_cell BK462.out 1).trans rfl; have hfz7_0 := blk_frozen BK462.out 0; have hfz7_1 := blk_frozen BK462.out 1) | ((with_reducible refine gate_dst (N := 10) rfl ?_); refine Kd.R_lit (Kd.int .i64) _ 3 ?hg (N := 10) ?hd (xs := ([a1, a2] : List Int)) (inner := [.int .i64 a1, .int .i64 a2]) (ok := fun _ => True) (okp := fun _ => True) ?hr ?hp (fun _ hk => hk) trivial (Below.refl _ _) (Nat.le_refl _) (by simp) ?_; (case hd => rfl); (case hg => rfl); (case hr => first | (go_simp; done) | (go_simp; rfl)); (case hp => exact (Reps.one (show Kd.M (Kd.int .i64) _ _ _ a1 [.int .i64 a1] from rfl) (Reps.one (show Kd.M (Kd.int .i64) _ _ _ a2 [.int .i64 a2] from rfl) (Reps.none _ _)))); intro v464 w8 ho9 hb hg_ hnew_; clear hg_ hnew_; (first | rw [← Ny463.out] at ho9 | (simp only [Int.reduceToNat] at ho9; rw [← Ny463.out] at ho9)); have n0_ := Aside0.mk (Kd.R_lower ho9 (below_size (by repeat (first | (with_reducible first | exact HB.out | apply below_alloc | apply pw_below_drewN | apply below_drew1 | refine below_set ?_ GE462.out) | exact HB.out)))); have n1_ := Aside0.mk (blk_below (g := gb462) (o := .cells #[.int .i64 a0_0, .slice A0_1 l0_1.length c0_1] 38 (0, 0)) (by (with_reducible repeat (first | refine blk_drewN ?_ _ | refine blk_drew ?_ | refine blk_alloc ?_ _)); exact BK462.out) hb); have n2_ := Aside0.mk (below_step (by repeat (first | (with_reducible first | exact HB.out | apply below_alloc | apply pw_below_drewN | apply below_drew1 | refine below_set ?_ GE462.out) | exact HB.out)) hb); clear BK462; clear HB; have HO465 := n0_; have BK462 := n1_; have HB := n2_; clear n0_ n1_ n2_; clear hb ho9; obtain ⟨Ao10, co10, eo10⟩ := Kd.R_slice HO465.out; subst eo10) | ((with_reducible refine gate_callee (f := 106) rfl ?_); refine goesL_ (some 11) rfl rfl Try.func106 (by kernel_rfl) rfl #[.agg #[.int .i64 a0_0, .slice A0_1 l0_1.length c0_1], .slice Ao10 y463.length co10] rfl (by (try simp only [List.map_toArray, List.map_cons, List.map_nil]); first | done | rfl | (simp only [List.length_drop, List.length_take]; rfl)) ?_; (with_reducible refine (impl_nodesIn.calls a0_0 _ _ l0_1 _ _ y463 true _ ?side1 ?side2 ?side3 ?side4 A4.out).mono ?_); (case side1 => repeat (first | exact (Kd.C_below HR0_1.out HB.out) | (with_reducible refine Kd.C_alloc ?_ _) | (with_reducible refine Kd.C_drewN ?_ _) | (with_reducible refine Kd.C_drew ?_))); (case side2 => exact HC0_1.out); (case side3 => repeat (first | exact (Kd.R_reads' HO465.out).2.2 | (with_reducible refine Kd.C_alloc ?_ _) | (with_reducible refine Kd.C_drewN ?_ _) | (with_reducible refine Kd.C_drew ?_))); (case side4 => exact (Kd.R_reads' HO465.out).2.1); rintro e w11 ⟨rfl, hb⟩; refine ⟨_, rfl, ?_⟩; have n0_ := Aside0.mk (Kd.R_below (by (with_reducible repeat (first | apply Kd.R_alloc | apply Kd.R_drewN | apply Kd.R_drew)); exact HO465.out) hb); have n1_ := Aside0.mk (blk_below (g := gb462) (o := .cells #[.int .i64 a0_0, .slice A0_1 l0_1.length c0_1] 38 (0, 0)) (by (with_reducible repeat (first | refine blk_drewN ?_ _ | refine blk_drew ?_ | refine blk_alloc ?_ _)); exact BK462.out) hb); have n2_ := Aside0.mk (below_step (by repeat (first | (with_reducible first | exact HB.out | apply below_alloc | apply pw_below_drewN | apply below_drew1 | refine below_set ?_ GE462.out) | exact HB.out)) hb); clear HO465; clear BK462; clear HB; have HO465 := n0_; have BK462 := n1_; have HB := n2_; clear n0_ n1_ n2_; (try clear hb); (try clear hb2); (try clear hk); (try clear hi)))
  go_ret
  exact ⟨by first | rfl | (simp [errW_none, errW_some] <;> rfl) | (simp [*, errW_none, errW_some] <;> rfl), by repeat (first | (with_reducible first | exact HB.out | apply below_alloc | apply pw_below_drewN | apply below_drew1 | refine below_set ?_ GE462.out) | exact HB.out)⟩
 ·replace c5 := Bool.eq_false_iff.mpr c5
  subst c5
  have H1 : (some false) = some r := by rw [if_neg (show ¬ (false = true) by decide)] at H; exact H
  clear H
  have H := H1
  clear H1
  obtain rfl := Option.some.inj H
  go_enter Try.func76, Try.ntmps76
  go_wp2_with (first | ((with_reducible refine gate_dst (N := 3) rfl ?_); refine box_event ?hg (N := 3) ?hd (cs := #[.int .i64 a0_0, .slice A0_1 l0_1.length c0_1]) (t := 38) ?hr ?_; (case hd => rfl); (case hg => rfl); (case hr => first | (go_simp; done) | (go_simp; rfl)); intro gb462 hg w12 hbox hb; have n0_ := Aside0.mk (below_step (by repeat (first | (with_reducible first | exact HB.out | apply below_alloc | apply pw_below_drewN | apply below_drew1) | exact HB.out)) hb); have n1_ := Aside0.mk (hbox); have n2_ := Aside0.mk ((by rw [hg]; exact (below_size (by repeat (first | (with_reducible first | exact HB.out | apply below_alloc | apply pw_below_drewN | apply below_drew1) | exact HB.out))) : w.heap.size ≤ gb462)); have n3_ := Aside0.mk ((by rw [hg]; exact (below_size (by repeat (first | (with_reducible first | exact HB.out | apply below_alloc | apply pw_below_drewN | apply below_drew1) | exact HB.out))) : w.heap.size ≤ gb462)); clear HB; have HB := n0_; have BK462 := n1_; have GW462 := n2_; have GE462 := n3_; clear n0_ n1_ n2_ n3_; clear hb hbox hg; have hcz13_0 : w12.cell? ⟨gb462, 0, none⟩ = some (.int .i64 a0_0) := (blk_cell BK462.out 0).trans rfl; have hcz13_1 : w12.cell? ⟨gb462, 1, none⟩ = some (.slice A0_1 l0_1.length c0_1) := (blk_cell BK462.out 1).trans rfl; have hfz13_0 := blk_frozen BK462.out 0; have hfz13_1 := blk_frozen BK462.out 1) | ((with_reducible refine gate_dst (N := 10) rfl ?_); refine Kd.R_lit (Kd.int .i64) _ 3 ?hg (N := 10) ?hd (xs := ([a1, a2] : List Int)) (inner := [.int .i64 a1, .int .i64 a2]) (ok := fun _ => True) (okp := fun _ => True) ?hr ?hp (fun _ hk => hk) trivial (Below.refl _ _) (Nat.le_refl _) (by simp) ?_; (case hd => rfl); (case hg => rfl); (case hr => first | (go_simp; done) | (go_simp; rfl)); (case hp => exact (Reps.one (show Kd.M (Kd.int .i64) _ _ _ a1 [.int .i64 a1] from rfl) (Reps.one (show Kd.M (Kd.int .i64) _ _ _ a2 [.int .i64 a2] from rfl) (Reps.none _ _)))); intro v464 w14 ho15 hb hg_ hnew_; clear hg_ hnew_; (first | rw [← Ny463.out] at ho15 | (simp only [Int.reduceToNat] at ho15; rw [← Ny463.out] at ho15)); have n0_ := Aside0.mk (Kd.R_lower ho15 (below_size (by repeat (first | (with_reducible first | exact HB.out | apply below_alloc | apply pw_below_drewN | apply below_drew1 | refine below_set ?_ GE462.out) | exact HB.out)))); have n1_ := Aside0.mk (blk_below (g := gb462) (o := .cells #[.int .i64 a0_0, .slice A0_1 l0_1.length c0_1] 38 (0, 0)) (by (with_reducible repeat (first | refine blk_drewN ?_ _ | refine blk_drew ?_ | refine blk_alloc ?_ _)); exact BK462.out) hb); have n2_ := Aside0.mk (below_step (by repeat (first | (with_reducible first | exact HB.out | apply below_alloc | apply pw_below_drewN | apply below_drew1 | refine below_set ?_ GE462.out) | exact HB.out)) hb); clear BK462; clear HB; have HO465 := n0_; have BK462 := n1_; have HB := n2_; clear n0_ n1_ n2_; clear hb ho15; obtain ⟨Ao16, co16, eo16⟩ := Kd.R_slice HO465.out; subst eo16) | ((with_reducible refine gate_callee (f := 106) rfl ?_); refine goesL_ (some 11) rfl rfl Try.func106 (by kernel_rfl) rfl #[.agg #[.int .i64 a0_0, .slice A0_1 l0_1.length c0_1], .slice Ao16 y463.length co16] rfl (by (try simp only [List.map_toArray, List.map_cons, List.map_nil]); first | done | rfl | (simp only [List.length_drop, List.length_take]; rfl)) ?_; (with_reducible refine (impl_nodesIn.calls a0_0 _ _ l0_1 _ _ y463 false _ ?side1 ?side2 ?side3 ?side4 A4.out).mono ?_); (case side1 => repeat (first | exact (Kd.C_below HR0_1.out HB.out) | (with_reducible refine Kd.C_alloc ?_ _) | (with_reducible refine Kd.C_drewN ?_ _) | (with_reducible refine Kd.C_drew ?_))); (case side2 => exact HC0_1.out); (case side3 => repeat (first | exact (Kd.R_reads' HO465.out).2.2 | (with_reducible refine Kd.C_alloc ?_ _) | (with_reducible refine Kd.C_drewN ?_ _) | (with_reducible refine Kd.C_drew ?_))); (case side4 => exact (Kd.R_reads' HO465.out).2.1); rintro e w17 ⟨rfl, hb⟩; refine ⟨_, rfl, ?_⟩; have n0_ := Aside0.mk (Kd.R_below (by (with_reducible repeat (first | apply Kd.R_alloc | apply Kd.R_drewN | apply Kd.R_drew)); exact HO465.out) hb); have n1_ := Aside0.mk (blk_below (g := gb462) (o := .cells #[.int .i64 a0_0, .slice A0_1 l0_1.length c0_1] 38 (0, 0)) (by (with_reducible repeat (first | refine blk_drewN ?_ _ | refine blk_drew ?_ | refine blk_alloc ?_ _)); exact BK462.out) hb); have n2_ := Aside0.mk (below_step (by repeat (first | (with_reducible first | exact HB.out | apply below_alloc | apply pw_below_drewN | apply below_drew1 | refine below_set ?_ GE462.out) | exact HB.out)) hb); clear HO465; clear BK462; clear HB; have HO465 := n0_; have BK462 := n1_; have HB := n2_; clear n0_ n1_ n2_; (try clear hb); (try clear hb2); (try clear hk); (try clear hi)))
  go_ret
  exact ⟨by first | rfl | (simp [errW_none, errW_some] <;> rfl) | (simp [*, errW_none, errW_some] <;> rfl), by repeat (first | (with_reducible first | exact HB.out | apply below_alloc | apply pw_below_drewN | apply below_drew1 | refine below_set ?_ GE462.out) | exact HB.out)⟩
end Go.Proofs.Ytmabopomecdidaa.Pr
end
section
set_option linter.unusedSimpArgs false
set_option linter.unusedVariables false
namespace Go.Proofs.Ytmabopomecdidaa.Pure
open Go.RowKit Go.Proofs.Ytmabopomecdidaa.Pr Go.Proofs.YtmabopomecdidaaW.PrintWords Go.Proofs.YtmabopomecdidaaW.PrintLast Go.Proofs.YtmabopomecdidaaW.PrintMore
section
variable {t e : Nat → Option Bool} {r : Bool}
theorem Ev.and {b : Bool} (k : Ev t r) : Ev (fun n => if b = true then t n else some false) (b && r) := by
 cases b with
 | false => exact Ev.neg (by simp) (Ev.now _)
 | true => exact Ev.pos rfl k
theorem Ev.nand {c : Prop} [Decidable c] (k : Ev t r) : Ev (fun n => if c then some false else t n) (!decide c && r) := by
 by_cases h : c
 ·exact Ev.pos h (Ev.is (by simp [h]))
 ·exact Ev.neg h (k.cast (by simp [h]))
end
abbrev Arc := S45
def arc (l : List Arc) (i : Nat) : Arc := rd_T45 l (i : Int)
theorem rda (l : List Arc) (i : Nat) : rd_T45 l (i : Int) = arc l i := rfl
theorem arc_get {l : List Arc} {i : Nat} (h : i < l.length) : arc l i = l[i] := by simp [arc, rd_T45, h]
theorem arc_mem {l : List Arc} {i : Nat} (h : i < l.length) : arc l i ∈ l := by
 rw [arc_get h]
 exact List.getElem_mem h
attribute [irreducible] arc
def okArcW (n : Int) (a : Arc) : Bool := inB a.f0 0 (wrap64 (n - 1)) && (inB a.f1 0 (wrap64 (n - 1)) && (!decide (a.f0 = a.f1) && (inB a.f2 0 99 && (inB a.f3 0 99 && inB a.f4 0 9))))
theorem l1Ok_l (n : Int) (l : List Arc) (hm : l.length ≤ maxLen) : ∀ (m i : Nat), l.length - i = m → i ≤ l.length → Ev (fun k => spec_l1Ok.l0 k (i : Int) n l) ((l.drop i).all (okArcW n) && (inB n 1 8 && decide ((l.length : Int) ≤ 16))) := by
 intro m
 induction m with
 | zero =>
  intro i hd hi
  refine Ev.go ?_ (fun k => by rw [spec_l1Ok.l0])
  refine Ev.neg (by omega) (Ev.bind0 (in1 _ _ _) ?_)
  rw [List.drop_of_length_le (by omega)]
  exact (Ev.and (Ev.now _)).cast (by simp)
 | succ m ih =>
  intro i hd hi
  have hlt : i < l.length := by omega
  refine Ev.go ?_ (fun k => by rw [spec_l1Ok.l0])
  rw [drop_cons hlt, ← arc_get hlt, List.all_cons, rda, up1 hlt hm]
  refine Ev.pos (by omega) (Ev.pos (by omega) ?_)
  refine Ev.cast (Ev.bind0 (in1 _ _ _) (Ev.and (Ev.bind0 (in1 _ _ _) (Ev.and (Ev.nand (Ev.bind0 (in1 _ _ _) (Ev.and (Ev.bind0 (in1 _ _ _) (Ev.and (Ev.bind0 (in1 _ _ _) (Ev.and (ih (i + 1) (by omega) (by omega))))))))))))) ?_
  simp only [okArcW, Bool.and_assoc]
theorem okArcW_okArc {n : Int} (h : 1 ≤ n) (h8 : n ≤ 8) (a : Arc) : okArcW n a = okArc n a := by
 unfold okArcW okArc inB okN okC
 rw [w64 (by omega) (by omega)]
 have e : (a.f4 ≤ 9) ↔ (a.f4 ≤ 10 - 1) := by omega
 have e2 : (a.f0 == a.f1) = decide (a.f0 = a.f1) := by
  by_cases c : a.f0 = a.f1 <;> simp [c]
 rw [e2]
 simp only [Bool.and_assoc, e]
theorem l1Ok_ev (n : Int) (l : List Arc) (hm : l.length ≤ maxLen) : Ev (fun k => spec_l1Ok.f k n l) (netOkB n l) := by
 unfold spec_l1Ok.f
 refine (l1Ok_l n l hm _ 0 rfl (by omega)).cast ?_
 unfold netOkB
 rw [List.drop_zero]
 by_cases h : 1 ≤ n ∧ n ≤ 8
 ·have e : l.all (okArcW n) = l.all (okArc n) := by
   congr 1
   funext a
   exact okArcW_okArc h.1 h.2 a
  rw [e, show inB n 1 8 = true from inB_iff.2 h]
  simp [h.1, h.2, Bool.and_comm]
 ·have e : inB n 1 8 = false := by
   cases c : inB n 1 8 with
   | false => rfl
   | true => exact absurd (inB_iff.1 c) h
  rw [e]
  have e2 : (decide (1 ≤ n) && decide (n ≤ 8)) = false := e
  simp only [e2, Bool.false_and, Bool.and_false]
structure NetGood (n : Int) (l : List Arc) : Prop where
 n1 : 1 ≤ n
 n8 : n ≤ 8
 len : l.length ≤ 16
 ok : ∀ i, i < l.length → (0 ≤ (arc l i).f0 ∧ (arc l i).f0 < n) ∧ (0 ≤ (arc l i).f1 ∧ (arc l i).f1 < n) ∧ (arc l i).f0 ≠ (arc l i).f1 ∧ (0 ≤ (arc l i).f2 ∧ (arc l i).f2 ≤ 99) ∧ (0 ≤ (arc l i).f3 ∧ (arc l i).f3 ≤ 99) ∧ (0 ≤ (arc l i).f4 ∧ (arc l i).f4 ≤ 9)
theorem okArc_iff (n : Int) (a : Arc) : okArc n a = true ↔ (0 ≤ a.f0 ∧ a.f0 < n) ∧ (0 ≤ a.f1 ∧ a.f1 < n) ∧ a.f0 ≠ a.f1 ∧ (0 ≤ a.f2 ∧ a.f2 ≤ 99) ∧ (0 ≤ a.f3 ∧ a.f3 ≤ 99) ∧ (0 ≤ a.f4 ∧ a.f4 ≤ 9) := by
 simp only [okArc, okN, okC, Bool.and_eq_true, decide_eq_true_eq, Bool.not_eq_true', beq_eq_false_iff_ne]
 constructor
 ·rintro ⟨⟨⟨⟨⟨⟨a1, a2⟩, a3, a4⟩, a5⟩, a6⟩, a7⟩, a8, a9⟩
  exact ⟨⟨a1, by omega⟩, ⟨a3, by omega⟩, a5, a6, a7, a8, by omega⟩
 ·rintro ⟨⟨a1, a2⟩, ⟨a3, a4⟩, a5, a6, a7, a8, a9⟩
  exact ⟨⟨⟨⟨⟨⟨a1, by omega⟩, a3, by omega⟩, a5⟩, a6⟩, a7⟩, a8, by omega⟩
theorem netOkB_iff (n : Int) (l : List Arc) : netOkB n l = true ↔ NetGood n l := by
 simp only [netOkB, Bool.and_eq_true, decide_eq_true_eq, List.all_eq_true]
 constructor
 ·rintro ⟨⟨⟨h1, h2⟩, h3⟩, h4⟩
  exact ⟨h1, h2, by omega, fun i hi => (okArc_iff n _).1 (h4 _ (arc_mem hi))⟩
 ·rintro ⟨h1, h2, h3, h4⟩
  refine ⟨⟨⟨h1, h2⟩, by omega⟩, fun a ha => ?_⟩
  obtain ⟨i, hi, rfl⟩ := List.getElem_of_mem ha
  rw [← arc_get hi]
  exact (okArc_iff n _).2 (h4 i hi)
theorem szNet_eq (n : Int) (l : List S117) (a : Int) (ha : -1 ≤ a) (ha' : a ≤ 1048576) (hm : l.length ≤ maxLen) : laws_szNet.f n l a = some (if a - (l.length : Int) < 0 then -1 else a - (l.length : Int)) := by
 simp only [maxLen] at hm
 unfold laws_szNet.f laws_szArcS.f
 rw [w64 (by omega) (by omega)]
 by_cases c : a - (l.length : Int) < 0
 ·rw [if_pos c, if_pos c, Option.bind_some, if_pos (by omega)]
 ·rw [if_neg c, if_neg c, Option.bind_some, if_neg c]
def toA (a : S117) : Arc := ⟨a.f0, a.f1, a.f2, a.f3, a.f4⟩
theorem toArcS_l (l : List S117) (hm : l.length ≤ maxLen) : ∀ (d i : Nat) (x : List Arc), l.length - i = d → i ≤ l.length → x.length = l.length → x.take i = (l.map toA).take i → Ev (fun k => laws_toArcS.l0 k l x (i : Int)) (l.map toA) := by
 intro d
 induction d with
 | zero =>
  intro i x hd hi hx ht
  refine Ev.go ?_ (fun k => by rw [laws_toArcS.l0])
  refine Ev.neg (by omega) (Ev.is ?_)
  have e : i = l.length := by omega
  subst e
  rwa [List.take_of_length_le (by omega), List.take_of_length_le (by simp)] at ht
 | succ d ih =>
  intro i x hd hi hx ht
  have hlt : i < l.length := by omega
  refine Ev.go ?_ (fun k => by rw [laws_toArcS.l0])
  refine Ev.pos (by omega) (Ev.pos (by omega) (Ev.bind0 rfl (Ev.pos (by omega) ?_)))
  rw [up1 hlt hm]
  refine ih (i + 1) _ (by omega) (by omega) (by simp [hx]) ?_
  have hr : rd_T117 l (i : Int) = l[i] := by simp [rd_T117, hlt]
  simp only [Int.toNat_natCast, hr]
  rw [List.take_succ_eq_append_getElem (by simp; omega), List.take_succ_eq_append_getElem (l := l.map toA) (by simpa using hlt), List.take_set_of_le (Nat.le_refl _), ht]
  simp [toA]
theorem toNet_ev (n : Int) (l : List S117) (hm : l.length ≤ 7036874417766) : Ev (fun k => laws_toNet.f k n l) (n, l.map toA) := by
 unfold laws_toNet.f
 refine Ev.bind (a := l.map toA) ?_ (Ev.now _)
 unfold laws_toArcS.f
 refine Ev.pos (by omega) (Ev.pos (by simp; omega) ?_)
 exact toArcS_l l (by simp only [maxLen]; omega) _ 0 _ rfl (by omega) (by simp) (by simp)
theorem eqArcS_l (l : List Arc) (hm : l.length ≤ maxLen) : ∀ (d i : Nat), l.length - i = d → i ≤ l.length → Ev (fun k => laws_eqArcS.l0 k l l (i : Int)) true := by
 intro d
 induction d with
 | zero =>
  intro i hd hi
  refine Ev.go ?_ (fun k => by rw [laws_eqArcS.l0])
  exact Ev.neg (by omega) (Ev.now _)
 | succ d ih =>
  intro i hd hi
  have hlt : i < l.length := by omega
  refine Ev.go ?_ (fun k => by rw [laws_eqArcS.l0])
  refine Ev.pos (by omega) (Ev.pos (by omega) (Ev.pos (by omega) (Ev.bind0 (a := true) (by simp [laws_eqArc.f]) (Ev.pos rfl ?_))))
  rw [up1 hlt hm]
  exact ih (i + 1) (by omega) (by omega)
theorem eqNet_ev (n : Int) (l : List Arc) (hm : l.length ≤ maxLen) : Ev (fun k => laws_eqNet.f k n l n l) true := by
 unfold laws_eqNet.f
 refine Ev.pos rfl (Ev.bind (a := true) ?_ (Ev.pos rfl (Ev.now _)))
 unfold laws_eqArcS.f
 exact Ev.pos rfl (eqArcS_l l hm _ 0 rfl (by omega))
end Go.Proofs.Ytmabopomecdidaa.Pure
end
section
set_option linter.unusedSimpArgs false
set_option linter.unusedVariables false
namespace Go.Proofs.Ytmabopomecdidaa.Pure
open Go.RowKit Go.Proofs.Ytmabopomecdidaa.Pr Go.Proofs.YtmabopomecdidaaW.PrintWords Go.Proofs.YtmabopomecdidaaW.PrintLast Go.Proofs.YtmabopomecdidaaW.PrintMore
theorem inList_l (x : List Int) (v : Int) (hm : x.length ≤ maxLen) : ∀ (m i : Nat), x.length - i = m → i ≤ x.length → Ev (fun k => spec_l12In.l0 k x v (i : Int)) ((x.drop i).contains v) := by
 intro m
 induction m with
 | zero =>
  intro i hd hi
  refine Ev.go ?_ (fun k => by rw [spec_l12In.l0])
  exact Ev.neg (by omega) (Ev.is (by rw [List.drop_of_length_le (by omega)]; simp))
 | succ m ih =>
  intro i hd hi
  have hlt : i < x.length := by omega
  have hn := ih (i + 1) (by omega) (by omega)
  rw [← up1 hlt hm] at hn
  refine Ev.go ?_ (fun k => by rw [spec_l12In.l0])
  refine Ev.pos (by omega) (Ev.pos (by omega) ?_)
  rw [rdg i]
  have e : (x.drop i).contains v = (v == nth x i || (x.drop (i + 1)).contains v) := by rw [drop_cons hlt, List.contains_cons, nth_get hlt]
  by_cases c : nth x i = v
  ·exact Ev.pos c (Ev.is (by rw [e, c]; simp))
  ·refine Ev.neg c (hn.cast ?_)
   have hne : ¬ v = nth x i := fun h => c h.symm
   rw [e]
   simp [hne]
theorem inList_ev (x : List Int) (v : Int) (hm : x.length ≤ maxLen) : Ev (fun k => spec_l12In.f k x v) (x.contains v) :=
 inList_l x v hm _ 0 rfl (Nat.zero_le _)
def readyFrom (l : List Arc) (out : List Int) (v : Int) (i : Nat) : Bool := (l.drop i).all fun a => decide (a.f1 ≠ v) || out.contains a.f0
theorem ready_cand (l : List Arc) (out : List Int) (v : Int) : (!(out.contains v) && readyFrom l out v 0) = candB l out v := by
 unfold readyFrom candB
 rw [List.not_any_eq_all_not, List.drop_zero]
 congr 1
 congr 1
 funext a
 by_cases h : a.f1 = v <;> simp [h]
theorem order_l2 (n : Int) (l : List Arc) (out : List Int) (nx v : Int) (h0 : 0 ≤ v) (h1 : v ≤ 64) (hm : l.length ≤ maxLen) (ho : out.length ≤ maxLen) {R : List Int × Bool} : ∀ (m i : Nat) (b : Bool), l.length - i = m → i ≤ l.length →
  Ev (fun k => spec_RingOrder.l1 k out (if (b && readyFrom l out v i) = true then v else nx) (v - 1) n l) R → Ev (fun k => spec_RingOrder.l2 k out nx v b (i : Int) n l) R := by
 intro m
 induction m with
 | zero =>
  intro i b hd hi h
  have e : readyFrom l out v i = true := by unfold readyFrom; rw [List.drop_of_length_le (by omega)]; rfl
  rw [e, Bool.and_true] at h
  refine Ev.go ?_ (fun k => by rw [spec_RingOrder.l2])
  refine Ev.neg (by omega) ?_
  rw [w64 (by omega) (by omega)]
  cases b with
  | true => exact Ev.pos rfl (by simpa using h)
  | false => exact Ev.neg (by simp) (by simpa using h)
 | succ m ih =>
  intro i b hd hi h
  have hlt : i < l.length := by omega
  have e : readyFrom l out v i = ((decide ((arc l i).f1 ≠ v) || out.contains (arc l i).f0) && readyFrom l out v (i + 1)) := by
   unfold readyFrom
   rw [drop_cons hlt, List.all_cons]
   have : arc l i = l[i] := by simp [arc, rd_T45, hlt]
   rw [this]
  refine Ev.go ?_ (fun k => by rw [spec_RingOrder.l2])
  refine Ev.pos (by omega) ?_
  rw [up1 hlt hm]
  cases b with
  | false => exact Ev.neg (by simp) (ih (i + 1) false (by omega) (by omega) (by simpa using h))
  | true =>
   refine Ev.pos rfl (Ev.pos (by omega) ?_)
   rw [rda]
   by_cases c : (arc l i).f1 = v
   ·refine Ev.pos c (Ev.bind (inList_ev out (arc l i).f0 ho) (ih (i + 1) _ (by omega) (by omega) ?_))
    rw [e] at h
    simpa [c] using h
   ·refine Ev.neg c (ih (i + 1) true (by omega) (by omega) ?_)
    rw [e] at h
    simpa [c] using h
theorem order_l1 (n : Int) (l : List Arc) (out : List Int) (hm : l.length ≤ maxLen) (ho : out.length ≤ maxLen) {R : List Int × Bool} : ∀ (m : Nat) (nx : Int), m ≤ 64 →
  Ev (fun k => if lowN (candB l out) m nx < 0 then some (([] : List Int), false) else if out.length < 17592186044416 then spec_RingOrder.l0 k (out ++ [lowN (candB l out) m nx]) n l else none) R →
  Ev (fun k => spec_RingOrder.l1 k out nx ((m : Int) - 1) n l) R := by
 intro m
 induction m with
 | zero =>
  intro nx _ h
  refine Ev.go ?_ (fun k => by rw [spec_RingOrder.l1])
  exact Ev.neg (by omega) h
 | succ m ih =>
  intro nx hle h
  refine Ev.go ?_ (fun k => by rw [spec_RingOrder.l1])
  have e : ((m + 1 : Nat) : Int) - 1 = (m : Int) := by omega
  rw [e]
  refine Ev.pos (by omega) (Ev.bind (inList_ev out (m : Int) ho) ?_)
  refine order_l2 n l out nx (m : Int) (by omega) (by omega) hm ho _ 0 _ rfl (Nat.zero_le _) ?_
  rw [ready_cand]
  refine ih _ (by omega) ?_
  exact h
theorem order_l0 (N : Nat) (hN : N ≤ 64) (l : List Arc) (hm : l.length ≤ maxLen) : ∀ (m : Nat) (out : List Int), out.length + m = N → Ev (fun k => spec_RingOrder.l0 k out (N : Int) l) (ordF l N m out) := by
 intro m
 induction m with
 | zero =>
  intro out h
  refine Ev.go ?_ (fun k => by rw [spec_RingOrder.l0])
  exact Ev.neg (by omega) (Ev.now _)
 | succ m ih =>
  intro out h
  refine Ev.go ?_ (fun k => by rw [spec_RingOrder.l0])
  refine Ev.pos (by omega) ?_
  rw [w64 (by omega) (by omega)]
  refine order_l1 (N : Int) l out hm (by simp only [maxLen]; omega) N (-1) hN ?_
  unfold ordF
  by_cases c : lowN (candB l out) N (-1) < 0
  ·rw [if_pos c]
   exact Ev.pos c (Ev.now _)
  ·rw [if_neg c]
   exact Ev.neg c (Ev.pos (by omega) (ih _ (by rw [List.length_append]; simp; omega)))
def orderV (n : Int) (l : List Arc) : List Int × Bool := if netOkB n l = true then ordF l n.toNat n.toNat [] else ([], false)
theorem specRing_ev (n : Int) (l : List Arc) (hm : l.length ≤ maxLen) : Ev (fun k => spec_RingOrder.f k n l) (orderV n l) := by
 unfold spec_RingOrder.f
 refine Ev.bind (l1Ok_ev n l hm) ?_
 unfold orderV
 cases h : netOkB n l with
 | false => exact Ev.neg (by simp) (Ev.is (by simp))
 | true =>
  have hg := (netOkB_iff n l).1 h
  have h1 := hg.n1
  have h8 := hg.n8
  obtain ⟨N, rfl⟩ := Int.eq_ofNat_of_zero_le (show 0 ≤ n by omega)
  rw [if_pos rfl, Int.toNat_natCast]
  exact Ev.pos rfl (order_l0 N (by omega) l hm N [] (by simp))
theorem implRing (n : Int) (l : List Arc) : impl_RingOrder.f n l = some (orderV n l) := by
 unfold impl_RingOrder.f impl_NetOk.f
 show (if netOkB n l = true then _ else _) = _
 unfold orderV
 cases h : netOkB n l with
 | false => rfl
 | true =>
  have hg := (netOkB_iff n l).1 h
  have h1 := hg.n1
  have h8 := hg.n8
  unfold impl_Net_order.f
  rw [if_pos (show 0 ≤ n by omega), if_pos (show n ≤ 64 by omega)]
  rfl
end Go.Proofs.Ytmabopomecdidaa.Pure
end
