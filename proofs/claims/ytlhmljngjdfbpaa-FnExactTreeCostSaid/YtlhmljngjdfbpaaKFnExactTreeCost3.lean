/- For the statement FnExactTreeCost of this seat: it is proved here, with no further conditions (part 4 of its texts: words, walks of the functions, the plain law, the row). -/
import Derived.RangeFuncFrom
import Derived.Shelf.SortM.SortNone
import Derived.Shelf.SortM.Plain
import Derived.Sort.OwnSortedInts
import Derived.Maps.AppendAt
import Derived.RangeFuncBox
import Derived.Laws.AppendOwn
import Derived.LoopIn
import Derived.TacticsInMore
import Derived.RegionIn
import Derived.OwnWalkIn
import Derived.ChangeArms
import Derived.ChangeSlices
import Derived.Deep.Slices
import Derived.WideShapes
import Derived.DataReads
import Derived.Deep.RegionLaw
import Derived.Lib.SlicesCompact
import Derived.Test.YtlhmljngjdfbpaaRows
import Derived.WalkKit
import Derived.ProofKit
import Derived.OpenShut
import Derived.ShutString
import Derived.ChangeOld
import Derived.Below
import Derived.SizedLaws
import Derived.Test.YtlhmljngjdfbpaaKFnExactTreeCost2
section
namespace Go.Proofs.Ytlhmljngjdfbpaa.Pr
open Go.RowKit Go.Proofs.YtlhmljngjdfbpaaW.PrintWords Go.Proofs.YtlhmljngjdfbpaaW.PrintLast Go.Proofs.YtlhmljngjdfbpaaW.PrintMore
attribute [local go_sem] max2_int min2_int max_two min_two max_three min_three max_four min_four
set_option linter.unusedVariables false
set_option linter.unusedSimpArgs false
open List renaming setIfInBounds_toArray → U, set_cons_zero → O, set_cons_succ → I
open Go.Proofs.YtlhmljngjdfbpaaW.PrintWords.Aside0 renaming mk → V
set_option maxHeartbeats 2000000 in
set_option maxRecDepth 100000 in
theorem values_calls (A : Option Addr) (n c : Nat) (w : World) : Calls Try.prog 118 #[.slice A n c] w fun e w' => ∃ g, e = .returned (.func (.func 144) #[] #[.pointer (some ⟨g, 0, none⟩)]) ∧ w'.heap[g]? = some (.cells #[.slice A n c] 23 (0, 0)) ∧ w.heap.size ≤ g ∧ Below w.heap.size w w' := by
 go_enter Try.func118, Try.ntmps118
 go_wp2_with (first | ((with_reducible refine gate_dst (N := 1) rfl ?_); refine box_event ?hg (N := 1) ?hd (cs := #[.slice A n c]) (t := 23) ?hr ?_; (case hd => rfl); (case hg => rfl); (case hr => first | (go_simp; done) | (go_simp; rfl)); intro gB hgB w1 hbox hb; have HB := V hbox; have H1 := V hb; have H2 := V (show w.heap.size ≤ gB by rw [hgB]; exact Nat.le_refl _); clear hbox hb hgB))
 go_ret;exact ⟨gB, rfl, HB.out, H2.out, H1.out⟩
set_option maxHeartbeats 2000000 in
set_option maxRecDepth 100000 in
theorem values_stops (F : Fence) (n : Nat) (hf : F.fn 144) (hro : F.round = none) (hn : 1 ≤ n) (Bm : Nat) (A : Option Addr) (c : Nat) (xs : List Int) (hx : xs.length ≤ 100000) (w : World) (hm : w.heap[Bm]? = some (.cells #[.slice A xs.length c] 23 (0, 0))) (hr : Kd.C (Kd.int .i64) w A xs.length xs) :
  SeqStopsK F n Try.prog 144 #[.pointer (some ⟨Bm, 0, none⟩)] (fun x : Int => #[.int .i64 x]) (Below w.heap.size) (fun ss => ss = xs) (fun _ => True) xs.length w := by
 intro l J Jx W hW _ _ hY h0;have HR := V (Kd.C_below hr hW);have HWl := V (show w.heap.size ≤ W.heap.size from hW.size);have HY := V hY;have H0 := V h0;have HX := V hx;have q0 : W.cell? ⟨Bm, 0, none⟩ = some (.slice A xs.length c) := (blk_cell (blk_below hm hW) 0).trans rfl;have hrow : ∀ W', Below w.heap.size W W' → Kd.C (Kd.int .i64) W' A xs.length xs := fun W' hB => Kd.C_below hr (hW.trans hB)
 have HROW := V hrow;clear hm hr hY h0 hx hW hrow;refine callsIn_of_wp Try.func144 rfl hf ?_ hro;simp only [Try.ntmps144, List.size_toArray, List.length_cons, List.length_nil, Nat.reduceAdd, Nat.reduceSub, Array.replicate_succ, Array.replicate_zero, List.push_toArray, List.append_toArray, List.nil_append, List.cons_append]
 gi_wp2
 clear q0
 gi_loopw [7] (fun i wr => ∃ j : Nat, i = .int .i64 (j : Int) ∧ Aside0 (j ≤ xs.length) ∧ Aside0 (J (xs.take j) wr) ∧ Aside0 (Below w.heap.size W wr)) (fun i _ => xs.length - (intOf i).toNat)
 case atStart => exact ⟨0, rfl, ⟨Nat.zero_le _⟩, H0, ⟨Below.refl _ _⟩⟩
 case round =>
  obtain ⟨j, rfl, J0, J1, J2⟩ := hrel
  by_cases hj : j < xs.length
  case neg =>
   have c1 : decide ((j : Int) < (xs.length : Int)) = false := decide_eq_false (by omega);have c2 : decide (j < xs.length) = false := decide_eq_false hj;have hjx : j = xs.length := by have := J0.out; omega
   have hJx : J xs wr := by have h := J1.out; rwa [hjx, List.take_length] at h
   clear hj hjx
   gi_wp2
   go_end0
   exact ⟨⟨_, rfl⟩, .inl ⟨_, rfl, hJx⟩⟩
  have c1 : decide ((j : Int) < (xs.length : Int)) = true := decide_eq_true (by omega);have c2 : decide (j < xs.length) = true := decide_eq_true hj;obtain ⟨ad, e, hxc⟩ := Kd.at_int (HROW.out _ J2.out) (j : Int) (by omega) (by omega);cases e;rw [Int.toNat_natCast] at hxc;have hrd : rd xs (j : Int) = xs[j] := by simp [rd, hj]
  have hnext : xs.take j ++ [rd xs (j : Int)] = xs.take (j + 1) := by rw [hrd, List.take_succ_eq_append_getElem hj]
  have HN := V hnext;obtain ⟨fn, tmps, assign, body, hy, hR⟩ := HY.out (xs.take j) (rd xs (j : Int)) wr J1.out (by rw [List.length_take]; omega);generalize rd xs (j : Int) = x at hxc hy hR HN;have p0 : ((0 : Int) ≤ (j : Int)) = True := eq_true (by omega);have p1 : ((j : Int) < (xs.length : Int)) = True := eq_true (by omega);have hw : wrap64 ((j : Int) + 1) = ((j + 1 : Nat) : Int) := by have h1 := HX.out; unfold wrap64; omega
  have HW := V hw;have HJ2 := V hj;clear hw hj hrd hnext
  gi_wp2
  refine hR.mono ?_;rintro e W3 (⟨rfl, hJ3, hk3⟩ | ⟨rfl, hJx⟩)
  ·have K2 := V (show Below w.heap.size W W3 from J2.out.trans hk3);clear hR hy hxc hk3 J1 J2
   gi_wp2
   have hj2 := HJ2.out
   go_roundw
   case rel => exact ⟨j + 1, by rw [HW.out], ⟨by omega⟩, ⟨by rw [← HN.out]; exact hJ3⟩, K2⟩
   case measure =>
    rw [HW.out]
    show xs.length - (((j + 1 : Nat) : Int)).toNat < xs.length - ((j : Int)).toNat
    omega
  ·clear hR hy hxc J1 J2
   gi_wp2
   refine bodyPost_ret (results_none rfl _ _ _) rfl ?_;exact ⟨⟨_, rfl⟩, .inr ⟨_, trivial, hJx⟩⟩
theorem below_setCell {B b : Nat} {A W : World} (h : Below B A W) (hb : B ≤ b) (u : Value) : Below B A (W.setCell ⟨b, 0, none⟩ u) := h.setCell hb u
theorem _root_.Go.World.ownsRow.setCell_other {w : World} {base e size n b : Nat} {v : Value} {xs : List Value} (h : w.ownsRow base e size v n xs) (u : Value) (hne : v.ownBlock = none ∨ v.ownBlock ≠ some b) : (w.setCell ⟨b, 0, none⟩ u).ownsRow base e size v n xs :=
 h.kept (row := some b) (grownBy_setCell' w b u) hne
set_option maxHeartbeats 4000000 in
set_option maxRecDepth 100000 in
theorem appendSeq_in (F : Fence) (n : Nat) (h11 : F.fn 153) (hro : F.round = none) (hn : 3 ≤ n) (g : Nat) (lb : Array Value) (hFg : F.fn g) (eg : ∀ args w, (callFunc g args).run Try.prog w = .ok (.enter g args) w) (xs : List Int) (hx : xs.length ≤ 100000) (w0 w : World) (hb : Below w0.heap.size w0 w) (hs0 : w0.heap.size ≤ w.heap.size) (hseq : SeqStopsK F (n - 1) Try.prog g lb (fun x : Int => #[.int .i64 x]) (Below w0.heap.size) (fun ss => ss = xs) (fun _ => True) xs.length w0) :
  CallsIn F n Try.prog 153 #[.slice none 0 0, .func (.func g) #[] lb] w fun e w' => ∃ v, e = .returned v ∧ w'.ownsRow w.heap.size 3 1 v xs.length (xs.map (Value.int .i64)) ∧ Below w.heap.size w w' := by
 have h1 : 1 ≤ n := by omega
 obtain ⟨i0, hi, hz0, hz1, hz2⟩ := info_parts info3;refine callsIn_of_wp_marks Try.func153 rfl h11 ?_ hro;simp only [Try.ntmps153, List.size_toArray, List.length_cons, List.length_nil, Nat.reduceAdd, Nat.reduceSub, Array.replicate_succ, Array.replicate_zero, List.push_toArray, List.append_toArray, List.nil_append, List.cons_append]
 gi_wp2
 have hv0 := heap_alloc_new w (.cells #[.slice none 0 0] 23);have hB0 : Below w.heap.size w (w.alloc (.cells #[.slice none 0 0] 23)) := below_alloc (Below.refl _ _) _;have hsz : (w.alloc (.cells #[.slice none 0 0] 23)).heap.size = w.heap.size + 1 := by simp
 have hb1 : Below w0.heap.size w0 (w.alloc (.cells #[.slice none 0 0] 23)) := hb.trans (hB0.mono hs0);generalize w.alloc (.cells #[.slice none 0 0] 23) = w1 at hv0 hB0 hsz hb1 ⊢;have own_ne : ∀ {W : World} {v : Value} {k : Nat} {ys : List Value} {j : Nat} {o : Obj}, W.ownsRow w.heap.size 3 1 v k ys → W.heap[j]? = some o → (∀ cur, o ≠ .cells cur 3 (0, 0)) → v.ownBlock = none ∨ v.ownBlock ≠ some j := by
  intro W v k ys j o ho hj hno
  rcases ho.2 with ⟨rfl, _⟩ | ⟨g', cap', cur', rfl, _, hh, _⟩
  ·exact .inl (by simp [Value.ownBlock])
  ·refine .inr (fun e => ?_);have e2 : g' = j := by simpa [Value.ownBlock] using e
   subst e2;rw [hh] at hj;exact hno _ (Option.some.inj hj).symm
 refine wpIn_rangeFunc_ownF hro h1 (gf := g) (lb := lb) rfl hFg eg hseq (fun h k => h.trans k) (fun W l o o' hl hh _ _ => (Below.refl _ W).grown (grownBy_putObj' W l o') (by have := (Array.getElem?_eq_some_iff.1 hh).1; omega) (fun k e => by cases e; omega)) hb1 (fun _ => rfl)
  (fun ss W => ∃ v, W.heap[w.heap.size]? = some (.cells #[v] 23 (0, 0)) ∧ W.ownsRow w.heap.size 3 1 v ss.length (ss.map (Value.int .i64)) ∧ Below w.heap.size w W)
  (fun _ _ _ => False) ?hI (fun _ _ _ _ _ hs _ _ => hs) ⟨_, hv0, ⟨rfl, .inl ⟨rfl, rfl⟩⟩, hB0⟩
  (fun x => { tmps := #[.slice none 0 0, .func (.func g) #[] lb, .pointer (some ⟨w.heap.size, 0, none⟩), undef, .slice none 0 0, .int .i64 x, .func (.func g) #[] lb, .int .i64 x, undef, undef, undef, undef, undef], defers := [] }) ?assign ?body ?done ?stop
 case hI =>
  rintro s W W' row ⟨v, a1, a2, a3⟩ hg hr;refine ⟨v, blk_grown a1 hg (fun e => ?_), a2.kept hg ?_, a3.grown hg a3.size (fun k e => by have := (hr k e).1; omega)⟩
  ·obtain ⟨_, o, ho, hc⟩ := hr _ e.symm;rw [a1] at ho;obtain rfl := Option.some.inj ho;cases hc
  ·cases row with
   | none =>
    rcases a2.2 with ⟨rfl, _⟩ | ⟨g', cap', cur', rfl, _⟩
    ·exact .inl (by simp [Value.ownBlock])
    ·exact .inr (by simp [Value.ownBlock])
   | some r =>
    obtain ⟨_, o, ho, hc⟩ := hr r rfl;exact own_ne a2 ho (fun cur e => by subst e; cases hc)
 case assign =>
  intro l x W K hK
  gi_wp2_with (first | (rw [Oper.semAt_eq _ _ _ (fun c h => by cases h)]; go_simp; try go_bits))
  exact hK
 case body =>
  rintro l pre x W ⟨v, a1, a2, a3⟩ hlt;have hc1 : W.cell? ⟨w.heap.size, 0, none⟩ = some v := (blk_cell a1 0).trans rfl;have hs1 : w.heap.size < W.heap.size := (Array.getElem?_eq_some_iff.1 a1).1;have hne2 : some w.heap.size ≠ v.ownBlock := by
   rcases own_ne a2 a1 (fun cur e => absurd (Obj.cells.inj e).2.1 (by decide)) with e | e
   ·rw [e]; simp
   ·exact fun e2 => e e2.symm
  gi_wp2_with (first
   | (gi_at_builtin; refine wpListIn_append_own _ rfl _ _ 23 rfl w.heap.size 3 i0 (.int .i64 0) 1 8 Try.underlying23 hi hz0 hz1 hz2 rfl (by decide) v pre.length (pre.map (Value.int .i64)) rfl (a2.alloc _) ⟨W.heap.size, 0, none⟩ 1 1 [.int .i64 x] rfl rfl (cell_one_new _ _ _) (by simp [Value.oneCell']) (by unfold maxLen; omega) (by omega) (by simp; omega) ?_; intro v' w3 hown' hg3 hnil3; have hv3 : w3.heap[w.heap.size]? = some (.cells #[v] 23 (0, 0)) := (hg3.block _ (by simp; omega) hne2).trans ((Below.heap_alloc _ _ _ hs1).trans a1); have hc3 : w3.cell? ⟨w.heap.size, 0, none⟩ = some v := (blk_cell hv3 0).trans rfl; have hf3 : w3.frozen? ⟨w.heap.size, 0, none⟩ = false := blk_frozen hv3 0; obtain ⟨g', cap', rfl⟩ : ∃ g' cap', v' = .slice (some ⟨g', 0, none⟩) (pre.length + 1) cap' := (by rcases hown'.2 with ⟨_, h0⟩ | ⟨g', cap', cur', e, _⟩; (exact absurd h0 (by omega)); exact ⟨g', cap', e⟩))
   | (rw [Oper.semAt_eq _ _ _ (fun c h => by cases h)]; go_simp; try go_bits))
  have hw3 : W.heap.size + 1 ≤ w3.heap.size := by have := hg3.size; simpa using this
  have hk3 : KeepsOthers (W.alloc (.cells #[.int .i64 x] 3)) w3 := KeepsOthers.of_grownBy hg3 (fun j o hj ho => by
   rcases (a2.alloc (.cells #[.int .i64 x] 3)).2 with ⟨rfl, _⟩ | ⟨g', cap', cur', rfl, _, hh, _⟩
   ·simp [Value.ownBlock] at hj
   ·have e2 : g' = j := by simpa [Value.ownBlock] using hj
    subst e2;rw [hh] at ho;rw [← Option.some.inj ho];rfl)
  have hb3 : Below w.heap.size w w3 := (a3.alloc a3.size _).grown hg3 (by have := a3.size; simp; omega) (fun k e => by
   rcases a2.2 with ⟨rfl, _⟩ | ⟨g', cap', cur', rfl, hb', _⟩
   ·simp [Value.ownBlock] at e
   ·have e2 : g' = k := by simpa [Value.ownBlock] using e
    omega)
  have hK3 : Below w0.heap.size W w3 := ((Below.refl w0.heap.size W).alloc (by have := a3.size; omega) _).grown hg3 (by have := a3.size; simp; omega) (fun k e => by
   rcases a2.2 with ⟨rfl, _⟩ | ⟨g', cap', cur', rfl, hb', _⟩
   ·simp [Value.ownBlock] at e
   ·have e2 : g' = k := by simpa [Value.ownBlock] using e
    omega)
  refine ⟨((KeepsOthers.alloc W _).trans hk3).trans (KeepsOthers.setCell _ _ _), below_setCell hK3 hs0 _, .slice (some ⟨g', 0, none⟩) (pre.length + 1) cap', ?_, ?_, below_setCell hb3 (Nat.le_refl _) _⟩
  ·exact blk_set hv3 0 _
  ·rw [List.length_append, List.map_append];exact hown'.setCell_other _ (own_ne hown' hv3 (fun cur e => absurd (Obj.cells.inj e).2.1 (by decide)))
 case done =>
  rintro D ss W hD rfl ⟨v, a1, a2, a3⟩ hK;have hc1 : W.cell? ⟨w.heap.size, 0, none⟩ = some v := (blk_cell a1 0).trans rfl
  gi_wp2
  refine ⟨by simp, .inl ⟨_, _, rfl, run_takeDeferred hK, ?_⟩⟩;refine ⟨_, results_tmp rfl _ _ _, v, rfl, a2.kept (grownBy_putObj' _ _ _) (own_ne a2 hK (fun cur e => by cases e)), a3.grown (grownBy_putObj' _ _ _) a3.size (fun k e => by cases e; omega)⟩
 case stop =>
  rintro D c pre W _ _ h _;exact h.elim
def rho_m5 : Go.Shelf.Ren := ⟨fun n => if n = 5 then 143 else if n = 7 then 154 else if n = 8 then 155 else if n = 10 then 159 else if n = 11 then 160 else if n = 12 then 161 else if n = 13 then 162 else if n = 14 then 163 else if n = 15 then 164 else if n = 16 then 126 else if n = 17 then 165 else if n = 18 then 166 else if n = 19 then 167 else if n = 20 then 168 else if n = 30 then 170 else if n = 31 then 171 else if n = 32 then 172 else if n = 33 then 173 else if n = 34 then 174 else if n = 35 then 135 else if n = 40 then 175 else n, fun n => if n = 22 then 23 else if n = 25 then 3 else if n = 32 then 140 else if n = 35 then 160 else if n = 36 then 161 else if n = 41 then 55 else if n = 44 then 153 else if n = 46 then 156 else if n = 53 then 168 else if n = 57 then 172 else if n = 63 then 174 else if n = 64 then 175 else n, fun n => n⟩
theorem lays_m5 : Go.Proofs.SlLaysM.n5 Try.prog rho_m5 where
 mixed := by kernel_rfl
 f5 := ⟨"slices.Sort[[]int,int]", by decide, by kernel_rfl⟩
 f7 := ⟨"slices.pdqsortOrdered[int]", by decide, by kernel_rfl⟩
 f8 := by kernel_rfl
 f10 := ⟨"slices.insertionSortOrdered[int]", by decide, by kernel_rfl⟩
 f11 := ⟨"slices.heapSortOrdered[int]", by decide, by kernel_rfl⟩
 f12 := ⟨"slices.breakPatternsOrdered[int]", by decide, by kernel_rfl⟩
 f13 := ⟨"slices.choosePivotOrdered[int]", by decide, by kernel_rfl⟩
 f14 := ⟨"slices.reverseRangeOrdered[int]", by decide, by kernel_rfl⟩
 f15 := ⟨"slices.partialInsertionSortOrdered[int]", by decide, by kernel_rfl⟩
 f16 := ⟨"cmp.Less[int]", by decide, by kernel_rfl⟩
 f17 := ⟨"slices.partitionEqualOrdered[int]", by decide, by kernel_rfl⟩
 f18 := ⟨"slices.partitionOrdered[int]", by decide, by kernel_rfl⟩
 f19 := by kernel_rfl
 f20 := by kernel_rfl
 f30 := ⟨"slices.siftDownOrdered[int]", by decide, by kernel_rfl⟩
 f31 := by kernel_rfl
 f32 := by kernel_rfl
 f33 := ⟨"slices.medianAdjacentOrdered[int]", by decide, by kernel_rfl⟩
 f34 := ⟨"slices.medianOrdered[int]", by decide, by kernel_rfl⟩
 f35 := ⟨"cmp.isNaN[int]", by decide, by kernel_rfl⟩
 f40 := ⟨"slices.order2Ordered[int]", by decide, by kernel_rfl⟩
 t0 := by kernel_rfl
 a0 := fun w => by kernel_rfl
 z0 := fun w => by kernel_rfl
 v0 := fun w => by kernel_rfl
 t3 := by kernel_rfl
 a3 := fun w => by kernel_rfl
 z3 := fun w => by kernel_rfl
 v3 := fun w => by kernel_rfl
 t4 := by kernel_rfl
 a4 := fun w => by kernel_rfl
 z4 := fun w => by kernel_rfl
 v4 := fun w => by kernel_rfl
 t5 := by kernel_rfl
 a5 := fun w => by kernel_rfl
 z5 := fun w => by kernel_rfl
 v5 := fun w => by kernel_rfl
 t9 := by kernel_rfl
 a9 := fun w => by kernel_rfl
 z9 := fun w => by kernel_rfl
 v9 := fun w => by kernel_rfl
 t22 := by kernel_rfl
 a22 := fun w => by kernel_rfl
 z22 := fun w => by kernel_rfl
 v22 := fun w => by kernel_rfl
 t23 := by kernel_rfl
 a23 := fun w => by kernel_rfl
 z23 := fun w => by kernel_rfl
 v23 := fun w => by kernel_rfl
 t25 := by kernel_rfl
 a25 := fun w => by kernel_rfl
 z25 := fun w => by kernel_rfl
 v25 := fun w => by kernel_rfl
 t32 := by kernel_rfl
 a32 := fun w => by kernel_rfl
 z32 := fun w => by kernel_rfl
 v32 := fun w => by kernel_rfl
 t35 := by kernel_rfl
 a35 := fun w => by kernel_rfl
 z35 := fun w => by kernel_rfl
 v35 := fun w => by kernel_rfl
 t36 := by kernel_rfl
 a36 := fun w => by kernel_rfl
 z36 := fun w => by kernel_rfl
 v36 := fun w => by kernel_rfl
 t41 := by kernel_rfl
 a41 := fun w => by kernel_rfl
 z41 := fun w => by kernel_rfl
 v41 := fun w => by kernel_rfl
 t44 := by kernel_rfl
 a44 := fun w => by kernel_rfl
 z44 := fun w => by kernel_rfl
 v44 := fun w => by kernel_rfl
 t46 := by kernel_rfl
 a46 := fun w => by kernel_rfl
 z46 := fun w => by kernel_rfl
 v46 := fun w => by kernel_rfl
 t53 := by kernel_rfl
 a53 := fun w => by kernel_rfl
 z53 := fun w => by kernel_rfl
 v53 := fun w => by kernel_rfl
 t57 := by kernel_rfl
 a57 := fun w => by kernel_rfl
 z57 := fun w => by kernel_rfl
 v57 := fun w => by kernel_rfl
 t63 := by kernel_rfl
 a63 := fun w => by kernel_rfl
 z63 := fun w => by kernel_rfl
 v63 := fun w => by kernel_rfl
 t64 := by kernel_rfl
 a64 := fun w => by kernel_rfl
 z64 := fun w => by kernel_rfl
 v64 := fun w => by kernel_rfl
set_option maxHeartbeats 2000000 in
set_option maxRecDepth 100000 in
theorem collect_calls (Bm : Nat) (A : Option Addr) (c : Nat) (xs : List Int) (hx : xs.length ≤ 100000) (w : World) (hm : w.heap[Bm]? = some (.cells #[.slice A xs.length c] 23 (0, 0))) (hr : Kd.C (Kd.int .i64) w A xs.length xs) :
  Calls Try.prog 142 #[.func (.func 144) #[] #[.pointer (some ⟨Bm, 0, none⟩)]] w fun e w' => ∃ v, e = .returned v ∧ w'.ownsRow w.heap.size 3 1 v xs.length (xs.map (Value.int .i64)) ∧ Below w.heap.size w w' := by
 have hv := values_stops Fence.wide 2 trivial rfl (by omega) Bm A c xs hx w hm hr;have ha := callsIn_wide.1 (appendSeq_in Fence.wide 3 trivial rfl (by omega) 144 #[.pointer (some ⟨Bm, 0, none⟩)] trivial (enters_of Try.func144 (by kernel_rfl) rfl) xs hx w w (Below.refl _ _) (Nat.le_refl _) hv);clear hv hm hr
 go_enter Try.func142, Try.ntmps142
 go_wp2_with (go_at_call 153; refine ha.mono ?_; rintro e W ⟨v, rfl, hrow, hb⟩)
 go_ret;exact ⟨v, rfl, hrow, hb⟩
set_option maxHeartbeats 2000000 in
set_option maxRecDepth 100000 in
theorem sorted_calls (Bm : Nat) (A : Option Addr) (c : Nat) (xs : List Int) (hx : xs.length ≤ 100000) (w : World) (hm : w.heap[Bm]? = some (.cells #[.slice A xs.length c] 23 (0, 0))) (hr : Kd.C (Kd.int .i64) w A xs.length xs) :
  Calls Try.prog 117 #[.func (.func 144) #[] #[.pointer (some ⟨Bm, 0, none⟩)]] w fun e w' => ∃ v, e = .returned v ∧ Kd.R (Kd.int .i64) 3 w' w.heap.size (fun _ => True) v (xs.mergeSort fun x y => decide (x ≤ y)) ∧ Below w.heap.size w w' := by
 have hcol := collect_calls Bm A c xs hx w hm hr;clear hm hr
 go_enter Try.func117, Try.ntmps117
 go_wp2_with (go_at_call 142; refine hcol.mono ?_; rintro e W ⟨v, rfl, hrow, hb⟩)
 have hlen : (xs.mergeSort fun x y => decide (x ≤ y)).length = xs.length := List.length_mergeSort _
 rcases hrow.2 with ⟨rfl, hz⟩ | ⟨gb, cap, cur, rfl, hbase, hgb, r1, r2, r3, r4⟩
 ·have hss : xs = [] := List.eq_nil_of_length_eq_zero hz;subst hss;have hs := Go.Proofs.AnyM.slices_Sort_int_none lays_m5 none 0 W
  change Calls Try.prog 143 _ _ _ at hs
  go_wp2_with (go_at_call 143; refine hs.mono ?_; rintro e w' ⟨rfl, rfl⟩)
  go_ret;refine ⟨_, rfl, ?_, hb⟩;rw [show (([] : List Int).mergeSort fun x y => decide (x ≤ y)) = [] from List.mergeSort_nil];exact Kd.R_nil _ _ _ _ _
 ·have hH : Go.Sort.Holds (Value.int .i64) W gb 0 xs.toArray := by
   intro j hj;have hj : j < xs.length := by simpa using hj
   refine ⟨?_, blk_frozen hgb _⟩;rw [Nat.zero_add, blk_cell hgb];have h4 : (cur.toList.take (xs.length * 1))[j]? = (xs.map (Value.int .i64))[j]? := by rw [r4]
   rw [List.getElem?_take_of_lt (by omega), Array.getElem?_toList] at h4;rw [h4];simp [hj]
  have hs := Go.Proofs.AnyM.slices_Sort_int lays_m5 gb 0 cap xs W hH (blk_lt hgb) (by omega)
  change Calls Try.prog 143 _ _ _ at hs
  go_wp2_with (go_at_call 143; refine hs.mono ?_; rintro e w' ⟨rfl, nn, os, rfl⟩)
  go_ret;have hR := Go.ownsRow_sortedI (n := nn) (os := os) hlen hbase hgb r1 r2 r3;have hg := Go.grownBy_sortedI (w := W) (g := gb) (n := nn) (os := os) (xs.mergeSort fun x y => decide (x ≤ y)).toArray;refine ⟨_, rfl, Kd.R_of_own (World.ownsRow.two (by rw [hlen]; exact hR)) (fun _ _ => trivial), hb.grown hg hb.size (fun j hj => by cases hj; exact hbase)⟩
end Go.Proofs.Ytlhmljngjdfbpaa.Pr
end
section
namespace Go.Proofs.Ytlhmljngjdfbpaa.Pr
open Go.RowKit Go.Proofs.YtlhmljngjdfbpaaW.PrintWords Go.Proofs.YtlhmljngjdfbpaaW.PrintLast Go.Proofs.YtlhmljngjdfbpaaW.PrintMore
attribute [local go_sem] max2_int min2_int max_two min_two max_three min_three max_four min_four
set_option linter.unusedVariables false
set_option linter.unusedSimpArgs false
open List renaming setIfInBounds_toArray → U,set_cons_zero → O,set_cons_succ → I
open Go.Proofs.YtlhmljngjdfbpaaW.PrintWords.Aside0 renaming mk → V
def sortedOnce (x : List Int) : List Int:=Go.Lib.compactUpTo (x.mergeSort fun x y => decide (x ≤ y)).toArray (x.mergeSort fun x y => decide (x ≤ y)).length
def impl_TreeCost.f (k : Nat) (a0_0 : Int) (l0_1 : List S58) (l1 : List Int) : Option Int:=(impl_arcsOk.f a0_0 l0_1 l1).bind fun b => if b = true then if l1.length ≤ 100000 then impl_Net_cost.f k a0_0 l0_1 (sortedOnce l1) else none else some (-1)
set_option maxHeartbeats 8000000 in
set_option maxRecDepth 100000 in
theorem impl_TreeCost.calls (k : Nat) (a0_0 : Int) (A0_1 : Option Addr) (c0_1 : Nat) (l0_1 : List S58) (A1 : Option Addr) (c1 : Nat) (l1 : List Int) (r : Int) (w : World) (hr0_1 : Kd.C k58 w A0_1 l0_1.length l0_1) (hc0_1 : l0_1.length ≤ c0_1) (hr1 : Kd.C (Kd.int .i64) w A1 l1.length l1) (hc1 : l1.length ≤ c1) (h : impl_TreeCost.f k a0_0 l0_1 l1 = some r) :
  Calls Try.prog 60 #[.agg #[.int .i64 a0_0,.slice A0_1 l0_1.length c0_1],.slice A1 l1.length c1] w fun e w' => e = .returned (.int .i64 r) ∧ Below w.heap.size w w':=by
 have hu:=Try.underlying34;have HR:=V hr0_1;have HC:=V hc0_1;have HR1:=V hr1;have HC1:=V hc1;clear hr0_1 hc0_1 hr1 hc1
 unfold impl_TreeCost.f at h
 obtain ⟨b0,h0,h⟩:=Option.bind_eq_some_iff.1 h;have E0:=V h0;clear h0;cases b0 with
 | false =>
  obtain rfl : (-1 : Int) = r:=by simpa using h
  clear h
  go_enter Try.func60,Try.ntmps60
  go_wp2_with (first
   | ((with_reducible refine gate_dst (N:=2) rfl ?_); refine box_event ?hg (N:=2) ?hd (cs:=#[.int .i64 a0_0,.slice A0_1 l0_1.length c0_1]) (t:=34) ?hr ?_; (case hd => rfl); (case hg => rfl); (case hr => first | (go_simp; done) | (go_simp; rfl)); intro gN hgN w1 hbox hb; have M1:=V hbox; have B1:=V hb; have q10 : w1.cell? ⟨gN,0,none⟩ = some (.int .i64 a0_0):=(blk_cell hbox 0).trans rfl; have q11 : w1.cell? ⟨gN,1,none⟩ = some (.slice A0_1 l0_1.length c0_1):=(blk_cell hbox 1).trans rfl; clear hbox hb hgN)
   | (go_at_call 110; refine (impl_arcsOk.calls a0_0 A0_1 c0_1 l0_1 A1 c1 l1 false w1 (Kd.C_below HR.out B1.out) HC.out (Kd.C_below HR1.out B1.out) HC1.out E0.out).mono ?_; rintro e w2 ⟨rfl,hB⟩; have B2:=V (below_step B1.out hB); clear hB q10 q11))
  go_ret;exact ⟨rfl,B2.out⟩
 | true =>
  rw [if_pos rfl] at h;have hcond : l1.length ≤ 100000:=by
   by_cases hc : l1.length ≤ 100000
   case pos => exact hc
   rw [if_neg hc] at h; exact absurd h (by simp)
  rw [if_pos hcond] at h;have HT:=V h;have HX:=V hcond;clear h hcond
  go_enter Try.func60,Try.ntmps60
  go_wp2_with (first
   | ((with_reducible refine gate_dst (N:=2) rfl ?_); refine box_event ?hg (N:=2) ?hd (cs:=#[.int .i64 a0_0,.slice A0_1 l0_1.length c0_1]) (t:=34) ?hr ?_; (case hd => rfl); (case hg => rfl); (case hr => first | (go_simp; done) | (go_simp; rfl)); intro gN hgN w1 hbox hb; have M1:=V hbox; have B1:=V hb; have q10 : w1.cell? ⟨gN,0,none⟩ = some (.int .i64 a0_0):=(blk_cell hbox 0).trans rfl; have q11 : w1.cell? ⟨gN,1,none⟩ = some (.slice A0_1 l0_1.length c0_1):=(blk_cell hbox 1).trans rfl; clear hbox hb hgN)
   | (go_at_call 110; refine (impl_arcsOk.calls a0_0 A0_1 c0_1 l0_1 A1 c1 l1 true w1 (Kd.C_below HR.out B1.out) HC.out (Kd.C_below HR1.out B1.out) HC1.out E0.out).mono ?_; rintro e w2 ⟨rfl,hB⟩; have B2:=V (below_step B1.out hB); have M2:=V (blk_below M1.out hB); have q20 : w2.cell? ⟨gN,0,none⟩ = some (.int .i64 a0_0):=(blk_cell M2.out 0).trans rfl; have q21 : w2.cell? ⟨gN,1,none⟩ = some (.slice A0_1 l0_1.length c0_1):=(blk_cell M2.out 1).trans rfl; clear hB q10 q11))
  refine start_ (n:=7) (S:=fun w' => w'.cell? ⟨gN,0,none⟩ = some (.int .i64 a0_0) ∧ w'.cell? ⟨gN,1,none⟩ = some (.slice A0_1 l0_1.length c0_1)) (ds:=[]) #[false,false,false,false,false,false,false] (by kernel_rfl) rfl rfl ⟨q20,q21⟩ (fun hHeld => ?_);clear q20 q21;have M2d:=V (blk_drew M2.out);have B2d:=V (below_drew B2.out);clear M2 B2 M1 B1;generalize w2.drew = w2d at M2d B2d hHeld ⊢;refine pure_ (i:=1) (N:=some 10) (v:=?_) (a':=?_) #[false,true,false,false,false,false,false] rfl rfl (by kernel_rfl) (fun _ _ _ h => h) (Or.inl ⟨by rfl,?_⟩) ?_ ?_;rotate_left
  ·intro w';go_simp;with_reducible rfl
  rotate_left
  ·simp only [Act.put,U,O,I,i64_w,i32_w];rfl
  refine take_ (i:=0) (N:=some 9) (v:=?_) (a':=?_) #[true,true,false,false,false,false,false] rfl rfl (by kernel_rfl) (fun _ _ _ h => h) (Or.inl ⟨by rfl,?_⟩) hHeld ?_ ?_;rotate_left
  ·rintro w' ⟨s0,s1⟩;go_simp;with_reducible rfl
  rotate_left
  ·simp only [Act.put,U,O,I,i64_w,i32_w];rfl
  refine one_ (i:=2) (N:=some 11) #[true,true,true,false,false,false,false] rfl rfl (by kernel_rfl) (by decide) (fun K hK => ?_);replace hK:=V hK;refine goes_ Try.func118 (by kernel_rfl) rfl #[.slice A1 l1.length c1] (by rfl) rfl rfl (by (try simp only [List.map_toArray,List.map_cons,List.map_nil]); first | done | rfl) ?_;refine (values_calls A1 l1.length c1 _).mono ?_;rintro e w3 ⟨gB,rfl,hB1,hB2,hB3⟩;refine ⟨_,rfl,?_⟩;have V3:=V hB1;have M3:=V (blk_below (by repeat (first | exact M2d.out | apply blk_drew | refine blk_drewN ?_ _)) hB3);have B3:=V (below_step (by repeat (first | exact B2d.out | apply below_drew | apply pw_below_drewN)) hB3);clear hB1 hB2 hB3;refine hK.out _ _ ⟨(blk_cell M3.out 0).trans rfl,(blk_cell M3.out 1).trans rfl⟩ (fun hHeld => ?_);clear hK K;refine norm_ (a':=?_) ?_ ?_;rotate_left
  ·show Act.put _ (some 11) _ = _
   simp only [Act.put,U,O,I,i64_w,i32_w];rfl
  refine one_ (i:=3) (N:=some 12) #[true,true,true,true,false,false,false] rfl rfl (by kernel_rfl) (by decide) (fun K hK => ?_);replace hK:=V hK;refine goes_ Try.func117 (by kernel_rfl) rfl #[.func (.func 144) #[] #[.pointer (some ⟨gB,0,none⟩)]] (by rfl) rfl rfl (by (try simp only [List.map_toArray,List.map_cons,List.map_nil]); first | done | rfl) ?_;refine (sorted_calls gB A1 c1 l1 HX.out _ (by repeat (first | exact V3.out | apply blk_drew | refine blk_drewN ?_ _)) (Kd.C_below HR1.out (by repeat (first | exact B3.out | apply below_drew | apply pw_below_drewN)))).mono ?_;rintro e w4 ⟨v4,rfl,hR4,hb4⟩;refine ⟨_,rfl,?_⟩;have R4:=V (Kd.R_lower hR4 (below_size (by repeat (first | exact B3.out | apply below_drew | apply pw_below_drewN))));have M4:=V (blk_below (by repeat (first | exact M3.out | apply blk_drew | refine blk_drewN ?_ _)) hb4);have B4:=V (below_step (by repeat (first | exact B3.out | apply below_drew | apply pw_below_drewN)) hb4);clear hR4 hb4;refine hK.out _ _ ⟨(blk_cell M4.out 0).trans rfl,(blk_cell M4.out 1).trans rfl⟩ (fun hHeld => ?_);clear hK K;refine norm_ (a':=?_) ?_ ?_;rotate_left
  ·show Act.put _ (some 12) _ = _
   simp only [Act.put,U,O,I,i64_w,i32_w];rfl
  refine one_ (i:=4) (N:=some 13) #[true,true,true,true,true,false,false] rfl rfl (by kernel_rfl) (by decide) (fun K hK => ?_);replace hK:=V hK;refine goes_ Try.func116 (by kernel_rfl) rfl #[v4] (by rfl) rfl rfl (by (try simp only [List.map_toArray,List.map_cons,List.map_nil]); first | done | rfl) ?_;refine (compact_R (by repeat (first | exact R4.out | apply Kd.R_drew | apply Kd.R_drewN)) (below_size (by repeat (first | exact B4.out | apply below_drew | apply pw_below_drewN)))).mono ?_;rintro e w5 ⟨v5,rfl,hR5,hb5,hg5⟩;obtain ⟨A5,c5,rfl⟩:=Kd.R_slice hR5;refine ⟨_,rfl,?_⟩;have R5:=V hR5;have B5:=V (Below.trans (by repeat (first | exact B4.out | apply below_drew | apply pw_below_drewN)) hb5);have M5:=V (blk_grown (by repeat (first | exact M4.out | apply blk_drew | refine blk_drewN ?_ _)) hg5 (Kd.R_ne (by repeat (first | exact R4.out | apply Kd.R_drew | apply Kd.R_drewN)) (by repeat (first | exact M4.out | apply blk_drew | refine blk_drewN ?_ _)) (by decide)));clear hR5 hb5 hg5;refine hK.out _ _ ⟨(blk_cell M5.out 0).trans rfl,(blk_cell M5.out 1).trans rfl⟩ (fun hHeld => ?_);clear hK K;refine norm_ (a':=?_) ?_ ?_;rotate_left
  ·show Act.put _ (some 13) _ = _
   simp only [Act.put,U,O,I,i64_w,i32_w];rfl
  refine one_ (i:=5) (N:=some 14) #[true,true,true,true,true,true,false] rfl rfl (by kernel_rfl) (by decide) (fun K hK => ?_);replace hK:=V hK;refine goes_ Try.func115 (by kernel_rfl) rfl #[.agg #[.int .i64 a0_0,.slice A0_1 l0_1.length c0_1],.slice A5 (sortedOnce l1).length c5] (by rfl) rfl rfl (by (try simp only [List.map_toArray,List.map_cons,List.map_nil]); first | done | rfl) ?_;refine (impl_Net_cost.calls k a0_0 A0_1 c0_1 l0_1 A5 c5 (sortedOnce l1) r _ (Kd.C_below HR.out (by repeat (first | exact B5.out | apply below_drew | apply pw_below_drewN))) HC.out (Kd.R_reads' (by repeat (first | exact R5.out | apply Kd.R_drew | apply Kd.R_drewN))).2.2 (Kd.R_reads' (by repeat (first | exact R5.out | apply Kd.R_drew | apply Kd.R_drewN))).2.1 HT.out).mono ?_;rintro e w6 ⟨rfl,hb6⟩;refine ⟨_,rfl,?_⟩;have M6:=V (blk_below (by repeat (first | exact M5.out | apply blk_drew | refine blk_drewN ?_ _)) hb6);have B6:=V (below_step (by repeat (first | exact B5.out | apply below_drew | apply pw_below_drewN)) hb6);clear hb6;refine hK.out _ _ ⟨(blk_cell M6.out 0).trans rfl,(blk_cell M6.out 1).trans rfl⟩ (fun hHeld => ?_);clear hK K;refine norm_ (a':=?_) ?_ ?_;rotate_left
  ·show Act.put _ (some 14) _ = _
   simp only [Act.put,U,O,I,i64_w,i32_w];rfl
  refine pure_ (i:=6) (N:=some 4) (v:=?_) (a':=?_) #[true,true,true,true,true,true,true] rfl rfl (by kernel_rfl) (fun _ _ _ h => h) (Or.inl ⟨by rfl,?_⟩) ?_ ?_;rotate_left
  ·intro w';go_simp;with_reducible rfl
  rotate_left
  ·simp only [Act.put,U,O,I,i64_w,i32_w];rfl
  refine done_ (by kernel_rfl) ?_
  go_wp2
  go_ret;exact ⟨rfl,(by repeat (first | exact B6.out | apply below_drew | apply pw_below_drewN))⟩
def spec_l1In.f (a0 : Int) (a1 : Int) (a2 : Int) : Option (Bool):=if a0 ≥ a1 then (some (decide (a0 ≤ a2))) else (some false)
set_option maxHeartbeats 8000000 in
set_option maxRecDepth 100000 in
theorem spec_l1In.calls (a0 : Int) (a1 : Int) (a2 : Int) (r : Bool) (w : World) (h : spec_l1In.f a0 a1 a2 = some r) :
  Calls Try.prog 90 #[.int .i64 a0,.int .i64 a1,.int .i64 a2] w fun e w' => e = .returned (.bool r) ∧ Drawn0 w w':=by
 have H : (if a0 ≥ a1 then (some (decide (a0 ≤ a2))) else (some false)) = some r:=h;clear h
 by_cases c4 : a0 ≥ a1
 case pos =>
  rw [if_pos c4] at H;have c4b0 : decide (a1 ≤ a0) = true:=decide_eq_true c4;clear c4;obtain rfl:=Option.some.inj H
  go_enter Try.func90,Try.ntmps90
  go_wp2
  go_ret;exact ⟨by first | rfl | (simp; done) | (simp [*]; done),by repeat (first | exact Drawn0.refl _ | apply Drawn0.step)⟩
 rw [if_neg c4] at H;have c4b0 : decide (a1 ≤ a0) = false:=decide_eq_false c4;clear c4;obtain rfl:=Option.some.inj H
 go_enter Try.func90,Try.ntmps90
 go_wp2
 go_ret;exact ⟨by first | rfl | (simp; done) | (simp [*]; done),by repeat (first | exact Drawn0.refl _ | apply Drawn0.step)⟩
def spec_l1Ok.l0 : Nat → Int → Int → List (S58) → Option (Bool)
 | 0,_,_,_ => none
 | k + 1,x3,x335000,x335001 => if x3 < (x335001.length : Int) then (if 0 ≤ x3 then ((spec_l1In.f ((rd_T58 x335001 x3).f0) 0 (wrap64 (x335000 - 1))).bind fun t338 => (if t338 = true then ((spec_l1In.f ((rd_T58 x335001 x3).f1) 0 (wrap64 (x335000 - 1))).bind fun t339 => (if t339 = true then (if ((rd_T58 x335001 x3).f0) = ((rd_T58 x335001 x3).f1) then (some false) else ((spec_l1In.f ((rd_T58 x335001 x3).f2) 0 99).bind fun t340 => (if t340 = true then ((spec_l1In.f ((rd_T58 x335001 x3).f3) 0 99).bind fun t341 => (if t341 = true then ((spec_l1In.f ((rd_T58 x335001 x3).f4) 0 9).bind fun t342 => (if t342 = true then (spec_l1Ok.l0 k (wrap64 (x3 + 1)) x335000 x335001) else (some false))) else (some false))) else (some false)))) else (some false))) else (some false))) else (none)) else ((spec_l1In.f x335000 1 8).bind fun t335 => (if t335 = true then (some (decide ((x335001.length : Int) ≤ 16))) else (some false)))
def spec_l1Ok.f (k : Nat) (a0_0 : Int) (l0_1 : List (S58)) : Option (Bool):=spec_l1Ok.l0 k 0 a0_0 l0_1
set_option maxHeartbeats 8000000 in
set_option maxRecDepth 100000 in
theorem spec_l1Ok.calls (k : Nat) (a0_0 : Int) (A0_1 : Option Addr) (c0_1 : Nat) (l0_1 : List (S58)) (r : Bool) (w : World) (hr0_1 : Kd.C k58 w A0_1 l0_1.length l0_1) (hc0_1 : l0_1.length ≤ c0_1) (h : spec_l1Ok.f k a0_0 l0_1 = some r) :
  Calls Try.prog 76 #[.agg #[.int .i64 a0_0,.slice A0_1 l0_1.length c0_1]] w fun e w' => e = .returned (.bool r) ∧ Below w.heap.size w w':=by
 have hu34:=Try.underlying34;have hu58:=Try.underlying58;have HR0_1:=V hr0_1;have HC0_1:=V hc0_1;clear hr0_1 hc0_1;have HB:=V (Below.refl w.heap.size w);have H : (spec_l1Ok.l0 k 0 a0_0 l0_1) = some r:=h;clear h;have H':=V H;clear H
 go_enter Try.func76,Try.ntmps76
 go_wp2_with (first | ((with_reducible refine gate_dst (N:=1) rfl ?_); (try (refine gate_guard (by rfl) ?_; dsimp only)); refine box_event ?hg (N:=1) ?hd (cs:=#[.int .i64 a0_0,.slice A0_1 l0_1.length c0_1]) (t:=34) ?hr ?_; (case hd => rfl); (case hg => rfl); (case hr => first | (go_simp; done) | (go_simp; rfl)); intro gb334 hg w2 hbox hb; have n0_:=V (below_step (by repeat (first | (with_reducible first | exact HB.out | apply below_alloc | apply pw_below_drewN | apply below_drew1) | exact HB.out)) hb); have n1_:=V (hbox); have n2_:=V ((by rw [hg]; exact (below_size (by repeat (first | (with_reducible first | exact HB.out | apply below_alloc | apply pw_below_drewN | apply below_drew1) | exact HB.out))) : w.heap.size ≤ gb334)); have n3_:=V ((by rw [hg]; exact (below_size (by repeat (first | (with_reducible first | exact HB.out | apply below_alloc | apply pw_below_drewN | apply below_drew1) | exact HB.out))) : w.heap.size ≤ gb334)); clear HB; have HB:=n0_; have BK334:=n1_; have GW334:=n2_; have GE334:=n3_; clear n0_ n1_ n2_ n3_; clear hb hbox hg))
 go_loopg [3] k (fun kq v3 w' => ∃ (x3_1 : Int),v3 = .int .i64 x3_1 ∧ Aside0 (spec_l1Ok.l0 kq x3_1 a0_0 l0_1 = some r) ∧ Aside0 (kq ≤ k) ∧ Aside0 (w'.heap[gb334]? = some (.cells #[.int .i64 a0_0,(.slice A0_1 l0_1.length c0_1)] 34 (0,0))) ∧ Aside0 (Below w.heap.size w w'))
 case atStart => exact ⟨(0),(by first | rfl | (simp; done) | (simp [*]; done)),H',⟨Nat.le_refl _⟩,⟨by (with_reducible repeat (first | refine blk_drewN ?_ _ | refine blk_drew ?_ | refine blk_alloc ?_ _)); exact BK334.out⟩,⟨by repeat (first | (with_reducible first | exact HB.out | apply below_alloc | apply pw_below_drewN | apply below_drew1 | refine below_set ?_ GE334.out) | exact HB.out)⟩⟩
 case round =>
  clear H'
  try clear p2
  obtain ⟨x3_1,rfl,HA,HK1,BK334,HB⟩:=hrel;cases gk with
  | zero => exact absurd HA.out (by simp [spec_l1Ok.l0])
  | succ k1 =>
   have H:=HA.out;clear HA;simp only [spec_l1Ok.l0] at H
   by_cases c3 : x3_1 < (l0_1.length : Int)
   case neg =>
    rw [if_neg c3] at H;have c3b0 : decide (x3_1 < (l0_1.length : Int)) = false:=decide_eq_false c3;clear c3;replace H:=Option.bind_eq_some_iff.mp H;obtain ⟨t335,A510,H⟩:=H;replace H : (if t335 = true then (some (decide ((l0_1.length : Int) ≤ 16))) else (some false)) = some r:=H;have A51:=V A510;clear A510
    by_cases c52 : t335 = true
    case pos =>
     subst c52;have H1 : (some (decide ((l0_1.length : Int) ≤ 16))) = some r:=by rw [if_pos rfl] at H; exact H
     clear H;have H:=H1;clear H1;obtain rfl:=Option.some.inj H;have hcz53_0 : wr.cell? ⟨gb334,0,none⟩ = some (.int .i64 a0_0):=(blk_cell BK334.out 0).trans rfl;have hcz53_1 : wr.cell? ⟨gb334,1,none⟩ = some (.slice A0_1 l0_1.length c0_1):=(blk_cell BK334.out 1).trans rfl;have hfz53_0:=blk_frozen BK334.out 0;have hfz53_1:=blk_frozen BK334.out 1
     go_wp2_with (first | ((with_reducible refine gate_callee (f:=90) rfl ?_); refine goesL_ (some 60) rfl rfl Try.func90 (by kernel_rfl) rfl #[.int .i64 a0_0,.int .i64 1,.int .i64 8] rfl (by (try simp only [List.map_toArray,List.map_cons,List.map_nil]); first | done | rfl | (simp only [List.length_drop,List.length_take]; rfl)) ?_; (with_reducible refine (spec_l1In.calls a0_0 1 8 true _ A51.out).mono ?_); rintro e w' ⟨rfl,⟨nd,rfl⟩⟩; refine ⟨_,rfl,?_⟩))
     go_ret;exact ⟨by first | rfl | (simp [errW_none,errW_some] <;> rfl) | (simp [*,errW_none,errW_some] <;> rfl),by repeat (first | (with_reducible first | exact HB.out | apply below_alloc | apply pw_below_drewN | apply below_drew1 | refine below_set ?_ GE334.out) | exact HB.out)⟩
    replace c52:=Bool.eq_false_iff.mpr c52;subst c52;have H1 : (some false) = some r:=by rw [if_neg (show ¬ (false = true) by decide)] at H; exact H
    clear H;have H:=H1;clear H1;obtain rfl:=Option.some.inj H;have hcz54_0 : wr.cell? ⟨gb334,0,none⟩ = some (.int .i64 a0_0):=(blk_cell BK334.out 0).trans rfl;have hcz54_1 : wr.cell? ⟨gb334,1,none⟩ = some (.slice A0_1 l0_1.length c0_1):=(blk_cell BK334.out 1).trans rfl;have hfz54_0:=blk_frozen BK334.out 0;have hfz54_1:=blk_frozen BK334.out 1
    go_wp2_with (first | ((with_reducible refine gate_callee (f:=90) rfl ?_); refine goesL_ (some 60) rfl rfl Try.func90 (by kernel_rfl) rfl #[.int .i64 a0_0,.int .i64 1,.int .i64 8] rfl (by (try simp only [List.map_toArray,List.map_cons,List.map_nil]); first | done | rfl | (simp only [List.length_drop,List.length_take]; rfl)) ?_; (with_reducible refine (spec_l1In.calls a0_0 1 8 false _ A51.out).mono ?_); rintro e w' ⟨rfl,⟨nd,rfl⟩⟩; refine ⟨_,rfl,?_⟩))
    go_ret;exact ⟨by first | rfl | (simp [errW_none,errW_some] <;> rfl) | (simp [*,errW_none,errW_some] <;> rfl),by repeat (first | (with_reducible first | exact HB.out | apply below_alloc | apply pw_below_drewN | apply below_drew1 | refine below_set ?_ GE334.out) | exact HB.out)⟩
   rw [if_pos c3] at H;have c3b0 : decide (x3_1 < (l0_1.length : Int)) = true:=decide_eq_true c3;clear c3
   by_cases c4 : 0 ≤ x3_1
   case neg =>
    rw [if_neg c4] at H;exact absurd H (by simp)
   rw [if_pos c4] at H;have c4b0 : decide (0 ≤ x3_1) = true:=decide_eq_true c4;clear c4;replace H:=Option.bind_eq_some_iff.mp H;obtain ⟨t338,A50,H⟩:=H;replace H : (if t338 = true then ((spec_l1In.f ((rd_T58 l0_1 x3_1).f1) 0 (wrap64 (a0_0 - 1))).bind fun t339 => (if t339 = true then (if ((rd_T58 l0_1 x3_1).f0) = ((rd_T58 l0_1 x3_1).f1) then (some false) else ((spec_l1In.f ((rd_T58 l0_1 x3_1).f2) 0 99).bind fun t340 => (if t340 = true then ((spec_l1In.f ((rd_T58 l0_1 x3_1).f3) 0 99).bind fun t341 => (if t341 = true then ((spec_l1In.f ((rd_T58 l0_1 x3_1).f4) 0 9).bind fun t342 => (if t342 = true then (spec_l1Ok.l0 k1 (wrap64 (x3_1 + 1)) a0_0 l0_1) else (some false))) else (some false))) else (some false)))) else (some false))) else (some false)) = some r:=H;have A5:=V A50;clear A50
   by_cases c6 : t338 = true
   case neg =>
    replace c6:=Bool.eq_false_iff.mpr c6;subst c6;have H1 : (some false) = some r:=by rw [if_neg (show ¬ (false = true) by decide)] at H; exact H
    clear H;have H:=H1;clear H1;obtain rfl:=Option.some.inj H;have hcz46_0 : wr.cell? ⟨gb334,0,none⟩ = some (.int .i64 a0_0):=(blk_cell BK334.out 0).trans rfl;have hcz46_1 : wr.cell? ⟨gb334,1,none⟩ = some (.slice A0_1 l0_1.length c0_1):=(blk_cell BK334.out 1).trans rfl;have hfz46_0:=blk_frozen BK334.out 0;have hfz46_1:=blk_frozen BK334.out 1;have p336 : 0 ≤ (x3_1 : Int):=of_decide_eq_true (by first | (with_reducible assumption) | assumption);have q336 : x3_1 < (l0_1.length : Int):=of_decide_eq_true (by first | (with_reducible assumption) | assumption);obtain ⟨ad336,e336,hx336_0,hx336_1,hx336_2,hx336_3,hx336_4⟩:=at_T58 HR0_1.out x3_1 p336 q336;cases e336;replace hx336_0:=(HB.out.cell (World.block_lt_of_cell? w _ hx336_0)).trans hx336_0;replace hx336_1:=(HB.out.cell (World.block_lt_of_cell? w _ hx336_1)).trans hx336_1;replace hx336_2:=(HB.out.cell (World.block_lt_of_cell? w _ hx336_2)).trans hx336_2;replace hx336_3:=(HB.out.cell (World.block_lt_of_cell? w _ hx336_3)).trans hx336_3;replace hx336_4:=(HB.out.cell (World.block_lt_of_cell? w _ hx336_4)).trans hx336_4;replace p336:=eq_true p336;replace q336:=eq_true q336
    go_wp2_with (first | ((with_reducible refine gate_dst (N:=4) rfl ?_); (try (refine gate_guard (by rfl) ?_; dsimp only)); refine box_event ?hg (N:=4) ?hd (cs:=#[.int .i64 0,.int .i64 0,.int .i64 0,.int .i64 0,.int .i64 0]) (t:=58) ?hr ?_; (case hd => rfl); (case hg => rfl); (case hr => first | (go_simp; done) | (go_simp; rfl)); intro gb337 hg w47 hbox hb; have n0_:=V (blk_below (g:=gb334) (o:=.cells #[.int .i64 a0_0,.slice (some ad336) l0_1.length c0_1] 34 (0,0)) (by (with_reducible repeat (first | refine blk_drewN ?_ _ | refine blk_drew ?_ | refine blk_alloc ?_ _)); exact BK334.out) hb); have n1_:=V (below_step (by repeat (first | (with_reducible first | exact HB.out | apply below_alloc | apply pw_below_drewN | apply below_drew1 | refine below_set ?_ GE334.out) | exact HB.out)) hb); have n2_:=V (hbox); have n3_:=V ((by rw [hg]; exact (below_size (by repeat (first | (with_reducible first | exact HB.out | apply below_alloc | apply pw_below_drewN | apply below_drew1 | refine below_set ?_ GE334.out) | exact HB.out))) : w.heap.size ≤ gb337)); have n4_:=V ((by rw [hg]; exact (below_size (by repeat (first | (with_reducible first | exact HB.out | apply below_alloc | apply pw_below_drewN | apply below_drew1 | refine below_set ?_ GE334.out) | exact HB.out))) : w.heap.size ≤ gb337)); have n5_:=V ((by rw [hg]; exact Nat.ne_of_lt (blk_lt (g:=gb334) (o:=.cells #[.int .i64 a0_0,.slice (some ad336) l0_1.length c0_1] 34 (0,0)) (by (with_reducible repeat (first | refine blk_drewN ?_ _ | refine blk_drew ?_ | refine blk_alloc ?_ _)); exact BK334.out)) : gb334 ≠ gb337)); have n6_:=V ((by rw [hg]; exact Nat.ne_of_gt (blk_lt (g:=gb334) (o:=.cells #[.int .i64 a0_0,.slice (some ad336) l0_1.length c0_1] 34 (0,0)) (by (with_reducible repeat (first | refine blk_drewN ?_ _ | refine blk_drew ?_ | refine blk_alloc ?_ _)); exact BK334.out)) : gb337 ≠ gb334)); clear BK334; clear HB; have BK334:=n0_; have HB:=n1_; have BK337:=n2_; have GW337:=n3_; have GE337:=n4_; have NB334_337:=n5_; have NB337_334:=n6_; clear n0_ n1_ n2_ n3_ n4_ n5_ n6_; clear hb hbox hg; have hnb48:=NB337_334.out; have hnc48:=NB334_337.out; have hcz49_0 : w47.cell? ⟨gb337,0,none⟩ = some (.int .i64 0):=(blk_cell BK337.out 0).trans rfl; have hcz49_1 : w47.cell? ⟨gb337,1,none⟩ = some (.int .i64 0):=(blk_cell BK337.out 1).trans rfl; have hcz49_2 : w47.cell? ⟨gb337,2,none⟩ = some (.int .i64 0):=(blk_cell BK337.out 2).trans rfl; have hcz49_3 : w47.cell? ⟨gb337,3,none⟩ = some (.int .i64 0):=(blk_cell BK337.out 3).trans rfl; have hcz49_4 : w47.cell? ⟨gb337,4,none⟩ = some (.int .i64 0):=(blk_cell BK337.out 4).trans rfl; have hfz49_0:=blk_frozen BK337.out 0; have hfz49_1:=blk_frozen BK337.out 1; have hfz49_2:=blk_frozen BK337.out 2; have hfz49_3:=blk_frozen BK337.out 3; have hfz49_4:=blk_frozen BK337.out 4; have hcz50_0 : w47.cell? ⟨gb334,0,none⟩ = some (.int .i64 a0_0):=(blk_cell BK334.out 0).trans rfl; have hcz50_1 : w47.cell? ⟨gb334,1,none⟩ = some (.slice (some ad336) l0_1.length c0_1):=(blk_cell BK334.out 1).trans rfl; have hfz50_0:=blk_frozen BK334.out 0; have hfz50_1:=blk_frozen BK334.out 1) | ((with_reducible refine gate_callee (f:=90) rfl ?_); refine goesL_ (some 22) rfl rfl Try.func90 (by kernel_rfl) rfl #[.int .i64 ((rd_T58 l0_1 x3_1).f0),.int .i64 0,.int .i64 (wrap64 (a0_0 - 1))] rfl (by (try simp only [List.map_toArray,List.map_cons,List.map_nil]); first | done | rfl | (simp only [List.length_drop,List.length_take]; rfl)) ?_; (with_reducible refine (spec_l1In.calls ((rd_T58 l0_1 x3_1).f0) 0 (wrap64 (a0_0 - 1)) false _ A5.out).mono ?_); rintro e w' ⟨rfl,⟨nd,rfl⟩⟩; refine ⟨_,rfl,?_⟩))
    go_ret;exact ⟨by first | rfl | (simp [errW_none,errW_some] <;> rfl) | (simp [*,errW_none,errW_some] <;> rfl),by repeat (first | (with_reducible first | exact HB.out | apply below_alloc | apply pw_below_drewN | apply below_drew1 | refine below_set ?_ GE334.out | refine below_set ?_ GE337.out) | exact HB.out)⟩
   subst c6;have H1 : ((spec_l1In.f ((rd_T58 l0_1 x3_1).f1) 0 (wrap64 (a0_0 - 1))).bind fun t339 => (if t339 = true then (if ((rd_T58 l0_1 x3_1).f0) = ((rd_T58 l0_1 x3_1).f1) then (some false) else ((spec_l1In.f ((rd_T58 l0_1 x3_1).f2) 0 99).bind fun t340 => (if t340 = true then ((spec_l1In.f ((rd_T58 l0_1 x3_1).f3) 0 99).bind fun t341 => (if t341 = true then ((spec_l1In.f ((rd_T58 l0_1 x3_1).f4) 0 9).bind fun t342 => (if t342 = true then (spec_l1Ok.l0 k1 (wrap64 (x3_1 + 1)) a0_0 l0_1) else (some false))) else (some false))) else (some false)))) else (some false))) = some r:=by rw [if_pos rfl] at H; exact H
   clear H;have H:=H1;clear H1;replace H:=Option.bind_eq_some_iff.mp H;obtain ⟨t339,A70,H⟩:=H;replace H : (if t339 = true then (if ((rd_T58 l0_1 x3_1).f0) = ((rd_T58 l0_1 x3_1).f1) then (some false) else ((spec_l1In.f ((rd_T58 l0_1 x3_1).f2) 0 99).bind fun t340 => (if t340 = true then ((spec_l1In.f ((rd_T58 l0_1 x3_1).f3) 0 99).bind fun t341 => (if t341 = true then ((spec_l1In.f ((rd_T58 l0_1 x3_1).f4) 0 9).bind fun t342 => (if t342 = true then (spec_l1Ok.l0 k1 (wrap64 (x3_1 + 1)) a0_0 l0_1) else (some false))) else (some false))) else (some false)))) else (some false)) = some r:=H;have A7:=V A70;clear A70
   by_cases c8 : t339 = true
   case neg =>
    replace c8:=Bool.eq_false_iff.mpr c8;subst c8;have H1 : (some false) = some r:=by rw [if_neg (show ¬ (false = true) by decide)] at H; exact H
    clear H;have H:=H1;clear H1;obtain rfl:=Option.some.inj H;have hcz41_0 : wr.cell? ⟨gb334,0,none⟩ = some (.int .i64 a0_0):=(blk_cell BK334.out 0).trans rfl;have hcz41_1 : wr.cell? ⟨gb334,1,none⟩ = some (.slice A0_1 l0_1.length c0_1):=(blk_cell BK334.out 1).trans rfl;have hfz41_0:=blk_frozen BK334.out 0;have hfz41_1:=blk_frozen BK334.out 1;have p336 : 0 ≤ (x3_1 : Int):=of_decide_eq_true (by first | (with_reducible assumption) | assumption);have q336 : x3_1 < (l0_1.length : Int):=of_decide_eq_true (by first | (with_reducible assumption) | assumption);obtain ⟨ad336,e336,hx336_0,hx336_1,hx336_2,hx336_3,hx336_4⟩:=at_T58 HR0_1.out x3_1 p336 q336;cases e336;replace hx336_0:=(HB.out.cell (World.block_lt_of_cell? w _ hx336_0)).trans hx336_0;replace hx336_1:=(HB.out.cell (World.block_lt_of_cell? w _ hx336_1)).trans hx336_1;replace hx336_2:=(HB.out.cell (World.block_lt_of_cell? w _ hx336_2)).trans hx336_2;replace hx336_3:=(HB.out.cell (World.block_lt_of_cell? w _ hx336_3)).trans hx336_3;replace hx336_4:=(HB.out.cell (World.block_lt_of_cell? w _ hx336_4)).trans hx336_4;replace p336:=eq_true p336;replace q336:=eq_true q336
    go_wp2_with (first | ((with_reducible refine gate_dst (N:=4) rfl ?_); (try (refine gate_guard (by rfl) ?_; dsimp only)); refine box_event ?hg (N:=4) ?hd (cs:=#[.int .i64 0,.int .i64 0,.int .i64 0,.int .i64 0,.int .i64 0]) (t:=58) ?hr ?_; (case hd => rfl); (case hg => rfl); (case hr => first | (go_simp; done) | (go_simp; rfl)); intro gb337 hg w42 hbox hb; have n0_:=V (blk_below (g:=gb334) (o:=.cells #[.int .i64 a0_0,.slice (some ad336) l0_1.length c0_1] 34 (0,0)) (by (with_reducible repeat (first | refine blk_drewN ?_ _ | refine blk_drew ?_ | refine blk_alloc ?_ _)); exact BK334.out) hb); have n1_:=V (below_step (by repeat (first | (with_reducible first | exact HB.out | apply below_alloc | apply pw_below_drewN | apply below_drew1 | refine below_set ?_ GE334.out) | exact HB.out)) hb); have n2_:=V (hbox); have n3_:=V ((by rw [hg]; exact (below_size (by repeat (first | (with_reducible first | exact HB.out | apply below_alloc | apply pw_below_drewN | apply below_drew1 | refine below_set ?_ GE334.out) | exact HB.out))) : w.heap.size ≤ gb337)); have n4_:=V ((by rw [hg]; exact (below_size (by repeat (first | (with_reducible first | exact HB.out | apply below_alloc | apply pw_below_drewN | apply below_drew1 | refine below_set ?_ GE334.out) | exact HB.out))) : w.heap.size ≤ gb337)); have n5_:=V ((by rw [hg]; exact Nat.ne_of_lt (blk_lt (g:=gb334) (o:=.cells #[.int .i64 a0_0,.slice (some ad336) l0_1.length c0_1] 34 (0,0)) (by (with_reducible repeat (first | refine blk_drewN ?_ _ | refine blk_drew ?_ | refine blk_alloc ?_ _)); exact BK334.out)) : gb334 ≠ gb337)); have n6_:=V ((by rw [hg]; exact Nat.ne_of_gt (blk_lt (g:=gb334) (o:=.cells #[.int .i64 a0_0,.slice (some ad336) l0_1.length c0_1] 34 (0,0)) (by (with_reducible repeat (first | refine blk_drewN ?_ _ | refine blk_drew ?_ | refine blk_alloc ?_ _)); exact BK334.out)) : gb337 ≠ gb334)); clear BK334; clear HB; have BK334:=n0_; have HB:=n1_; have BK337:=n2_; have GW337:=n3_; have GE337:=n4_; have NB334_337:=n5_; have NB337_334:=n6_; clear n0_ n1_ n2_ n3_ n4_ n5_ n6_; clear hb hbox hg; have hnb43:=NB337_334.out; have hnc43:=NB334_337.out; have hcz44_0 : w42.cell? ⟨gb337,0,none⟩ = some (.int .i64 0):=(blk_cell BK337.out 0).trans rfl; have hcz44_1 : w42.cell? ⟨gb337,1,none⟩ = some (.int .i64 0):=(blk_cell BK337.out 1).trans rfl; have hcz44_2 : w42.cell? ⟨gb337,2,none⟩ = some (.int .i64 0):=(blk_cell BK337.out 2).trans rfl; have hcz44_3 : w42.cell? ⟨gb337,3,none⟩ = some (.int .i64 0):=(blk_cell BK337.out 3).trans rfl; have hcz44_4 : w42.cell? ⟨gb337,4,none⟩ = some (.int .i64 0):=(blk_cell BK337.out 4).trans rfl; have hfz44_0:=blk_frozen BK337.out 0; have hfz44_1:=blk_frozen BK337.out 1; have hfz44_2:=blk_frozen BK337.out 2; have hfz44_3:=blk_frozen BK337.out 3; have hfz44_4:=blk_frozen BK337.out 4; have hcz45_0 : w42.cell? ⟨gb334,0,none⟩ = some (.int .i64 a0_0):=(blk_cell BK334.out 0).trans rfl; have hcz45_1 : w42.cell? ⟨gb334,1,none⟩ = some (.slice (some ad336) l0_1.length c0_1):=(blk_cell BK334.out 1).trans rfl; have hfz45_0:=blk_frozen BK334.out 0; have hfz45_1:=blk_frozen BK334.out 1) | ((with_reducible refine gate_callee (f:=90) rfl ?_); refine goesL_ (some 22) rfl rfl Try.func90 (by kernel_rfl) rfl #[.int .i64 ((rd_T58 l0_1 x3_1).f0),.int .i64 0,.int .i64 (wrap64 (a0_0 - 1))] rfl (by (try simp only [List.map_toArray,List.map_cons,List.map_nil]); first | done | rfl | (simp only [List.length_drop,List.length_take]; rfl)) ?_; (with_reducible refine (spec_l1In.calls ((rd_T58 l0_1 x3_1).f0) 0 (wrap64 (a0_0 - 1)) true _ A5.out).mono ?_); rintro e w' ⟨rfl,⟨nd,rfl⟩⟩; refine ⟨_,rfl,?_⟩) | (go_at_call 90; (with_reducible refine (spec_l1In.calls ((rd_T58 l0_1 x3_1).f1) 0 (wrap64 (a0_0 - 1)) false _ A7.out).mono ?_); rintro e w' ⟨rfl,⟨nd,rfl⟩⟩))
    go_ret;exact ⟨by first | rfl | (simp [errW_none,errW_some] <;> rfl) | (simp [*,errW_none,errW_some] <;> rfl),by repeat (first | (with_reducible first | exact HB.out | apply below_alloc | apply pw_below_drewN | apply below_drew1 | refine below_set ?_ GE334.out | refine below_set ?_ GE337.out) | exact HB.out)⟩
   subst c8;have H1 : (if ((rd_T58 l0_1 x3_1).f0) = ((rd_T58 l0_1 x3_1).f1) then (some false) else ((spec_l1In.f ((rd_T58 l0_1 x3_1).f2) 0 99).bind fun t340 => (if t340 = true then ((spec_l1In.f ((rd_T58 l0_1 x3_1).f3) 0 99).bind fun t341 => (if t341 = true then ((spec_l1In.f ((rd_T58 l0_1 x3_1).f4) 0 9).bind fun t342 => (if t342 = true then (spec_l1Ok.l0 k1 (wrap64 (x3_1 + 1)) a0_0 l0_1) else (some false))) else (some false))) else (some false)))) = some r:=by rw [if_pos rfl] at H; exact H
   clear H;have H:=H1;clear H1
   by_cases c9 : ((rd_T58 l0_1 x3_1).f0) = ((rd_T58 l0_1 x3_1).f1)
   case pos =>
    rw [if_pos c9] at H;have c9b0 : (((rd_T58 l0_1 x3_1).f0) == ((rd_T58 l0_1 x3_1).f1)) = true:=beq_iff_eq.mpr c9;have c9b1 : (((rd_T58 l0_1 x3_1).f0) != ((rd_T58 l0_1 x3_1).f1)) = false:=bne_eq_false_iff_eq.mpr c9;clear c9;obtain rfl:=Option.some.inj H;have hcz10_0 : wr.cell? ⟨gb334,0,none⟩ = some (.int .i64 a0_0):=(blk_cell BK334.out 0).trans rfl;have hcz10_1 : wr.cell? ⟨gb334,1,none⟩ = some (.slice A0_1 l0_1.length c0_1):=(blk_cell BK334.out 1).trans rfl;have hfz10_0:=blk_frozen BK334.out 0;have hfz10_1:=blk_frozen BK334.out 1;have p336 : 0 ≤ (x3_1 : Int):=of_decide_eq_true (by first | (with_reducible assumption) | assumption);have q336 : x3_1 < (l0_1.length : Int):=of_decide_eq_true (by first | (with_reducible assumption) | assumption);obtain ⟨ad336,e336,hx336_0,hx336_1,hx336_2,hx336_3,hx336_4⟩:=at_T58 HR0_1.out x3_1 p336 q336;cases e336;replace hx336_0:=(HB.out.cell (World.block_lt_of_cell? w _ hx336_0)).trans hx336_0;replace hx336_1:=(HB.out.cell (World.block_lt_of_cell? w _ hx336_1)).trans hx336_1;replace hx336_2:=(HB.out.cell (World.block_lt_of_cell? w _ hx336_2)).trans hx336_2;replace hx336_3:=(HB.out.cell (World.block_lt_of_cell? w _ hx336_3)).trans hx336_3;replace hx336_4:=(HB.out.cell (World.block_lt_of_cell? w _ hx336_4)).trans hx336_4;replace p336:=eq_true p336;replace q336:=eq_true q336
    go_wp2_with (first | ((with_reducible refine gate_dst (N:=4) rfl ?_); (try (refine gate_guard (by rfl) ?_; dsimp only)); refine box_event ?hg (N:=4) ?hd (cs:=#[.int .i64 0,.int .i64 0,.int .i64 0,.int .i64 0,.int .i64 0]) (t:=58) ?hr ?_; (case hd => rfl); (case hg => rfl); (case hr => first | (go_simp; done) | (go_simp; rfl)); intro gb337 hg w11 hbox hb; have n0_:=V (blk_below (g:=gb334) (o:=.cells #[.int .i64 a0_0,.slice (some ad336) l0_1.length c0_1] 34 (0,0)) (by (with_reducible repeat (first | refine blk_drewN ?_ _ | refine blk_drew ?_ | refine blk_alloc ?_ _)); exact BK334.out) hb); have n1_:=V (below_step (by repeat (first | (with_reducible first | exact HB.out | apply below_alloc | apply pw_below_drewN | apply below_drew1 | refine below_set ?_ GE334.out) | exact HB.out)) hb); have n2_:=V (hbox); have n3_:=V ((by rw [hg]; exact (below_size (by repeat (first | (with_reducible first | exact HB.out | apply below_alloc | apply pw_below_drewN | apply below_drew1 | refine below_set ?_ GE334.out) | exact HB.out))) : w.heap.size ≤ gb337)); have n4_:=V ((by rw [hg]; exact (below_size (by repeat (first | (with_reducible first | exact HB.out | apply below_alloc | apply pw_below_drewN | apply below_drew1 | refine below_set ?_ GE334.out) | exact HB.out))) : w.heap.size ≤ gb337)); have n5_:=V ((by rw [hg]; exact Nat.ne_of_lt (blk_lt (g:=gb334) (o:=.cells #[.int .i64 a0_0,.slice (some ad336) l0_1.length c0_1] 34 (0,0)) (by (with_reducible repeat (first | refine blk_drewN ?_ _ | refine blk_drew ?_ | refine blk_alloc ?_ _)); exact BK334.out)) : gb334 ≠ gb337)); have n6_:=V ((by rw [hg]; exact Nat.ne_of_gt (blk_lt (g:=gb334) (o:=.cells #[.int .i64 a0_0,.slice (some ad336) l0_1.length c0_1] 34 (0,0)) (by (with_reducible repeat (first | refine blk_drewN ?_ _ | refine blk_drew ?_ | refine blk_alloc ?_ _)); exact BK334.out)) : gb337 ≠ gb334)); clear BK334; clear HB; have BK334:=n0_; have HB:=n1_; have BK337:=n2_; have GW337:=n3_; have GE337:=n4_; have NB334_337:=n5_; have NB337_334:=n6_; clear n0_ n1_ n2_ n3_ n4_ n5_ n6_; clear hb hbox hg; have hnb12:=NB337_334.out; have hnc12:=NB334_337.out; have hcz13_0 : w11.cell? ⟨gb337,0,none⟩ = some (.int .i64 0):=(blk_cell BK337.out 0).trans rfl; have hcz13_1 : w11.cell? ⟨gb337,1,none⟩ = some (.int .i64 0):=(blk_cell BK337.out 1).trans rfl; have hcz13_2 : w11.cell? ⟨gb337,2,none⟩ = some (.int .i64 0):=(blk_cell BK337.out 2).trans rfl; have hcz13_3 : w11.cell? ⟨gb337,3,none⟩ = some (.int .i64 0):=(blk_cell BK337.out 3).trans rfl; have hcz13_4 : w11.cell? ⟨gb337,4,none⟩ = some (.int .i64 0):=(blk_cell BK337.out 4).trans rfl; have hfz13_0:=blk_frozen BK337.out 0; have hfz13_1:=blk_frozen BK337.out 1; have hfz13_2:=blk_frozen BK337.out 2; have hfz13_3:=blk_frozen BK337.out 3; have hfz13_4:=blk_frozen BK337.out 4; have hcz14_0 : w11.cell? ⟨gb334,0,none⟩ = some (.int .i64 a0_0):=(blk_cell BK334.out 0).trans rfl; have hcz14_1 : w11.cell? ⟨gb334,1,none⟩ = some (.slice (some ad336) l0_1.length c0_1):=(blk_cell BK334.out 1).trans rfl; have hfz14_0:=blk_frozen BK334.out 0; have hfz14_1:=blk_frozen BK334.out 1) | ((with_reducible refine gate_callee (f:=90) rfl ?_); refine goesL_ (some 22) rfl rfl Try.func90 (by kernel_rfl) rfl #[.int .i64 ((rd_T58 l0_1 x3_1).f0),.int .i64 0,.int .i64 (wrap64 (a0_0 - 1))] rfl (by (try simp only [List.map_toArray,List.map_cons,List.map_nil]); first | done | rfl | (simp only [List.length_drop,List.length_take]; rfl)) ?_; (with_reducible refine (spec_l1In.calls ((rd_T58 l0_1 x3_1).f0) 0 (wrap64 (a0_0 - 1)) true _ A5.out).mono ?_); rintro e w' ⟨rfl,⟨nd,rfl⟩⟩; refine ⟨_,rfl,?_⟩) | (go_at_call 90; (with_reducible refine (spec_l1In.calls ((rd_T58 l0_1 x3_1).f1) 0 (wrap64 (a0_0 - 1)) true _ A7.out).mono ?_); rintro e w' ⟨rfl,⟨nd,rfl⟩⟩))
    go_ret;exact ⟨by first | rfl | (simp [errW_none,errW_some] <;> rfl) | (simp [*,errW_none,errW_some] <;> rfl),by repeat (first | (with_reducible first | exact HB.out | apply below_alloc | apply pw_below_drewN | apply below_drew1 | refine below_set ?_ GE334.out | refine below_set ?_ GE337.out) | exact HB.out)⟩
   rw [if_neg c9] at H;have c9b0 : (((rd_T58 l0_1 x3_1).f0) == ((rd_T58 l0_1 x3_1).f1)) = false:=beq_eq_false_iff_ne.mpr c9;have c9b1 : (((rd_T58 l0_1 x3_1).f0) != ((rd_T58 l0_1 x3_1).f1)) = true:=bne_iff_ne.mpr c9;replace H:=Option.bind_eq_some_iff.mp H;obtain ⟨t340,A150,H⟩:=H;replace H : (if t340 = true then ((spec_l1In.f ((rd_T58 l0_1 x3_1).f3) 0 99).bind fun t341 => (if t341 = true then ((spec_l1In.f ((rd_T58 l0_1 x3_1).f4) 0 9).bind fun t342 => (if t342 = true then (spec_l1Ok.l0 k1 (wrap64 (x3_1 + 1)) a0_0 l0_1) else (some false))) else (some false))) else (some false)) = some r:=H;have A15:=V A150;clear A150
   by_cases c16 : t340 = true
   case neg =>
    replace c16:=Bool.eq_false_iff.mpr c16;subst c16;have H1 : (some false) = some r:=by rw [if_neg (show ¬ (false = true) by decide)] at H; exact H
    clear H;have H:=H1;clear H1;obtain rfl:=Option.some.inj H;have hcz36_0 : wr.cell? ⟨gb334,0,none⟩ = some (.int .i64 a0_0):=(blk_cell BK334.out 0).trans rfl;have hcz36_1 : wr.cell? ⟨gb334,1,none⟩ = some (.slice A0_1 l0_1.length c0_1):=(blk_cell BK334.out 1).trans rfl;have hfz36_0:=blk_frozen BK334.out 0;have hfz36_1:=blk_frozen BK334.out 1;have p336 : 0 ≤ (x3_1 : Int):=of_decide_eq_true (by first | (with_reducible assumption) | assumption);have q336 : x3_1 < (l0_1.length : Int):=of_decide_eq_true (by first | (with_reducible assumption) | assumption);obtain ⟨ad336,e336,hx336_0,hx336_1,hx336_2,hx336_3,hx336_4⟩:=at_T58 HR0_1.out x3_1 p336 q336;cases e336;replace hx336_0:=(HB.out.cell (World.block_lt_of_cell? w _ hx336_0)).trans hx336_0;replace hx336_1:=(HB.out.cell (World.block_lt_of_cell? w _ hx336_1)).trans hx336_1;replace hx336_2:=(HB.out.cell (World.block_lt_of_cell? w _ hx336_2)).trans hx336_2;replace hx336_3:=(HB.out.cell (World.block_lt_of_cell? w _ hx336_3)).trans hx336_3;replace hx336_4:=(HB.out.cell (World.block_lt_of_cell? w _ hx336_4)).trans hx336_4;replace p336:=eq_true p336;replace q336:=eq_true q336
    go_wp2_with (first | ((with_reducible refine gate_dst (N:=4) rfl ?_); (try (refine gate_guard (by rfl) ?_; dsimp only)); refine box_event ?hg (N:=4) ?hd (cs:=#[.int .i64 0,.int .i64 0,.int .i64 0,.int .i64 0,.int .i64 0]) (t:=58) ?hr ?_; (case hd => rfl); (case hg => rfl); (case hr => first | (go_simp; done) | (go_simp; rfl)); intro gb337 hg w37 hbox hb; have n0_:=V (blk_below (g:=gb334) (o:=.cells #[.int .i64 a0_0,.slice (some ad336) l0_1.length c0_1] 34 (0,0)) (by (with_reducible repeat (first | refine blk_drewN ?_ _ | refine blk_drew ?_ | refine blk_alloc ?_ _)); exact BK334.out) hb); have n1_:=V (below_step (by repeat (first | (with_reducible first | exact HB.out | apply below_alloc | apply pw_below_drewN | apply below_drew1 | refine below_set ?_ GE334.out) | exact HB.out)) hb); have n2_:=V (hbox); have n3_:=V ((by rw [hg]; exact (below_size (by repeat (first | (with_reducible first | exact HB.out | apply below_alloc | apply pw_below_drewN | apply below_drew1 | refine below_set ?_ GE334.out) | exact HB.out))) : w.heap.size ≤ gb337)); have n4_:=V ((by rw [hg]; exact (below_size (by repeat (first | (with_reducible first | exact HB.out | apply below_alloc | apply pw_below_drewN | apply below_drew1 | refine below_set ?_ GE334.out) | exact HB.out))) : w.heap.size ≤ gb337)); have n5_:=V ((by rw [hg]; exact Nat.ne_of_lt (blk_lt (g:=gb334) (o:=.cells #[.int .i64 a0_0,.slice (some ad336) l0_1.length c0_1] 34 (0,0)) (by (with_reducible repeat (first | refine blk_drewN ?_ _ | refine blk_drew ?_ | refine blk_alloc ?_ _)); exact BK334.out)) : gb334 ≠ gb337)); have n6_:=V ((by rw [hg]; exact Nat.ne_of_gt (blk_lt (g:=gb334) (o:=.cells #[.int .i64 a0_0,.slice (some ad336) l0_1.length c0_1] 34 (0,0)) (by (with_reducible repeat (first | refine blk_drewN ?_ _ | refine blk_drew ?_ | refine blk_alloc ?_ _)); exact BK334.out)) : gb337 ≠ gb334)); clear BK334; clear HB; have BK334:=n0_; have HB:=n1_; have BK337:=n2_; have GW337:=n3_; have GE337:=n4_; have NB334_337:=n5_; have NB337_334:=n6_; clear n0_ n1_ n2_ n3_ n4_ n5_ n6_; clear hb hbox hg; have hnb38:=NB337_334.out; have hnc38:=NB334_337.out; have hcz39_0 : w37.cell? ⟨gb337,0,none⟩ = some (.int .i64 0):=(blk_cell BK337.out 0).trans rfl; have hcz39_1 : w37.cell? ⟨gb337,1,none⟩ = some (.int .i64 0):=(blk_cell BK337.out 1).trans rfl; have hcz39_2 : w37.cell? ⟨gb337,2,none⟩ = some (.int .i64 0):=(blk_cell BK337.out 2).trans rfl; have hcz39_3 : w37.cell? ⟨gb337,3,none⟩ = some (.int .i64 0):=(blk_cell BK337.out 3).trans rfl; have hcz39_4 : w37.cell? ⟨gb337,4,none⟩ = some (.int .i64 0):=(blk_cell BK337.out 4).trans rfl; have hfz39_0:=blk_frozen BK337.out 0; have hfz39_1:=blk_frozen BK337.out 1; have hfz39_2:=blk_frozen BK337.out 2; have hfz39_3:=blk_frozen BK337.out 3; have hfz39_4:=blk_frozen BK337.out 4; have hcz40_0 : w37.cell? ⟨gb334,0,none⟩ = some (.int .i64 a0_0):=(blk_cell BK334.out 0).trans rfl; have hcz40_1 : w37.cell? ⟨gb334,1,none⟩ = some (.slice (some ad336) l0_1.length c0_1):=(blk_cell BK334.out 1).trans rfl; have hfz40_0:=blk_frozen BK334.out 0; have hfz40_1:=blk_frozen BK334.out 1) | ((with_reducible refine gate_callee (f:=90) rfl ?_); refine goesL_ (some 22) rfl rfl Try.func90 (by kernel_rfl) rfl #[.int .i64 ((rd_T58 l0_1 x3_1).f0),.int .i64 0,.int .i64 (wrap64 (a0_0 - 1))] rfl (by (try simp only [List.map_toArray,List.map_cons,List.map_nil]); first | done | rfl | (simp only [List.length_drop,List.length_take]; rfl)) ?_; (with_reducible refine (spec_l1In.calls ((rd_T58 l0_1 x3_1).f0) 0 (wrap64 (a0_0 - 1)) true _ A5.out).mono ?_); rintro e w' ⟨rfl,⟨nd,rfl⟩⟩; refine ⟨_,rfl,?_⟩) | (go_at_call 90; (with_reducible refine (spec_l1In.calls ((rd_T58 l0_1 x3_1).f1) 0 (wrap64 (a0_0 - 1)) true _ A7.out).mono ?_); rintro e w' ⟨rfl,⟨nd,rfl⟩⟩) | (go_at_call 90; (with_reducible refine (spec_l1In.calls ((rd_T58 l0_1 x3_1).f2) 0 99 false _ A15.out).mono ?_); rintro e w' ⟨rfl,⟨nd,rfl⟩⟩))
    go_ret;exact ⟨by first | rfl | (simp [errW_none,errW_some] <;> rfl) | (simp [*,errW_none,errW_some] <;> rfl),by repeat (first | (with_reducible first | exact HB.out | apply below_alloc | apply pw_below_drewN | apply below_drew1 | refine below_set ?_ GE334.out | refine below_set ?_ GE337.out) | exact HB.out)⟩
   subst c16;have H1 : ((spec_l1In.f ((rd_T58 l0_1 x3_1).f3) 0 99).bind fun t341 => (if t341 = true then ((spec_l1In.f ((rd_T58 l0_1 x3_1).f4) 0 9).bind fun t342 => (if t342 = true then (spec_l1Ok.l0 k1 (wrap64 (x3_1 + 1)) a0_0 l0_1) else (some false))) else (some false))) = some r:=by rw [if_pos rfl] at H; exact H
   clear H;have H:=H1;clear H1;replace H:=Option.bind_eq_some_iff.mp H;obtain ⟨t341,A170,H⟩:=H;replace H : (if t341 = true then ((spec_l1In.f ((rd_T58 l0_1 x3_1).f4) 0 9).bind fun t342 => (if t342 = true then (spec_l1Ok.l0 k1 (wrap64 (x3_1 + 1)) a0_0 l0_1) else (some false))) else (some false)) = some r:=H;have A17:=V A170;clear A170
   by_cases c18 : t341 = true
   case neg =>
    replace c18:=Bool.eq_false_iff.mpr c18;subst c18;have H1 : (some false) = some r:=by rw [if_neg (show ¬ (false = true) by decide)] at H; exact H
    clear H;have H:=H1;clear H1;obtain rfl:=Option.some.inj H;have hcz31_0 : wr.cell? ⟨gb334,0,none⟩ = some (.int .i64 a0_0):=(blk_cell BK334.out 0).trans rfl;have hcz31_1 : wr.cell? ⟨gb334,1,none⟩ = some (.slice A0_1 l0_1.length c0_1):=(blk_cell BK334.out 1).trans rfl;have hfz31_0:=blk_frozen BK334.out 0;have hfz31_1:=blk_frozen BK334.out 1;have p336 : 0 ≤ (x3_1 : Int):=of_decide_eq_true (by first | (with_reducible assumption) | assumption);have q336 : x3_1 < (l0_1.length : Int):=of_decide_eq_true (by first | (with_reducible assumption) | assumption);obtain ⟨ad336,e336,hx336_0,hx336_1,hx336_2,hx336_3,hx336_4⟩:=at_T58 HR0_1.out x3_1 p336 q336;cases e336;replace hx336_0:=(HB.out.cell (World.block_lt_of_cell? w _ hx336_0)).trans hx336_0;replace hx336_1:=(HB.out.cell (World.block_lt_of_cell? w _ hx336_1)).trans hx336_1;replace hx336_2:=(HB.out.cell (World.block_lt_of_cell? w _ hx336_2)).trans hx336_2;replace hx336_3:=(HB.out.cell (World.block_lt_of_cell? w _ hx336_3)).trans hx336_3;replace hx336_4:=(HB.out.cell (World.block_lt_of_cell? w _ hx336_4)).trans hx336_4;replace p336:=eq_true p336;replace q336:=eq_true q336
    go_wp2_with (first | ((with_reducible refine gate_dst (N:=4) rfl ?_); (try (refine gate_guard (by rfl) ?_; dsimp only)); refine box_event ?hg (N:=4) ?hd (cs:=#[.int .i64 0,.int .i64 0,.int .i64 0,.int .i64 0,.int .i64 0]) (t:=58) ?hr ?_; (case hd => rfl); (case hg => rfl); (case hr => first | (go_simp; done) | (go_simp; rfl)); intro gb337 hg w32 hbox hb; have n0_:=V (blk_below (g:=gb334) (o:=.cells #[.int .i64 a0_0,.slice (some ad336) l0_1.length c0_1] 34 (0,0)) (by (with_reducible repeat (first | refine blk_drewN ?_ _ | refine blk_drew ?_ | refine blk_alloc ?_ _)); exact BK334.out) hb); have n1_:=V (below_step (by repeat (first | (with_reducible first | exact HB.out | apply below_alloc | apply pw_below_drewN | apply below_drew1 | refine below_set ?_ GE334.out) | exact HB.out)) hb); have n2_:=V (hbox); have n3_:=V ((by rw [hg]; exact (below_size (by repeat (first | (with_reducible first | exact HB.out | apply below_alloc | apply pw_below_drewN | apply below_drew1 | refine below_set ?_ GE334.out) | exact HB.out))) : w.heap.size ≤ gb337)); have n4_:=V ((by rw [hg]; exact (below_size (by repeat (first | (with_reducible first | exact HB.out | apply below_alloc | apply pw_below_drewN | apply below_drew1 | refine below_set ?_ GE334.out) | exact HB.out))) : w.heap.size ≤ gb337)); have n5_:=V ((by rw [hg]; exact Nat.ne_of_lt (blk_lt (g:=gb334) (o:=.cells #[.int .i64 a0_0,.slice (some ad336) l0_1.length c0_1] 34 (0,0)) (by (with_reducible repeat (first | refine blk_drewN ?_ _ | refine blk_drew ?_ | refine blk_alloc ?_ _)); exact BK334.out)) : gb334 ≠ gb337)); have n6_:=V ((by rw [hg]; exact Nat.ne_of_gt (blk_lt (g:=gb334) (o:=.cells #[.int .i64 a0_0,.slice (some ad336) l0_1.length c0_1] 34 (0,0)) (by (with_reducible repeat (first | refine blk_drewN ?_ _ | refine blk_drew ?_ | refine blk_alloc ?_ _)); exact BK334.out)) : gb337 ≠ gb334)); clear BK334; clear HB; have BK334:=n0_; have HB:=n1_; have BK337:=n2_; have GW337:=n3_; have GE337:=n4_; have NB334_337:=n5_; have NB337_334:=n6_; clear n0_ n1_ n2_ n3_ n4_ n5_ n6_; clear hb hbox hg; have hnb33:=NB337_334.out; have hnc33:=NB334_337.out; have hcz34_0 : w32.cell? ⟨gb337,0,none⟩ = some (.int .i64 0):=(blk_cell BK337.out 0).trans rfl; have hcz34_1 : w32.cell? ⟨gb337,1,none⟩ = some (.int .i64 0):=(blk_cell BK337.out 1).trans rfl; have hcz34_2 : w32.cell? ⟨gb337,2,none⟩ = some (.int .i64 0):=(blk_cell BK337.out 2).trans rfl; have hcz34_3 : w32.cell? ⟨gb337,3,none⟩ = some (.int .i64 0):=(blk_cell BK337.out 3).trans rfl; have hcz34_4 : w32.cell? ⟨gb337,4,none⟩ = some (.int .i64 0):=(blk_cell BK337.out 4).trans rfl; have hfz34_0:=blk_frozen BK337.out 0; have hfz34_1:=blk_frozen BK337.out 1; have hfz34_2:=blk_frozen BK337.out 2; have hfz34_3:=blk_frozen BK337.out 3; have hfz34_4:=blk_frozen BK337.out 4; have hcz35_0 : w32.cell? ⟨gb334,0,none⟩ = some (.int .i64 a0_0):=(blk_cell BK334.out 0).trans rfl; have hcz35_1 : w32.cell? ⟨gb334,1,none⟩ = some (.slice (some ad336) l0_1.length c0_1):=(blk_cell BK334.out 1).trans rfl; have hfz35_0:=blk_frozen BK334.out 0; have hfz35_1:=blk_frozen BK334.out 1) | ((with_reducible refine gate_callee (f:=90) rfl ?_); refine goesL_ (some 22) rfl rfl Try.func90 (by kernel_rfl) rfl #[.int .i64 ((rd_T58 l0_1 x3_1).f0),.int .i64 0,.int .i64 (wrap64 (a0_0 - 1))] rfl (by (try simp only [List.map_toArray,List.map_cons,List.map_nil]); first | done | rfl | (simp only [List.length_drop,List.length_take]; rfl)) ?_; (with_reducible refine (spec_l1In.calls ((rd_T58 l0_1 x3_1).f0) 0 (wrap64 (a0_0 - 1)) true _ A5.out).mono ?_); rintro e w' ⟨rfl,⟨nd,rfl⟩⟩; refine ⟨_,rfl,?_⟩) | (go_at_call 90; (with_reducible refine (spec_l1In.calls ((rd_T58 l0_1 x3_1).f1) 0 (wrap64 (a0_0 - 1)) true _ A7.out).mono ?_); rintro e w' ⟨rfl,⟨nd,rfl⟩⟩) | (go_at_call 90; (with_reducible refine (spec_l1In.calls ((rd_T58 l0_1 x3_1).f2) 0 99 true _ A15.out).mono ?_); rintro e w' ⟨rfl,⟨nd,rfl⟩⟩) | (go_at_call 90; (with_reducible refine (spec_l1In.calls ((rd_T58 l0_1 x3_1).f3) 0 99 false _ A17.out).mono ?_); rintro e w' ⟨rfl,⟨nd,rfl⟩⟩))
    go_ret;exact ⟨by first | rfl | (simp [errW_none,errW_some] <;> rfl) | (simp [*,errW_none,errW_some] <;> rfl),by repeat (first | (with_reducible first | exact HB.out | apply below_alloc | apply pw_below_drewN | apply below_drew1 | refine below_set ?_ GE334.out | refine below_set ?_ GE337.out) | exact HB.out)⟩
   subst c18;have H1 : ((spec_l1In.f ((rd_T58 l0_1 x3_1).f4) 0 9).bind fun t342 => (if t342 = true then (spec_l1Ok.l0 k1 (wrap64 (x3_1 + 1)) a0_0 l0_1) else (some false))) = some r:=by rw [if_pos rfl] at H; exact H
   clear H;have H:=H1;clear H1;replace H:=Option.bind_eq_some_iff.mp H;obtain ⟨t342,A190,H⟩:=H;replace H : (if t342 = true then (spec_l1Ok.l0 k1 (wrap64 (x3_1 + 1)) a0_0 l0_1) else (some false)) = some r:=H;have A19:=V A190;clear A190
   by_cases c20 : t342 = true
   case neg =>
    replace c20:=Bool.eq_false_iff.mpr c20;subst c20;have H1 : (some false) = some r:=by rw [if_neg (show ¬ (false = true) by decide)] at H; exact H
    clear H;have H:=H1;clear H1;obtain rfl:=Option.some.inj H;have hcz26_0 : wr.cell? ⟨gb334,0,none⟩ = some (.int .i64 a0_0):=(blk_cell BK334.out 0).trans rfl;have hcz26_1 : wr.cell? ⟨gb334,1,none⟩ = some (.slice A0_1 l0_1.length c0_1):=(blk_cell BK334.out 1).trans rfl;have hfz26_0:=blk_frozen BK334.out 0;have hfz26_1:=blk_frozen BK334.out 1;have p336 : 0 ≤ (x3_1 : Int):=of_decide_eq_true (by first | (with_reducible assumption) | assumption);have q336 : x3_1 < (l0_1.length : Int):=of_decide_eq_true (by first | (with_reducible assumption) | assumption);obtain ⟨ad336,e336,hx336_0,hx336_1,hx336_2,hx336_3,hx336_4⟩:=at_T58 HR0_1.out x3_1 p336 q336;cases e336;replace hx336_0:=(HB.out.cell (World.block_lt_of_cell? w _ hx336_0)).trans hx336_0;replace hx336_1:=(HB.out.cell (World.block_lt_of_cell? w _ hx336_1)).trans hx336_1;replace hx336_2:=(HB.out.cell (World.block_lt_of_cell? w _ hx336_2)).trans hx336_2;replace hx336_3:=(HB.out.cell (World.block_lt_of_cell? w _ hx336_3)).trans hx336_3;replace hx336_4:=(HB.out.cell (World.block_lt_of_cell? w _ hx336_4)).trans hx336_4;replace p336:=eq_true p336;replace q336:=eq_true q336
    go_wp2_with (first | ((with_reducible refine gate_dst (N:=4) rfl ?_); (try (refine gate_guard (by rfl) ?_; dsimp only)); refine box_event ?hg (N:=4) ?hd (cs:=#[.int .i64 0,.int .i64 0,.int .i64 0,.int .i64 0,.int .i64 0]) (t:=58) ?hr ?_; (case hd => rfl); (case hg => rfl); (case hr => first | (go_simp; done) | (go_simp; rfl)); intro gb337 hg w27 hbox hb; have n0_:=V (blk_below (g:=gb334) (o:=.cells #[.int .i64 a0_0,.slice (some ad336) l0_1.length c0_1] 34 (0,0)) (by (with_reducible repeat (first | refine blk_drewN ?_ _ | refine blk_drew ?_ | refine blk_alloc ?_ _)); exact BK334.out) hb); have n1_:=V (below_step (by repeat (first | (with_reducible first | exact HB.out | apply below_alloc | apply pw_below_drewN | apply below_drew1 | refine below_set ?_ GE334.out) | exact HB.out)) hb); have n2_:=V (hbox); have n3_:=V ((by rw [hg]; exact (below_size (by repeat (first | (with_reducible first | exact HB.out | apply below_alloc | apply pw_below_drewN | apply below_drew1 | refine below_set ?_ GE334.out) | exact HB.out))) : w.heap.size ≤ gb337)); have n4_:=V ((by rw [hg]; exact (below_size (by repeat (first | (with_reducible first | exact HB.out | apply below_alloc | apply pw_below_drewN | apply below_drew1 | refine below_set ?_ GE334.out) | exact HB.out))) : w.heap.size ≤ gb337)); have n5_:=V ((by rw [hg]; exact Nat.ne_of_lt (blk_lt (g:=gb334) (o:=.cells #[.int .i64 a0_0,.slice (some ad336) l0_1.length c0_1] 34 (0,0)) (by (with_reducible repeat (first | refine blk_drewN ?_ _ | refine blk_drew ?_ | refine blk_alloc ?_ _)); exact BK334.out)) : gb334 ≠ gb337)); have n6_:=V ((by rw [hg]; exact Nat.ne_of_gt (blk_lt (g:=gb334) (o:=.cells #[.int .i64 a0_0,.slice (some ad336) l0_1.length c0_1] 34 (0,0)) (by (with_reducible repeat (first | refine blk_drewN ?_ _ | refine blk_drew ?_ | refine blk_alloc ?_ _)); exact BK334.out)) : gb337 ≠ gb334)); clear BK334; clear HB; have BK334:=n0_; have HB:=n1_; have BK337:=n2_; have GW337:=n3_; have GE337:=n4_; have NB334_337:=n5_; have NB337_334:=n6_; clear n0_ n1_ n2_ n3_ n4_ n5_ n6_; clear hb hbox hg; have hnb28:=NB337_334.out; have hnc28:=NB334_337.out; have hcz29_0 : w27.cell? ⟨gb337,0,none⟩ = some (.int .i64 0):=(blk_cell BK337.out 0).trans rfl; have hcz29_1 : w27.cell? ⟨gb337,1,none⟩ = some (.int .i64 0):=(blk_cell BK337.out 1).trans rfl; have hcz29_2 : w27.cell? ⟨gb337,2,none⟩ = some (.int .i64 0):=(blk_cell BK337.out 2).trans rfl; have hcz29_3 : w27.cell? ⟨gb337,3,none⟩ = some (.int .i64 0):=(blk_cell BK337.out 3).trans rfl; have hcz29_4 : w27.cell? ⟨gb337,4,none⟩ = some (.int .i64 0):=(blk_cell BK337.out 4).trans rfl; have hfz29_0:=blk_frozen BK337.out 0; have hfz29_1:=blk_frozen BK337.out 1; have hfz29_2:=blk_frozen BK337.out 2; have hfz29_3:=blk_frozen BK337.out 3; have hfz29_4:=blk_frozen BK337.out 4; have hcz30_0 : w27.cell? ⟨gb334,0,none⟩ = some (.int .i64 a0_0):=(blk_cell BK334.out 0).trans rfl; have hcz30_1 : w27.cell? ⟨gb334,1,none⟩ = some (.slice (some ad336) l0_1.length c0_1):=(blk_cell BK334.out 1).trans rfl; have hfz30_0:=blk_frozen BK334.out 0; have hfz30_1:=blk_frozen BK334.out 1) | ((with_reducible refine gate_callee (f:=90) rfl ?_); refine goesL_ (some 22) rfl rfl Try.func90 (by kernel_rfl) rfl #[.int .i64 ((rd_T58 l0_1 x3_1).f0),.int .i64 0,.int .i64 (wrap64 (a0_0 - 1))] rfl (by (try simp only [List.map_toArray,List.map_cons,List.map_nil]); first | done | rfl | (simp only [List.length_drop,List.length_take]; rfl)) ?_; (with_reducible refine (spec_l1In.calls ((rd_T58 l0_1 x3_1).f0) 0 (wrap64 (a0_0 - 1)) true _ A5.out).mono ?_); rintro e w' ⟨rfl,⟨nd,rfl⟩⟩; refine ⟨_,rfl,?_⟩) | (go_at_call 90; (with_reducible refine (spec_l1In.calls ((rd_T58 l0_1 x3_1).f1) 0 (wrap64 (a0_0 - 1)) true _ A7.out).mono ?_); rintro e w' ⟨rfl,⟨nd,rfl⟩⟩) | (go_at_call 90; (with_reducible refine (spec_l1In.calls ((rd_T58 l0_1 x3_1).f2) 0 99 true _ A15.out).mono ?_); rintro e w' ⟨rfl,⟨nd,rfl⟩⟩) | (go_at_call 90; (with_reducible refine (spec_l1In.calls ((rd_T58 l0_1 x3_1).f3) 0 99 true _ A17.out).mono ?_); rintro e w' ⟨rfl,⟨nd,rfl⟩⟩) | (go_at_call 90; (with_reducible refine (spec_l1In.calls ((rd_T58 l0_1 x3_1).f4) 0 9 false _ A19.out).mono ?_); rintro e w' ⟨rfl,⟨nd,rfl⟩⟩))
    go_ret;exact ⟨by first | rfl | (simp [errW_none,errW_some] <;> rfl) | (simp [*,errW_none,errW_some] <;> rfl),by repeat (first | (with_reducible first | exact HB.out | apply below_alloc | apply pw_below_drewN | apply below_drew1 | refine below_set ?_ GE334.out | refine below_set ?_ GE337.out) | exact HB.out)⟩
   subst c20;have H1 : (spec_l1Ok.l0 k1 (wrap64 (x3_1 + 1)) a0_0 l0_1) = some r:=by rw [if_pos rfl] at H; exact H
   clear H;have H:=H1;clear H1;have H':=V H;clear H;have hcz21_0 : wr.cell? ⟨gb334,0,none⟩ = some (.int .i64 a0_0):=(blk_cell BK334.out 0).trans rfl;have hcz21_1 : wr.cell? ⟨gb334,1,none⟩ = some (.slice A0_1 l0_1.length c0_1):=(blk_cell BK334.out 1).trans rfl;have hfz21_0:=blk_frozen BK334.out 0;have hfz21_1:=blk_frozen BK334.out 1;have p336 : 0 ≤ (x3_1 : Int):=of_decide_eq_true (by first | (with_reducible assumption) | assumption);have q336 : x3_1 < (l0_1.length : Int):=of_decide_eq_true (by first | (with_reducible assumption) | assumption);obtain ⟨ad336,e336,hx336_0,hx336_1,hx336_2,hx336_3,hx336_4⟩:=at_T58 HR0_1.out x3_1 p336 q336;cases e336;replace hx336_0:=(HB.out.cell (World.block_lt_of_cell? w _ hx336_0)).trans hx336_0;replace hx336_1:=(HB.out.cell (World.block_lt_of_cell? w _ hx336_1)).trans hx336_1;replace hx336_2:=(HB.out.cell (World.block_lt_of_cell? w _ hx336_2)).trans hx336_2;replace hx336_3:=(HB.out.cell (World.block_lt_of_cell? w _ hx336_3)).trans hx336_3;replace hx336_4:=(HB.out.cell (World.block_lt_of_cell? w _ hx336_4)).trans hx336_4;replace p336:=eq_true p336;replace q336:=eq_true q336
   go_wp2_with (first | ((with_reducible refine gate_dst (N:=4) rfl ?_); (try (refine gate_guard (by rfl) ?_; dsimp only)); refine box_event ?hg (N:=4) ?hd (cs:=#[.int .i64 0,.int .i64 0,.int .i64 0,.int .i64 0,.int .i64 0]) (t:=58) ?hr ?_; (case hd => rfl); (case hg => rfl); (case hr => first | (go_simp; done) | (go_simp; rfl)); intro gb337 hg w22 hbox hb; have n0_:=V (blk_below (g:=gb334) (o:=.cells #[.int .i64 a0_0,.slice (some ad336) l0_1.length c0_1] 34 (0,0)) (by (with_reducible repeat (first | refine blk_drewN ?_ _ | refine blk_drew ?_ | refine blk_alloc ?_ _)); exact BK334.out) hb); have n1_:=V (below_step (by repeat (first | (with_reducible first | exact HB.out | apply below_alloc | apply pw_below_drewN | apply below_drew1 | refine below_set ?_ GE334.out) | exact HB.out)) hb); have n2_:=V (hbox); have n3_:=V ((by rw [hg]; exact (below_size (by repeat (first | (with_reducible first | exact HB.out | apply below_alloc | apply pw_below_drewN | apply below_drew1 | refine below_set ?_ GE334.out) | exact HB.out))) : w.heap.size ≤ gb337)); have n4_:=V ((by rw [hg]; exact (below_size (by repeat (first | (with_reducible first | exact HB.out | apply below_alloc | apply pw_below_drewN | apply below_drew1 | refine below_set ?_ GE334.out) | exact HB.out))) : w.heap.size ≤ gb337)); have n5_:=V ((by rw [hg]; exact Nat.ne_of_lt (blk_lt (g:=gb334) (o:=.cells #[.int .i64 a0_0,.slice (some ad336) l0_1.length c0_1] 34 (0,0)) (by (with_reducible repeat (first | refine blk_drewN ?_ _ | refine blk_drew ?_ | refine blk_alloc ?_ _)); exact BK334.out)) : gb334 ≠ gb337)); have n6_:=V ((by rw [hg]; exact Nat.ne_of_gt (blk_lt (g:=gb334) (o:=.cells #[.int .i64 a0_0,.slice (some ad336) l0_1.length c0_1] 34 (0,0)) (by (with_reducible repeat (first | refine blk_drewN ?_ _ | refine blk_drew ?_ | refine blk_alloc ?_ _)); exact BK334.out)) : gb337 ≠ gb334)); clear BK334; clear HB; have BK334:=n0_; have HB:=n1_; have BK337:=n2_; have GW337:=n3_; have GE337:=n4_; have NB334_337:=n5_; have NB337_334:=n6_; clear n0_ n1_ n2_ n3_ n4_ n5_ n6_; clear hb hbox hg; have hnb23:=NB337_334.out; have hnc23:=NB334_337.out; have hcz24_0 : w22.cell? ⟨gb337,0,none⟩ = some (.int .i64 0):=(blk_cell BK337.out 0).trans rfl; have hcz24_1 : w22.cell? ⟨gb337,1,none⟩ = some (.int .i64 0):=(blk_cell BK337.out 1).trans rfl; have hcz24_2 : w22.cell? ⟨gb337,2,none⟩ = some (.int .i64 0):=(blk_cell BK337.out 2).trans rfl; have hcz24_3 : w22.cell? ⟨gb337,3,none⟩ = some (.int .i64 0):=(blk_cell BK337.out 3).trans rfl; have hcz24_4 : w22.cell? ⟨gb337,4,none⟩ = some (.int .i64 0):=(blk_cell BK337.out 4).trans rfl; have hfz24_0:=blk_frozen BK337.out 0; have hfz24_1:=blk_frozen BK337.out 1; have hfz24_2:=blk_frozen BK337.out 2; have hfz24_3:=blk_frozen BK337.out 3; have hfz24_4:=blk_frozen BK337.out 4; have hcz25_0 : w22.cell? ⟨gb334,0,none⟩ = some (.int .i64 a0_0):=(blk_cell BK334.out 0).trans rfl; have hcz25_1 : w22.cell? ⟨gb334,1,none⟩ = some (.slice (some ad336) l0_1.length c0_1):=(blk_cell BK334.out 1).trans rfl; have hfz25_0:=blk_frozen BK334.out 0; have hfz25_1:=blk_frozen BK334.out 1) | ((with_reducible refine gate_callee (f:=90) rfl ?_); refine goesL_ (some 22) rfl rfl Try.func90 (by kernel_rfl) rfl #[.int .i64 ((rd_T58 l0_1 x3_1).f0),.int .i64 0,.int .i64 (wrap64 (a0_0 - 1))] rfl (by (try simp only [List.map_toArray,List.map_cons,List.map_nil]); first | done | rfl | (simp only [List.length_drop,List.length_take]; rfl)) ?_; (with_reducible refine (spec_l1In.calls ((rd_T58 l0_1 x3_1).f0) 0 (wrap64 (a0_0 - 1)) true _ A5.out).mono ?_); rintro e w' ⟨rfl,⟨nd,rfl⟩⟩; refine ⟨_,rfl,?_⟩) | (go_at_call 90; (with_reducible refine (spec_l1In.calls ((rd_T58 l0_1 x3_1).f1) 0 (wrap64 (a0_0 - 1)) true _ A7.out).mono ?_); rintro e w' ⟨rfl,⟨nd,rfl⟩⟩) | (go_at_call 90; (with_reducible refine (spec_l1In.calls ((rd_T58 l0_1 x3_1).f2) 0 99 true _ A15.out).mono ?_); rintro e w' ⟨rfl,⟨nd,rfl⟩⟩) | (go_at_call 90; (with_reducible refine (spec_l1In.calls ((rd_T58 l0_1 x3_1).f3) 0 99 true _ A17.out).mono ?_); rintro e w' ⟨rfl,⟨nd,rfl⟩⟩) | (go_at_call 90; (with_reducible refine (spec_l1In.calls ((rd_T58 l0_1 x3_1).f4) 0 9 true _ A19.out).mono ?_); rintro e w' ⟨rfl,⟨nd,rfl⟩⟩))
   go_roundg k1
   case measure => have:=HK1.out; omega
   case rel => exact ⟨(wrap64 (x3_1 + 1)),(by first | rfl | (simp; done) | (simp [*]; done)),H',⟨by have:=HK1.out; omega⟩,⟨by (with_reducible repeat (first | refine blk_drewN ?_ _ | refine blk_drew ?_ | refine blk_alloc ?_ _)); refine blk_far ?_ NB334_337.out _; (with_reducible repeat (first | refine blk_drewN ?_ _ | refine blk_drew ?_ | refine blk_alloc ?_ _)); refine blk_far ?_ NB334_337.out _; (with_reducible repeat (first | refine blk_drewN ?_ _ | refine blk_drew ?_ | refine blk_alloc ?_ _)); refine blk_far ?_ NB334_337.out _; (with_reducible repeat (first | refine blk_drewN ?_ _ | refine blk_drew ?_ | refine blk_alloc ?_ _)); refine blk_far ?_ NB334_337.out _; (with_reducible repeat (first | refine blk_drewN ?_ _ | refine blk_drew ?_ | refine blk_alloc ?_ _)); refine blk_far ?_ NB334_337.out _; (with_reducible repeat (first | refine blk_drewN ?_ _ | refine blk_drew ?_ | refine blk_alloc ?_ _)); exact BK334.out⟩,⟨by repeat (first | (with_reducible first | exact HB.out | apply below_alloc | apply pw_below_drewN | apply below_drew1 | refine below_set ?_ GE334.out | refine below_set ?_ GE337.out) | exact HB.out)⟩⟩
def spec_l12In.l0 : Nat → List Int → Int → Int → Option (Bool)
 | 0,_,_,_ => none
 | k + 1,x0,x1,x5 => if x5 < (x0.length : Int) then (if 0 ≤ x5 then (if (rd x0 x5) = x1 then (some true) else (spec_l12In.l0 k x0 x1 (wrap64 (x5 + 1)))) else (none)) else (some false)
def spec_l12In.f (k : Nat) (l0 : List Int) (a1 : Int) : Option (Bool):=spec_l12In.l0 k l0 a1 0
set_option maxHeartbeats 8000000 in
set_option maxRecDepth 100000 in
theorem spec_l12In.calls (k : Nat) (A0 : Option Addr) (c0 : Nat) (l0 : List Int) (a1 : Int) (r : Bool) (w : World) (hr0 : Kd.C (Kd.int .i64) w A0 l0.length l0) (hc0 : l0.length ≤ c0) (h : spec_l12In.f k l0 a1 = some r) :
  Calls Try.prog 119 #[.slice A0 l0.length c0,.int .i64 a1] w fun e w' => e = .returned (.bool r) ∧ Drawn0 w w':=by
 have HR0:=V hr0;have HC0:=V hc0;clear hr0 hc0;have H : (spec_l12In.l0 k l0 a1 0) = some r:=h;clear h;have H':=V H;clear H
 go_enter Try.func119,Try.ntmps119
 go_wp2
 go_loopg [5] k (fun kq v5 w' => ∃ (x5_1 : Int),v5 = .int .i64 x5_1 ∧ Aside0 (spec_l12In.l0 kq l0 a1 x5_1 = some r) ∧ Aside0 (kq ≤ k) ∧ Drawn0 w w')
 case atStart => exact ⟨(0),(by first | rfl | (simp; done) | (simp [*]; done)),H',⟨Nat.le_refl _⟩,by repeat (first | exact Drawn0.refl _ | apply Drawn0.step)⟩
 case round =>
  clear H'
  try clear c1
  try clear p2
  obtain ⟨x5_1,rfl,HA,HK1,⟨m1,rfl⟩⟩:=hrel;cases gk with
  | zero => exact absurd HA.out (by simp [spec_l12In.l0])
  | succ k1 =>
   have H:=HA.out;clear HA;simp only [spec_l12In.l0] at H
   by_cases c3 : x5_1 < (l0.length : Int)
   case neg =>
    rw [if_neg c3] at H;have c3b0 : decide (x5_1 < (l0.length : Int)) = false:=decide_eq_false c3;clear c3;obtain rfl:=Option.some.inj H
    go_wp2
    go_ret;exact ⟨by first | rfl | (simp; done) | (simp [*]; done),by repeat (first | exact Drawn0.refl _ | apply Drawn0.step)⟩
   rw [if_pos c3] at H;have c3b0 : decide (x5_1 < (l0.length : Int)) = true:=decide_eq_true c3;clear c3
   by_cases c4 : 0 ≤ x5_1
   case neg =>
    rw [if_neg c4] at H;exact absurd H (by simp)
   rw [if_pos c4] at H;have c4b0 : decide (0 ≤ x5_1) = true:=decide_eq_true c4;clear c4
   by_cases c5 : (rd l0 x5_1) = a1
   case pos =>
    rw [if_pos c5] at H;have c5b0 : ((rd l0 x5_1) == a1) = true:=beq_iff_eq.mpr c5;have c5b1 : ((rd l0 x5_1) != a1) = false:=bne_eq_false_iff_eq.mpr c5;clear c5;obtain rfl:=Option.some.inj H;have p444 : 0 ≤ (x5_1 : Int):=of_decide_eq_true (by first | (with_reducible assumption) | assumption);have q444 : x5_1 < (l0.length : Int):=of_decide_eq_true (by first | (with_reducible assumption) | assumption);obtain ⟨ad444,e444,hx444_0⟩:=Kd.at_int HR0.out x5_1 p444 q444;cases e444;replace p444:=eq_true p444;replace q444:=eq_true q444
    go_wp2
    go_ret;exact ⟨by first | rfl | (simp; done) | (simp [*]; done),by repeat (first | exact Drawn0.refl _ | apply Drawn0.step)⟩
   rw [if_neg c5] at H;have c5b0 : ((rd l0 x5_1) == a1) = false:=beq_eq_false_iff_ne.mpr c5;have c5b1 : ((rd l0 x5_1) != a1) = true:=bne_iff_ne.mpr c5;have H':=V H;clear H;have p444 : 0 ≤ (x5_1 : Int):=of_decide_eq_true (by first | (with_reducible assumption) | assumption);have q444 : x5_1 < (l0.length : Int):=of_decide_eq_true (by first | (with_reducible assumption) | assumption);obtain ⟨ad444,e444,hx444_0⟩:=Kd.at_int HR0.out x5_1 p444 q444;cases e444;replace p444:=eq_true p444;replace q444:=eq_true q444
   go_wp2
   go_roundg k1
   case measure => have:=HK1.out; omega
   case rel => exact ⟨(wrap64 (x5_1 + 1)),(by first | rfl | (simp; done) | (simp [*]; done)),H',⟨by have:=HK1.out; omega⟩,by repeat (first | exact Drawn0.refl _ | apply Drawn0.step)⟩
def spec_TreeCost.l0 : Nat → List Int → Int → Int → Int → List (S58) → Option (Int)
 | 0,_,_,_,_,_ => none
 | k + 1,x1,x5,x6,x1309000,x1309001 => if x6 < (x1.length : Int) then (if 0 ≤ x6 then ((spec_l1In.f (rd x1 x6) 0 (wrap64 ((x1309001.length : Int) - 1))).bind fun t1311 => (if t1311 = true then (if x6 ≤ (x1.length : Int) then ((spec_l12In.f k (x1.take (x6 : Int).toNat) (rd x1 x6)).bind fun t1314 => (if t1314 = true then (spec_TreeCost.l0 k x1 x5 (wrap64 (x6 + 1)) x1309000 x1309001) else (if 0 ≤ (rd x1 x6) then (if (rd x1 x6) < (x1309001.length : Int) then (spec_TreeCost.l0 k x1 (wrap64 (x5 + ((rd_T58 x1309001 (rd x1 x6)).f2))) (wrap64 (x6 + 1)) x1309000 x1309001) else (none)) else (none)))) else (none)) else (some (-1)))) else (none)) else ((spec_l1Ok.f k x1309000 x1309001).bind fun t1309 => (if t1309 = true then (if (x1.length : Int) > 16 then (some (-1)) else (some x5)) else (some (-1))))
def spec_TreeCost.f (k : Nat) (a0_0 : Int) (l0_1 : List (S58)) (l1 : List Int) : Option (Int):=spec_TreeCost.l0 k l1 0 0 a0_0 l0_1
set_option maxHeartbeats 8000000 in
set_option maxRecDepth 100000 in
theorem spec_TreeCost.calls (k : Nat) (a0_0 : Int) (A0_1 : Option Addr) (c0_1 : Nat) (l0_1 : List (S58)) (A1 : Option Addr) (c1 : Nat) (l1 : List Int) (r : Int) (w : World) (hr0_1 : Kd.C k58 w A0_1 l0_1.length l0_1) (hc0_1 : l0_1.length ≤ c0_1) (hr1 : Kd.C (Kd.int .i64) w A1 l1.length l1) (hc1 : l1.length ≤ c1) (h : spec_TreeCost.f k a0_0 l0_1 l1 = some r) :
  Calls Try.prog 61 #[.agg #[.int .i64 a0_0,.slice A0_1 l0_1.length c0_1],.slice A1 l1.length c1] w fun e w' => e = .returned (.int .i64 r) ∧ Below w.heap.size w w':=by
 have hu34:=Try.underlying34;have HR0_1:=V hr0_1;have HC0_1:=V hc0_1;clear hr0_1 hc0_1;have HR1:=V hr1;have HC1:=V hc1;clear hr1 hc1;have HB:=V (Below.refl w.heap.size w);have H : (spec_TreeCost.l0 k l1 0 0 a0_0 l0_1) = some r:=h;clear h;have H':=V H;clear H
 go_enter Try.func61,Try.ntmps61
 go_wp2_with (first | ((with_reducible refine gate_dst (N:=2) rfl ?_); (try (refine gate_guard (by rfl) ?_; dsimp only)); refine box_event ?hg (N:=2) ?hd (cs:=#[.int .i64 a0_0,.slice A0_1 l0_1.length c0_1]) (t:=34) ?hr ?_; (case hd => rfl); (case hg => rfl); (case hr => first | (go_simp; done) | (go_simp; rfl)); intro gb1308 hg w3 hbox hb; have n0_:=V (below_step (by repeat (first | (with_reducible first | exact HB.out | apply below_alloc | apply pw_below_drewN | apply below_drew1) | exact HB.out)) hb); have n1_:=V (hbox); have n2_:=V ((by rw [hg]; exact (below_size (by repeat (first | (with_reducible first | exact HB.out | apply below_alloc | apply pw_below_drewN | apply below_drew1) | exact HB.out))) : w.heap.size ≤ gb1308)); have n3_:=V ((by rw [hg]; exact (below_size (by repeat (first | (with_reducible first | exact HB.out | apply below_alloc | apply pw_below_drewN | apply below_drew1) | exact HB.out))) : w.heap.size ≤ gb1308)); clear HB; have HB:=n0_; have BK1308:=n1_; have GW1308:=n2_; have GE1308:=n3_; clear n0_ n1_ n2_ n3_; clear hb hbox hg))
 repeat (go_quiet (first | ((with_reducible refine gate_dst (N:=2) rfl ?_); (try (refine gate_guard (by rfl) ?_; dsimp only)); refine box_event ?hg (N:=2) ?hd (cs:=#[.int .i64 a0_0,.slice A0_1 l0_1.length c0_1]) (t:=34) ?hr ?_; (case hd => rfl); (case hg => rfl); (case hr => first | (go_simp; done) | (go_simp; rfl)); intro gb1308 hg w3 hbox hb; have n0_:=V (below_step (by repeat (first | (with_reducible first | exact HB.out | apply below_alloc | apply pw_below_drewN | apply below_drew1) | exact HB.out)) hb); have n1_:=V (hbox); have n2_:=V ((by rw [hg]; exact (below_size (by repeat (first | (with_reducible first | exact HB.out | apply below_alloc | apply pw_below_drewN | apply below_drew1) | exact HB.out))) : w.heap.size ≤ gb1308)); have n3_:=V ((by rw [hg]; exact (below_size (by repeat (first | (with_reducible first | exact HB.out | apply below_alloc | apply pw_below_drewN | apply below_drew1) | exact HB.out))) : w.heap.size ≤ gb1308)); clear HB; have HB:=n0_; have BK1308:=n1_; have GW1308:=n2_; have GE1308:=n3_; clear n0_ n1_ n2_ n3_; clear hb hbox hg)); try go_wp2_with (first | ((with_reducible refine gate_dst (N:=2) rfl ?_); (try (refine gate_guard (by rfl) ?_; dsimp only)); refine box_event ?hg (N:=2) ?hd (cs:=#[.int .i64 a0_0,.slice A0_1 l0_1.length c0_1]) (t:=34) ?hr ?_; (case hd => rfl); (case hg => rfl); (case hr => first | (go_simp; done) | (go_simp; rfl)); intro gb1308 hg w3 hbox hb; have n0_:=V (below_step (by repeat (first | (with_reducible first | exact HB.out | apply below_alloc | apply pw_below_drewN | apply below_drew1) | exact HB.out)) hb); have n1_:=V (hbox); have n2_:=V ((by rw [hg]; exact (below_size (by repeat (first | (with_reducible first | exact HB.out | apply below_alloc | apply pw_below_drewN | apply below_drew1) | exact HB.out))) : w.heap.size ≤ gb1308)); have n3_:=V ((by rw [hg]; exact (below_size (by repeat (first | (with_reducible first | exact HB.out | apply below_alloc | apply pw_below_drewN | apply below_drew1) | exact HB.out))) : w.heap.size ≤ gb1308)); clear HB; have HB:=n0_; have BK1308:=n1_; have GW1308:=n2_; have GE1308:=n3_; clear n0_ n1_ n2_ n3_; clear hb hbox hg)))
 go_loopg [5,6] k (fun kq v5 v6 w' => ∃ (x5_1 : Int) (x6_1 : Int),v5 = .int .i64 x5_1 ∧ v6 = .int .i64 x6_1 ∧ Aside0 (spec_TreeCost.l0 kq l1 x5_1 x6_1 a0_0 l0_1 = some r) ∧ Aside0 (kq ≤ k) ∧ Aside0 (w'.heap[gb1308]? = some (.cells #[.int .i64 a0_0,(.slice A0_1 l0_1.length c0_1)] 34 (0,0))) ∧ Aside0 (Below w.heap.size w w'))
 case atStart => exact ⟨(0),(0),(by first | rfl | (simp; done) | (simp [*]; done)),(by first | rfl | (simp; done) | (simp [*]; done)),H',⟨Nat.le_refl _⟩,⟨by (with_reducible repeat (first | refine blk_drewN ?_ _ | refine blk_drew ?_ | refine blk_alloc ?_ _)); exact BK1308.out⟩,⟨by repeat (first | (with_reducible first | exact HB.out | apply below_alloc | apply pw_below_drewN | apply below_drew1 | refine below_set ?_ GE1308.out) | exact HB.out)⟩⟩
 case round =>
  clear H'
  try clear c1
  try clear p2
  obtain ⟨x5_1,x6_1,rfl,rfl,HA,HK1,BK1308,HB⟩:=hrel;cases gk with
  | zero => exact absurd HA.out (by simp [spec_TreeCost.l0])
  | succ k1 =>
   have H:=HA.out;clear HA;simp only [spec_TreeCost.l0] at H
   by_cases c4 : x6_1 < (l1.length : Int)
   case neg =>
    rw [if_neg c4] at H;have c4b0 : decide (x6_1 < (l1.length : Int)) = false:=decide_eq_false c4;clear c4;replace H:=Option.bind_eq_some_iff.mp H;obtain ⟨t1309,A190,H⟩:=H;replace H : (if t1309 = true then (if (l1.length : Int) > 16 then (some (-1)) else (some x5_1)) else (some (-1))) = some r:=H;have A19:=V A190;clear A190
    by_cases c20 : t1309 = true
    case neg =>
     replace c20:=Bool.eq_false_iff.mpr c20;subst c20;have H1 : (some (-1)) = some r:=by rw [if_neg (show ¬ (false = true) by decide)] at H; exact H
     clear H;have H:=H1;clear H1;obtain rfl:=Option.some.inj H;have hcz26_0 : wr.cell? ⟨gb1308,0,none⟩ = some (.int .i64 a0_0):=(blk_cell BK1308.out 0).trans rfl;have hcz26_1 : wr.cell? ⟨gb1308,1,none⟩ = some (.slice A0_1 l0_1.length c0_1):=(blk_cell BK1308.out 1).trans rfl;have hfz26_0:=blk_frozen BK1308.out 0;have hfz26_1:=blk_frozen BK1308.out 1
     go_wp2_with (first | (go_at_call 76; (with_reducible refine (spec_l1Ok.calls k1 a0_0 _ _ l0_1 false _ ?side1 ?side2 A19.out).mono ?_); (case side1 => repeat (first | exact (Kd.C_below HR0_1.out HB.out) | (with_reducible refine Kd.C_alloc ?_ _) | (with_reducible refine Kd.C_drewN ?_ _) | (with_reducible refine Kd.C_drew ?_))); (case side2 => exact HC0_1.out); rintro e w27 ⟨rfl,hb⟩; have n0_:=V (blk_below (g:=gb1308) (o:=.cells #[.int .i64 a0_0,.slice A0_1 l0_1.length c0_1] 34 (0,0)) (by (with_reducible repeat (first | refine blk_drewN ?_ _ | refine blk_drew ?_ | refine blk_alloc ?_ _)); exact BK1308.out) hb); have n1_:=V (below_step (by repeat (first | (with_reducible first | exact HB.out | apply below_alloc | apply pw_below_drewN | apply below_drew1 | refine below_set ?_ GE1308.out) | exact HB.out)) hb); clear BK1308; clear HB; have BK1308:=n0_; have HB:=n1_; clear n0_ n1_; (try clear hb); (try clear hb2); (try clear hk); (try clear hi)))
     repeat (go_quiet (first | (go_at_call 76; (with_reducible refine (spec_l1Ok.calls k1 a0_0 _ _ l0_1 false _ ?side1 ?side2 A19.out).mono ?_); (case side1 => repeat (first | exact (Kd.C_below HR0_1.out HB.out) | (with_reducible refine Kd.C_alloc ?_ _) | (with_reducible refine Kd.C_drewN ?_ _) | (with_reducible refine Kd.C_drew ?_))); (case side2 => exact HC0_1.out); rintro e w27 ⟨rfl,hb⟩; have n0_:=V (blk_below (g:=gb1308) (o:=.cells #[.int .i64 a0_0,.slice A0_1 l0_1.length c0_1] 34 (0,0)) (by (with_reducible repeat (first | refine blk_drewN ?_ _ | refine blk_drew ?_ | refine blk_alloc ?_ _)); exact BK1308.out) hb); have n1_:=V (below_step (by repeat (first | (with_reducible first | exact HB.out | apply below_alloc | apply pw_below_drewN | apply below_drew1 | refine below_set ?_ GE1308.out) | exact HB.out)) hb); clear BK1308; clear HB; have BK1308:=n0_; have HB:=n1_; clear n0_ n1_; (try clear hb); (try clear hb2); (try clear hk); (try clear hi))); try go_wp2_with (first | (go_at_call 76; (with_reducible refine (spec_l1Ok.calls k1 a0_0 _ _ l0_1 false _ ?side1 ?side2 A19.out).mono ?_); (case side1 => repeat (first | exact (Kd.C_below HR0_1.out HB.out) | (with_reducible refine Kd.C_alloc ?_ _) | (with_reducible refine Kd.C_drewN ?_ _) | (with_reducible refine Kd.C_drew ?_))); (case side2 => exact HC0_1.out); rintro e w27 ⟨rfl,hb⟩; have n0_:=V (blk_below (g:=gb1308) (o:=.cells #[.int .i64 a0_0,.slice A0_1 l0_1.length c0_1] 34 (0,0)) (by (with_reducible repeat (first | refine blk_drewN ?_ _ | refine blk_drew ?_ | refine blk_alloc ?_ _)); exact BK1308.out) hb); have n1_:=V (below_step (by repeat (first | (with_reducible first | exact HB.out | apply below_alloc | apply pw_below_drewN | apply below_drew1 | refine below_set ?_ GE1308.out) | exact HB.out)) hb); clear BK1308; clear HB; have BK1308:=n0_; have HB:=n1_; clear n0_ n1_; (try clear hb); (try clear hb2); (try clear hk); (try clear hi))))
     go_ret;exact ⟨by first | rfl | (simp [errW_none,errW_some] <;> rfl) | (simp [*,errW_none,errW_some] <;> rfl),by repeat (first | (with_reducible first | exact HB.out | apply below_alloc | apply pw_below_drewN | apply below_drew1 | refine below_set ?_ GE1308.out) | exact HB.out)⟩
    subst c20;have H1 : (if (l1.length : Int) > 16 then (some (-1)) else (some x5_1)) = some r:=by rw [if_pos rfl] at H; exact H
    clear H;have H:=H1;clear H1
    by_cases c21 : (l1.length : Int) > 16
    case pos =>
     rw [if_pos c21] at H;have c21b0 : decide (16 < (l1.length : Int)) = true:=decide_eq_true c21;have c21b1 : decide (16 < l1.length) = true:=decide_eq_true (by omega);clear c21;obtain rfl:=Option.some.inj H;have hcz22_0 : wr.cell? ⟨gb1308,0,none⟩ = some (.int .i64 a0_0):=(blk_cell BK1308.out 0).trans rfl;have hcz22_1 : wr.cell? ⟨gb1308,1,none⟩ = some (.slice A0_1 l0_1.length c0_1):=(blk_cell BK1308.out 1).trans rfl;have hfz22_0:=blk_frozen BK1308.out 0;have hfz22_1:=blk_frozen BK1308.out 1
     go_wp2_with (first | (go_at_call 76; (with_reducible refine (spec_l1Ok.calls k1 a0_0 _ _ l0_1 true _ ?side1 ?side2 A19.out).mono ?_); (case side1 => repeat (first | exact (Kd.C_below HR0_1.out HB.out) | (with_reducible refine Kd.C_alloc ?_ _) | (with_reducible refine Kd.C_drewN ?_ _) | (with_reducible refine Kd.C_drew ?_))); (case side2 => exact HC0_1.out); rintro e w23 ⟨rfl,hb⟩; have n0_:=V (blk_below (g:=gb1308) (o:=.cells #[.int .i64 a0_0,.slice A0_1 l0_1.length c0_1] 34 (0,0)) (by (with_reducible repeat (first | refine blk_drewN ?_ _ | refine blk_drew ?_ | refine blk_alloc ?_ _)); exact BK1308.out) hb); have n1_:=V (below_step (by repeat (first | (with_reducible first | exact HB.out | apply below_alloc | apply pw_below_drewN | apply below_drew1 | refine below_set ?_ GE1308.out) | exact HB.out)) hb); clear BK1308; clear HB; have BK1308:=n0_; have HB:=n1_; clear n0_ n1_; (try clear hb); (try clear hb2); (try clear hk); (try clear hi)))
     repeat (go_quiet (first | (go_at_call 76; (with_reducible refine (spec_l1Ok.calls k1 a0_0 _ _ l0_1 true _ ?side1 ?side2 A19.out).mono ?_); (case side1 => repeat (first | exact (Kd.C_below HR0_1.out HB.out) | (with_reducible refine Kd.C_alloc ?_ _) | (with_reducible refine Kd.C_drewN ?_ _) | (with_reducible refine Kd.C_drew ?_))); (case side2 => exact HC0_1.out); rintro e w23 ⟨rfl,hb⟩; have n0_:=V (blk_below (g:=gb1308) (o:=.cells #[.int .i64 a0_0,.slice A0_1 l0_1.length c0_1] 34 (0,0)) (by (with_reducible repeat (first | refine blk_drewN ?_ _ | refine blk_drew ?_ | refine blk_alloc ?_ _)); exact BK1308.out) hb); have n1_:=V (below_step (by repeat (first | (with_reducible first | exact HB.out | apply below_alloc | apply pw_below_drewN | apply below_drew1 | refine below_set ?_ GE1308.out) | exact HB.out)) hb); clear BK1308; clear HB; have BK1308:=n0_; have HB:=n1_; clear n0_ n1_; (try clear hb); (try clear hb2); (try clear hk); (try clear hi))); try go_wp2_with (first | (go_at_call 76; (with_reducible refine (spec_l1Ok.calls k1 a0_0 _ _ l0_1 true _ ?side1 ?side2 A19.out).mono ?_); (case side1 => repeat (first | exact (Kd.C_below HR0_1.out HB.out) | (with_reducible refine Kd.C_alloc ?_ _) | (with_reducible refine Kd.C_drewN ?_ _) | (with_reducible refine Kd.C_drew ?_))); (case side2 => exact HC0_1.out); rintro e w23 ⟨rfl,hb⟩; have n0_:=V (blk_below (g:=gb1308) (o:=.cells #[.int .i64 a0_0,.slice A0_1 l0_1.length c0_1] 34 (0,0)) (by (with_reducible repeat (first | refine blk_drewN ?_ _ | refine blk_drew ?_ | refine blk_alloc ?_ _)); exact BK1308.out) hb); have n1_:=V (below_step (by repeat (first | (with_reducible first | exact HB.out | apply below_alloc | apply pw_below_drewN | apply below_drew1 | refine below_set ?_ GE1308.out) | exact HB.out)) hb); clear BK1308; clear HB; have BK1308:=n0_; have HB:=n1_; clear n0_ n1_; (try clear hb); (try clear hb2); (try clear hk); (try clear hi))))
     go_ret;exact ⟨by first | rfl | (simp [errW_none,errW_some] <;> rfl) | (simp [*,errW_none,errW_some] <;> rfl),by repeat (first | (with_reducible first | exact HB.out | apply below_alloc | apply pw_below_drewN | apply below_drew1 | refine below_set ?_ GE1308.out) | exact HB.out)⟩
    rw [if_neg c21] at H;have c21b0 : decide (16 < (l1.length : Int)) = false:=decide_eq_false c21;have c21b1 : decide (16 < l1.length) = false:=decide_eq_false (by omega);clear c21;obtain rfl:=Option.some.inj H;have hcz24_0 : wr.cell? ⟨gb1308,0,none⟩ = some (.int .i64 a0_0):=(blk_cell BK1308.out 0).trans rfl;have hcz24_1 : wr.cell? ⟨gb1308,1,none⟩ = some (.slice A0_1 l0_1.length c0_1):=(blk_cell BK1308.out 1).trans rfl;have hfz24_0:=blk_frozen BK1308.out 0;have hfz24_1:=blk_frozen BK1308.out 1
    go_wp2_with (first | (go_at_call 76; (with_reducible refine (spec_l1Ok.calls k1 a0_0 _ _ l0_1 true _ ?side1 ?side2 A19.out).mono ?_); (case side1 => repeat (first | exact (Kd.C_below HR0_1.out HB.out) | (with_reducible refine Kd.C_alloc ?_ _) | (with_reducible refine Kd.C_drewN ?_ _) | (with_reducible refine Kd.C_drew ?_))); (case side2 => exact HC0_1.out); rintro e w25 ⟨rfl,hb⟩; have n0_:=V (blk_below (g:=gb1308) (o:=.cells #[.int .i64 a0_0,.slice A0_1 l0_1.length c0_1] 34 (0,0)) (by (with_reducible repeat (first | refine blk_drewN ?_ _ | refine blk_drew ?_ | refine blk_alloc ?_ _)); exact BK1308.out) hb); have n1_:=V (below_step (by repeat (first | (with_reducible first | exact HB.out | apply below_alloc | apply pw_below_drewN | apply below_drew1 | refine below_set ?_ GE1308.out) | exact HB.out)) hb); clear BK1308; clear HB; have BK1308:=n0_; have HB:=n1_; clear n0_ n1_; (try clear hb); (try clear hb2); (try clear hk); (try clear hi)))
    repeat (go_quiet (first | (go_at_call 76; (with_reducible refine (spec_l1Ok.calls k1 a0_0 _ _ l0_1 true _ ?side1 ?side2 A19.out).mono ?_); (case side1 => repeat (first | exact (Kd.C_below HR0_1.out HB.out) | (with_reducible refine Kd.C_alloc ?_ _) | (with_reducible refine Kd.C_drewN ?_ _) | (with_reducible refine Kd.C_drew ?_))); (case side2 => exact HC0_1.out); rintro e w25 ⟨rfl,hb⟩; have n0_:=V (blk_below (g:=gb1308) (o:=.cells #[.int .i64 a0_0,.slice A0_1 l0_1.length c0_1] 34 (0,0)) (by (with_reducible repeat (first | refine blk_drewN ?_ _ | refine blk_drew ?_ | refine blk_alloc ?_ _)); exact BK1308.out) hb); have n1_:=V (below_step (by repeat (first | (with_reducible first | exact HB.out | apply below_alloc | apply pw_below_drewN | apply below_drew1 | refine below_set ?_ GE1308.out) | exact HB.out)) hb); clear BK1308; clear HB; have BK1308:=n0_; have HB:=n1_; clear n0_ n1_; (try clear hb); (try clear hb2); (try clear hk); (try clear hi))); try go_wp2_with (first | (go_at_call 76; (with_reducible refine (spec_l1Ok.calls k1 a0_0 _ _ l0_1 true _ ?side1 ?side2 A19.out).mono ?_); (case side1 => repeat (first | exact (Kd.C_below HR0_1.out HB.out) | (with_reducible refine Kd.C_alloc ?_ _) | (with_reducible refine Kd.C_drewN ?_ _) | (with_reducible refine Kd.C_drew ?_))); (case side2 => exact HC0_1.out); rintro e w25 ⟨rfl,hb⟩; have n0_:=V (blk_below (g:=gb1308) (o:=.cells #[.int .i64 a0_0,.slice A0_1 l0_1.length c0_1] 34 (0,0)) (by (with_reducible repeat (first | refine blk_drewN ?_ _ | refine blk_drew ?_ | refine blk_alloc ?_ _)); exact BK1308.out) hb); have n1_:=V (below_step (by repeat (first | (with_reducible first | exact HB.out | apply below_alloc | apply pw_below_drewN | apply below_drew1 | refine below_set ?_ GE1308.out) | exact HB.out)) hb); clear BK1308; clear HB; have BK1308:=n0_; have HB:=n1_; clear n0_ n1_; (try clear hb); (try clear hb2); (try clear hk); (try clear hi))))
    go_ret;exact ⟨by first | rfl | (simp [errW_none,errW_some] <;> rfl) | (simp [*,errW_none,errW_some] <;> rfl),by repeat (first | (with_reducible first | exact HB.out | apply below_alloc | apply pw_below_drewN | apply below_drew1 | refine below_set ?_ GE1308.out) | exact HB.out)⟩
   rw [if_pos c4] at H;have c4b0 : decide (x6_1 < (l1.length : Int)) = true:=decide_eq_true c4;clear c4
   by_cases c5 : 0 ≤ x6_1
   case neg =>
    rw [if_neg c5] at H;exact absurd H (by simp)
   rw [if_pos c5] at H;have c5b0 : decide (0 ≤ x6_1) = true:=decide_eq_true c5;clear c5;replace H:=Option.bind_eq_some_iff.mp H;obtain ⟨t1311,A60,H⟩:=H;replace H : (if t1311 = true then (if x6_1 ≤ (l1.length : Int) then ((spec_l12In.f k1 (l1.take (x6_1 : Int).toNat) (rd l1 x6_1)).bind fun t1314 => (if t1314 = true then (spec_TreeCost.l0 k1 l1 x5_1 (wrap64 (x6_1 + 1)) a0_0 l0_1) else (if 0 ≤ (rd l1 x6_1) then (if (rd l1 x6_1) < (l0_1.length : Int) then (spec_TreeCost.l0 k1 l1 (wrap64 (x5_1 + ((rd_T58 l0_1 (rd l1 x6_1)).f2))) (wrap64 (x6_1 + 1)) a0_0 l0_1) else (none)) else (none)))) else (none)) else (some (-1))) = some r:=H;have A6:=V A60;clear A60
   by_cases c7 : t1311 = true
   case neg =>
    replace c7:=Bool.eq_false_iff.mpr c7;subst c7;have H1 : (some (-1)) = some r:=by rw [if_neg (show ¬ (false = true) by decide)] at H; exact H
    clear H;have H:=H1;clear H1;obtain rfl:=Option.some.inj H;have p1310 : 0 ≤ (x6_1 : Int):=of_decide_eq_true (by first | (with_reducible assumption) | assumption);have q1310 : x6_1 < (l1.length : Int):=of_decide_eq_true (by first | (with_reducible assumption) | assumption);obtain ⟨ad1310,e1310,hx1310_0⟩:=Kd.at_int HR1.out x6_1 p1310 q1310;cases e1310;replace hx1310_0:=(HB.out.cell (World.block_lt_of_cell? w _ hx1310_0)).trans hx1310_0;replace p1310:=eq_true p1310;replace q1310:=eq_true q1310;have hcz18_0 : wr.cell? ⟨gb1308,0,none⟩ = some (.int .i64 a0_0):=(blk_cell BK1308.out 0).trans rfl;have hcz18_1 : wr.cell? ⟨gb1308,1,none⟩ = some (.slice A0_1 l0_1.length c0_1):=(blk_cell BK1308.out 1).trans rfl;have hfz18_0:=blk_frozen BK1308.out 0;have hfz18_1:=blk_frozen BK1308.out 1
    go_wp2_with (first | (go_at_call 90; (with_reducible refine (spec_l1In.calls (rd l1 x6_1) 0 (wrap64 ((l0_1.length : Int) - 1)) false _ A6.out).mono ?_); rintro e w' ⟨rfl,⟨nd,rfl⟩⟩; (try first | exact ⟨rfl,_,World.drewN_drewN _ _ _⟩ | exact ⟨rfl,_,Eq.trans (World.drewN_drewN _ _ _) (congrArg (World.drewN _) (Nat.add_assoc _ _ _))⟩)))
    repeat (go_quiet (first | (go_at_call 90; (with_reducible refine (spec_l1In.calls (rd l1 x6_1) 0 (wrap64 ((l0_1.length : Int) - 1)) false _ A6.out).mono ?_); rintro e w' ⟨rfl,⟨nd,rfl⟩⟩; (try first | exact ⟨rfl,_,World.drewN_drewN _ _ _⟩ | exact ⟨rfl,_,Eq.trans (World.drewN_drewN _ _ _) (congrArg (World.drewN _) (Nat.add_assoc _ _ _))⟩))); try go_wp2_with (first | (go_at_call 90; (with_reducible refine (spec_l1In.calls (rd l1 x6_1) 0 (wrap64 ((l0_1.length : Int) - 1)) false _ A6.out).mono ?_); rintro e w' ⟨rfl,⟨nd,rfl⟩⟩; (try first | exact ⟨rfl,_,World.drewN_drewN _ _ _⟩ | exact ⟨rfl,_,Eq.trans (World.drewN_drewN _ _ _) (congrArg (World.drewN _) (Nat.add_assoc _ _ _))⟩))))
    go_ret;exact ⟨by first | rfl | (simp [errW_none,errW_some] <;> rfl) | (simp [*,errW_none,errW_some] <;> rfl),by repeat (first | (with_reducible first | exact HB.out | apply below_alloc | apply pw_below_drewN | apply below_drew1 | refine below_set ?_ GE1308.out) | exact HB.out)⟩
   subst c7;have H1 : (if x6_1 ≤ (l1.length : Int) then ((spec_l12In.f k1 (l1.take (x6_1 : Int).toNat) (rd l1 x6_1)).bind fun t1314 => (if t1314 = true then (spec_TreeCost.l0 k1 l1 x5_1 (wrap64 (x6_1 + 1)) a0_0 l0_1) else (if 0 ≤ (rd l1 x6_1) then (if (rd l1 x6_1) < (l0_1.length : Int) then (spec_TreeCost.l0 k1 l1 (wrap64 (x5_1 + ((rd_T58 l0_1 (rd l1 x6_1)).f2))) (wrap64 (x6_1 + 1)) a0_0 l0_1) else (none)) else (none)))) else (none)) = some r:=by rw [if_pos rfl] at H; exact H
   clear H;have H:=H1;clear H1;have c8b0:=eq_true (of_decide_eq_true (by first | (with_reducible assumption) | assumption) : 0 ≤ x6_1)
   by_cases c9 : x6_1 ≤ (l1.length : Int)
   case neg =>
    rw [if_neg c9] at H;exact absurd H (by simp)
   rw [if_pos c9] at H;have c9b0:=eq_true c9;have c9b1 : decide (x6_1 ≤ (l1.length : Int)) = true:=decide_eq_true c9;clear c9;replace H:=Option.bind_eq_some_iff.mp H;obtain ⟨t1314,A100,H⟩:=H;replace H : (if t1314 = true then (spec_TreeCost.l0 k1 l1 x5_1 (wrap64 (x6_1 + 1)) a0_0 l0_1) else (if 0 ≤ (rd l1 x6_1) then (if (rd l1 x6_1) < (l0_1.length : Int) then (spec_TreeCost.l0 k1 l1 (wrap64 (x5_1 + ((rd_T58 l0_1 (rd l1 x6_1)).f2))) (wrap64 (x6_1 + 1)) a0_0 l0_1) else (none)) else (none))) = some r:=H;have A10:=V A100;clear A100
   by_cases c11 : t1314 = true
   case pos =>
    subst c11;have H1 : (spec_TreeCost.l0 k1 l1 x5_1 (wrap64 (x6_1 + 1)) a0_0 l0_1) = some r:=by rw [if_pos rfl] at H; exact H
    clear H;have H:=H1;clear H1;have H':=V H;clear H;have p1310 : 0 ≤ (x6_1 : Int):=of_decide_eq_true (by first | (with_reducible assumption) | assumption);have q1310 : x6_1 < (l1.length : Int):=of_decide_eq_true (by first | (with_reducible assumption) | assumption);obtain ⟨ad1310,e1310,hx1310_0⟩:=Kd.at_int HR1.out x6_1 p1310 q1310;cases e1310;replace hx1310_0:=(HB.out.cell (World.block_lt_of_cell? w _ hx1310_0)).trans hx1310_0;replace p1310:=eq_true p1310;replace q1310:=eq_true q1310;have hcz12_0 : wr.cell? ⟨gb1308,0,none⟩ = some (.int .i64 a0_0):=(blk_cell BK1308.out 0).trans rfl;have hcz12_1 : wr.cell? ⟨gb1308,1,none⟩ = some (.slice A0_1 l0_1.length c0_1):=(blk_cell BK1308.out 1).trans rfl;have hfz12_0:=blk_frozen BK1308.out 0;have hfz12_1:=blk_frozen BK1308.out 1;obtain ⟨i013,hi013,_,hsz13,_⟩:=info_parts info3;obtain ⟨hcut13,hA13,hC13⟩:=print_take_of (P:=Try.prog) (Value.int .i64) 0 23 3 .i64 Try.underlying23 hi013 hsz13 (some ad1310) c1 l1 x6_1 (of_decide_eq_true (by first | (with_reducible assumption) | assumption)) (of_decide_eq_true (by first | (with_reducible assumption) | assumption)) HC1.out;have HR1312:=V (Kd.C_of_reads (h1:=fun _ => rfl) (hA13 _ (Kd.reads_of_C HR1.out)));have HC1312:=V hC13;clear hA13 hC13 hi013 hsz13;have p1313 : 0 ≤ (x6_1 : Int):=of_decide_eq_true (by first | (with_reducible assumption) | assumption);have q1313 : x6_1 < (l1.length : Int):=of_decide_eq_true (by first | (with_reducible assumption) | assumption);obtain ⟨ad1313,e1313,hx1313_0⟩:=Kd.at_int HR1.out x6_1 p1313 q1313;obtain rfl : ad1310 = ad1313:=(by injection e1313)
    replace hx1313_0:=(HB.out.cell (World.block_lt_of_cell? w _ hx1313_0)).trans hx1313_0;replace p1313:=eq_true p1313;replace q1313:=eq_true q1313
    go_wp2_with (first | (go_at_call 90; (with_reducible refine (spec_l1In.calls (rd l1 x6_1) 0 (wrap64 ((l0_1.length : Int) - 1)) true _ A6.out).mono ?_); rintro e w' ⟨rfl,⟨nd,rfl⟩⟩; (try first | exact ⟨rfl,_,World.drewN_drewN _ _ _⟩ | exact ⟨rfl,_,Eq.trans (World.drewN_drewN _ _ _) (congrArg (World.drewN _) (Nat.add_assoc _ _ _))⟩)) | (go_at_call 119; (try rw [show x6_1.toNat = (l1.take (x6_1 : Int).toNat).length by rw [List.length_take]; have h_:=of_eq_true q1313; omega]); (with_reducible refine (spec_l12In.calls k1 _ _ (l1.take (x6_1 : Int).toNat) (rd l1 x6_1) true _ ?side1 ?side2 A10.out).mono ?_); (case side1 => repeat (first | exact (Kd.C_below HR1312.out (by repeat (first | (with_reducible first | exact HB.out | apply below_alloc | apply pw_below_drewN | apply below_drew1 | refine below_set ?_ GE1308.out) | exact HB.out))) | (with_reducible refine Kd.C_alloc ?_ _) | (with_reducible refine Kd.C_drewN ?_ _) | (with_reducible refine Kd.C_drew ?_))); (case side2 => exact HC1312.out); rintro e w' ⟨rfl,⟨nd,rfl⟩⟩; (try first | exact ⟨rfl,_,World.drewN_drewN _ _ _⟩ | exact ⟨rfl,_,Eq.trans (World.drewN_drewN _ _ _) (congrArg (World.drewN _) (Nat.add_assoc _ _ _))⟩)))
    repeat (go_quiet (first | (go_at_call 90; (with_reducible refine (spec_l1In.calls (rd l1 x6_1) 0 (wrap64 ((l0_1.length : Int) - 1)) true _ A6.out).mono ?_); rintro e w' ⟨rfl,⟨nd,rfl⟩⟩; (try first | exact ⟨rfl,_,World.drewN_drewN _ _ _⟩ | exact ⟨rfl,_,Eq.trans (World.drewN_drewN _ _ _) (congrArg (World.drewN _) (Nat.add_assoc _ _ _))⟩)) | (go_at_call 119; (try rw [show x6_1.toNat = (l1.take (x6_1 : Int).toNat).length by rw [List.length_take]; have h_:=of_eq_true q1313; omega]); (with_reducible refine (spec_l12In.calls k1 _ _ (l1.take (x6_1 : Int).toNat) (rd l1 x6_1) true _ ?side1 ?side2 A10.out).mono ?_); (case side1 => repeat (first | exact (Kd.C_below HR1312.out (by repeat (first | (with_reducible first | exact HB.out | apply below_alloc | apply pw_below_drewN | apply below_drew1 | refine below_set ?_ GE1308.out) | exact HB.out))) | (with_reducible refine Kd.C_alloc ?_ _) | (with_reducible refine Kd.C_drewN ?_ _) | (with_reducible refine Kd.C_drew ?_))); (case side2 => exact HC1312.out); rintro e w' ⟨rfl,⟨nd,rfl⟩⟩; (try first | exact ⟨rfl,_,World.drewN_drewN _ _ _⟩ | exact ⟨rfl,_,Eq.trans (World.drewN_drewN _ _ _) (congrArg (World.drewN _) (Nat.add_assoc _ _ _))⟩))); try go_wp2_with (first | (go_at_call 90; (with_reducible refine (spec_l1In.calls (rd l1 x6_1) 0 (wrap64 ((l0_1.length : Int) - 1)) true _ A6.out).mono ?_); rintro e w' ⟨rfl,⟨nd,rfl⟩⟩; (try first | exact ⟨rfl,_,World.drewN_drewN _ _ _⟩ | exact ⟨rfl,_,Eq.trans (World.drewN_drewN _ _ _) (congrArg (World.drewN _) (Nat.add_assoc _ _ _))⟩)) | (go_at_call 119; (try rw [show x6_1.toNat = (l1.take (x6_1 : Int).toNat).length by rw [List.length_take]; have h_:=of_eq_true q1313; omega]); (with_reducible refine (spec_l12In.calls k1 _ _ (l1.take (x6_1 : Int).toNat) (rd l1 x6_1) true _ ?side1 ?side2 A10.out).mono ?_); (case side1 => repeat (first | exact (Kd.C_below HR1312.out (by repeat (first | (with_reducible first | exact HB.out | apply below_alloc | apply pw_below_drewN | apply below_drew1 | refine below_set ?_ GE1308.out) | exact HB.out))) | (with_reducible refine Kd.C_alloc ?_ _) | (with_reducible refine Kd.C_drewN ?_ _) | (with_reducible refine Kd.C_drew ?_))); (case side2 => exact HC1312.out); rintro e w' ⟨rfl,⟨nd,rfl⟩⟩; (try first | exact ⟨rfl,_,World.drewN_drewN _ _ _⟩ | exact ⟨rfl,_,Eq.trans (World.drewN_drewN _ _ _) (congrArg (World.drewN _) (Nat.add_assoc _ _ _))⟩))))
    go_roundg k1
    case measure => have:=HK1.out; omega
    case rel => exact ⟨(x5_1),(wrap64 (x6_1 + 1)),(by first | rfl | (simp; done) | (simp [*]; done)),(by first | rfl | (simp; done) | (simp [*]; done)),H',⟨by have:=HK1.out; omega⟩,⟨by (with_reducible repeat (first | refine blk_drewN ?_ _ | refine blk_drew ?_ | refine blk_alloc ?_ _)); exact BK1308.out⟩,⟨by repeat (first | (with_reducible first | exact HB.out | apply below_alloc | apply pw_below_drewN | apply below_drew1 | refine below_set ?_ GE1308.out) | exact HB.out)⟩⟩
   replace c11:=Bool.eq_false_iff.mpr c11;subst c11;have H1 : (if 0 ≤ (rd l1 x6_1) then (if (rd l1 x6_1) < (l0_1.length : Int) then (spec_TreeCost.l0 k1 l1 (wrap64 (x5_1 + ((rd_T58 l0_1 (rd l1 x6_1)).f2))) (wrap64 (x6_1 + 1)) a0_0 l0_1) else (none)) else (none)) = some r:=by rw [if_neg (show ¬ (false = true) by decide)] at H; exact H
   clear H;have H:=H1;clear H1
   by_cases c14 : 0 ≤ (rd l1 x6_1)
   case neg =>
    rw [if_neg c14] at H;exact absurd H (by simp)
   rw [if_pos c14] at H;have c14b0 : decide (0 ≤ (rd l1 x6_1)) = true:=decide_eq_true c14;clear c14
   by_cases c15 : (rd l1 x6_1) < (l0_1.length : Int)
   case neg =>
    rw [if_neg c15] at H;exact absurd H (by simp)
   rw [if_pos c15] at H;have c15b0 : decide ((rd l1 x6_1) < (l0_1.length : Int)) = true:=decide_eq_true c15;clear c15;have H':=V H;clear H;have p1310 : 0 ≤ (x6_1 : Int):=of_decide_eq_true (by first | (with_reducible assumption) | assumption);have q1310 : x6_1 < (l1.length : Int):=of_decide_eq_true (by first | (with_reducible assumption) | assumption);obtain ⟨ad1310,e1310,hx1310_0⟩:=Kd.at_int HR1.out x6_1 p1310 q1310;cases e1310;replace hx1310_0:=(HB.out.cell (World.block_lt_of_cell? w _ hx1310_0)).trans hx1310_0;replace p1310:=eq_true p1310;replace q1310:=eq_true q1310;have hcz16_0 : wr.cell? ⟨gb1308,0,none⟩ = some (.int .i64 a0_0):=(blk_cell BK1308.out 0).trans rfl;have hcz16_1 : wr.cell? ⟨gb1308,1,none⟩ = some (.slice A0_1 l0_1.length c0_1):=(blk_cell BK1308.out 1).trans rfl;have hfz16_0:=blk_frozen BK1308.out 0;have hfz16_1:=blk_frozen BK1308.out 1;obtain ⟨i017,hi017,_,hsz17,_⟩:=info_parts info3;obtain ⟨hcut17,hA17,hC17⟩:=print_take_of (P:=Try.prog) (Value.int .i64) 0 23 3 .i64 Try.underlying23 hi017 hsz17 (some ad1310) c1 l1 x6_1 (of_decide_eq_true (by first | (with_reducible assumption) | assumption)) (of_decide_eq_true (by first | (with_reducible assumption) | assumption)) HC1.out;have HR1312:=V (Kd.C_of_reads (h1:=fun _ => rfl) (hA17 _ (Kd.reads_of_C HR1.out)));have HC1312:=V hC17;clear hA17 hC17 hi017 hsz17;have p1313 : 0 ≤ (x6_1 : Int):=of_decide_eq_true (by first | (with_reducible assumption) | assumption);have q1313 : x6_1 < (l1.length : Int):=of_decide_eq_true (by first | (with_reducible assumption) | assumption);obtain ⟨ad1313,e1313,hx1313_0⟩:=Kd.at_int HR1.out x6_1 p1313 q1313;obtain rfl : ad1310 = ad1313:=(by injection e1313)
   replace hx1313_0:=(HB.out.cell (World.block_lt_of_cell? w _ hx1313_0)).trans hx1313_0;replace p1313:=eq_true p1313;replace q1313:=eq_true q1313;have p1315 : 0 ≤ (x6_1 : Int):=of_decide_eq_true (by first | (with_reducible assumption) | assumption);have q1315 : x6_1 < (l1.length : Int):=of_decide_eq_true (by first | (with_reducible assumption) | assumption);obtain ⟨ad1315,e1315,hx1315_0⟩:=Kd.at_int HR1.out x6_1 p1315 q1315;obtain rfl : ad1310 = ad1315:=(by injection e1315)
   replace hx1315_0:=(HB.out.cell (World.block_lt_of_cell? w _ hx1315_0)).trans hx1315_0;replace p1315:=eq_true p1315;replace q1315:=eq_true q1315;have p1316 : 0 ≤ ((rd l1 x6_1) : Int):=of_decide_eq_true (by first | (with_reducible assumption) | assumption);have q1316 : (rd l1 x6_1) < (l0_1.length : Int):=of_decide_eq_true (by first | (with_reducible assumption) | assumption);obtain ⟨ad1316,e1316,hx1316_0,hx1316_1,hx1316_2,hx1316_3,hx1316_4⟩:=at_T58 HR0_1.out (rd l1 x6_1) p1316 q1316;cases e1316;replace hx1316_0:=(HB.out.cell (World.block_lt_of_cell? w _ hx1316_0)).trans hx1316_0;replace hx1316_1:=(HB.out.cell (World.block_lt_of_cell? w _ hx1316_1)).trans hx1316_1;replace hx1316_2:=(HB.out.cell (World.block_lt_of_cell? w _ hx1316_2)).trans hx1316_2;replace hx1316_3:=(HB.out.cell (World.block_lt_of_cell? w _ hx1316_3)).trans hx1316_3;replace hx1316_4:=(HB.out.cell (World.block_lt_of_cell? w _ hx1316_4)).trans hx1316_4;replace p1316:=eq_true p1316;replace q1316:=eq_true q1316
   go_wp2_with (first | (go_at_call 90; (with_reducible refine (spec_l1In.calls (rd l1 x6_1) 0 (wrap64 ((l0_1.length : Int) - 1)) true _ A6.out).mono ?_); rintro e w' ⟨rfl,⟨nd,rfl⟩⟩; (try first | exact ⟨rfl,_,World.drewN_drewN _ _ _⟩ | exact ⟨rfl,_,Eq.trans (World.drewN_drewN _ _ _) (congrArg (World.drewN _) (Nat.add_assoc _ _ _))⟩)) | (go_at_call 119; (try rw [show x6_1.toNat = (l1.take (x6_1 : Int).toNat).length by rw [List.length_take]; have h_:=of_eq_true q1315; omega]); (with_reducible refine (spec_l12In.calls k1 _ _ (l1.take (x6_1 : Int).toNat) (rd l1 x6_1) false _ ?side1 ?side2 A10.out).mono ?_); (case side1 => repeat (first | exact (Kd.C_below HR1312.out (by repeat (first | (with_reducible first | exact HB.out | apply below_alloc | apply pw_below_drewN | apply below_drew1 | refine below_set ?_ GE1308.out) | exact HB.out))) | (with_reducible refine Kd.C_alloc ?_ _) | (with_reducible refine Kd.C_drewN ?_ _) | (with_reducible refine Kd.C_drew ?_))); (case side2 => exact HC1312.out); rintro e w' ⟨rfl,⟨nd,rfl⟩⟩; (try first | exact ⟨rfl,_,World.drewN_drewN _ _ _⟩ | exact ⟨rfl,_,Eq.trans (World.drewN_drewN _ _ _) (congrArg (World.drewN _) (Nat.add_assoc _ _ _))⟩)))
   repeat (go_quiet (first | (go_at_call 90; (with_reducible refine (spec_l1In.calls (rd l1 x6_1) 0 (wrap64 ((l0_1.length : Int) - 1)) true _ A6.out).mono ?_); rintro e w' ⟨rfl,⟨nd,rfl⟩⟩; (try first | exact ⟨rfl,_,World.drewN_drewN _ _ _⟩ | exact ⟨rfl,_,Eq.trans (World.drewN_drewN _ _ _) (congrArg (World.drewN _) (Nat.add_assoc _ _ _))⟩)) | (go_at_call 119; (try rw [show x6_1.toNat = (l1.take (x6_1 : Int).toNat).length by rw [List.length_take]; have h_:=of_eq_true q1315; omega]); (with_reducible refine (spec_l12In.calls k1 _ _ (l1.take (x6_1 : Int).toNat) (rd l1 x6_1) false _ ?side1 ?side2 A10.out).mono ?_); (case side1 => repeat (first | exact (Kd.C_below HR1312.out (by repeat (first | (with_reducible first | exact HB.out | apply below_alloc | apply pw_below_drewN | apply below_drew1 | refine below_set ?_ GE1308.out) | exact HB.out))) | (with_reducible refine Kd.C_alloc ?_ _) | (with_reducible refine Kd.C_drewN ?_ _) | (with_reducible refine Kd.C_drew ?_))); (case side2 => exact HC1312.out); rintro e w' ⟨rfl,⟨nd,rfl⟩⟩; (try first | exact ⟨rfl,_,World.drewN_drewN _ _ _⟩ | exact ⟨rfl,_,Eq.trans (World.drewN_drewN _ _ _) (congrArg (World.drewN _) (Nat.add_assoc _ _ _))⟩))); try go_wp2_with (first | (go_at_call 90; (with_reducible refine (spec_l1In.calls (rd l1 x6_1) 0 (wrap64 ((l0_1.length : Int) - 1)) true _ A6.out).mono ?_); rintro e w' ⟨rfl,⟨nd,rfl⟩⟩; (try first | exact ⟨rfl,_,World.drewN_drewN _ _ _⟩ | exact ⟨rfl,_,Eq.trans (World.drewN_drewN _ _ _) (congrArg (World.drewN _) (Nat.add_assoc _ _ _))⟩)) | (go_at_call 119; (try rw [show x6_1.toNat = (l1.take (x6_1 : Int).toNat).length by rw [List.length_take]; have h_:=of_eq_true q1315; omega]); (with_reducible refine (spec_l12In.calls k1 _ _ (l1.take (x6_1 : Int).toNat) (rd l1 x6_1) false _ ?side1 ?side2 A10.out).mono ?_); (case side1 => repeat (first | exact (Kd.C_below HR1312.out (by repeat (first | (with_reducible first | exact HB.out | apply below_alloc | apply pw_below_drewN | apply below_drew1 | refine below_set ?_ GE1308.out) | exact HB.out))) | (with_reducible refine Kd.C_alloc ?_ _) | (with_reducible refine Kd.C_drewN ?_ _) | (with_reducible refine Kd.C_drew ?_))); (case side2 => exact HC1312.out); rintro e w' ⟨rfl,⟨nd,rfl⟩⟩; (try first | exact ⟨rfl,_,World.drewN_drewN _ _ _⟩ | exact ⟨rfl,_,Eq.trans (World.drewN_drewN _ _ _) (congrArg (World.drewN _) (Nat.add_assoc _ _ _))⟩))))
   go_roundg k1
   case measure => have:=HK1.out; omega
   case rel => exact ⟨(wrap64 (x5_1 + ((rd_T58 l0_1 (rd l1 x6_1)).f2))),(wrap64 (x6_1 + 1)),(by first | rfl | (simp; done) | (simp [*]; done)),(by first | rfl | (simp; done) | (simp [*]; done)),H',⟨by have:=HK1.out; omega⟩,⟨by (with_reducible repeat (first | refine blk_drewN ?_ _ | refine blk_drew ?_ | refine blk_alloc ?_ _)); exact BK1308.out⟩,⟨by repeat (first | (with_reducible first | exact HB.out | apply below_alloc | apply pw_below_drewN | apply below_drew1 | refine below_set ?_ GE1308.out) | exact HB.out)⟩⟩
def laws_FnExactTreeCost.f (k : Nat) (a0_0 : Int) (l0_1 : List (S127)) (l1 : List Int) : Option (Bool):=if (l1.length : Int) > 1048576 then (some true) else ((laws_szNet.f a0_0 l0_1 1048576).bind fun t1341 => (if t1341 < 0 then (some true) else ((laws_toNet.f k a0_0 l0_1).bind fun bt1342 => ((laws_toIntS.f k l1).bind fun t1346 => ((spec_TreeCost.f k bt1342.1 bt1342.2 t1346).bind fun t1349 => ((laws_toNet.f k a0_0 l0_1).bind fun bt1350 => ((laws_toIntS.f k l1).bind fun t1355 => ((impl_TreeCost.f k bt1350.1 bt1350.2 t1355).bind fun t1358 => (if t1358 = t1349 then ((laws_toNet.f k a0_0 l0_1).bind fun bt1359 => ((laws_eqNet.f k bt1350.1 bt1350.2 bt1359.1 bt1359.2).bind fun t1363 => (if t1363 = true then ((laws_toIntS.f k l1).bind fun t1364 => ((laws_eqIntS.f k t1355 t1364).bind fun t1367 => (if t1367 = true then (some true) else (some false)))) else (some false)))) else (some false))))))))))
set_option maxHeartbeats 8000000 in
set_option maxRecDepth 100000 in
theorem laws_FnExactTreeCost.calls (k : Nat) (a0_0 : Int) (A0_1 : Option Addr) (c0_1 : Nat) (l0_1 : List (S127)) (A1 : Option Addr) (c1 : Nat) (l1 : List Int) (r : Bool) (w : World) (hr0_1 : Kd.C k127 w A0_1 l0_1.length l0_1) (hc0_1 : l0_1.length ≤ c0_1) (hr1 : Kd.C (Kd.int .i64) w A1 l1.length l1) (hc1 : l1.length ≤ c1) (h : laws_FnExactTreeCost.f k a0_0 l0_1 l1 = some r) (hrT_ : r = true:=by rfl) :
  Calls Try.prog 14 #[.agg #[.int .i64 a0_0,.slice A0_1 l0_1.length c0_1],.slice A1 l1.length c1] w fun e w' => e = .returned (.bool r) ∧ Below w.heap.size w w':=by
 have HRT_:=V hrT_;clear hrT_;have hu43:=Try.underlying43;have hu34:=Try.underlying34;have HR0_1:=V hr0_1;have HC0_1:=V hc0_1;clear hr0_1 hc0_1;have HR1:=V hr1;have HC1:=V hc1;clear hr1 hc1;have HB:=V (Below.refl w.heap.size w);have H : (if (l1.length : Int) > 1048576 then (some true) else ((laws_szNet.f a0_0 l0_1 1048576).bind fun t1341 => (if t1341 < 0 then (some true) else ((laws_toNet.f k a0_0 l0_1).bind fun bt1342 => ((laws_toIntS.f k l1).bind fun t1346 => ((spec_TreeCost.f k bt1342.1 bt1342.2 t1346).bind fun t1349 => ((laws_toNet.f k a0_0 l0_1).bind fun bt1350 => ((laws_toIntS.f k l1).bind fun t1355 => ((impl_TreeCost.f k bt1350.1 bt1350.2 t1355).bind fun t1358 => (if t1358 = t1349 then ((laws_toNet.f k a0_0 l0_1).bind fun bt1359 => ((laws_eqNet.f k bt1350.1 bt1350.2 bt1359.1 bt1359.2).bind fun t1363 => (if t1363 = true then ((laws_toIntS.f k l1).bind fun t1364 => ((laws_eqIntS.f k t1355 t1364).bind fun t1367 => (if t1367 = true then (some true) else (some false)))) else (some false)))) else (some false))))))))))) = some r:=h;clear h
 by_cases c3 : (l1.length : Int) > 1048576
 case pos =>
  rw [if_pos c3] at H;have c3b0 : decide (1048576 < (l1.length : Int)) = true:=decide_eq_true c3;have c3b1 : decide (1048576 < l1.length) = true:=decide_eq_true (by omega);clear c3;obtain rfl:=Option.some.inj H
  go_enter Try.func14,Try.ntmps14
  go_wp2_with (first | ((with_reducible refine gate_dst (N:=2) rfl ?_); refine box_event ?hg (N:=2) ?hd (cs:=#[.int .i64 a0_0,.slice A0_1 l0_1.length c0_1]) (t:=43) ?hr ?_; (case hd => rfl); (case hg => rfl); (case hr => first | (go_simp; done) | (go_simp; rfl)); intro gb1340 hg w4 hbox hb; have n0_:=V (below_step (by repeat (first | (with_reducible first | exact HB.out | apply below_alloc | apply pw_below_drewN | apply below_drew1) | exact HB.out)) hb); have n1_:=V (hbox); have n2_:=V ((by rw [hg]; exact (below_size (by repeat (first | (with_reducible first | exact HB.out | apply below_alloc | apply pw_below_drewN | apply below_drew1) | exact HB.out))) : w.heap.size ≤ gb1340)); have n3_:=V ((by rw [hg]; exact (below_size (by repeat (first | (with_reducible first | exact HB.out | apply below_alloc | apply pw_below_drewN | apply below_drew1) | exact HB.out))) : w.heap.size ≤ gb1340)); clear HB; have HB:=n0_; have BK1340:=n1_; have GW1340:=n2_; have GE1340:=n3_; clear n0_ n1_ n2_ n3_; clear hb hbox hg))
  go_ret;exact ⟨by first | rfl | (simp [errW_none,errW_some] <;> rfl) | (simp [*,errW_none,errW_some] <;> rfl),by repeat (first | (with_reducible first | exact HB.out | apply below_alloc | apply pw_below_drewN | apply below_drew1 | refine below_set ?_ GE1340.out) | exact HB.out)⟩
 rw [if_neg c3] at H;have c3b0 : decide (1048576 < (l1.length : Int)) = false:=decide_eq_false c3;have c3b1 : decide (1048576 < l1.length) = false:=decide_eq_false (by omega);clear c3;replace H:=Option.bind_eq_some_iff.mp H;obtain ⟨t1341,A50,H⟩:=H;replace H : (if t1341 < 0 then (some true) else ((laws_toNet.f k a0_0 l0_1).bind fun bt1342 => ((laws_toIntS.f k l1).bind fun t1346 => ((spec_TreeCost.f k bt1342.1 bt1342.2 t1346).bind fun t1349 => ((laws_toNet.f k a0_0 l0_1).bind fun bt1350 => ((laws_toIntS.f k l1).bind fun t1355 => ((impl_TreeCost.f k bt1350.1 bt1350.2 t1355).bind fun t1358 => (if t1358 = t1349 then ((laws_toNet.f k a0_0 l0_1).bind fun bt1359 => ((laws_eqNet.f k bt1350.1 bt1350.2 bt1359.1 bt1359.2).bind fun t1363 => (if t1363 = true then ((laws_toIntS.f k l1).bind fun t1364 => ((laws_eqIntS.f k t1355 t1364).bind fun t1367 => (if t1367 = true then (some true) else (some false)))) else (some false)))) else (some false))))))))) = some r:=H;have A5:=V A50;clear A50
 by_cases c6 : t1341 < 0
 case pos =>
  rw [if_pos c6] at H;have c6b0 : decide (t1341 < 0) = true:=decide_eq_true c6;clear c6;obtain rfl:=Option.some.inj H
  go_enter Try.func14,Try.ntmps14
  go_wp2_with (first | ((with_reducible refine gate_dst (N:=2) rfl ?_); refine box_event ?hg (N:=2) ?hd (cs:=#[.int .i64 a0_0,.slice A0_1 l0_1.length c0_1]) (t:=43) ?hr ?_; (case hd => rfl); (case hg => rfl); (case hr => first | (go_simp; done) | (go_simp; rfl)); intro gb1340 hg w7 hbox hb; have n0_:=V (below_step (by repeat (first | (with_reducible first | exact HB.out | apply below_alloc | apply pw_below_drewN | apply below_drew1) | exact HB.out)) hb); have n1_:=V (hbox); have n2_:=V ((by rw [hg]; exact (below_size (by repeat (first | (with_reducible first | exact HB.out | apply below_alloc | apply pw_below_drewN | apply below_drew1) | exact HB.out))) : w.heap.size ≤ gb1340)); have n3_:=V ((by rw [hg]; exact (below_size (by repeat (first | (with_reducible first | exact HB.out | apply below_alloc | apply pw_below_drewN | apply below_drew1) | exact HB.out))) : w.heap.size ≤ gb1340)); clear HB; have HB:=n0_; have BK1340:=n1_; have GW1340:=n2_; have GE1340:=n3_; clear n0_ n1_ n2_ n3_; clear hb hbox hg; have hcz8_0 : w7.cell? ⟨gb1340,0,none⟩ = some (.int .i64 a0_0):=(blk_cell BK1340.out 0).trans rfl; have hcz8_1 : w7.cell? ⟨gb1340,1,none⟩ = some (.slice A0_1 l0_1.length c0_1):=(blk_cell BK1340.out 1).trans rfl; have hfz8_0:=blk_frozen BK1340.out 0; have hfz8_1:=blk_frozen BK1340.out 1) | ((with_reducible refine gate_callee (f:=26) rfl ?_); refine goesL_ (some 15) rfl rfl Try.func26 (by kernel_rfl) rfl #[.agg #[.int .i64 a0_0,.slice A0_1 l0_1.length c0_1],.int .i64 1048576] rfl (by (try simp only [List.map_toArray,List.map_cons,List.map_nil]); first | done | rfl | (simp only [List.length_drop,List.length_take]; rfl)) ?_; (with_reducible refine (laws_szNet.calls a0_0 _ _ l0_1 1048576 t1341 _ ?side1 ?side2 A5.out).mono ?_); (case side1 => repeat (first | exact (Kd.C_below HR0_1.out HB.out) | (with_reducible refine Kd.C_alloc ?_ _) | (with_reducible refine Kd.C_drewN ?_ _) | (with_reducible refine Kd.C_drew ?_))); (case side2 => exact HC0_1.out); rintro e w9 ⟨rfl,hb⟩; refine ⟨_,rfl,?_⟩; have n0_:=V (blk_below (g:=gb1340) (o:=.cells #[.int .i64 a0_0,.slice A0_1 l0_1.length c0_1] 43 (0,0)) (by (with_reducible repeat (first | refine blk_drewN ?_ _ | refine blk_drew ?_ | refine blk_alloc ?_ _)); exact BK1340.out) hb); have n1_:=V (below_step (by repeat (first | (with_reducible first | exact HB.out | apply below_alloc | apply pw_below_drewN | apply below_drew1 | refine below_set ?_ GE1340.out) | exact HB.out)) hb); clear BK1340; clear HB; have BK1340:=n0_; have HB:=n1_; clear n0_ n1_; (try clear hb); (try clear hb2); (try clear hk); (try clear hi)))
  go_ret;exact ⟨by first | rfl | (simp [errW_none,errW_some] <;> rfl) | (simp [*,errW_none,errW_some] <;> rfl),by repeat (first | (with_reducible first | exact HB.out | apply below_alloc | apply pw_below_drewN | apply below_drew1 | refine below_set ?_ GE1340.out) | exact HB.out)⟩
 rw [if_neg c6] at H;have c6b0 : decide (t1341 < 0) = false:=decide_eq_false c6;clear c6;replace H:=Option.bind_eq_some_iff.mp H;obtain ⟨⟨t1342,t1343⟩,A100,H⟩:=H;replace H : ((laws_toIntS.f k l1).bind fun t1346 => ((spec_TreeCost.f k t1342 t1343 t1346).bind fun t1349 => ((laws_toNet.f k a0_0 l0_1).bind fun bt1350 => ((laws_toIntS.f k l1).bind fun t1355 => ((impl_TreeCost.f k bt1350.1 bt1350.2 t1355).bind fun t1358 => (if t1358 = t1349 then ((laws_toNet.f k a0_0 l0_1).bind fun bt1359 => ((laws_eqNet.f k bt1350.1 bt1350.2 bt1359.1 bt1359.2).bind fun t1363 => (if t1363 = true then ((laws_toIntS.f k l1).bind fun t1364 => ((laws_eqIntS.f k t1355 t1364).bind fun t1367 => (if t1367 = true then (some true) else (some false)))) else (some false)))) else (some false))))))) = some r:=H;have A10:=V A100;clear A100;replace H:=Option.bind_eq_some_iff.mp H;obtain ⟨t1346,A110,H⟩:=H;replace H : ((spec_TreeCost.f k t1342 t1343 t1346).bind fun t1349 => ((laws_toNet.f k a0_0 l0_1).bind fun bt1350 => ((laws_toIntS.f k l1).bind fun t1355 => ((impl_TreeCost.f k bt1350.1 bt1350.2 t1355).bind fun t1358 => (if t1358 = t1349 then ((laws_toNet.f k a0_0 l0_1).bind fun bt1359 => ((laws_eqNet.f k bt1350.1 bt1350.2 bt1359.1 bt1359.2).bind fun t1363 => (if t1363 = true then ((laws_toIntS.f k l1).bind fun t1364 => ((laws_eqIntS.f k t1355 t1364).bind fun t1367 => (if t1367 = true then (some true) else (some false)))) else (some false)))) else (some false)))))) = some r:=H;have A11:=V A110;clear A110;replace H:=Option.bind_eq_some_iff.mp H;obtain ⟨t1349,A120,H⟩:=H;replace H : ((laws_toNet.f k a0_0 l0_1).bind fun bt1350 => ((laws_toIntS.f k l1).bind fun t1355 => ((impl_TreeCost.f k bt1350.1 bt1350.2 t1355).bind fun t1358 => (if t1358 = t1349 then ((laws_toNet.f k a0_0 l0_1).bind fun bt1359 => ((laws_eqNet.f k bt1350.1 bt1350.2 bt1359.1 bt1359.2).bind fun t1363 => (if t1363 = true then ((laws_toIntS.f k l1).bind fun t1364 => ((laws_eqIntS.f k t1355 t1364).bind fun t1367 => (if t1367 = true then (some true) else (some false)))) else (some false)))) else (some false))))) = some r:=H;have A12:=V A120;clear A120;replace H:=Option.bind_eq_some_iff.mp H;obtain ⟨⟨t1350,t1351⟩,A130,H⟩:=H;replace H : ((laws_toIntS.f k l1).bind fun t1355 => ((impl_TreeCost.f k t1350 t1351 t1355).bind fun t1358 => (if t1358 = t1349 then ((laws_toNet.f k a0_0 l0_1).bind fun bt1359 => ((laws_eqNet.f k t1350 t1351 bt1359.1 bt1359.2).bind fun t1363 => (if t1363 = true then ((laws_toIntS.f k l1).bind fun t1364 => ((laws_eqIntS.f k t1355 t1364).bind fun t1367 => (if t1367 = true then (some true) else (some false)))) else (some false)))) else (some false)))) = some r:=H;have A13:=V A130;clear A130;replace H:=Option.bind_eq_some_iff.mp H;obtain ⟨t1355,A140,H⟩:=H
 replace H : ((impl_TreeCost.f k t1350 t1351 t1355).bind fun t1358 => (if t1358 = t1349 then ((laws_toNet.f k a0_0 l0_1).bind fun bt1359 => ((laws_eqNet.f k t1350 t1351 bt1359.1 bt1359.2).bind fun t1363 => (if t1363 = true then ((laws_toIntS.f k l1).bind fun t1364 => ((laws_eqIntS.f k t1355 t1364).bind fun t1367 => (if t1367 = true then (some true) else (some false)))) else (some false)))) else (some false))) = some r:=H;have A14:=V A140;clear A140;replace H:=Option.bind_eq_some_iff.mp H;obtain ⟨t1358,A150,H⟩:=H;replace H : (if t1358 = t1349 then ((laws_toNet.f k a0_0 l0_1).bind fun bt1359 => ((laws_eqNet.f k t1350 t1351 bt1359.1 bt1359.2).bind fun t1363 => (if t1363 = true then ((laws_toIntS.f k l1).bind fun t1364 => ((laws_eqIntS.f k t1355 t1364).bind fun t1367 => (if t1367 = true then (some true) else (some false)))) else (some false)))) else (some false)) = some r:=H;have A15:=V A150;clear A150
 by_cases c16 : t1358 = t1349
 case neg =>
  rw [if_neg c16] at H;have c16b0 : (t1358 == t1349) = false:=beq_eq_false_iff_ne.mpr c16;have c16b1 : (t1358 != t1349) = true:=bne_iff_ne.mpr c16;obtain rfl:=Option.some.inj H
  go_enter Try.func14,Try.ntmps14
  go_wp2_with (first | ((with_reducible refine gate_dst (N:=2) rfl ?_); refine box_event ?hg (N:=2) ?hd (cs:=#[.int .i64 a0_0,.slice A0_1 l0_1.length c0_1]) (t:=43) ?hr ?_; (case hd => rfl); (case hg => rfl); (case hr => first | (go_simp; done) | (go_simp; rfl)); intro gb1340 hg w96 hbox hb; have n0_:=V (below_step (by repeat (first | (with_reducible first | exact HB.out | apply below_alloc | apply pw_below_drewN | apply below_drew1) | exact HB.out)) hb); have n1_:=V (hbox); have n2_:=V ((by rw [hg]; exact (below_size (by repeat (first | (with_reducible first | exact HB.out | apply below_alloc | apply pw_below_drewN | apply below_drew1) | exact HB.out))) : w.heap.size ≤ gb1340)); have n3_:=V ((by rw [hg]; exact (below_size (by repeat (first | (with_reducible first | exact HB.out | apply below_alloc | apply pw_below_drewN | apply below_drew1) | exact HB.out))) : w.heap.size ≤ gb1340)); clear HB; have HB:=n0_; have BK1340:=n1_; have GW1340:=n2_; have GE1340:=n3_; clear n0_ n1_ n2_ n3_; clear hb hbox hg; have hcz97_0 : w96.cell? ⟨gb1340,0,none⟩ = some (.int .i64 a0_0):=(blk_cell BK1340.out 0).trans rfl; have hcz97_1 : w96.cell? ⟨gb1340,1,none⟩ = some (.slice A0_1 l0_1.length c0_1):=(blk_cell BK1340.out 1).trans rfl; have hfz97_0:=blk_frozen BK1340.out 0; have hfz97_1:=blk_frozen BK1340.out 1) | ((with_reducible refine gate_callee (f:=26) rfl ?_); refine goesL_ (some 15) rfl rfl Try.func26 (by kernel_rfl) rfl #[.agg #[.int .i64 a0_0,.slice A0_1 l0_1.length c0_1],.int .i64 1048576] rfl (by (try simp only [List.map_toArray,List.map_cons,List.map_nil]); first | done | rfl | (simp only [List.length_drop,List.length_take]; rfl)) ?_; (with_reducible refine (laws_szNet.calls a0_0 _ _ l0_1 1048576 t1341 _ ?side1 ?side2 A5.out).mono ?_); (case side1 => repeat (first | exact (Kd.C_below HR0_1.out HB.out) | (with_reducible refine Kd.C_alloc ?_ _) | (with_reducible refine Kd.C_drewN ?_ _) | (with_reducible refine Kd.C_drew ?_))); (case side2 => exact HC0_1.out); rintro e w98 ⟨rfl,hb⟩; refine ⟨_,rfl,?_⟩; have n0_:=V (blk_below (g:=gb1340) (o:=.cells #[.int .i64 a0_0,.slice A0_1 l0_1.length c0_1] 43 (0,0)) (by (with_reducible repeat (first | refine blk_drewN ?_ _ | refine blk_drew ?_ | refine blk_alloc ?_ _)); exact BK1340.out) hb); have n1_:=V (below_step (by repeat (first | (with_reducible first | exact HB.out | apply below_alloc | apply pw_below_drewN | apply below_drew1 | refine below_set ?_ GE1340.out) | exact HB.out)) hb); clear BK1340; clear HB; have BK1340:=n0_; have HB:=n1_; clear n0_ n1_; (try clear hb); (try clear hb2); (try clear hk); (try clear hi); have hcz99_0 : w98.cell? ⟨gb1340,0,none⟩ = some (.int .i64 a0_0):=(blk_cell BK1340.out 0).trans rfl; have hcz99_1 : w98.cell? ⟨gb1340,1,none⟩ = some (.slice A0_1 l0_1.length c0_1):=(blk_cell BK1340.out 1).trans rfl; have hfz99_0:=blk_frozen BK1340.out 0; have hfz99_1:=blk_frozen BK1340.out 1) | ((with_reducible refine gate_callee (f:=28) rfl ?_); refine goesL_ (some 19) rfl rfl Try.func28 (by kernel_rfl) rfl #[.agg #[.int .i64 a0_0,.slice A0_1 l0_1.length c0_1]] rfl (by (try simp only [List.map_toArray,List.map_cons,List.map_nil]); first | done | rfl | (simp only [List.length_drop,List.length_take]; rfl)) ?_; (with_reducible refine (laws_toNet.calls k a0_0 _ _ l0_1 t1342 t1343 _ ?side1 ?side2 A10.out).mono ?_); (case side1 => repeat (first | exact (Kd.C_below HR0_1.out HB.out) | (with_reducible refine Kd.C_alloc ?_ _) | (with_reducible refine Kd.C_drewN ?_ _) | (with_reducible refine Kd.C_drew ?_))); (case side2 => exact HC0_1.out); rintro e w100 ⟨v1344,rfl,ho0,hb⟩; refine ⟨_,rfl,?_⟩; have n0_:=V (Kd.R_lower ho0 (below_size (by repeat (first | (with_reducible first | exact HB.out | apply below_alloc | apply pw_below_drewN | apply below_drew1 | refine below_set ?_ GE1340.out) | exact HB.out)))); have n1_:=V (blk_below (g:=gb1340) (o:=.cells #[.int .i64 a0_0,.slice A0_1 l0_1.length c0_1] 43 (0,0)) (by (with_reducible repeat (first | refine blk_drewN ?_ _ | refine blk_drew ?_ | refine blk_alloc ?_ _)); exact BK1340.out) hb); have n2_:=V (below_step (by repeat (first | (with_reducible first | exact HB.out | apply below_alloc | apply pw_below_drewN | apply below_drew1 | refine below_set ?_ GE1340.out) | exact HB.out)) hb); clear BK1340; clear HB; have HO1345:=n0_; have BK1340:=n1_; have HB:=n2_; clear n0_ n1_ n2_; (try clear hb); (try clear hb2); (try clear hk); (try clear hi); (try clear ho0)) | ((with_reducible refine gate_callee (f:=29) rfl ?_); refine goesL_ (some 21) rfl rfl Try.func29 (by kernel_rfl) rfl #[.slice A1 l1.length c1] rfl (by (try simp only [List.map_toArray,List.map_cons,List.map_nil]); first | done | rfl | (simp only [List.length_drop,List.length_take]; rfl)) ?_; (with_reducible refine (laws_toIntS.calls k _ _ l1 t1346 _ ?side1 ?side2 A11.out).mono ?_); (case side1 => repeat (first | exact (Kd.C_below HR1.out HB.out) | (with_reducible refine Kd.C_alloc ?_ _) | (with_reducible refine Kd.C_drewN ?_ _) | (with_reducible refine Kd.C_drew ?_))); (case side2 => exact HC1.out); rintro e w101 ⟨v1347,rfl,ho0,hb⟩; refine ⟨_,rfl,?_⟩; have n0_:=V (Kd.R_below (by (with_reducible repeat (first | apply Kd.R_alloc | apply Kd.R_drewN | apply Kd.R_drew)); exact HO1345.out) hb); have n1_:=V (Kd.R_lower ho0 (below_size (by repeat (first | (with_reducible first | exact HB.out | apply below_alloc | apply pw_below_drewN | apply below_drew1 | refine below_set ?_ GE1340.out) | exact HB.out)))); have n2_:=V (blk_below (g:=gb1340) (o:=.cells #[.int .i64 a0_0,.slice A0_1 l0_1.length c0_1] 43 (0,0)) (by (with_reducible repeat (first | refine blk_drewN ?_ _ | refine blk_drew ?_ | refine blk_alloc ?_ _)); exact BK1340.out) hb); have n3_:=V (below_step (by repeat (first | (with_reducible first | exact HB.out | apply below_alloc | apply pw_below_drewN | apply below_drew1 | refine below_set ?_ GE1340.out) | exact HB.out)) hb); clear HO1345; clear BK1340; clear HB; have HO1345:=n0_; have HO1348:=n1_; have BK1340:=n2_; have HB:=n3_; clear n0_ n1_ n2_ n3_; (try clear hb); (try clear hb2); (try clear hk); (try clear hi); (try clear ho0); obtain ⟨Ao102,co102,eo102⟩:=Kd.R_slice HO1345.out; subst eo102; obtain ⟨Ao103,co103,eo103⟩:=Kd.R_slice HO1348.out; subst eo103) | ((with_reducible refine gate_callee (f:=61) rfl ?_); refine goesL_ (some 22) rfl rfl Try.func61 (by kernel_rfl) rfl #[.agg #[.int .i64 t1342,.slice Ao102 t1343.length co102],.slice Ao103 t1346.length co103] rfl (by (try simp only [List.map_toArray,List.map_cons,List.map_nil]); first | done | rfl | (simp only [List.length_drop,List.length_take]; rfl)) ?_; (with_reducible refine (spec_TreeCost.calls k t1342 _ _ t1343 _ _ t1346 t1349 _ ?side1 ?side2 ?side3 ?side4 A12.out).mono ?_); (case side1 => repeat (first | exact (Kd.R_reads' HO1345.out).2.2 | (with_reducible refine Kd.C_alloc ?_ _) | (with_reducible refine Kd.C_drewN ?_ _) | (with_reducible refine Kd.C_drew ?_))); (case side2 => exact (Kd.R_reads' HO1345.out).2.1); (case side3 => repeat (first | exact (Kd.R_reads' HO1348.out).2.2 | (with_reducible refine Kd.C_alloc ?_ _) | (with_reducible refine Kd.C_drewN ?_ _) | (with_reducible refine Kd.C_drew ?_))); (case side4 => exact (Kd.R_reads' HO1348.out).2.1); rintro e w104 ⟨rfl,hb⟩; refine ⟨_,rfl,?_⟩; have n0_:=V (Kd.R_below (by (with_reducible repeat (first | apply Kd.R_alloc | apply Kd.R_drewN | apply Kd.R_drew)); exact HO1345.out) hb); have n1_:=V (Kd.R_below (by (with_reducible repeat (first | apply Kd.R_alloc | apply Kd.R_drewN | apply Kd.R_drew)); exact HO1348.out) hb); have n2_:=V (blk_below (g:=gb1340) (o:=.cells #[.int .i64 a0_0,.slice A0_1 l0_1.length c0_1] 43 (0,0)) (by (with_reducible repeat (first | refine blk_drewN ?_ _ | refine blk_drew ?_ | refine blk_alloc ?_ _)); exact BK1340.out) hb); have n3_:=V (below_step (by repeat (first | (with_reducible first | exact HB.out | apply below_alloc | apply pw_below_drewN | apply below_drew1 | refine below_set ?_ GE1340.out) | exact HB.out)) hb); clear HO1345; clear HO1348; clear BK1340; clear HB; have HO1345:=n0_; have HO1348:=n1_; have BK1340:=n2_; have HB:=n3_; clear n0_ n1_ n2_ n3_; (try clear hb); (try clear hb2); (try clear hk); (try clear hi); have hcz105_0 : w104.cell? ⟨gb1340,0,none⟩ = some (.int .i64 a0_0):=(blk_cell BK1340.out 0).trans rfl; have hcz105_1 : w104.cell? ⟨gb1340,1,none⟩ = some (.slice A0_1 l0_1.length c0_1):=(blk_cell BK1340.out 1).trans rfl; have hfz105_0:=blk_frozen BK1340.out 0; have hfz105_1:=blk_frozen BK1340.out 1) | ((with_reducible refine gate_callee (f:=28) rfl ?_); refine goesL_ (some 24) rfl rfl Try.func28 (by kernel_rfl) rfl #[.agg #[.int .i64 a0_0,.slice A0_1 l0_1.length c0_1]] rfl (by (try simp only [List.map_toArray,List.map_cons,List.map_nil]); first | done | rfl | (simp only [List.length_drop,List.length_take]; rfl)) ?_; (with_reducible refine (laws_toNet.calls k a0_0 _ _ l0_1 t1350 t1351 _ ?side1 ?side2 A13.out).mono ?_); (case side1 => repeat (first | exact (Kd.C_below HR0_1.out HB.out) | (with_reducible refine Kd.C_alloc ?_ _) | (with_reducible refine Kd.C_drewN ?_ _) | (with_reducible refine Kd.C_drew ?_))); (case side2 => exact HC0_1.out); rintro e w106 ⟨v1352,rfl,ho0,hb⟩; refine ⟨_,rfl,?_⟩; have n0_:=V (Kd.R_elder' (by (with_reducible repeat (first | apply Kd.R_alloc | apply Kd.R_drewN | apply Kd.R_drew)); exact HO1345.out) (Kd.R_base ho0) hb); have n1_:=V (Kd.R_below (by (with_reducible repeat (first | apply Kd.R_alloc | apply Kd.R_drewN | apply Kd.R_drew)); exact HO1348.out) hb); have n2_:=V (Kd.R_lower (Kd.R_new' ho0 (Kd.R_lt (by (with_reducible repeat (first | apply Kd.R_alloc | apply Kd.R_drewN | apply Kd.R_drew)); exact HO1345.out))) (below_size (by repeat (first | (with_reducible first | exact HB.out | apply below_alloc | apply pw_below_drewN | apply below_drew1 | refine below_set ?_ GE1340.out) | exact HB.out)))); have n3_:=V (blk_below (g:=gb1340) (o:=.cells #[.int .i64 a0_0,.slice A0_1 l0_1.length c0_1] 43 (0,0)) (by (with_reducible repeat (first | refine blk_drewN ?_ _ | refine blk_drew ?_ | refine blk_alloc ?_ _)); exact BK1340.out) hb); have n4_:=V (below_step (by repeat (first | (with_reducible first | exact HB.out | apply below_alloc | apply pw_below_drewN | apply below_drew1 | refine below_set ?_ GE1340.out) | exact HB.out)) hb); clear HO1345; clear HO1348; clear BK1340; clear HB; have HO1345:=n0_; have HO1348:=n1_; have HO1353:=n2_; have BK1340:=n3_; have HB:=n4_; clear n0_ n1_ n2_ n3_ n4_; (try clear hb); (try clear hb2); (try clear hk); (try clear hi); (try clear ho0)) | ((with_reducible refine gate_dst (N:=7) rfl ?_); refine box_event ?hg (N:=7) ?hd (cs:=#[.int .i64 0,.slice none 0 0]) (t:=34) ?hr ?_; (case hd => rfl); (case hg => rfl); (case hr => first | (go_simp; done) | (go_simp; rfl)); intro gb1354 hg w107 hbox hb; have n0_:=V (Kd.R_below (by (with_reducible repeat (first | apply Kd.R_alloc | apply Kd.R_drewN | apply Kd.R_drew)); exact HO1345.out) hb); have n1_:=V (Kd.R_below (by (with_reducible repeat (first | apply Kd.R_alloc | apply Kd.R_drewN | apply Kd.R_drew)); exact HO1348.out) hb); have n2_:=V (Kd.R_below (by (with_reducible repeat (first | apply Kd.R_alloc | apply Kd.R_drewN | apply Kd.R_drew)); exact HO1353.out) hb); have n3_:=V (blk_below (g:=gb1340) (o:=.cells #[.int .i64 a0_0,.slice A0_1 l0_1.length c0_1] 43 (0,0)) (by (with_reducible repeat (first | refine blk_drewN ?_ _ | refine blk_drew ?_ | refine blk_alloc ?_ _)); exact BK1340.out) hb); have n4_:=V (below_step (by repeat (first | (with_reducible first | exact HB.out | apply below_alloc | apply pw_below_drewN | apply below_drew1 | refine below_set ?_ GE1340.out) | exact HB.out)) hb); have n5_:=V (hbox); have n6_:=V ((by rw [hg]; exact (below_size (by repeat (first | (with_reducible first | exact HB.out | apply below_alloc | apply pw_below_drewN | apply below_drew1 | refine below_set ?_ GE1340.out) | exact HB.out))) : w.heap.size ≤ gb1354)); have n7_:=V ((by rw [hg]; exact (below_size (by repeat (first | (with_reducible first | exact HB.out | apply below_alloc | apply pw_below_drewN | apply below_drew1 | refine below_set ?_ GE1340.out) | exact HB.out))) : w.heap.size ≤ gb1354)); have n8_:=V ((by rw [hg]; exact Nat.ne_of_lt (blk_lt (g:=gb1340) (o:=.cells #[.int .i64 a0_0,.slice A0_1 l0_1.length c0_1] 43 (0,0)) (by (with_reducible repeat (first | refine blk_drewN ?_ _ | refine blk_drew ?_ | refine blk_alloc ?_ _)); exact BK1340.out)) : gb1340 ≠ gb1354)); have n9_:=V ((by rw [hg]; exact Nat.ne_of_gt (blk_lt (g:=gb1340) (o:=.cells #[.int .i64 a0_0,.slice A0_1 l0_1.length c0_1] 43 (0,0)) (by (with_reducible repeat (first | refine blk_drewN ?_ _ | refine blk_drew ?_ | refine blk_alloc ?_ _)); exact BK1340.out)) : gb1354 ≠ gb1340)); clear HO1345; clear HO1348; clear HO1353; clear BK1340; clear HB; have HO1345:=n0_; have HO1348:=n1_; have HO1353:=n2_; have BK1340:=n3_; have HB:=n4_; have BK1354:=n5_; have GW1354:=n6_; have GE1354:=n7_; have NB1340_1354:=n8_; have NB1354_1340:=n9_; clear n0_ n1_ n2_ n3_ n4_ n5_ n6_ n7_ n8_ n9_; clear hb hbox hg; have hnb108:=NB1354_1340.out; have hnc108:=NB1340_1354.out; have hcz109_0 : w107.cell? ⟨gb1354,0,none⟩ = some (.int .i64 0):=(blk_cell BK1354.out 0).trans rfl; have hcz109_1 : w107.cell? ⟨gb1354,1,none⟩ = some (.slice none 0 0):=(blk_cell BK1354.out 1).trans rfl; have hfz109_0:=blk_frozen BK1354.out 0; have hfz109_1:=blk_frozen BK1354.out 1; obtain ⟨Ao110,co110,eo110⟩:=Kd.R_slice HO1353.out; subst eo110) | ((with_reducible refine gate_callee (f:=29) rfl ?_); refine goesL_ (some 26) rfl rfl Try.func29 (by kernel_rfl) rfl #[.slice A1 l1.length c1] rfl (by (try simp only [List.map_toArray,List.map_cons,List.map_nil]); first | done | rfl | (simp only [List.length_drop,List.length_take]; rfl)) ?_; (with_reducible refine (laws_toIntS.calls k _ _ l1 t1355 _ ?side1 ?side2 A14.out).mono ?_); (case side1 => exact Kd.C_below HR1.out (by repeat (first | (with_reducible first | exact HB.out | apply below_alloc | apply pw_below_drewN | apply below_drew1 | refine below_set ?_ GE1340.out | refine below_set ?_ GE1354.out) | exact HB.out))); (case side2 => exact HC1.out); rintro e w111 ⟨v1356,rfl,ho0,hb⟩; refine ⟨_,rfl,?_⟩; have n0_:=V (Kd.R_below (by (with_reducible repeat (first | apply Kd.R_alloc | apply Kd.R_drewN | apply Kd.R_drew)); exact (Kd.R_mono (Kd.R_far (p:=⟨gb1354,1,none⟩) (Kd.R_far (p:=⟨gb1354,0,none⟩) (Kd.R_types HO1345.out BK1354.out (by decide)) (fun _ hk => hk.2) (.int .i64 t1350)) (fun _ hk => hk.2) (.slice Ao110 t1351.length co110)) (fun _ h_ => h_.1))) hb); have n1_:=V (Kd.R_elder' (by (with_reducible repeat (first | apply Kd.R_alloc | apply Kd.R_drewN | apply Kd.R_drew)); exact (Kd.R_mono (Kd.R_far (p:=⟨gb1354,1,none⟩) (Kd.R_far (p:=⟨gb1354,0,none⟩) (Kd.R_types HO1348.out BK1354.out (by decide)) (fun _ hk => hk.2) (.int .i64 t1350)) (fun _ hk => hk.2) (.slice Ao110 t1351.length co110)) (fun _ h_ => h_.1))) (Kd.R_base ho0) hb); have n2_:=V (Kd.R_below (by (with_reducible repeat (first | apply Kd.R_alloc | apply Kd.R_drewN | apply Kd.R_drew)); exact (Kd.R_mono (Kd.R_far (p:=⟨gb1354,1,none⟩) (Kd.R_far (p:=⟨gb1354,0,none⟩) (Kd.R_types HO1353.out BK1354.out (by decide)) (fun _ hk => hk.2) (.int .i64 t1350)) (fun _ hk => hk.2) (.slice Ao110 t1351.length co110)) (fun _ h_ => h_.1))) hb); have n3_:=V (Kd.R_lower (Kd.R_new' ho0 (Kd.R_lt (by (with_reducible repeat (first | apply Kd.R_alloc | apply Kd.R_drewN | apply Kd.R_drew)); exact (Kd.R_mono (Kd.R_far (p:=⟨gb1354,1,none⟩) (Kd.R_far (p:=⟨gb1354,0,none⟩) (Kd.R_types HO1348.out BK1354.out (by decide)) (fun _ hk => hk.2) (.int .i64 t1350)) (fun _ hk => hk.2) (.slice Ao110 t1351.length co110)) (fun _ h_ => h_.1))))) (below_size (by repeat (first | (with_reducible first | exact HB.out | apply below_alloc | apply pw_below_drewN | apply below_drew1 | refine below_set ?_ GE1340.out | refine below_set ?_ GE1354.out) | exact HB.out)))); have n4_:=V (blk_below (g:=gb1340) (o:=.cells #[.int .i64 a0_0,.slice A0_1 l0_1.length c0_1] 43 (0,0)) (by (with_reducible repeat (first | refine blk_drewN ?_ _ | refine blk_drew ?_ | refine blk_alloc ?_ _)); refine blk_far ?_ NB1340_1354.out _; (with_reducible repeat (first | refine blk_drewN ?_ _ | refine blk_drew ?_ | refine blk_alloc ?_ _)); refine blk_far ?_ NB1340_1354.out _; (with_reducible repeat (first | refine blk_drewN ?_ _ | refine blk_drew ?_ | refine blk_alloc ?_ _)); exact BK1340.out) hb); have n5_:=V (blk_below (g:=gb1354) (o:=.cells #[.int .i64 t1350,.slice Ao110 t1351.length co110] 34 (0,0)) (by (with_reducible repeat (first | refine blk_drewN ?_ _ | refine blk_drew ?_ | refine blk_alloc ?_ _)); refine blk_put (cs:=#[.int .i64 t1350,.slice none 0 0]) ?_ 1 _ rfl; (with_reducible repeat (first | refine blk_drewN ?_ _ | refine blk_drew ?_ | refine blk_alloc ?_ _)); refine blk_put (cs:=#[.int .i64 0,.slice none 0 0]) ?_ 0 _ rfl; (with_reducible repeat (first | refine blk_drewN ?_ _ | refine blk_drew ?_ | refine blk_alloc ?_ _)); exact BK1354.out) hb); have n6_:=V (below_step (by repeat (first | (with_reducible first | exact HB.out | apply below_alloc | apply pw_below_drewN | apply below_drew1 | refine below_set ?_ GE1340.out | refine below_set ?_ GE1354.out) | exact HB.out)) hb); clear HO1345; clear HO1348; clear HO1353; clear BK1340; clear BK1354; clear HB; have HO1345:=n0_; have HO1348:=n1_; have HO1353:=n2_; have HO1357:=n3_; have BK1340:=n4_; have BK1354:=n5_; have HB:=n6_; clear n0_ n1_ n2_ n3_ n4_ n5_ n6_; (try clear hb); (try clear hb2); (try clear hk); (try clear hi); (try clear ho0); have hcz112_0 : w111.cell? ⟨gb1354,0,none⟩ = some (.int .i64 t1350):=(blk_cell BK1354.out 0).trans rfl; have hcz112_1 : w111.cell? ⟨gb1354,1,none⟩ = some (.slice Ao110 t1351.length co110):=(blk_cell BK1354.out 1).trans rfl; have hfz112_0:=blk_frozen BK1354.out 0; have hfz112_1:=blk_frozen BK1354.out 1; obtain ⟨Ao113,co113,eo113⟩:=Kd.R_slice HO1357.out; subst eo113) | ((with_reducible refine gate_callee (f:=60) rfl ?_); refine goesL_ (some 29) rfl rfl Try.func60 (by kernel_rfl) rfl #[.agg #[.int .i64 t1350,.slice Ao110 t1351.length co110],.slice Ao113 t1355.length co113] rfl (by (try simp only [List.map_toArray,List.map_cons,List.map_nil]); first | done | rfl | (simp only [List.length_drop,List.length_take]; rfl)) ?_; (with_reducible refine (impl_TreeCost.calls k t1350 _ _ t1351 _ _ t1355 t1358 _ ?side1 ?side2 ?side3 ?side4 A15.out).mono ?_); (case side1 => repeat (first | exact (Kd.R_reads' HO1353.out).2.2 | (with_reducible refine Kd.C_alloc ?_ _) | (with_reducible refine Kd.C_drewN ?_ _) | (with_reducible refine Kd.C_drew ?_))); (case side2 => exact (Kd.R_reads' HO1353.out).2.1); (case side3 => repeat (first | exact (Kd.R_reads' HO1357.out).2.2 | (with_reducible refine Kd.C_alloc ?_ _) | (with_reducible refine Kd.C_drewN ?_ _) | (with_reducible refine Kd.C_drew ?_))); (case side4 => exact (Kd.R_reads' HO1357.out).2.1); rintro e w114 ⟨rfl,hb⟩; refine ⟨_,rfl,?_⟩; have n0_:=V (Kd.R_below (by (with_reducible repeat (first | apply Kd.R_alloc | apply Kd.R_drewN | apply Kd.R_drew)); exact HO1345.out) hb); have n1_:=V (Kd.R_below (by (with_reducible repeat (first | apply Kd.R_alloc | apply Kd.R_drewN | apply Kd.R_drew)); exact HO1348.out) hb); have n2_:=V (Kd.R_below (by (with_reducible repeat (first | apply Kd.R_alloc | apply Kd.R_drewN | apply Kd.R_drew)); exact HO1353.out) hb); have n3_:=V (Kd.R_below (by (with_reducible repeat (first | apply Kd.R_alloc | apply Kd.R_drewN | apply Kd.R_drew)); exact HO1357.out) hb); have n4_:=V (blk_below (g:=gb1340) (o:=.cells #[.int .i64 a0_0,.slice A0_1 l0_1.length c0_1] 43 (0,0)) (by (with_reducible repeat (first | refine blk_drewN ?_ _ | refine blk_drew ?_ | refine blk_alloc ?_ _)); exact BK1340.out) hb); have n5_:=V (blk_below (g:=gb1354) (o:=.cells #[.int .i64 t1350,.slice Ao110 t1351.length co110] 34 (0,0)) (by (with_reducible repeat (first | refine blk_drewN ?_ _ | refine blk_drew ?_ | refine blk_alloc ?_ _)); exact BK1354.out) hb); have n6_:=V (below_step (by repeat (first | (with_reducible first | exact HB.out | apply below_alloc | apply pw_below_drewN | apply below_drew1 | refine below_set ?_ GE1340.out | refine below_set ?_ GE1354.out) | exact HB.out)) hb); clear HO1345; clear HO1348; clear HO1353; clear HO1357; clear BK1340; clear BK1354; clear HB; have HO1345:=n0_; have HO1348:=n1_; have HO1353:=n2_; have HO1357:=n3_; have BK1340:=n4_; have BK1354:=n5_; have HB:=n6_; clear n0_ n1_ n2_ n3_ n4_ n5_ n6_; (try clear hb); (try clear hb2); (try clear hk); (try clear hi)))
  go_ret;exact ⟨by first | rfl | (simp [errW_none,errW_some] <;> rfl) | (simp [*,errW_none,errW_some] <;> rfl),by repeat (first | (with_reducible first | exact HB.out | apply below_alloc | apply pw_below_drewN | apply below_drew1 | refine below_set ?_ GE1340.out | refine below_set ?_ GE1354.out) | exact HB.out)⟩
 rw [if_pos c16] at H;have c16b0 : (t1358 == t1349) = true:=beq_iff_eq.mpr c16;have c16b1 : (t1358 != t1349) = false:=bne_eq_false_iff_eq.mpr c16;clear c16;replace H:=Option.bind_eq_some_iff.mp H;obtain ⟨⟨t1359,t1360⟩,A170,H⟩:=H;replace H : ((laws_eqNet.f k t1350 t1351 t1359 t1360).bind fun t1363 => (if t1363 = true then ((laws_toIntS.f k l1).bind fun t1364 => ((laws_eqIntS.f k t1355 t1364).bind fun t1367 => (if t1367 = true then (some true) else (some false)))) else (some false))) = some r:=H;have A17:=V A170;clear A170;replace H:=Option.bind_eq_some_iff.mp H;obtain ⟨t1363,A180,H⟩:=H;replace H : (if t1363 = true then ((laws_toIntS.f k l1).bind fun t1364 => ((laws_eqIntS.f k t1355 t1364).bind fun t1367 => (if t1367 = true then (some true) else (some false)))) else (some false)) = some r:=H;have A18:=V A180;clear A180
 by_cases c19 : t1363 = true
 case neg =>
  replace c19:=Bool.eq_false_iff.mpr c19;subst c19;have H1 : (some false) = some r:=by rw [if_neg (show ¬ (false = true) by decide)] at H; exact H
  exact absurd ((Option.some.inj H1).trans HRT_.out) (by decide)
 subst c19;have H1 : ((laws_toIntS.f k l1).bind fun t1364 => ((laws_eqIntS.f k t1355 t1364).bind fun t1367 => (if t1367 = true then (some true) else (some false)))) = some r:=by rw [if_pos rfl] at H; exact H
 clear H;have H:=H1;clear H1;replace H:=Option.bind_eq_some_iff.mp H;obtain ⟨t1364,A200,H⟩:=H;replace H : ((laws_eqIntS.f k t1355 t1364).bind fun t1367 => (if t1367 = true then (some true) else (some false))) = some r:=H;have A20:=V A200;clear A200;replace H:=Option.bind_eq_some_iff.mp H;obtain ⟨t1367,A210,H⟩:=H;replace H : (if t1367 = true then (some true) else (some false)) = some r:=H;have A21:=V A210;clear A210
 by_cases c22 : t1367 = true
 case neg =>
  replace c22:=Bool.eq_false_iff.mpr c22;subst c22;have H1 : (some false) = some r:=by rw [if_neg (show ¬ (false = true) by decide)] at H; exact H
  exact absurd ((Option.some.inj H1).trans HRT_.out) (by decide)
 subst c22;have H1 : (some true) = some r:=by rw [if_pos rfl] at H; exact H
 clear H;have H:=H1;clear H1;obtain rfl:=Option.some.inj H
 go_enter Try.func14,Try.ntmps14
 try go_wp2_with (first | ((with_reducible refine gate_dst (N:=2) rfl ?_); refine box_event ?hg (N:=2) ?hd (cs:=#[.int .i64 a0_0,.slice A0_1 l0_1.length c0_1]) (t:=43) ?hr ?_; (case hd => rfl); (case hg => rfl); (case hr => first | (go_simp; done) | (go_simp; rfl)); intro gb1340 hg w23 hbox hb; have n0_:=V (below_step (by repeat (first | (with_reducible first | exact HB.out | apply below_alloc | apply pw_below_drewN | apply below_drew1) | exact HB.out)) hb); have n1_:=V (hbox); have n2_:=V ((by rw [hg]; exact (below_size (by repeat (first | (with_reducible first | exact HB.out | apply below_alloc | apply pw_below_drewN | apply below_drew1) | exact HB.out))) : w.heap.size ≤ gb1340)); have n3_:=V ((by rw [hg]; exact (below_size (by repeat (first | (with_reducible first | exact HB.out | apply below_alloc | apply pw_below_drewN | apply below_drew1) | exact HB.out))) : w.heap.size ≤ gb1340)); clear HB; have HB:=n0_; have BK1340:=n1_; have GW1340:=n2_; have GE1340:=n3_; clear n0_ n1_ n2_ n3_; clear hb hbox hg; have hcz24_0 : w23.cell? ⟨gb1340,0,none⟩ = some (.int .i64 a0_0):=(blk_cell BK1340.out 0).trans rfl; have hcz24_1 : w23.cell? ⟨gb1340,1,none⟩ = some (.slice A0_1 l0_1.length c0_1):=(blk_cell BK1340.out 1).trans rfl; have hfz24_0:=blk_frozen BK1340.out 0; have hfz24_1:=blk_frozen BK1340.out 1) | ((with_reducible refine gate_callee (f:=26) rfl ?_); refine goesL_ (some 15) rfl rfl Try.func26 (by kernel_rfl) rfl #[.agg #[.int .i64 a0_0,.slice A0_1 l0_1.length c0_1],.int .i64 1048576] rfl (by (try simp only [List.map_toArray,List.map_cons,List.map_nil]); first | done | rfl | (simp only [List.length_drop,List.length_take]; rfl)) ?_; (with_reducible refine (laws_szNet.calls a0_0 _ _ l0_1 1048576 t1341 _ ?side1 ?side2 A5.out).mono ?_); (case side1 => repeat (first | exact (Kd.C_below HR0_1.out HB.out) | (with_reducible refine Kd.C_alloc ?_ _) | (with_reducible refine Kd.C_drewN ?_ _) | (with_reducible refine Kd.C_drew ?_))); (case side2 => exact HC0_1.out); rintro e w25 ⟨rfl,hb⟩; refine ⟨_,rfl,?_⟩; have n0_:=V (blk_below (g:=gb1340) (o:=.cells #[.int .i64 a0_0,.slice A0_1 l0_1.length c0_1] 43 (0,0)) (by (with_reducible repeat (first | refine blk_drewN ?_ _ | refine blk_drew ?_ | refine blk_alloc ?_ _)); exact BK1340.out) hb); have n1_:=V (below_step (by repeat (first | (with_reducible first | exact HB.out | apply below_alloc | apply pw_below_drewN | apply below_drew1 | refine below_set ?_ GE1340.out) | exact HB.out)) hb); clear BK1340; clear HB; have BK1340:=n0_; have HB:=n1_; clear n0_ n1_; (try clear hb); (try clear hb2); (try clear hk); (try clear hi); have hcz26_0 : w25.cell? ⟨gb1340,0,none⟩ = some (.int .i64 a0_0):=(blk_cell BK1340.out 0).trans rfl; have hcz26_1 : w25.cell? ⟨gb1340,1,none⟩ = some (.slice A0_1 l0_1.length c0_1):=(blk_cell BK1340.out 1).trans rfl; have hfz26_0:=blk_frozen BK1340.out 0; have hfz26_1:=blk_frozen BK1340.out 1) | ((with_reducible refine gate_callee (f:=28) rfl ?_); refine goesL_ (some 19) rfl rfl Try.func28 (by kernel_rfl) rfl #[.agg #[.int .i64 a0_0,.slice A0_1 l0_1.length c0_1]] rfl (by (try simp only [List.map_toArray,List.map_cons,List.map_nil]); first | done | rfl | (simp only [List.length_drop,List.length_take]; rfl)) ?_; (with_reducible refine (laws_toNet.calls k a0_0 _ _ l0_1 t1342 t1343 _ ?side1 ?side2 A10.out).mono ?_); (case side1 => repeat (first | exact (Kd.C_below HR0_1.out HB.out) | (with_reducible refine Kd.C_alloc ?_ _) | (with_reducible refine Kd.C_drewN ?_ _) | (with_reducible refine Kd.C_drew ?_))); (case side2 => exact HC0_1.out); rintro e w27 ⟨v1344,rfl,ho0,hb⟩; refine ⟨_,rfl,?_⟩; have n0_:=V (Kd.R_lower ho0 (below_size (by repeat (first | (with_reducible first | exact HB.out | apply below_alloc | apply pw_below_drewN | apply below_drew1 | refine below_set ?_ GE1340.out) | exact HB.out)))); have n1_:=V (blk_below (g:=gb1340) (o:=.cells #[.int .i64 a0_0,.slice A0_1 l0_1.length c0_1] 43 (0,0)) (by (with_reducible repeat (first | refine blk_drewN ?_ _ | refine blk_drew ?_ | refine blk_alloc ?_ _)); exact BK1340.out) hb); have n2_:=V (below_step (by repeat (first | (with_reducible first | exact HB.out | apply below_alloc | apply pw_below_drewN | apply below_drew1 | refine below_set ?_ GE1340.out) | exact HB.out)) hb); clear BK1340; clear HB; have HO1345:=n0_; have BK1340:=n1_; have HB:=n2_; clear n0_ n1_ n2_; (try clear hb); (try clear hb2); (try clear hk); (try clear hi); (try clear ho0)) | ((with_reducible refine gate_callee (f:=29) rfl ?_); refine goesL_ (some 21) rfl rfl Try.func29 (by kernel_rfl) rfl #[.slice A1 l1.length c1] rfl (by (try simp only [List.map_toArray,List.map_cons,List.map_nil]); first | done | rfl | (simp only [List.length_drop,List.length_take]; rfl)) ?_; (with_reducible refine (laws_toIntS.calls k _ _ l1 t1346 _ ?side1 ?side2 A11.out).mono ?_); (case side1 => repeat (first | exact (Kd.C_below HR1.out HB.out) | (with_reducible refine Kd.C_alloc ?_ _) | (with_reducible refine Kd.C_drewN ?_ _) | (with_reducible refine Kd.C_drew ?_))); (case side2 => exact HC1.out); rintro e w28 ⟨v1347,rfl,ho0,hb⟩; refine ⟨_,rfl,?_⟩; have n0_:=V (Kd.R_below (by (with_reducible repeat (first | apply Kd.R_alloc | apply Kd.R_drewN | apply Kd.R_drew)); exact HO1345.out) hb); have n1_:=V (Kd.R_lower ho0 (below_size (by repeat (first | (with_reducible first | exact HB.out | apply below_alloc | apply pw_below_drewN | apply below_drew1 | refine below_set ?_ GE1340.out) | exact HB.out)))); have n2_:=V (blk_below (g:=gb1340) (o:=.cells #[.int .i64 a0_0,.slice A0_1 l0_1.length c0_1] 43 (0,0)) (by (with_reducible repeat (first | refine blk_drewN ?_ _ | refine blk_drew ?_ | refine blk_alloc ?_ _)); exact BK1340.out) hb); have n3_:=V (below_step (by repeat (first | (with_reducible first | exact HB.out | apply below_alloc | apply pw_below_drewN | apply below_drew1 | refine below_set ?_ GE1340.out) | exact HB.out)) hb); clear HO1345; clear BK1340; clear HB; have HO1345:=n0_; have HO1348:=n1_; have BK1340:=n2_; have HB:=n3_; clear n0_ n1_ n2_ n3_; (try clear hb); (try clear hb2); (try clear hk); (try clear hi); (try clear ho0); obtain ⟨Ao29,co29,eo29⟩:=Kd.R_slice HO1345.out; subst eo29; obtain ⟨Ao30,co30,eo30⟩:=Kd.R_slice HO1348.out; subst eo30) | ((with_reducible refine gate_callee (f:=61) rfl ?_); refine goesL_ (some 22) rfl rfl Try.func61 (by kernel_rfl) rfl #[.agg #[.int .i64 t1342,.slice Ao29 t1343.length co29],.slice Ao30 t1346.length co30] rfl (by (try simp only [List.map_toArray,List.map_cons,List.map_nil]); first | done | rfl | (simp only [List.length_drop,List.length_take]; rfl)) ?_; (with_reducible refine (spec_TreeCost.calls k t1342 _ _ t1343 _ _ t1346 t1349 _ ?side1 ?side2 ?side3 ?side4 A12.out).mono ?_); (case side1 => repeat (first | exact (Kd.R_reads' HO1345.out).2.2 | (with_reducible refine Kd.C_alloc ?_ _) | (with_reducible refine Kd.C_drewN ?_ _) | (with_reducible refine Kd.C_drew ?_))); (case side2 => exact (Kd.R_reads' HO1345.out).2.1); (case side3 => repeat (first | exact (Kd.R_reads' HO1348.out).2.2 | (with_reducible refine Kd.C_alloc ?_ _) | (with_reducible refine Kd.C_drewN ?_ _) | (with_reducible refine Kd.C_drew ?_))); (case side4 => exact (Kd.R_reads' HO1348.out).2.1); rintro e w31 ⟨rfl,hb⟩; refine ⟨_,rfl,?_⟩; have n0_:=V (Kd.R_below (by (with_reducible repeat (first | apply Kd.R_alloc | apply Kd.R_drewN | apply Kd.R_drew)); exact HO1345.out) hb); have n1_:=V (Kd.R_below (by (with_reducible repeat (first | apply Kd.R_alloc | apply Kd.R_drewN | apply Kd.R_drew)); exact HO1348.out) hb); have n2_:=V (blk_below (g:=gb1340) (o:=.cells #[.int .i64 a0_0,.slice A0_1 l0_1.length c0_1] 43 (0,0)) (by (with_reducible repeat (first | refine blk_drewN ?_ _ | refine blk_drew ?_ | refine blk_alloc ?_ _)); exact BK1340.out) hb); have n3_:=V (below_step (by repeat (first | (with_reducible first | exact HB.out | apply below_alloc | apply pw_below_drewN | apply below_drew1 | refine below_set ?_ GE1340.out) | exact HB.out)) hb); clear HO1345; clear HO1348; clear BK1340; clear HB; have HO1345:=n0_; have HO1348:=n1_; have BK1340:=n2_; have HB:=n3_; clear n0_ n1_ n2_ n3_; (try clear hb); (try clear hb2); (try clear hk); (try clear hi); have hcz32_0 : w31.cell? ⟨gb1340,0,none⟩ = some (.int .i64 a0_0):=(blk_cell BK1340.out 0).trans rfl; have hcz32_1 : w31.cell? ⟨gb1340,1,none⟩ = some (.slice A0_1 l0_1.length c0_1):=(blk_cell BK1340.out 1).trans rfl; have hfz32_0:=blk_frozen BK1340.out 0; have hfz32_1:=blk_frozen BK1340.out 1) | ((with_reducible refine gate_callee (f:=28) rfl ?_); refine goesL_ (some 24) rfl rfl Try.func28 (by kernel_rfl) rfl #[.agg #[.int .i64 a0_0,.slice A0_1 l0_1.length c0_1]] rfl (by (try simp only [List.map_toArray,List.map_cons,List.map_nil]); first | done | rfl | (simp only [List.length_drop,List.length_take]; rfl)) ?_; (with_reducible refine (laws_toNet.calls k a0_0 _ _ l0_1 t1350 t1351 _ ?side1 ?side2 A13.out).mono ?_); (case side1 => repeat (first | exact (Kd.C_below HR0_1.out HB.out) | (with_reducible refine Kd.C_alloc ?_ _) | (with_reducible refine Kd.C_drewN ?_ _) | (with_reducible refine Kd.C_drew ?_))); (case side2 => exact HC0_1.out); rintro e w33 ⟨v1352,rfl,ho0,hb⟩; refine ⟨_,rfl,?_⟩; have n0_:=V (Kd.R_elder' (by (with_reducible repeat (first | apply Kd.R_alloc | apply Kd.R_drewN | apply Kd.R_drew)); exact HO1345.out) (Kd.R_base ho0) hb); have n1_:=V (Kd.R_below (by (with_reducible repeat (first | apply Kd.R_alloc | apply Kd.R_drewN | apply Kd.R_drew)); exact HO1348.out) hb); have n2_:=V (Kd.R_lower (Kd.R_new' ho0 (Kd.R_lt (by (with_reducible repeat (first | apply Kd.R_alloc | apply Kd.R_drewN | apply Kd.R_drew)); exact HO1345.out))) (below_size (by repeat (first | (with_reducible first | exact HB.out | apply below_alloc | apply pw_below_drewN | apply below_drew1 | refine below_set ?_ GE1340.out) | exact HB.out)))); have n3_:=V (blk_below (g:=gb1340) (o:=.cells #[.int .i64 a0_0,.slice A0_1 l0_1.length c0_1] 43 (0,0)) (by (with_reducible repeat (first | refine blk_drewN ?_ _ | refine blk_drew ?_ | refine blk_alloc ?_ _)); exact BK1340.out) hb); have n4_:=V (below_step (by repeat (first | (with_reducible first | exact HB.out | apply below_alloc | apply pw_below_drewN | apply below_drew1 | refine below_set ?_ GE1340.out) | exact HB.out)) hb); clear HO1345; clear HO1348; clear BK1340; clear HB; have HO1345:=n0_; have HO1348:=n1_; have HO1353:=n2_; have BK1340:=n3_; have HB:=n4_; clear n0_ n1_ n2_ n3_ n4_; (try clear hb); (try clear hb2); (try clear hk); (try clear hi); (try clear ho0)) | ((with_reducible refine gate_dst (N:=7) rfl ?_); refine box_event ?hg (N:=7) ?hd (cs:=#[.int .i64 0,.slice none 0 0]) (t:=34) ?hr ?_; (case hd => rfl); (case hg => rfl); (case hr => first | (go_simp; done) | (go_simp; rfl)); intro gb1354 hg w34 hbox hb; have n0_:=V (Kd.R_below (by (with_reducible repeat (first | apply Kd.R_alloc | apply Kd.R_drewN | apply Kd.R_drew)); exact HO1345.out) hb); have n1_:=V (Kd.R_below (by (with_reducible repeat (first | apply Kd.R_alloc | apply Kd.R_drewN | apply Kd.R_drew)); exact HO1348.out) hb); have n2_:=V (Kd.R_below (by (with_reducible repeat (first | apply Kd.R_alloc | apply Kd.R_drewN | apply Kd.R_drew)); exact HO1353.out) hb); have n3_:=V (blk_below (g:=gb1340) (o:=.cells #[.int .i64 a0_0,.slice A0_1 l0_1.length c0_1] 43 (0,0)) (by (with_reducible repeat (first | refine blk_drewN ?_ _ | refine blk_drew ?_ | refine blk_alloc ?_ _)); exact BK1340.out) hb); have n4_:=V (below_step (by repeat (first | (with_reducible first | exact HB.out | apply below_alloc | apply pw_below_drewN | apply below_drew1 | refine below_set ?_ GE1340.out) | exact HB.out)) hb); have n5_:=V (hbox); have n6_:=V ((by rw [hg]; exact (below_size (by repeat (first | (with_reducible first | exact HB.out | apply below_alloc | apply pw_below_drewN | apply below_drew1 | refine below_set ?_ GE1340.out) | exact HB.out))) : w.heap.size ≤ gb1354)); have n7_:=V ((by rw [hg]; exact (below_size (by repeat (first | (with_reducible first | exact HB.out | apply below_alloc | apply pw_below_drewN | apply below_drew1 | refine below_set ?_ GE1340.out) | exact HB.out))) : w.heap.size ≤ gb1354)); have n8_:=V ((by rw [hg]; exact Nat.ne_of_lt (blk_lt (g:=gb1340) (o:=.cells #[.int .i64 a0_0,.slice A0_1 l0_1.length c0_1] 43 (0,0)) (by (with_reducible repeat (first | refine blk_drewN ?_ _ | refine blk_drew ?_ | refine blk_alloc ?_ _)); exact BK1340.out)) : gb1340 ≠ gb1354)); have n9_:=V ((by rw [hg]; exact Nat.ne_of_gt (blk_lt (g:=gb1340) (o:=.cells #[.int .i64 a0_0,.slice A0_1 l0_1.length c0_1] 43 (0,0)) (by (with_reducible repeat (first | refine blk_drewN ?_ _ | refine blk_drew ?_ | refine blk_alloc ?_ _)); exact BK1340.out)) : gb1354 ≠ gb1340)); clear HO1345; clear HO1348; clear HO1353; clear BK1340; clear HB; have HO1345:=n0_; have HO1348:=n1_; have HO1353:=n2_; have BK1340:=n3_; have HB:=n4_; have BK1354:=n5_; have GW1354:=n6_; have GE1354:=n7_; have NB1340_1354:=n8_; have NB1354_1340:=n9_; clear n0_ n1_ n2_ n3_ n4_ n5_ n6_ n7_ n8_ n9_; clear hb hbox hg; have hnb35:=NB1354_1340.out; have hnc35:=NB1340_1354.out; have hcz36_0 : w34.cell? ⟨gb1354,0,none⟩ = some (.int .i64 0):=(blk_cell BK1354.out 0).trans rfl; have hcz36_1 : w34.cell? ⟨gb1354,1,none⟩ = some (.slice none 0 0):=(blk_cell BK1354.out 1).trans rfl; have hfz36_0:=blk_frozen BK1354.out 0; have hfz36_1:=blk_frozen BK1354.out 1; obtain ⟨Ao37,co37,eo37⟩:=Kd.R_slice HO1353.out; subst eo37) | ((with_reducible refine gate_callee (f:=29) rfl ?_); refine goesL_ (some 26) rfl rfl Try.func29 (by kernel_rfl) rfl #[.slice A1 l1.length c1] rfl (by (try simp only [List.map_toArray,List.map_cons,List.map_nil]); first | done | rfl | (simp only [List.length_drop,List.length_take]; rfl)) ?_; (with_reducible refine (laws_toIntS.calls k _ _ l1 t1355 _ ?side1 ?side2 A14.out).mono ?_); (case side1 => exact Kd.C_below HR1.out (by repeat (first | (with_reducible first | exact HB.out | apply below_alloc | apply pw_below_drewN | apply below_drew1 | refine below_set ?_ GE1340.out | refine below_set ?_ GE1354.out) | exact HB.out))); (case side2 => exact HC1.out); rintro e w38 ⟨v1356,rfl,ho0,hb⟩; refine ⟨_,rfl,?_⟩; have n0_:=V (Kd.R_below (by (with_reducible repeat (first | apply Kd.R_alloc | apply Kd.R_drewN | apply Kd.R_drew)); exact (Kd.R_mono (Kd.R_far (p:=⟨gb1354,1,none⟩) (Kd.R_far (p:=⟨gb1354,0,none⟩) (Kd.R_types HO1345.out BK1354.out (by decide)) (fun _ hk => hk.2) (.int .i64 t1350)) (fun _ hk => hk.2) (.slice Ao37 t1351.length co37)) (fun _ h_ => h_.1))) hb); have n1_:=V (Kd.R_elder' (by (with_reducible repeat (first | apply Kd.R_alloc | apply Kd.R_drewN | apply Kd.R_drew)); exact (Kd.R_mono (Kd.R_far (p:=⟨gb1354,1,none⟩) (Kd.R_far (p:=⟨gb1354,0,none⟩) (Kd.R_types HO1348.out BK1354.out (by decide)) (fun _ hk => hk.2) (.int .i64 t1350)) (fun _ hk => hk.2) (.slice Ao37 t1351.length co37)) (fun _ h_ => h_.1))) (Kd.R_base ho0) hb); have n2_:=V (Kd.R_below (by (with_reducible repeat (first | apply Kd.R_alloc | apply Kd.R_drewN | apply Kd.R_drew)); exact (Kd.R_mono (Kd.R_far (p:=⟨gb1354,1,none⟩) (Kd.R_far (p:=⟨gb1354,0,none⟩) (Kd.R_types HO1353.out BK1354.out (by decide)) (fun _ hk => hk.2) (.int .i64 t1350)) (fun _ hk => hk.2) (.slice Ao37 t1351.length co37)) (fun _ h_ => h_.1))) hb); have n3_:=V (Kd.R_lower (Kd.R_new' ho0 (Kd.R_lt (by (with_reducible repeat (first | apply Kd.R_alloc | apply Kd.R_drewN | apply Kd.R_drew)); exact (Kd.R_mono (Kd.R_far (p:=⟨gb1354,1,none⟩) (Kd.R_far (p:=⟨gb1354,0,none⟩) (Kd.R_types HO1348.out BK1354.out (by decide)) (fun _ hk => hk.2) (.int .i64 t1350)) (fun _ hk => hk.2) (.slice Ao37 t1351.length co37)) (fun _ h_ => h_.1))))) (below_size (by repeat (first | (with_reducible first | exact HB.out | apply below_alloc | apply pw_below_drewN | apply below_drew1 | refine below_set ?_ GE1340.out | refine below_set ?_ GE1354.out) | exact HB.out)))); have n4_:=V (blk_below (g:=gb1340) (o:=.cells #[.int .i64 a0_0,.slice A0_1 l0_1.length c0_1] 43 (0,0)) (by (with_reducible repeat (first | refine blk_drewN ?_ _ | refine blk_drew ?_ | refine blk_alloc ?_ _)); refine blk_far ?_ NB1340_1354.out _; (with_reducible repeat (first | refine blk_drewN ?_ _ | refine blk_drew ?_ | refine blk_alloc ?_ _)); refine blk_far ?_ NB1340_1354.out _; (with_reducible repeat (first | refine blk_drewN ?_ _ | refine blk_drew ?_ | refine blk_alloc ?_ _)); exact BK1340.out) hb); have n5_:=V (blk_below (g:=gb1354) (o:=.cells #[.int .i64 t1350,.slice Ao37 t1351.length co37] 34 (0,0)) (by (with_reducible repeat (first | refine blk_drewN ?_ _ | refine blk_drew ?_ | refine blk_alloc ?_ _)); refine blk_put (cs:=#[.int .i64 t1350,.slice none 0 0]) ?_ 1 _ rfl; (with_reducible repeat (first | refine blk_drewN ?_ _ | refine blk_drew ?_ | refine blk_alloc ?_ _)); refine blk_put (cs:=#[.int .i64 0,.slice none 0 0]) ?_ 0 _ rfl; (with_reducible repeat (first | refine blk_drewN ?_ _ | refine blk_drew ?_ | refine blk_alloc ?_ _)); exact BK1354.out) hb); have n6_:=V (below_step (by repeat (first | (with_reducible first | exact HB.out | apply below_alloc | apply pw_below_drewN | apply below_drew1 | refine below_set ?_ GE1340.out | refine below_set ?_ GE1354.out) | exact HB.out)) hb); clear HO1345; clear HO1348; clear HO1353; clear BK1340; clear BK1354; clear HB; have HO1345:=n0_; have HO1348:=n1_; have HO1353:=n2_; have HO1357:=n3_; have BK1340:=n4_; have BK1354:=n5_; have HB:=n6_; clear n0_ n1_ n2_ n3_ n4_ n5_ n6_; (try clear hb); (try clear hb2); (try clear hk); (try clear hi); (try clear ho0); have hcz39_0 : w38.cell? ⟨gb1354,0,none⟩ = some (.int .i64 t1350):=(blk_cell BK1354.out 0).trans rfl; have hcz39_1 : w38.cell? ⟨gb1354,1,none⟩ = some (.slice Ao37 t1351.length co37):=(blk_cell BK1354.out 1).trans rfl; have hfz39_0:=blk_frozen BK1354.out 0; have hfz39_1:=blk_frozen BK1354.out 1; obtain ⟨Ao40,co40,eo40⟩:=Kd.R_slice HO1357.out; subst eo40) | ((with_reducible refine gate_callee (f:=60) rfl ?_); refine goesL_ (some 29) rfl rfl Try.func60 (by kernel_rfl) rfl #[.agg #[.int .i64 t1350,.slice Ao37 t1351.length co37],.slice Ao40 t1355.length co40] rfl (by (try simp only [List.map_toArray,List.map_cons,List.map_nil]); first | done | rfl | (simp only [List.length_drop,List.length_take]; rfl)) ?_; (with_reducible refine (impl_TreeCost.calls k t1350 _ _ t1351 _ _ t1355 t1358 _ ?side1 ?side2 ?side3 ?side4 A15.out).mono ?_); (case side1 => repeat (first | exact (Kd.R_reads' HO1353.out).2.2 | (with_reducible refine Kd.C_alloc ?_ _) | (with_reducible refine Kd.C_drewN ?_ _) | (with_reducible refine Kd.C_drew ?_))); (case side2 => exact (Kd.R_reads' HO1353.out).2.1); (case side3 => repeat (first | exact (Kd.R_reads' HO1357.out).2.2 | (with_reducible refine Kd.C_alloc ?_ _) | (with_reducible refine Kd.C_drewN ?_ _) | (with_reducible refine Kd.C_drew ?_))); (case side4 => exact (Kd.R_reads' HO1357.out).2.1); rintro e w41 ⟨rfl,hb⟩; refine ⟨_,rfl,?_⟩; have n0_:=V (Kd.R_below (by (with_reducible repeat (first | apply Kd.R_alloc | apply Kd.R_drewN | apply Kd.R_drew)); exact HO1345.out) hb); have n1_:=V (Kd.R_below (by (with_reducible repeat (first | apply Kd.R_alloc | apply Kd.R_drewN | apply Kd.R_drew)); exact HO1348.out) hb); have n2_:=V (Kd.R_below (by (with_reducible repeat (first | apply Kd.R_alloc | apply Kd.R_drewN | apply Kd.R_drew)); exact HO1353.out) hb); have n3_:=V (Kd.R_below (by (with_reducible repeat (first | apply Kd.R_alloc | apply Kd.R_drewN | apply Kd.R_drew)); exact HO1357.out) hb); have n4_:=V (blk_below (g:=gb1340) (o:=.cells #[.int .i64 a0_0,.slice A0_1 l0_1.length c0_1] 43 (0,0)) (by (with_reducible repeat (first | refine blk_drewN ?_ _ | refine blk_drew ?_ | refine blk_alloc ?_ _)); exact BK1340.out) hb); have n5_:=V (blk_below (g:=gb1354) (o:=.cells #[.int .i64 t1350,.slice Ao37 t1351.length co37] 34 (0,0)) (by (with_reducible repeat (first | refine blk_drewN ?_ _ | refine blk_drew ?_ | refine blk_alloc ?_ _)); exact BK1354.out) hb); have n6_:=V (below_step (by repeat (first | (with_reducible first | exact HB.out | apply below_alloc | apply pw_below_drewN | apply below_drew1 | refine below_set ?_ GE1340.out | refine below_set ?_ GE1354.out) | exact HB.out)) hb); clear HO1345; clear HO1348; clear HO1353; clear HO1357; clear BK1340; clear BK1354; clear HB; have HO1345:=n0_; have HO1348:=n1_; have HO1353:=n2_; have HO1357:=n3_; have BK1340:=n4_; have BK1354:=n5_; have HB:=n6_; clear n0_ n1_ n2_ n3_ n4_ n5_ n6_; (try clear hb); (try clear hb2); (try clear hk); (try clear hi)))
 have n0_:=V (Kd.R_drew HO1345.out);have n1_:=V (Kd.R_drew HO1348.out);have n2_:=V (Kd.R_drew HO1353.out);have n3_:=V (Kd.R_drew HO1357.out);have n4_:=V (blk_drew BK1340.out);have n5_:=V (blk_drew BK1354.out);have n6_:=V (below_drew1 HB.out);clear HO1345;clear HO1348;clear HO1353;clear HO1357;clear BK1340;clear BK1354;clear HB;have HO1345:=n0_;have HO1348:=n1_;have HO1353:=n2_;have HO1357:=n3_;have BK1340:=n4_;have BK1354:=n5_;have HB:=n6_;clear n0_ n1_ n2_ n3_ n4_ n5_ n6_;refine start_ (n:=5) (S:=fun w' => w'.cell? ⟨gb1354,0,none⟩ = some (.int .i64 t1350) ∧ w'.cell? ⟨gb1354,1,none⟩ = some (.slice Ao37 t1351.length co37) ∧ w'.cell? ⟨gb1340,0,none⟩ = some (.int .i64 a0_0) ∧ w'.cell? ⟨gb1340,1,none⟩ = some (.slice A0_1 l0_1.length c0_1)) (ds:=[]) #[false,false,false,false,false] (by kernel_rfl) rfl rfl ⟨(blk_cell BK1354.out 0).trans rfl,(blk_cell BK1354.out 1).trans rfl,(blk_cell BK1340.out 0).trans rfl,(blk_cell BK1340.out 1).trans rfl⟩ (fun hHeld => ?_);generalize w41.drew = w42 at HO1345 HO1348 HO1353 HO1357 BK1340 BK1354 HB hHeld ⊢;refine take_ (i:=0) (N:=some 33) (v:=?_) (a':=?_) #[true,false,false,false,false] rfl rfl (by kernel_rfl) (fun _ _ _ h => h) (Or.inl ⟨by rfl,?_⟩) hHeld ?_ ?_;rotate_left
 ·rintro w' ⟨s0,s1,s2,s3⟩;go_simp;with_reducible rfl
 rotate_left
 ·simp only [Act.put,U,O,I,i64_w,i32_w];rfl
 refine take_ (i:=1) (N:=some 34) (v:=?_) (a':=?_) #[true,true,false,false,false] rfl rfl (by kernel_rfl) (fun _ _ _ h => h) (Or.inl ⟨by rfl,?_⟩) hHeld ?_ ?_;rotate_left
 ·rintro w' ⟨s0,s1,s2,s3⟩;go_simp;with_reducible rfl
 rotate_left
 ·simp only [Act.put,U,O,I,i64_w,i32_w];rfl
 refine one_ (i:=2) (N:=some 35) #[true,true,true,false,false] rfl rfl (by kernel_rfl) (by decide) (fun K hK => ?_);refine goes_ Try.func28 (by kernel_rfl) rfl #[.agg #[.int .i64 a0_0,.slice A0_1 l0_1.length c0_1]] (by rfl) rfl rfl (by (try simp only [List.map_toArray,List.map_cons,List.map_nil]); first | done | rfl | (simp only [List.length_drop,List.length_take]; rfl)) ?_;with_reducible refine (laws_toNet.calls k a0_0 _ _ l0_1 t1359 t1360 _ ?side1 ?side2 A17.out).mono ?_
 (case side1 => repeat (first | exact (Kd.C_below HR0_1.out HB.out) | (with_reducible refine Kd.C_alloc ?_ _) | (with_reducible refine Kd.C_drewN ?_ _) | (with_reducible refine Kd.C_drew ?_)))
 (case side2 => exact HC0_1.out)
 rintro e w43 ⟨v1361,rfl,ho0,hb⟩;refine ⟨_,rfl,?_⟩;have n0_:=V (Kd.R_elder' (by (with_reducible repeat (first | apply Kd.R_alloc | apply Kd.R_drewN | apply Kd.R_drew)); exact HO1345.out) (Kd.R_base ho0) hb);have n1_:=V (Kd.R_below (by (with_reducible repeat (first | apply Kd.R_alloc | apply Kd.R_drewN | apply Kd.R_drew)); exact HO1348.out) hb);have n2_:=V (Kd.R_elder' (by (with_reducible repeat (first | apply Kd.R_alloc | apply Kd.R_drewN | apply Kd.R_drew)); exact HO1353.out) (Kd.R_base ho0) hb);have n3_:=V (Kd.R_below (by (with_reducible repeat (first | apply Kd.R_alloc | apply Kd.R_drewN | apply Kd.R_drew)); exact HO1357.out) hb);have n4_:=V (Kd.R_lower (Kd.R_new' (Kd.R_new' ho0 (Kd.R_lt (by (with_reducible repeat (first | apply Kd.R_alloc | apply Kd.R_drewN | apply Kd.R_drew)); exact HO1345.out))) (Kd.R_lt (by (with_reducible repeat (first | apply Kd.R_alloc | apply Kd.R_drewN | apply Kd.R_drew)); exact HO1353.out))) (below_size (by repeat (first | (with_reducible first | exact HB.out | apply below_alloc | apply pw_below_drewN | apply below_drew1 | refine below_set ?_ GE1340.out | refine below_set ?_ GE1354.out) | exact HB.out))));have n5_:=V (blk_below (g:=gb1340) (o:=.cells #[.int .i64 a0_0,.slice A0_1 l0_1.length c0_1] 43 (0,0)) (by (with_reducible repeat (first | refine blk_drewN ?_ _ | refine blk_drew ?_ | refine blk_alloc ?_ _)); exact BK1340.out) hb);have n6_:=V (blk_below (g:=gb1354) (o:=.cells #[.int .i64 t1350,.slice Ao37 t1351.length co37] 34 (0,0)) (by (with_reducible repeat (first | refine blk_drewN ?_ _ | refine blk_drew ?_ | refine blk_alloc ?_ _)); exact BK1354.out) hb);have n7_:=V (below_step (by repeat (first | (with_reducible first | exact HB.out | apply below_alloc | apply pw_below_drewN | apply below_drew1 | refine below_set ?_ GE1340.out | refine below_set ?_ GE1354.out) | exact HB.out)) hb);clear HO1345;clear HO1348;clear HO1353;clear HO1357;clear BK1340;clear BK1354;clear HB;have HO1345:=n0_;have HO1348:=n1_;have HO1353:=n2_;have HO1357:=n3_;have HO1362:=n4_;have BK1340:=n5_;have BK1354:=n6_;have HB:=n7_;clear n0_ n1_ n2_ n3_ n4_ n5_ n6_ n7_
 (try clear hb)
 (try clear hb2)
 (try clear hk)
 (try clear hi)
 (try clear ho0)
 obtain ⟨Ao44,co44,eo44⟩:=Kd.R_slice HO1362.out
 (first | subst eo44 | (injection eo44 with f1_ f2_ f3_; have f4_:=f1_.symm; have f5_:=f3_.symm; clear f1_ f2_ f3_; subst f4_; subst f5_))
 refine hK.out _ _ ⟨(blk_cell BK1354.out 0).trans rfl,(blk_cell BK1354.out 1).trans rfl,(blk_cell BK1340.out 0).trans rfl,(blk_cell BK1340.out 1).trans rfl⟩ (fun hHeld => ?_);clear hK K;refine norm_ (a':=?_) ?_ ?_;rotate_left
 ·show Act.put _ (some 35) _ = _
  simp only [Act.put,U,O,I,i64_w,i32_w];rfl
 refine one_ (i:=3) (N:=some 36) #[true,true,true,true,false] rfl rfl (by kernel_rfl) (by decide) (fun K hK => ?_);refine goes_ Try.func31 (by kernel_rfl) rfl #[.agg #[.int .i64 t1350,.slice Ao37 t1351.length co37],.agg #[.int .i64 t1359,.slice Ao44 t1360.length co44]] (by rfl) rfl rfl (by (try simp only [List.map_toArray,List.map_cons,List.map_nil]); first | done | rfl | (simp only [List.length_drop,List.length_take]; rfl)) ?_;with_reducible refine (laws_eqNet.calls k t1350 _ _ t1351 t1359 _ _ t1360 true _ ?side1 ?side2 ?side3 ?side4 A18.out).mono ?_
 (case side1 => repeat (first | exact (Kd.R_reads' HO1353.out).2.2 | (with_reducible refine Kd.C_alloc ?_ _) | (with_reducible refine Kd.C_drewN ?_ _) | (with_reducible refine Kd.C_drew ?_)))
 (case side2 => exact (Kd.R_reads' HO1353.out).2.1)
 (case side3 => repeat (first | exact (Kd.R_reads' HO1362.out).2.2 | (with_reducible refine Kd.C_alloc ?_ _) | (with_reducible refine Kd.C_drewN ?_ _) | (with_reducible refine Kd.C_drew ?_)))
 (case side4 => exact (Kd.R_reads' HO1362.out).2.1)
 rintro e w45 ⟨rfl,hb⟩;refine ⟨_,rfl,?_⟩;have n0_:=V (Kd.R_below (by (with_reducible repeat (first | apply Kd.R_alloc | apply Kd.R_drewN | apply Kd.R_drew)); exact HO1345.out) hb);have n1_:=V (Kd.R_below (by (with_reducible repeat (first | apply Kd.R_alloc | apply Kd.R_drewN | apply Kd.R_drew)); exact HO1348.out) hb);have n2_:=V (Kd.R_below (by (with_reducible repeat (first | apply Kd.R_alloc | apply Kd.R_drewN | apply Kd.R_drew)); exact HO1353.out) hb);have n3_:=V (Kd.R_below (by (with_reducible repeat (first | apply Kd.R_alloc | apply Kd.R_drewN | apply Kd.R_drew)); exact HO1357.out) hb);have n4_:=V (Kd.R_below (by (with_reducible repeat (first | apply Kd.R_alloc | apply Kd.R_drewN | apply Kd.R_drew)); exact HO1362.out) hb);have n5_:=V (blk_below (g:=gb1340) (o:=.cells #[.int .i64 a0_0,.slice A0_1 l0_1.length c0_1] 43 (0,0)) (by (with_reducible repeat (first | refine blk_drewN ?_ _ | refine blk_drew ?_ | refine blk_alloc ?_ _)); exact BK1340.out) hb);have n6_:=V (blk_below (g:=gb1354) (o:=.cells #[.int .i64 t1350,.slice Ao37 t1351.length co37] 34 (0,0)) (by (with_reducible repeat (first | refine blk_drewN ?_ _ | refine blk_drew ?_ | refine blk_alloc ?_ _)); exact BK1354.out) hb);have n7_:=V (below_step (by repeat (first | (with_reducible first | exact HB.out | apply below_alloc | apply pw_below_drewN | apply below_drew1 | refine below_set ?_ GE1340.out | refine below_set ?_ GE1354.out) | exact HB.out)) hb);clear HO1345;clear HO1348;clear HO1353;clear HO1357;clear HO1362;clear BK1340;clear BK1354;clear HB;have HO1345:=n0_;have HO1348:=n1_;have HO1353:=n2_;have HO1357:=n3_;have HO1362:=n4_;have BK1340:=n5_;have BK1354:=n6_;have HB:=n7_;clear n0_ n1_ n2_ n3_ n4_ n5_ n6_ n7_
 (try clear hb)
 (try clear hb2)
 (try clear hk)
 (try clear hi)
 refine hK.out _ _ ⟨(blk_cell BK1354.out 0).trans rfl,(blk_cell BK1354.out 1).trans rfl,(blk_cell BK1340.out 0).trans rfl,(blk_cell BK1340.out 1).trans rfl⟩ (fun hHeld => ?_);clear hK K;refine norm_ (a':=?_) ?_ ?_;rotate_left
 ·show Act.put _ (some 36) _ = _
  simp only [Act.put,U,O,I,i64_w,i32_w];rfl
 refine pure_ (i:=4) (N:=some 37) (v:=?_) (a':=?_) #[true,true,true,true,true] rfl rfl (by kernel_rfl) (fun _ _ _ h => h) (Or.inl ⟨by rfl,?_⟩) ?_ ?_;rotate_left
 ·intro w';go_simp;with_reducible rfl
 rotate_left
 ·simp only [Act.put,U,O,I,i64_w,i32_w];rfl
 refine done_ (by kernel_rfl) ?_
 try go_wp2_with (first | ((with_reducible refine gate_callee (f:=29) rfl ?_); refine goesL_ (some 40) rfl rfl Try.func29 (by kernel_rfl) rfl #[.slice A1 l1.length c1] rfl (by (try simp only [List.map_toArray,List.map_cons,List.map_nil]); first | done | rfl | (simp only [List.length_drop,List.length_take]; rfl)) ?_; (with_reducible refine (laws_toIntS.calls k _ _ l1 t1364 _ ?side1 ?side2 A20.out).mono ?_); (case side1 => repeat (first | exact (Kd.C_below HR1.out HB.out) | (with_reducible refine Kd.C_alloc ?_ _) | (with_reducible refine Kd.C_drewN ?_ _) | (with_reducible refine Kd.C_drew ?_))); (case side2 => exact HC1.out); rintro e w46 ⟨v1365,rfl,ho0,hb⟩; refine ⟨_,rfl,?_⟩; have n0_:=V (Kd.R_below (by (with_reducible repeat (first | apply Kd.R_alloc | apply Kd.R_drewN | apply Kd.R_drew)); exact HO1345.out) hb); have n1_:=V (Kd.R_elder' (by (with_reducible repeat (first | apply Kd.R_alloc | apply Kd.R_drewN | apply Kd.R_drew)); exact HO1348.out) (Kd.R_base ho0) hb); have n2_:=V (Kd.R_below (by (with_reducible repeat (first | apply Kd.R_alloc | apply Kd.R_drewN | apply Kd.R_drew)); exact HO1353.out) hb); have n3_:=V (Kd.R_elder' (by (with_reducible repeat (first | apply Kd.R_alloc | apply Kd.R_drewN | apply Kd.R_drew)); exact HO1357.out) (Kd.R_base ho0) hb); have n4_:=V (Kd.R_below (by (with_reducible repeat (first | apply Kd.R_alloc | apply Kd.R_drewN | apply Kd.R_drew)); exact HO1362.out) hb); have n5_:=V (Kd.R_lower (Kd.R_new' (Kd.R_new' ho0 (Kd.R_lt (by (with_reducible repeat (first | apply Kd.R_alloc | apply Kd.R_drewN | apply Kd.R_drew)); exact HO1348.out))) (Kd.R_lt (by (with_reducible repeat (first | apply Kd.R_alloc | apply Kd.R_drewN | apply Kd.R_drew)); exact HO1357.out))) (below_size (by repeat (first | (with_reducible first | exact HB.out | apply below_alloc | apply pw_below_drewN | apply below_drew1 | refine below_set ?_ GE1340.out | refine below_set ?_ GE1354.out) | exact HB.out)))); have n6_:=V (blk_below (g:=gb1340) (o:=.cells #[.int .i64 a0_0,.slice A0_1 l0_1.length c0_1] 43 (0,0)) (by (with_reducible repeat (first | refine blk_drewN ?_ _ | refine blk_drew ?_ | refine blk_alloc ?_ _)); exact BK1340.out) hb); have n7_:=V (blk_below (g:=gb1354) (o:=.cells #[.int .i64 t1350,.slice Ao37 t1351.length co37] 34 (0,0)) (by (with_reducible repeat (first | refine blk_drewN ?_ _ | refine blk_drew ?_ | refine blk_alloc ?_ _)); exact BK1354.out) hb); have n8_:=V (below_step (by repeat (first | (with_reducible first | exact HB.out | apply below_alloc | apply pw_below_drewN | apply below_drew1 | refine below_set ?_ GE1340.out | refine below_set ?_ GE1354.out) | exact HB.out)) hb); clear HO1345; clear HO1348; clear HO1353; clear HO1357; clear HO1362; clear BK1340; clear BK1354; clear HB; have HO1345:=n0_; have HO1348:=n1_; have HO1353:=n2_; have HO1357:=n3_; have HO1362:=n4_; have HO1366:=n5_; have BK1340:=n6_; have BK1354:=n7_; have HB:=n8_; clear n0_ n1_ n2_ n3_ n4_ n5_ n6_ n7_ n8_; (try clear hb); (try clear hb2); (try clear hk); (try clear hi); (try clear ho0); obtain ⟨Ao47,co47,eo47⟩:=Kd.R_slice HO1366.out; subst eo47) | ((with_reducible refine gate_callee (f:=32) rfl ?_); refine goesL_ (some 41) rfl rfl Try.func32 (by kernel_rfl) rfl #[.slice Ao40 t1355.length co40,.slice Ao47 t1364.length co47] rfl (by (try simp only [List.map_toArray,List.map_cons,List.map_nil]); first | done | rfl | (simp only [List.length_drop,List.length_take]; rfl)) ?_; (with_reducible refine (laws_eqIntS.calls k _ _ t1355 _ _ t1364 true _ ?side1 ?side2 ?side3 ?side4 A21.out).mono ?_); (case side1 => repeat (first | exact (Kd.R_reads' HO1357.out).2.2 | (with_reducible refine Kd.C_alloc ?_ _) | (with_reducible refine Kd.C_drewN ?_ _) | (with_reducible refine Kd.C_drew ?_))); (case side2 => exact (Kd.R_reads' HO1357.out).2.1); (case side3 => repeat (first | exact (Kd.R_reads' HO1366.out).2.2 | (with_reducible refine Kd.C_alloc ?_ _) | (with_reducible refine Kd.C_drewN ?_ _) | (with_reducible refine Kd.C_drew ?_))); (case side4 => exact (Kd.R_reads' HO1366.out).2.1); rintro e w' ⟨rfl,⟨nd,rfl⟩⟩; refine ⟨_,rfl,?_⟩))
 go_ret;exact ⟨by first | rfl | (simp [errW_none,errW_some] <;> rfl) | (simp [*,errW_none,errW_some] <;> rfl),by repeat (first | (with_reducible first | exact HB.out | apply below_alloc | apply pw_below_drewN | apply below_drew1 | refine below_set ?_ GE1340.out | refine below_set ?_ GE1354.out) | exact HB.out)⟩
end Go.Proofs.Ytlhmljngjdfbpaa.Pr
end
section
set_option linter.unusedVariables false
namespace Go.Proofs.YtlhmljngjdfbpaaW.PrintWords
open Go.RowKit Go.ChangeShapes Go.WideShapes
def Opens (P : Program) {α : Type} (d : Kd α) (t : TypeId) (wf : α → Prop) : Prop :=
 ∀ {H : Type} {enc : TypeId × Value → H} {w : World} {sp : Nat → Bool} {held : Bool} {fuel : Nat} {cs : List Value} {x : DataW H × List MemPlace},DataW.trod enc P w 0 sp held fuel t cs = some x → ∃ a,d.K w a cs ∧ wf a
def OpensF (P : Program) {α : Type} (d : Kd α) (fs : List Field) (off tot : Nat) (wf : α → Prop) : Prop :=
 ∀ {H : Type} {enc : TypeId × Value → H} {w : World} {sp : Nat → Bool} {held : Bool} {fuel : Nat} {cs : List Value},cs.length = tot → (∀ f ∈ fs,∃ y,DataW.trod enc P w 0 sp held fuel f.type ((cs.drop f.offset).take (P.cellsOf f.type)) = some y) → ∃ a,d.K w a (cs.drop off) ∧ wf a
section
variable {P : Program} {α β : Type}
def I64 (n : Int) : Prop:=-9223372036854775808 ≤ n ∧ n ≤ 9223372036854775807
theorem I64_of {n : Int} (h : (Lit.int .i64 n).wf = true) : I64 n:=by
 simp only [Lit.wf,Bool.and_eq_true,decide_eq_true_eq] at h;have h1 : IntKind.i64.min = -9223372036854775808:=rfl;have h2 : IntKind.i64.max = 9223372036854775807:=rfl
 unfold I64
 omega
theorem opens_i64 {t : TypeId} (ht : P.underlying t = some (.int .i64)) : Opens P (Kd.int .i64) t I64:=by
 intro H enc w sp held fuel cs x h;obtain ⟨n,rfl,_,hw⟩:=DataW.trod_int ht h;exact ⟨n,rfl,I64_of hw⟩
theorem addr_add_add (a : Addr) (i j : Nat) : (a.add i).add j = a.add (i + j):=by
 unfold Addr.add
 by_cases hi : i = 0 <;> by_cases hj : j = 0 <;> simp [hi,hj,Nat.add_assoc]
theorem opens_slice [Inhabited α] {d : Kd α} {t e : TypeId} {wf : α → Prop} (ht : P.underlying t = some (.slice e)) (hc : P.cellsOf e = d.sz) (he : Opens P d e wf) : Opens P (Kd.slice e d) t (fun l => l.length ≤ maxLen ∧ ∀ x ∈ l,wf x):=by
 intro H enc w sp held fuel cs x h
 rcases Deep.open_slice ht h with ⟨rfl,_⟩ | ⟨a,len,cap,m,n,D,Pl,rfl,_,hl,hm,hmm,_,hel⟩
 ·exact ⟨[],⟨none,0,rfl,Nat.le_refl _,Kd.C_nil d w⟩,by simp,by simp⟩
 ·have hlm : len ≤ m:=by rw [hmm]; split <;> omega
  have hx : ∀ i,i < len → ∃ y : α,(∃ c,c.length = d.sz ∧ d.K w y c ∧ ∀ j u,c[j]? = some u → w.cell? (a.add (i * d.sz + j)) = some u) ∧ wf y:=by
   intro i hi;obtain ⟨cs',hcs,htr⟩:=hel i (by omega);obtain ⟨y,hk,hw⟩:=he htr;obtain ⟨_,hlen,hcell⟩:=World.cells?_some hcs;refine ⟨y,⟨cs',d.K_len hk,hk,fun j u hu => ?_⟩,hw⟩;have hj : j < P.cellsOf e:=by
    have:=(List.getElem?_eq_some_iff.1 hu).1;omega
   have:=hcell j hj;rw [addr_add_add,hc,hu] at this;exact this
  obtain ⟨f,hf⟩:=Deep.choose_lt hx;refine ⟨(List.range len).map f,⟨some a,cap,by simp,by simpa using hl,by simp,by simp only [maxLen] at hm; simp; omega,fun _ => ⟨a,rfl,fun j p hj => ?_⟩⟩,by simp; omega,fun y hy => ?_⟩
  ·obtain ⟨hj1,hj2⟩:=List.getElem?_eq_some_iff.1 hj;simp at hj1 hj2;subst hj2;exact (hf j hj1).1
  ·simp only [List.mem_map,List.mem_range] at hy;obtain ⟨i,hi,rfl⟩:=hy;exact (hf i hi).2
theorem opensF_last {d : Kd α} {f : Field} {off tot : Nat} {wf : α → Prop} (ho : f.offset = off) (hn : off + P.cellsOf f.type = tot) (h : Opens P d f.type wf) : OpensF P d [f] off tot wf:=by
 intro H enc w sp held fuel cs hl hf;obtain ⟨y,hy⟩:=hf f (by simp);obtain ⟨a,hk,hw⟩:=h hy;refine ⟨a,?_,hw⟩
 rwa [ho,List.take_of_length_le (by rw [List.length_drop]; omega)] at hk
theorem opensF_cons {d : Kd α} {d' : Kd β} {f : Field} {fs : List Field} {off tot : Nat} {wf : α → Prop} {wf' : β → Prop} (ho : f.offset = off) (h : Opens P d f.type wf) (h' : OpensF P d' fs (off + P.cellsOf f.type) tot wf') :
  OpensF P (Kd.pair d d') (f :: fs) off tot (fun x => wf x.1 ∧ wf' x.2):=by
 intro H enc w sp held fuel cs hl hf;obtain ⟨y,hy⟩:=hf f (by simp);obtain ⟨a,hk,hw⟩:=h hy;obtain ⟨b,hk',hw'⟩:=h' hl (fun g hg => hf g (by simp [hg]));refine ⟨(a,b),⟨_,_,?_,hk,hk'⟩,hw,hw'⟩;rw [ho,← List.drop_drop,List.take_append_drop]
theorem opens_struct {d : Kd α} {t : TypeId} {fs : Array Field} {wf : α → Prop} (ht : P.underlying t = some (.struct fs)) (h : OpensF P d fs.toList 0 (P.cellsOf t) wf) : Opens P d t wf:=by
 intro H enc w sp held fuel cs x hx;obtain ⟨xs,n,_,_,hl,hlen,hf⟩:=DataW.trod_struct ht hx;obtain ⟨a,hk,hw⟩:=h hl (fun f hfm => by
  obtain ⟨i,hi,rfl⟩:=List.getElem_of_mem hfm;have hi' : i < fs.size:=by simpa using hi
  have h1:=hf i fs[i] (Array.getElem?_eq_getElem hi');rw [List.getElem?_eq_getElem (by omega)] at h1;exact ⟨_,by simpa using h1⟩)
 exact ⟨a,by simpa using hk,hw⟩
theorem opens_iso {d : Kd α} {t : TypeId} {wf : α → Prop} (f : β → α) (g : α → β) (hfg : ∀ a,f (g a) = a) (h : Opens P d t wf) : Opens P (Kd.iso d f) t (fun b => wf (f b)):=by
 intro H enc w sp held fuel cs x hx;obtain ⟨a,hk,hw⟩:=h hx;exact ⟨g a,by show d.K w (f (g a)) cs; rw [hfg]; exact hk,by show wf (f (g a)); rw [hfg]; exact hw⟩
end
end Go.Proofs.YtlhmljngjdfbpaaW.PrintWords
end
section
namespace Go.Proofs.Ytlhmljngjdfbpaa.Pr
open Go.RowKit Go.Proofs.YtlhmljngjdfbpaaW.PrintWords Go.Proofs.YtlhmljngjdfbpaaW.PrintLast Go.Proofs.YtlhmljngjdfbpaaW.PrintMore
open List renaming setIfInBounds_toArray → U,set_cons_zero → O,set_cons_succ → I
open Go.Proofs.YtlhmljngjdfbpaaW.PrintWords.Aside0 renaming mk → V
def laws_FnExactTreeCost.Asked : Prop:=∀ (a0_0 : Int) (l0_1 : List (S127)) (l1 : List Int),I64 a0_0 → (l0_1.length ≤ maxLen ∧ ∀ x_ ∈ l0_1,(I64 x_.f0 ∧ I64 x_.f1 ∧ I64 x_.f2 ∧ I64 x_.f3 ∧ I64 x_.f4)) → (l1.length ≤ maxLen ∧ ∀ x_ ∈ l1,I64 x_) → ∃ k,laws_FnExactTreeCost.f k a0_0 l0_1 l1 = some true
end Go.Proofs.Ytlhmljngjdfbpaa.Pr
end
section
set_option linter.unusedVariables false
namespace Go.Proofs.YtlhmljngjdfbpaaW.PrintWords
open Go.RowKit
section
variable {α β : Type}
theorem Ev.pos {c : Prop} [Decidable c] {t e : Nat → Option α} {r : α} (h : c) (k : Ev t r) : Ev (fun n => if c then t n else e n) r:=by
 simp only [if_pos h]; exact k
theorem Ev.neg {c : Prop} [Decidable c] {t e : Nat → Option α} {r : α} (h : ¬ c) (k : Ev e r) : Ev (fun n => if c then t n else e n) r:=by
 simp only [if_neg h]; exact k
theorem Ev.bind0 {g : Option α} {f : Nat → α → Option β} {a : α} {r : β} (h : g = some a) (k : Ev (fun n => f n a) r) : Ev (fun n => g.bind (f n)) r:=by
 subst h; exact k
theorem Ev.is {a r : α} (h : a = r) : Ev (fun _ => some a) r:=by subst h; exact Ev.now _
theorem Ev.cast {g : Nat → Option α} {a r : α} (k : Ev g a) (h : a = r) : Ev g r:=h ▸ k
theorem Ev.go {g f : Nat → Option α} {r : α} (k : Ev f r) (h : ∀ k,g (k + 1) = f k) : Ev g r:=Ev.step h k
end
theorem w64 {n : Int} (h : -9223372036854775808 ≤ n) (h' : n ≤ 9223372036854775807) : wrap64 n = n:=by unfold wrap64; omega
theorem rd_nat {l : List Int} {i : Nat} (h : i < l.length) : rd l (i : Int) = l[i]:=by simp [rd,h]
end Go.Proofs.YtlhmljngjdfbpaaW.PrintWords
end
section
set_option linter.unusedSimpArgs false
set_option linter.unusedVariables false
namespace Go.Proofs.Ytlhmljngjdfbpaa.Pure
open Go.RowKit Go.Proofs.Ytlhmljngjdfbpaa.Pr Go.Proofs.YtlhmljngjdfbpaaW.PrintWords Go.Proofs.YtlhmljngjdfbpaaW.PrintLast Go.Proofs.YtlhmljngjdfbpaaW.PrintMore
def inB (x a b : Int) : Bool:=decide (a ≤ x) && decide (x ≤ b)
theorem inB_iff {x a b : Int} : inB x a b = true ↔ a ≤ x ∧ x ≤ b:=by simp [inB]
theorem in1 (x a b : Int) : spec_l1In.f x a b = some (inB x a b):=by
 unfold spec_l1In.f inB
 by_cases h : x ≥ a
 case pos => rw [if_pos h]; simp [show a ≤ x from h]
 rw [if_neg h]; simp [show ¬ a ≤ x from h]
theorem within1 (x a b : Int) : impl_within.f x a b = some (inB x a b):=by
 unfold impl_within.f inB
 by_cases h : x ≥ a
 case pos => rw [if_pos h]; simp [show a ≤ x from h]
 rw [if_neg h]; simp [show ¬ a ≤ x from h]
theorem up1 {i n : Nat} (h : i < n) (hn : n ≤ maxLen) : wrap64 ((i : Int) + 1) = ((i + 1 : Nat) : Int):=by
 simp only [maxLen] at hn;rw [w64 (by omega) (by omega)]; omega
theorem rdn {l : List Int} {i : Nat} (h : i < l.length) : rd l (i : Int) = l[i]:=rd_nat h
def nth (l : List Int) (i : Nat) : Int:=l.getD i 0
theorem rdg {l : List Int} (i : Nat) : rd l (i : Int) = nth l i:=by simp [rd,nth]
theorem nth_get {l : List Int} {i : Nat} (h : i < l.length) : nth l i = l[i]:=by simp [nth,h]
theorem getD_mem {l : List Int} {i : Nat} (h : i < l.length) : nth l i ∈ l:=by
 rw [nth_get h];exact List.getElem_mem h
theorem mem_getD {l : List Int} {x : Int} (h : x ∈ l) : ∃ i,i < l.length ∧ nth l i = x:=by
 obtain ⟨i,hi,rfl⟩:=List.getElem_of_mem h;exact ⟨i,hi,nth_get hi⟩
theorem drop_cons {α : Type} {l : List α} {i : Nat} (h : i < l.length) : l.drop i = l[i] :: l.drop (i + 1):=List.drop_eq_getElem_cons h
end Go.Proofs.Ytlhmljngjdfbpaa.Pure
end
section
set_option linter.unusedSimpArgs false
set_option linter.unusedVariables false
namespace Go.Proofs.Ytlhmljngjdfbpaa.Pure
open Go.RowKit Go.Proofs.Ytlhmljngjdfbpaa.Pr Go.Proofs.YtlhmljngjdfbpaaW.PrintWords Go.Proofs.YtlhmljngjdfbpaaW.PrintLast Go.Proofs.YtlhmljngjdfbpaaW.PrintMore
section
variable {t e : Nat → Option Bool} {r : Bool}
theorem Ev.and {b : Bool} (k : Ev t r) : Ev (fun n => if b = true then t n else some false) (b && r):=by
 cases b with
 | false => exact Ev.neg (by simp) (Ev.now _)
 | true => exact Ev.pos rfl k
theorem Ev.nand {c : Prop} [Decidable c] (k : Ev t r) : Ev (fun n => if c then some false else t n) (!decide c && r):=by
 by_cases h : c
 case pos => exact Ev.pos h (Ev.is (by simp [h]))
 exact Ev.neg h (k.cast (by simp [h]))
end
abbrev Arc:=S58
def arc (l : List Arc) (i : Nat) : Arc:=rd_T58 l (i : Int)
theorem rda (l : List Arc) (i : Nat) : rd_T58 l (i : Int) = arc l i:=rfl
theorem arc_get {l : List Arc} {i : Nat} (h : i < l.length) : arc l i = l[i]:=by simp [arc,rd_T58,h]
theorem arc_mem {l : List Arc} {i : Nat} (h : i < l.length) : arc l i ∈ l:=by
 rw [arc_get h];exact List.getElem_mem h
attribute [irreducible] arc
def okArcW (n : Int) (a : Arc) : Bool:=inB a.f0 0 (wrap64 (n - 1)) && (inB a.f1 0 (wrap64 (n - 1)) && (!decide (a.f0 = a.f1) && (inB a.f2 0 99 && (inB a.f3 0 99 && inB a.f4 0 9))))
theorem l1Ok_l (n : Int) (l : List Arc) (hm : l.length ≤ maxLen) : ∀ (m i : Nat),l.length - i = m → i ≤ l.length → Ev (fun k => spec_l1Ok.l0 k (i : Int) n l) ((l.drop i).all (okArcW n) && (inB n 1 8 && decide ((l.length : Int) ≤ 16))):=by
 intro m
 induction m with
 | zero =>
  intro i hd hi;refine Ev.go ?_ (fun k => by rw [spec_l1Ok.l0]);refine Ev.neg (by omega) (Ev.bind0 (in1 _ _ _) ?_);rw [List.drop_of_length_le (by omega)];exact (Ev.and (Ev.now _)).cast (by simp)
 | succ m ih =>
  intro i hd hi;have hlt : i < l.length:=by omega
  refine Ev.go ?_ (fun k => by rw [spec_l1Ok.l0]);rw [drop_cons hlt,← arc_get hlt,List.all_cons,rda,up1 hlt hm];refine Ev.pos (by omega) (Ev.pos (by omega) ?_);refine Ev.cast (Ev.bind0 (in1 _ _ _) (Ev.and (Ev.bind0 (in1 _ _ _) (Ev.and (Ev.nand (Ev.bind0 (in1 _ _ _) (Ev.and (Ev.bind0 (in1 _ _ _) (Ev.and (Ev.bind0 (in1 _ _ _) (Ev.and (ih (i + 1) (by omega) (by omega))))))))))))) ?_;simp only [okArcW,Bool.and_assoc]
theorem okArcW_okArc {n : Int} (h : 1 ≤ n) (h8 : n ≤ 8) (a : Arc) : okArcW n a = okArc n a:=by
 unfold okArcW okArc inB okN okC
 rw [w64 (by omega) (by omega)];have e : (a.f4 ≤ 9) ↔ (a.f4 ≤ 10 - 1):=by omega
 have e2 : (a.f0 == a.f1) = decide (a.f0 = a.f1):=by
  by_cases c : a.f0 = a.f1 <;> simp [c]
 rw [e2];simp only [Bool.and_assoc,e]
theorem l1Ok_ev (n : Int) (l : List Arc) (hm : l.length ≤ maxLen) : Ev (fun k => spec_l1Ok.f k n l) (netOkB n l):=by
 unfold spec_l1Ok.f
 refine (l1Ok_l n l hm _ 0 rfl (by omega)).cast ?_
 unfold netOkB
 rw [List.drop_zero]
 by_cases h : 1 ≤ n ∧ n ≤ 8
 case pos =>
  have e : l.all (okArcW n) = l.all (okArc n):=by
   congr 1
   funext a
   exact okArcW_okArc h.1 h.2 a
  rw [e,show inB n 1 8 = true from inB_iff.2 h];simp [h.1,h.2,Bool.and_comm]
 have e : inB n 1 8 = false:=by
  cases c : inB n 1 8 with
  | false => rfl
  | true => exact absurd (inB_iff.1 c) h
 rw [e];have e2 : (decide (1 ≤ n) && decide (n ≤ 8)) = false:=e;simp only [e2,Bool.false_and,Bool.and_false]
structure NetGood (n : Int) (l : List Arc) : Prop where
 n1 : 1 ≤ n
 n8 : n ≤ 8
 len : l.length ≤ 16
 ok : ∀ i,i < l.length → (0 ≤ (arc l i).f0 ∧ (arc l i).f0 < n) ∧ (0 ≤ (arc l i).f1 ∧ (arc l i).f1 < n) ∧ (arc l i).f0 ≠ (arc l i).f1 ∧ (0 ≤ (arc l i).f2 ∧ (arc l i).f2 ≤ 99) ∧ (0 ≤ (arc l i).f3 ∧ (arc l i).f3 ≤ 99) ∧ (0 ≤ (arc l i).f4 ∧ (arc l i).f4 ≤ 9)
theorem okArc_iff (n : Int) (a : Arc) : okArc n a = true ↔ (0 ≤ a.f0 ∧ a.f0 < n) ∧ (0 ≤ a.f1 ∧ a.f1 < n) ∧ a.f0 ≠ a.f1 ∧ (0 ≤ a.f2 ∧ a.f2 ≤ 99) ∧ (0 ≤ a.f3 ∧ a.f3 ≤ 99) ∧ (0 ≤ a.f4 ∧ a.f4 ≤ 9):=by
 simp only [okArc,okN,okC,Bool.and_eq_true,decide_eq_true_eq,Bool.not_eq_true',beq_eq_false_iff_ne];constructor
 ·rintro ⟨⟨⟨⟨⟨⟨a1,a2⟩,a3,a4⟩,a5⟩,a6⟩,a7⟩,a8,a9⟩;exact ⟨⟨a1,by omega⟩,⟨a3,by omega⟩,a5,a6,a7,a8,by omega⟩
 ·rintro ⟨⟨a1,a2⟩,⟨a3,a4⟩,a5,a6,a7,a8,a9⟩;exact ⟨⟨⟨⟨⟨⟨a1,by omega⟩,a3,by omega⟩,a5⟩,a6⟩,a7⟩,a8,by omega⟩
theorem netOkB_iff (n : Int) (l : List Arc) : netOkB n l = true ↔ NetGood n l:=by
 simp only [netOkB,Bool.and_eq_true,decide_eq_true_eq,List.all_eq_true];constructor
 ·rintro ⟨⟨⟨h1,h2⟩,h3⟩,h4⟩;exact ⟨h1,h2,by omega,fun i hi => (okArc_iff n _).1 (h4 _ (arc_mem hi))⟩
 ·rintro ⟨h1,h2,h3,h4⟩;refine ⟨⟨⟨h1,h2⟩,by omega⟩,fun a ha => ?_⟩;obtain ⟨i,hi,rfl⟩:=List.getElem_of_mem ha;rw [← arc_get hi];exact (okArc_iff n _).2 (h4 i hi)
theorem szNet_eq (n : Int) (l : List S127) (a : Int) (ha : -1 ≤ a) (ha' : a ≤ 1048576) (hm : l.length ≤ maxLen) : laws_szNet.f n l a = some (if a - (l.length : Int) < 0 then -1 else a - (l.length : Int)):=by
 simp only [maxLen] at hm
 unfold laws_szNet.f laws_szArcS.f
 rw [w64 (by omega) (by omega)]
 by_cases c : a - (l.length : Int) < 0
 case neg => rw [if_neg c,if_neg c,Option.bind_some,if_neg c]
 rw [if_pos c,if_pos c,Option.bind_some,if_pos (by omega)]
def toA (a : S127) : Arc:=⟨a.f0,a.f1,a.f2,a.f3,a.f4⟩
theorem toArcS_l (l : List S127) (hm : l.length ≤ maxLen) : ∀ (d i : Nat) (x : List Arc),l.length - i = d → i ≤ l.length → x.length = l.length → x.take i = (l.map toA).take i → Ev (fun k => laws_toArcS.l0 k l x (i : Int)) (l.map toA):=by
 intro d
 induction d with
 | zero =>
  intro i x hd hi hx ht;refine Ev.go ?_ (fun k => by rw [laws_toArcS.l0]);refine Ev.neg (by omega) (Ev.is ?_);have e : i = l.length:=by omega
  subst e
  rwa [List.take_of_length_le (by omega),List.take_of_length_le (by simp)] at ht
 | succ d ih =>
  intro i x hd hi hx ht;have hlt : i < l.length:=by omega
  refine Ev.go ?_ (fun k => by rw [laws_toArcS.l0]);refine Ev.pos (by omega) (Ev.pos (by omega) (Ev.bind0 rfl (Ev.pos (by omega) ?_)));rw [up1 hlt hm];refine ih (i + 1) _ (by omega) (by omega) (by simp [hx]) ?_;have hr : rd_T127 l (i : Int) = l[i]:=by simp [rd_T127,hlt]
  simp only [Int.toNat_natCast,hr];rw [List.take_succ_eq_append_getElem (by simp; omega),List.take_succ_eq_append_getElem (l:=l.map toA) (by simpa using hlt),List.take_set_of_le (Nat.le_refl _),ht];simp [toA]
theorem toNet_ev (n : Int) (l : List S127) (hm : l.length ≤ 7036874417766) : Ev (fun k => laws_toNet.f k n l) (n,l.map toA):=by
 unfold laws_toNet.f
 refine Ev.bind (a:=l.map toA) ?_ (Ev.now _)
 unfold laws_toArcS.f
 refine Ev.pos (by omega) (Ev.pos (by simp; omega) ?_);exact toArcS_l l (by simp only [maxLen]; omega) _ 0 _ rfl (by omega) (by simp) (by simp)
theorem eqArcS_l (l : List Arc) (hm : l.length ≤ maxLen) : ∀ (d i : Nat),l.length - i = d → i ≤ l.length → Ev (fun k => laws_eqArcS.l0 k l l (i : Int)) true:=by
 intro d
 induction d with
 | zero =>
  intro i hd hi;refine Ev.go ?_ (fun k => by rw [laws_eqArcS.l0]);exact Ev.neg (by omega) (Ev.now _)
 | succ d ih =>
  intro i hd hi;have hlt : i < l.length:=by omega
  refine Ev.go ?_ (fun k => by rw [laws_eqArcS.l0]);refine Ev.pos (by omega) (Ev.pos (by omega) (Ev.pos (by omega) (Ev.bind0 (a:=true) (by simp [laws_eqArc.f]) (Ev.pos rfl ?_))));rw [up1 hlt hm];exact ih (i + 1) (by omega) (by omega)
theorem eqNet_ev (n : Int) (l : List Arc) (hm : l.length ≤ maxLen) : Ev (fun k => laws_eqNet.f k n l n l) true:=by
 unfold laws_eqNet.f
 refine Ev.pos rfl (Ev.bind (a:=true) ?_ (Ev.pos rfl (Ev.now _)))
 unfold laws_eqArcS.f
 exact Ev.pos rfl (eqArcS_l l hm _ 0 rfl (by omega))
end Go.Proofs.Ytlhmljngjdfbpaa.Pure
end
section
set_option linter.unusedSimpArgs false
set_option linter.unusedVariables false
namespace Go.Proofs.Ytlhmljngjdfbpaa.Pure
open Go.RowKit Go.Proofs.Ytlhmljngjdfbpaa.Pr Go.Proofs.YtlhmljngjdfbpaaW.PrintWords Go.Proofs.YtlhmljngjdfbpaaW.PrintLast Go.Proofs.YtlhmljngjdfbpaaW.PrintMore
inductive Conn (E : Nat → Nat → Prop) : Nat → Nat → Prop
 | refl (v : Nat) : Conn E v v
 | tail {u v w : Nat} : Conn E u v → (E v w ∨ E w v) → Conn E u w
end Go.Proofs.Ytlhmljngjdfbpaa.Pure
end
section
set_option linter.unusedSimpArgs false
set_option linter.unusedVariables false
set_option linter.unusedSectionVars false
namespace Go.Proofs.Ytlhmljngjdfbpaa.Pure
open Go.RowKit Go.Proofs.Ytlhmljngjdfbpaa.Pr Go.Proofs.YtlhmljngjdfbpaaW.PrintWords Go.Proofs.YtlhmljngjdfbpaaW.PrintLast Go.Proofs.YtlhmljngjdfbpaaW.PrintMore
structure Parts (n : Nat) (E : Nat → Nat → Prop) (F : Nat → Int) : Prop where
 same : ∀ a b,E a b → F a = F b
 low : ∀ v,v < n → F v ≤ v
 conn : ∀ v,v < n → ∃ u : Nat,F v = u ∧ u < n ∧ Conn E u v
section
variable {n : Int} {l : List Arc} (hg : NetGood n l) {x : List Int} (hx : ∀ j,j < x.length → 0 ≤ nth x j ∧ nth x j < l.length)
include hg hx
end
section
variable {n : Int} {l : List Arc} (hg : NetGood n l) {x : List Int} (hx : ∀ j,j < x.length → 0 ≤ nth x j ∧ nth x j < l.length)
include hg hx
end
section
variable {n : Int} {l : List Arc} (hg : NetGood n l) {x : List Int} (hx : ∀ j,j < x.length → 0 ≤ nth x j ∧ nth x j < l.length)
include hg hx
end
section
variable {n : Int} {l : List Arc} (hg : NetGood n l) {x : List Int} (hx : ∀ j,j < x.length → 0 ≤ nth x j ∧ nth x j < l.length) (hm : x.length ≤ 35184372088832)
include hg hx hm
end
end Go.Proofs.Ytlhmljngjdfbpaa.Pure
end
section
set_option linter.unusedSimpArgs false
set_option linter.unusedVariables false
namespace Go.Proofs.Ytlhmljngjdfbpaa.Pure
open Go.RowKit Go.Proofs.Ytlhmljngjdfbpaa.Pr Go.Proofs.YtlhmljngjdfbpaaW.PrintWords Go.Proofs.YtlhmljngjdfbpaaW.PrintLast Go.Proofs.YtlhmljngjdfbpaaW.PrintMore
def arcsB (n : Int) (l : List Arc) (x : List Int) : Bool:=netOkB n l && decide ((x.length : Int) ≤ 16) && x.all (okN (l.length : Int))
theorem arcsB_iff (n : Int) (l : List Arc) (x : List Int) : arcsB n l x = true ↔ NetGood n l ∧ x.length ≤ 16 ∧ ∀ j,j < x.length → 0 ≤ nth x j ∧ nth x j < l.length:=by
 simp only [arcsB,Bool.and_eq_true,netOkB_iff,decide_eq_true_eq,List.all_eq_true,okN];constructor
 ·rintro ⟨⟨h1,h2⟩,h3⟩;refine ⟨h1,by omega,fun j hj => ?_⟩;have:=h3 _ (getD_mem hj);omega
 ·rintro ⟨h1,h2,h3⟩;refine ⟨⟨h1,by omega⟩,fun c hc => ?_⟩;obtain ⟨j,hj,rfl⟩:=mem_getD hc;have:=h3 j hj;omega
end Go.Proofs.Ytlhmljngjdfbpaa.Pure
end
section
set_option linter.unusedVariables false
set_option linter.unusedSimpArgs false
set_option linter.unusedSimpArgs false
end
section
set_option linter.unusedSimpArgs false
set_option linter.unusedVariables false
set_option linter.unusedVariables false
end
section
set_option linter.unusedSectionVars false
namespace Go.Proofs.Ytlhmljngjdfbpaa.Sp
structure G where
 n : Nat
 m : Nat
 fr : Nat → Nat
 tw : Nat → Nat
 w : Nat → Int
 use : Nat → Bool
structure G.Ok (g : G) : Prop where
 fl : ∀ i,i < g.m → g.fr i < g.n
 tl : ∀ i,i < g.m → g.tw i < g.n
 w0 : ∀ i,i < g.m → 0 ≤ g.w i
inductive Wk (g : G) : Nat → Nat → Nat → Int → Prop
 | nil (v : Nat) : Wk g v v 0 0
 | cons {i v k : Nat} {c : Int} : i < g.m → g.use i = true → Wk g (g.tw i) v k c → Wk g (g.fr i) v (k + 1) (g.w i + c)
inductive Sm (g : G) (t : Nat) : Nat → List Nat → Nat → Int → Prop
 | nil : Sm g t t [t] 0 0
 | cons {i k : Nat} {L : List Nat} {c : Int} : i < g.m → g.use i = true → Sm g t (g.tw i) L k c → g.fr i ∉ L → Sm g t (g.fr i) (g.fr i :: L) (k + 1) (g.w i + c)
def Opt (g : G) (t : Nat) (L : Nat → Option Int) : Prop:=∀ v,v < g.n → (∀ x,L v = some x → ∃ k,Wk g v t k x) ∧ (∀ k c,Wk g v t k c → ∃ x,L v = some x ∧ x ≤ c)
def lts (a : Int) : Option Int → Bool
 | none => true
 | some y => decide (a < y)
def put (L : Nat → Option Int) (a : Nat) (x : Int) : Nat → Option Int:=fun v => if v = a then some x else L v
def relax (g : G) (L : Nat → Option Int) (i : Nat) : Nat → Option Int :=
 if g.use i = true then
  match L (g.tw i) with
  | none => L
  | some x => if lts (x + g.w i) (L (g.fr i)) = true then put L (g.fr i) (x + g.w i) else L
 else L
def sweep (g : G) (L : Nat → Option Int) : Nat → (Nat → Option Int)
 | 0 => L
 | i + 1 => relax g (sweep g L i) i
def start (t : Nat) : Nat → Option Int:=fun v => if v = t then some 0 else none
def rounds (g : G) (t : Nat) : Nat → (Nat → Option Int)
 | 0 => start t
 | r + 1 => sweep g (rounds g t r) g.m
end Go.Proofs.Ytlhmljngjdfbpaa.Sp
namespace Go.Proofs.Ytlhmljngjdfbpaa.Sp
structure Dbl (g e s : G) (D : Nat → Option Int) : Prop where
 en : e.n = g.n
 em : e.m = g.m
 ef : e.fr = g.fr
 et : e.tw = g.tw
 eu : e.use = g.use
 ew : ∀ i,i < g.m → e.w i = 1000 * g.w i + 1
 sn : s.n = g.n
 sm : s.m = g.m
 sf : s.fr = g.fr
 st : s.tw = g.tw
 sw : ∀ i,i < g.m → s.w i = 1
 su : ∀ i,i < g.m → (s.use i = true ↔ g.use i = true ∧ ∃ x,D (g.tw i) = some x ∧ D (g.fr i) = some (g.w i + x))
section
variable {g e s : G} {t : Nat} {D S : Nat → Option Int} (h : Dbl g e s D) (ok : g.Ok) (hD : Opt g t D) (hS : Opt s t S) (ht : t < g.n)
include h
end
end Go.Proofs.Ytlhmljngjdfbpaa.Sp
end
section
set_option linter.unusedSimpArgs false
set_option linter.unusedVariables false
set_option linter.unusedSectionVars false
namespace Go.Proofs.Ytlhmljngjdfbpaa.Pure
open Go.RowKit Go.Proofs.Ytlhmljngjdfbpaa.Pr Go.Proofs.YtlhmljngjdfbpaaW.PrintWords Go.Proofs.YtlhmljngjdfbpaaW.PrintLast Go.Proofs.YtlhmljngjdfbpaaW.PrintMore
open Go.Proofs.Ytlhmljngjdfbpaa.Sp (G Wk Opt lts put relax sweep rounds start Dbl)
section
variable {N : Nat} {l : List Arc} (hg : NetGood N l)
include hg
end
section
variable {N : Nat} {l : List Arc} (hg : NetGood N l) {t : Nat} (ht : t < N)
include hg ht
end
def hit (g : G) (L : Nat → Option Int) (i : Nat) : Bool:=match L (g.tw i) with
 | none => false
 | some x => lts (x + g.w i) (L (g.fr i))
def fl (g : G) (L : Nat → Option Int) : Nat → Bool
 | 0 => false
 | i + 1 => fl g L i || hit g (sweep g L i) i
section
variable {N : Nat} {l : List Arc} (hg : NetGood N l)
include hg
end
end Go.Proofs.Ytlhmljngjdfbpaa.Pure
end
section
namespace Go.Proofs.Ytlhmljngjdfbpaa.Pr
open Go.RowKit Go.Proofs.YtlhmljngjdfbpaaW.PrintWords Go.Proofs.YtlhmljngjdfbpaaW.PrintLast Go.Proofs.YtlhmljngjdfbpaaW.PrintMore
attribute [local go_sem] max2_int min2_int max_two min_two max_three min_three max_four min_four
set_option linter.unusedVariables false
set_option linter.unusedSimpArgs false
open List renaming setIfInBounds_toArray → U,set_cons_zero → O,set_cons_succ → I
open Go.Proofs.YtlhmljngjdfbpaaW.PrintWords.Aside0 renaming mk → V
mutual
def impl_WalkOk.j0 : Nat → List Int → Bool → Int → List (S58) → Option (Bool)
 | 0,_,_,_,_ => none
 | k + 1,x1,x14,x414000,x414001 => if x14 = true then (some false) else (impl_WalkOk.l0 k x1 x1 (x1.length : Int) 0 x414000 x414001)
def impl_WalkOk.l0 : Nat → List Int → List Int → Int → Int → Int → List (S58) → Option (Bool)
 | 0,_,_,_,_,_,_ => none
 | k + 1,x1,x15,x16,x17,x414000,x414001 => if x17 < x16 then (if 0 ≤ x17 then (if x17 < (x15.length : Int) then ((impl_within.f (rd x15 x17) 0 (wrap64 ((x414001.length : Int) - 1))).bind fun t416 => (if t416 = true then (if x17 > 0 then (if 0 ≤ (wrap64 (x17 - 1)) then (if (wrap64 (x17 - 1)) < (x1.length : Int) then (if 0 ≤ (rd x1 (wrap64 (x17 - 1))) then (if (rd x1 (wrap64 (x17 - 1))) < (x414001.length : Int) then (if 0 ≤ (rd x15 x17) then (if (rd x15 x17) < (x414001.length : Int) then (if ((rd_T58 x414001 (rd x1 (wrap64 (x17 - 1)))).f1) = ((rd_T58 x414001 (rd x15 x17)).f0) then (impl_WalkOk.l0 k x1 x15 x16 (wrap64 (x17 + 1)) x414000 x414001) else (some false)) else (none)) else (none)) else (none)) else (none)) else (none)) else (none)) else (impl_WalkOk.l0 k x1 x15 x16 (wrap64 (x17 + 1)) x414000 x414001)) else (some false))) else (none)) else (none)) else (some true)
end
end Go.Proofs.Ytlhmljngjdfbpaa.Pr
end
section
set_option linter.unusedSimpArgs false
set_option linter.unusedVariables false
set_option linter.unusedSectionVars false
namespace Go.Proofs.Ytlhmljngjdfbpaa.Pure
open Go.RowKit Go.Proofs.Ytlhmljngjdfbpaa.Pr Go.Proofs.YtlhmljngjdfbpaaW.PrintWords Go.Proofs.YtlhmljngjdfbpaaW.PrintLast Go.Proofs.YtlhmljngjdfbpaaW.PrintMore
open Go.Proofs.Ytlhmljngjdfbpaa.Sp (G Wk Opt)
def wkB (l : List Arc) : Option Int → List Int → Bool
 | _,[] => true
 | p,k :: w => (inB k 0 ((l.length : Int) - 1) && (match p with | none => true | some q => decide ((arc l q.toNat).f1 = (arc l k.toNat).f0))) && wkB l (some k) w
def sumW (l : List Arc) (w : List Int) : Int:=(w.map fun k => (arc l k.toNat).f2).sum
theorem sumW_bd {N : Nat} {l : List Arc} (hg : NetGood N l) : ∀ (w : List Int),(∀ k ∈ w,0 ≤ k ∧ k < l.length) → 0 ≤ sumW l w ∧ sumW l w ≤ 99 * (w.length : Int)
 | [],_ => by simp [sumW]
 | k :: w,h => by
  have ih:=sumW_bd hg w (fun x hx => h x (List.mem_cons_of_mem _ hx));have h1:=h k (List.mem_cons_self ..);have h2:=(hg.ok k.toNat (by omega)).2.2.2.1;have e : sumW l (k :: w) = (arc l k.toNat).f2 + sumW l w:=by simp [sumW]
  rw [e,List.length_cons];omega
def prv (w : List Int) : Nat → Option Int
 | 0 => none
 | i + 1 => some (nth w i)
theorem walkOk_l (n : Int) {l : List Arc} (hl : l.length ≤ 1000) {w : List Int} (hw : w.length ≤ 1000) : ∀ (m i : Nat),w.length - i = m → i ≤ w.length → (∀ q,prv w i = some q → 0 ≤ q ∧ q < l.length) → Ev (fun k => impl_WalkOk.l0 k w w (w.length : Int) (i : Int) n l) (wkB l (prv w i) (w.drop i)):=by
 intro m
 induction m with
 | zero =>
  intro i hd hi _;refine Ev.go ?_ (fun k => by rw [impl_WalkOk.l0]);rw [List.drop_of_length_le (by omega)];exact Ev.neg (by omega) (Ev.is (by cases prv w i <;> rfl))
 | succ m ih =>
  intro i hd hi hp;have hlt : i < w.length:=by omega
  refine Ev.go ?_ (fun k => by rw [impl_WalkOk.l0]);rw [rdg i,up1 hlt (by simp only [maxLen]; omega),drop_cons hlt,← nth_get hlt];refine Ev.pos (by omega) (Ev.pos (by omega) (Ev.pos (by omega) (Ev.bind0 (within1 _ _ _) ?_)));rw [w64 (n:=(l.length : Int) - 1) (by omega) (by omega)];cases hb : inB (nth w i) 0 ((l.length : Int) - 1) with
  | false => exact Ev.neg (by simp) (Ev.is (by simp [wkB,hb]))
  | true =>
   have hk:=inB_iff.1 hb;have ih:=ih (i + 1) (by omega) (by omega) (fun q hq => by obtain rfl:=Option.some.inj hq; omega);refine Ev.pos rfl ?_;cases i with
   | zero => exact Ev.neg (by omega) (ih.cast (by simp [wkB,hb,prv]))
   | succ j =>
    have hq:=hp (nth w j) rfl;have e : wrap64 (((j + 1 : Nat) : Int) - 1) = (j : Int):=by rw [w64 (by omega) (by omega)]; omega
    rw [e,rdg j];have ea : ∀ q : Int,0 ≤ q → rd_T58 l q = arc l q.toNat:=fun q h => by rw [← rda]; congr 1; omega
    rw [ea _ hq.1,ea _ hk.1];refine Ev.pos (by omega) (Ev.pos (by omega) (Ev.pos (by omega) (Ev.pos (by omega) (Ev.pos (by omega) (Ev.pos (by omega) (Ev.pos (by omega) ?_))))))
    by_cases c : (arc l (nth w j).toNat).f1 = (arc l (nth w (j + 1)).toNat).f0
    case neg => exact Ev.neg c (Ev.is (by simp [wkB,hb,prv,c]))
    exact Ev.pos c (ih.cast (by simp [wkB,hb,prv,c]))
theorem cost_l {N : Nat} {l : List Arc} (hg : NetGood N l) {w : List Int} (hw : w.length ≤ 1000) (hk : ∀ k ∈ w,0 ≤ k ∧ k < l.length) : ∀ (m i : Nat),w.length - i = m → i ≤ w.length → Ev (fun k => impl_Net_cost.l0 k (sumW l (w.take i)) w (w.length : Int) (i : Int) N l) (sumW l w):=by
 intro m
 induction m with
 | zero =>
  intro i hd hi;refine Ev.go ?_ (fun k => by rw [impl_Net_cost.l0]);rw [List.take_of_length_le (by omega)];exact Ev.neg (by omega) (Ev.now _)
 | succ m ih =>
  intro i hd hi;have hlt : i < w.length:=by omega
  have h1:=hk w[i] (List.getElem_mem hlt);have h2:=(hg.ok w[i].toNat (by omega)).2.2.2.1;have hb:=sumW_bd hg (w.take i) (fun k hx => hk k (List.mem_of_mem_take hx));rw [List.length_take] at hb;refine Ev.go ?_ (fun k => by rw [impl_Net_cost.l0]);have ih:=ih (i + 1) (by omega) (by omega);have e : sumW l (w.take (i + 1)) = sumW l (w.take i) + (arc l w[i].toNat).f2:=by
   unfold sumW
   rw [List.take_succ_eq_append_getElem hlt,List.map_append,List.sum_append_int,List.map_singleton,List.sum_singleton]
  rw [e] at ih;have ea : rd_T58 l w[i] = arc l w[i].toNat:=by rw [← rda]; congr 1; omega
  rw [rdg i,nth_get hlt,ea,up1 hlt (by simp only [maxLen]; omega),w64 (n:=sumW l (w.take i) + _) (by omega) (by omega)];exact Ev.pos (by omega) (Ev.pos (by omega) (Ev.pos (by omega) (Ev.pos (by omega) (Ev.pos (by omega) ih))))
theorem cost_ev {N : Nat} {l : List Arc} (hg : NetGood N l) {w : List Int} (hw : w.length ≤ 1000) (hk : ∀ k ∈ w,0 ≤ k ∧ k < l.length) : Ev (fun k => impl_Net_cost.f k N l w) (sumW l w):=by
 unfold impl_Net_cost.f
 simpa [sumW] using cost_l hg hw hk _ 0 rfl (Nat.zero_le _)
end Go.Proofs.Ytlhmljngjdfbpaa.Pure
end
section
set_option linter.unusedSimpArgs false
set_option linter.unusedVariables false
namespace Go.Proofs.Ytlhmljngjdfbpaa.Dd
def addZ (s : List Int) (x : Int) : List Int:=if x ∈ s then s else s ++ [x]
def dd (xs : List Int) : List Int:=xs.foldl addZ []
theorem addZ_mem {s : List Int} {x y : Int} : y ∈ addZ s x ↔ y ∈ s ∨ y = x:=by
 unfold addZ
 by_cases h : x ∈ s
 case neg =>
  rw [if_neg h];simp
 rw [if_pos h];exact ⟨Or.inl,fun e => e.elim id (fun e => by rw [e]; exact h)⟩
theorem addZ_nodup {s : List Int} {x : Int} (h : s.Nodup) : (addZ s x).Nodup:=by
 unfold addZ
 by_cases hx : x ∈ s
 case pos => rw [if_pos hx]; exact h
 rw [if_neg hx,List.nodup_append];exact ⟨h,by simp,fun a ha b hb e => hx (by rw [List.mem_singleton] at hb; rw [← hb,← e]; exact ha)⟩
theorem fold_nodup : ∀ (xs s : List Int),s.Nodup → (xs.foldl addZ s).Nodup
 | [],_,h => h
 | _ :: xs,s,h => fold_nodup xs _ (addZ_nodup h)
theorem fold_mem {y : Int} : ∀ (xs s : List Int),y ∈ xs.foldl addZ s ↔ y ∈ s ∨ y ∈ xs
 | [],_ => by simp
 | x :: xs,s => by
  rw [List.foldl_cons,fold_mem xs,addZ_mem,List.mem_cons];constructor
  ·rintro ((h | h) | h)
   ·exact .inl h
   ·exact .inr (.inl h)
   ·exact .inr (.inr h)
  ·rintro (h | h | h)
   ·exact .inl (.inl h)
   ·exact .inl (.inr h)
   ·exact .inr h
theorem dd_mem {xs : List Int} {y : Int} : y ∈ dd xs ↔ y ∈ xs:=by unfold dd; rw [fold_mem]; simp
theorem dd_nodup (xs : List Int) : (dd xs).Nodup:=fold_nodup xs [] List.nodup_nil
theorem dd_snoc (xs : List Int) (x : Int) : dd (xs ++ [x]) = addZ (dd xs) x:=by
 unfold dd
 rw [List.foldl_append];rfl
theorem sub_len : ∀ (a b : List Int),a.Nodup → (∀ x ∈ a,x ∈ b) → a.length ≤ b.length
 | [],b,_,_ => Nat.zero_le _
 | x :: a,b,hn,hs => by
  obtain ⟨h1,h2⟩:=List.nodup_cons.1 hn;have hx:=hs x (List.mem_cons_self ..);have ih:=sub_len a (b.erase x) h2 (fun y hy => (List.mem_erase_of_ne (fun e => h1 (by rw [← e]; exact hy))).2 (hs y (List.mem_cons_of_mem _ hy)));rw [List.length_erase_of_mem hx] at ih;have:=List.length_pos_of_mem hx;rw [List.length_cons];omega
end Go.Proofs.Ytlhmljngjdfbpaa.Dd
end
section
set_option linter.unusedSimpArgs false
set_option linter.unusedVariables false
namespace Go.Proofs.Ytlhmljngjdfbpaa.Dd
open Go.Lib
theorem compact_once (zs : List Int) (hs : zs.Pairwise (· ≤ ·)) : ∀ m,m ≤ zs.length → (compactUpTo zs.toArray m).Nodup ∧ ∀ x,x ∈ compactUpTo zs.toArray m ↔ x ∈ zs.take m
 | 0,_ => ⟨by simp [compactUpTo],by simp [compactUpTo]⟩
 | m + 1,hm => by
  obtain ⟨h1,h2⟩:=compact_once zs hs m (by omega);have hlt : m < zs.length:=hm;have e1 : zs.toArray[m]! = zs[m]:=by simp [getElem!_pos,hlt]
  have ht : ∀ x,x ∈ zs.take (m + 1) ↔ x ∈ zs.take m ∨ x = zs[m]:=fun x => by
   rw [List.take_succ_eq_append_getElem hlt,List.mem_append,List.mem_singleton]
  have hle : ∀ i (hi : i < zs.length) j (hj : j < zs.length),i < j → zs[i] ≤ zs[j]:=fun i hi j hj hij => List.pairwise_iff_getElem.1 hs i j hi hj hij
  rw [compactUpTo_succ,e1]
  by_cases hk : keeps zs.toArray m = true
  case neg =>
   rw [if_neg hk,List.append_nil];refine ⟨h1,fun x => ?_⟩;rw [h2,ht]
   unfold keeps at hk
   rw [decide_eq_true_eq,not_or,Classical.not_not] at hk;have e2 : zs.toArray[m - 1]! = zs[m - 1]:=by simp [getElem!_pos,show m - 1 < zs.length by omega]
   have e3:=hk.2;rw [e1,e2] at e3;refine ⟨Or.inl,fun h => h.elim id (fun e => ?_)⟩;rw [e,e3];have : m - 1 < (zs.take m).length:=by simp; omega
   have:=List.getElem_mem this
   rwa [List.getElem_take] at this
  rw [if_pos hk];have hn : zs[m] ∉ zs.take m:=by
   intro h;obtain ⟨i,hi,e⟩:=List.getElem_of_mem h;have hi2 : i < m:=by simp at hi; omega
   rw [List.getElem_take] at e
   unfold keeps at hk
   rw [decide_eq_true_eq] at hk
   rcases hk with hk | hk
   ·omega
   ·have e2 : zs.toArray[m - 1]! = zs[m - 1]:=by simp [getElem!_pos,show m - 1 < zs.length by omega]
    rw [e1,e2] at hk;have a1:=hle (m - 1) (by omega) m hlt (by omega)
    by_cases c : i = m - 1
    case pos => subst c; exact hk e.symm
    have a2:=hle i (by omega) (m - 1) (by omega) (by omega);omega
  refine ⟨?_,fun x => ?_⟩
  ·rw [List.nodup_append];exact ⟨h1,by simp,fun a ha b hb e => hn (by rw [List.mem_singleton] at hb; rw [← hb,← e]; exact (h2 a).1 ha)⟩
  ·rw [List.mem_append,List.mem_singleton,h2,ht]
theorem sorted_pw (x : List Int) : (x.mergeSort fun x y => decide (x ≤ y)).Pairwise (· ≤ ·):=by
 have:=List.pairwise_mergeSort (le:=fun x y : Int => decide (x ≤ y)) (fun a b c h1 h2 => by rw [decide_eq_true_eq] at *; omega) (fun a b => by
  rw [Bool.or_eq_true,decide_eq_true_eq,decide_eq_true_eq]; omega) x
 exact this.imp (fun h => by simpa using h)
theorem sum_same (f : Int → Int) : ∀ (a b : List Int),a.Nodup → b.Nodup → (∀ x,x ∈ a ↔ x ∈ b) → (a.map f).sum = (b.map f).sum
 | [],b,_,_,h => by
  have : b = []:=List.eq_nil_iff_forall_not_mem.2 (fun x hx => by have:=(h x).2 hx; simp at this);rw [this]
 | x :: a,b,hn,hb,h => by
  obtain ⟨h1,h2⟩:=List.nodup_cons.1 hn;have hx:=(h x).1 (List.mem_cons_self ..);obtain ⟨p,q,e⟩:=List.append_of_mem hx;subst e;have hb2:=List.nodup_append.1 hb;obtain ⟨hq1,hq2⟩:=List.nodup_cons.1 hb2.2.1;have hpx : x ∉ p:=fun hp => hb2.2.2 x hp x (List.mem_cons_self ..) rfl
  have ih:=sum_same f a (p ++ q) h2 (List.nodup_append.2 ⟨hb2.1,hq2,fun a ha b hb e => hb2.2.2 a ha b (List.mem_cons_of_mem _ hb) e⟩) (fun y => by
   have hy:=h y;rw [List.mem_cons,List.mem_append,List.mem_cons] at hy;rw [List.mem_append];constructor
   ·intro ha
    rcases hy.1 (.inr ha) with h | h | h
    ·exact .inl h
    ·subst h; exact absurd ha h1
    ·exact .inr h
   ·intro hm;have : y ≠ x:=fun e => by subst e; exact hm.elim hpx hq1
    rcases hy.2 (hm.elim .inl (fun h => .inr (.inr h))) with h | h
    ·exact absurd h this
    ·exact h)
  simp only [List.map_cons,List.sum_cons,List.map_append,List.sum_append] at ih ⊢;omega
end Go.Proofs.Ytlhmljngjdfbpaa.Dd
end
section
set_option linter.unusedSimpArgs false
set_option linter.unusedVariables false
namespace Go.Proofs.Ytlhmljngjdfbpaa.Pure
open Go.RowKit Go.Proofs.Ytlhmljngjdfbpaa.Pr Go.Proofs.YtlhmljngjdfbpaaW.PrintWords Go.Proofs.YtlhmljngjdfbpaaW.PrintLast Go.Proofs.YtlhmljngjdfbpaaW.PrintMore
open Go.Proofs.Ytlhmljngjdfbpaa.Dd (dd dd_mem dd_nodup addZ dd_snoc)
theorem inL_l (x : List Int) (v : Int) (hm : x.length ≤ maxLen) : ∀ (m i : Nat),x.length - i = m → i ≤ x.length → Ev (fun k => spec_l12In.l0 k x v (i : Int)) (decide (v ∈ x.drop i)):=by
 intro m
 induction m with
 | zero =>
  intro i hd hi;refine Ev.go ?_ (fun k => by rw [spec_l12In.l0]);rw [List.drop_of_length_le (by omega)];exact Ev.neg (by omega) (Ev.is (by simp))
 | succ m ih =>
  intro i hd hi;have hlt : i < x.length:=by omega
  have hn:=ih (i + 1) (by omega) (by omega);rw [← up1 hlt hm] at hn;refine Ev.go ?_ (fun k => by rw [spec_l12In.l0]);refine Ev.pos (by omega) (Ev.pos (by omega) ?_);rw [rdn hlt,drop_cons hlt]
  by_cases c : x[i] = v
  case pos => exact Ev.pos c (Ev.is (decide_eq_true (List.mem_cons.2 (.inl c.symm))).symm)
  exact Ev.neg c (hn.cast (by rw [decide_eq_decide]; simp only [List.mem_cons]; exact ⟨.inr,fun h => h.resolve_left (fun e => c e.symm)⟩))
theorem inL_ev (x : List Int) (v : Int) (hm : x.length ≤ maxLen) : Ev (fun k => spec_l12In.f k x v) (decide (v ∈ x)):=by
 have:=inL_l x v hm _ 0 rfl (Nat.zero_le _)
 rwa [List.drop_zero] at this
def costV (n : Int) (l : List Arc) (x : List Int) : Int:=if arcsB n l x = true then sumW l (dd x) else -1
theorem sumW_same (l : List Arc) {a b : List Int} (ha : a.Nodup) (hb : b.Nodup) (h : ∀ x,x ∈ a ↔ x ∈ b) : sumW l a = sumW l b:=Dd.sum_same _ a b ha hb h
theorem once_facts (x : List Int) : (sortedOnce x).Nodup ∧ ∀ y,y ∈ sortedOnce x ↔ y ∈ x:=by
 obtain ⟨h1,h2⟩:=Dd.compact_once (x.mergeSort fun x y => decide (x ≤ y)) (Dd.sorted_pw x) _ (Nat.le_refl _);refine ⟨h1,fun y => ?_⟩
 unfold sortedOnce
 rw [h2,List.take_length];exact (List.mergeSort_perm x _).mem_iff
theorem arcs_rng {n : Int} {l : List Arc} {x : List Int} (h : ∀ j,j < x.length → 0 ≤ nth x j ∧ nth x j < l.length) : ∀ k ∈ x,0 ≤ k ∧ k < l.length:=fun k hk => by
 obtain ⟨j,hj,rfl⟩:=mem_getD hk;exact h j hj
theorem implCost_ev (n : Int) (l : List Arc) (x : List Int) : Ev (fun k => impl_TreeCost.f k n l x) (costV n l x):=by
 unfold impl_TreeCost.f
 refine Ev.bind0 (show impl_arcsOk.f n l x = some (arcsB n l x) from rfl) ?_
 unfold costV
 cases h : arcsB n l x with
 | false => exact Ev.neg (by simp) (Ev.is (by simp))
 | true =>
  obtain ⟨hg,h16,hx⟩:=(arcsB_iff n l x).1 h;have hr:=arcs_rng (n:=n) hx;obtain ⟨N,rfl⟩ : ∃ N : Nat,n = (N : Int):=⟨n.toNat,by have:=hg.n1; omega⟩
  obtain ⟨o1,o2⟩:=once_facts x;have hl:=Dd.sub_len _ x o1 (fun y hy => (o2 y).1 hy);rw [if_pos rfl];refine Ev.pos rfl (Ev.pos (by omega) ((cost_ev hg (by omega) (fun k hk => hr k ((o2 k).1 hk))).cast ?_));exact sumW_same l o1 (dd_nodup x) (fun y => by rw [o2,dd_mem])
theorem specCostNo_l (n : Int) (l : List Arc) (x : List Int) (hl : l.length ≤ maxLen) (hm : x.length ≤ maxLen) : ∀ (m i : Nat) (s : Int),x.length - i = m → i ≤ x.length → (∀ j,j < i → okN (l.length : Int) (nth x j) = true) → arcsB n l x = false → Ev (fun k => spec_TreeCost.l0 k x s (i : Int) n l) (-1):=by
 have hl2:=hl;simp only [maxLen] at hl2;intro m
 induction m with
 | zero =>
  intro i s hd hi hok hno;have e : i = x.length:=by omega
  subst e;have hall : x.all (okN (l.length : Int)) = true:=List.all_eq_true.2 (fun c hc => by
   obtain ⟨j,hj,rfl⟩:=mem_getD hc;exact hok j hj)
  have hb : arcsB n l x = (netOkB n l && decide ((x.length : Int) ≤ 16)):=by unfold arcsB; rw [hall,Bool.and_true]
  rw [hb] at hno;refine Ev.go ?_ (fun k => by rw [spec_TreeCost.l0]);refine Ev.neg (by omega) (Ev.bind (l1Ok_ev n l hl) ?_);cases h : netOkB n l with
  | false => exact Ev.neg (by simp) (Ev.now _)
  | true =>
   rw [h] at hno;refine Ev.pos rfl (Ev.pos ?_ (Ev.now _));simp at hno;omega
 | succ m ih =>
  intro i s hd hi hok hno;have hlt : i < x.length:=by omega
  have hin:=inL_ev (x.take i) (nth x i) (by rw [List.length_take]; omega);refine Ev.go ?_ (fun k => by rw [spec_TreeCost.l0]);refine Ev.pos (by omega) (Ev.pos (by omega) (Ev.bind0 (in1 _ _ _) ?_));rw [rdg i,w64 (by omega) (by omega),Int.toNat_natCast,up1 hlt hm]
  change Ev (fun k => if okN (l.length : Int) (nth x i) = true then _ else _) _
  cases h : okN (l.length : Int) (nth x i) with
  | false => exact Ev.neg (by simp) (Ev.now _)
  | true =>
   have hr : 0 ≤ nth x i ∧ nth x i < l.length:=by
    simp only [okN,Bool.and_eq_true,decide_eq_true_eq] at h;omega
   have hj : ∀ j,j < i + 1 → okN (l.length : Int) (nth x j) = true:=fun j hj => by
    by_cases e : j = i
    case pos => subst e; exact h
    exact hok j (by omega)
   refine Ev.pos rfl (Ev.pos (by omega) (Ev.bind hin ?_));cases decide (nth x i ∈ x.take i) with
   | true => exact Ev.pos rfl (ih (i + 1) s (by omega) (by omega) hj hno)
   | false => exact Ev.neg (by simp) (Ev.pos (by omega) (Ev.pos (by omega) (ih (i + 1) _ (by omega) (by omega) hj hno)))
theorem specCost_l {n : Int} {l : List Arc} (hg : NetGood n l) {x : List Int} (h16 : x.length ≤ 16) (hx : ∀ j,j < x.length → 0 ≤ nth x j ∧ nth x j < l.length) : ∀ (m i : Nat),x.length - i = m → i ≤ x.length → Ev (fun k => spec_TreeCost.l0 k x (sumW l (dd (x.take i))) (i : Int) n l) (sumW l (dd x)):=by
 have hl:=hg.len;have hr:=arcs_rng (n:=n) hx;obtain ⟨N,rfl⟩ : ∃ N : Nat,n = (N : Int):=⟨n.toNat,by have:=hg.n1; omega⟩
 intro m
 induction m with
 | zero =>
  intro i hd hi;have hok:=l1Ok_ev (N : Int) l (by simp only [maxLen]; omega);rw [(netOkB_iff (N : Int) l).2 hg] at hok;refine Ev.go ?_ (fun k => by rw [spec_TreeCost.l0]);rw [show x.take i = x from List.take_of_length_le (by omega)];exact Ev.neg (by omega) (Ev.bind hok (Ev.pos rfl (Ev.neg (by omega) (Ev.now _))))
 | succ m ih =>
  intro i hd hi;have hlt : i < x.length:=by omega
  have h1:=hx i hlt;have hin:=inL_ev (x.take i) (nth x i) (by rw [List.length_take]; simp only [maxLen]; omega);have hn:=ih (i + 1) (by omega) (by omega);have et : x.take (i + 1) = x.take i ++ [nth x i]:=by rw [List.take_succ_eq_append_getElem hlt,nth_get hlt]
  rw [et,dd_snoc] at hn;have hdl : (dd (x.take i)).length ≤ 16:=by
   have:=Dd.sub_len _ (x.take i) (dd_nodup (x.take i)) (fun y hy => dd_mem.1 hy);rw [List.length_take] at this;omega
  have hb:=sumW_bd hg (dd (x.take i)) (fun k hk => hr k (List.mem_of_mem_take (dd_mem.1 hk)));have hc:=(hg.ok (nth x i).toNat (by omega)).2.2.2.1;have ea : rd_T58 l (nth x i) = arc l (nth x i).toNat:=by rw [← rda]; congr 1; omega
  refine Ev.go ?_ (fun k => by rw [spec_TreeCost.l0]);refine Ev.pos (by omega) (Ev.pos (by omega) (Ev.bind0 (in1 _ _ _) ?_));rw [rdg i,w64 (by omega) (by omega),Int.toNat_natCast,up1 hlt (by simp only [maxLen]; omega),ea];have hinb : inB (nth x i) 0 ((l.length : Int) - 1) = true:=inB_iff.2 ⟨h1.1,by omega⟩;refine Ev.pos hinb (Ev.pos (by omega) (Ev.bind hin ?_))
  by_cases c : nth x i ∈ x.take i
  case pos =>
   rw [decide_eq_true c];have e : addZ (dd (x.take i)) (nth x i) = dd (x.take i):=by unfold addZ; rw [if_pos (dd_mem.2 c)]
   rw [e] at hn;exact Ev.pos rfl hn
  rw [decide_eq_false c];have e : addZ (dd (x.take i)) (nth x i) = dd (x.take i) ++ [nth x i]:=by unfold addZ; rw [if_neg (fun h => c (dd_mem.1 h))]
  have e2 : sumW l (dd (x.take i) ++ [nth x i]) = sumW l (dd (x.take i)) + (arc l (nth x i).toNat).f2:=by simp [sumW]
  rw [e,e2] at hn;refine Ev.neg (by simp) (Ev.pos (by omega) (Ev.pos (by omega) ?_));rw [w64 (by omega) (by omega)];exact hn
theorem specCost_ev (n : Int) (l : List Arc) (x : List Int) (hl : l.length ≤ maxLen) (hm : x.length ≤ maxLen) : Ev (fun k => spec_TreeCost.f k n l x) (costV n l x):=by
 unfold spec_TreeCost.f costV
 cases h : arcsB n l x with
 | false => exact specCostNo_l n l x hl hm _ 0 0 rfl (Nat.zero_le _) (fun j h => absurd h (by omega)) h
 | true =>
  obtain ⟨hg,h16,hx⟩:=(arcsB_iff n l x).1 h;exact specCost_l hg h16 hx _ 0 rfl (Nat.zero_le _)
end Go.Proofs.Ytlhmljngjdfbpaa.Pure
end
section
set_option linter.unusedSimpArgs false
set_option linter.unusedVariables false
set_option linter.unusedVariables false
end
section
set_option linter.unusedSimpArgs false
set_option linter.unusedVariables false
namespace Go.Proofs.Ytlhmljngjdfbpaa.Pure
open Go.RowKit Go.Proofs.Ytlhmljngjdfbpaa.Pr Go.Proofs.YtlhmljngjdfbpaaW.PrintWords Go.Proofs.YtlhmljngjdfbpaaW.PrintLast Go.Proofs.YtlhmljngjdfbpaaW.PrintMore
theorem toIntS_l (l : List Int) (hm : l.length ≤ maxLen) : ∀ (d i : Nat) (x : List Int),l.length - i = d → i ≤ l.length → x.length = l.length → x.take i = l.take i → Ev (fun k => laws_toIntS.l0 k l x (i : Int)) l:=by
 intro d
 induction d with
 | zero =>
  intro i x hd hi hx ht;refine Ev.go ?_ (fun k => by rw [laws_toIntS.l0]);refine Ev.neg (by omega) (Ev.is ?_);have e : i = l.length:=by omega
  subst e
  rwa [List.take_of_length_le (by omega),List.take_of_length_le (by omega)] at ht
 | succ d ih =>
  intro i x hd hi hx ht;have hlt : i < l.length:=by omega
  refine Ev.go ?_ (fun k => by rw [laws_toIntS.l0]);refine Ev.pos (by omega) (Ev.pos (by omega) (Ev.pos (by omega) ?_));rw [up1 hlt hm,rdn hlt];refine ih (i + 1) _ (by omega) (by omega) (by simp [hx]) ?_;simp only [Int.toNat_natCast];rw [List.take_succ_eq_append_getElem hlt,List.take_succ_eq_append_getElem (by simp; omega),List.take_set_of_le (Nat.le_refl _),ht];simp
theorem toIntS_ev (l : List Int) (hm : l.length ≤ 35184372088832) : Ev (fun k => laws_toIntS.f k l) l:=by
 unfold laws_toIntS.f
 refine Ev.pos (by omega) (Ev.pos (by simp; omega) ?_);exact toIntS_l l (by simp only [maxLen]; omega) _ 0 _ rfl (by omega) (by simp) (by simp)
theorem eqIntS_l (l : List Int) (hm : l.length ≤ maxLen) : ∀ (d i : Nat),l.length - i = d → i ≤ l.length → Ev (fun k => laws_eqIntS.l0 k l l (i : Int)) true:=by
 intro d
 induction d with
 | zero =>
  intro i hd hi;refine Ev.go ?_ (fun k => by rw [laws_eqIntS.l0]);exact Ev.neg (by omega) (Ev.now _)
 | succ d ih =>
  intro i hd hi;have hlt : i < l.length:=by omega
  refine Ev.go ?_ (fun k => by rw [laws_eqIntS.l0]);refine Ev.pos (by omega) (Ev.pos (by omega) (Ev.pos (by omega) (Ev.pos rfl ?_)));rw [up1 hlt hm];exact ih (i + 1) (by omega) (by omega)
theorem eqIntS_ev (l : List Int) (hm : l.length ≤ maxLen) : Ev (fun k => laws_eqIntS.f k l l) true:=by
 unfold laws_eqIntS.f
 exact Ev.pos rfl (eqIntS_l l hm _ 0 rfl (by omega))
theorem FnExactTreeCost : laws_FnExactTreeCost.Asked:=by
 intro n l x hn hl hx;refine Ev.rounds ?_
 unfold laws_FnExactTreeCost.f
 by_cases hs1 : (x.length : Int) > 1048576
 ·exact Ev.pos hs1 (Ev.now _)
 refine Ev.neg hs1 ?_;refine Ev.bind0 (szNet_eq n l 1048576 (by omega) (by omega) hl.1) ?_
 by_cases hs : (l.length : Int) ≤ 1048576
 case neg =>
  rw [if_pos (by omega)];exact Ev.pos (by omega) (Ev.now _)
 rw [if_neg (by omega)];have ht:=toNet_ev n l (by omega);have hm : (l.map toA).length ≤ maxLen:=by simpa using hl.1
 have hi:=toIntS_ev x (by omega);have hq:=eqIntS_ev x hx.1;have hv:=costV n (l.map toA) x;refine Ev.neg (by omega) (Ev.bind ht (Ev.bind hi (Ev.bind (specCost_ev n _ x hm hx.1) (Ev.bind ht (Ev.bind hi (Ev.bind (implCost_ev n _ x) (Ev.pos rfl (Ev.bind ht (Ev.bind (eqNet_ev n _ hm) (Ev.pos rfl (Ev.bind hi (Ev.bind hq (Ev.pos rfl (Ev.now _))))))))))))))
end Go.Proofs.Ytlhmljngjdfbpaa.Pure
end
section
namespace Go.Proofs.Ytlhmljngjdfbpaa.fnExactTreeCost
open Go.ChangeShapes Go.WideShapes Go.ChangeAt Go.RowKit Go.Proofs.YtlhmljngjdfbpaaW.PrintWords Go.Proofs.Ytlhmljngjdfbpaa.Pr
open Go.ChangeMaps (open_string shut_string)
set_option linter.unusedVariables false
set_option linter.unusedSimpArgs false
theorem own : ownKnob Try.prog.godebug = none:=by kernel_rfl
theorem laidOut : laidOutB Try.prog = true:=by kernel_rfl
instance inh127 : Inhabited S127:=⟨z127⟩
theorem opens0 : Opens Try.prog (Kd.pair (Kd.int .i64) (Kd.slice 127 k127)) 43 (fun x => I64 x.1 ∧ (fun l => l.length ≤ maxLen ∧ ∀ x ∈ l,(fun b : S127 => (fun x => I64 x.1 ∧ (fun x => I64 x.1 ∧ (fun x => I64 x.1 ∧ (fun x => I64 x.1 ∧ I64 x.2) x.2) x.2) x.2) (b.f0,b.f1,b.f2,b.f3,b.f4)) x) x.2):=(opens_struct (P:=Try.prog) Try.underlying43 (opensF_cons (P:=Try.prog) (by kernel_rfl) (opens_i64 (P:=Try.prog) Try.underlying3) (opensF_last (P:=Try.prog) (by kernel_rfl) (by kernel_rfl) (opens_slice (P:=Try.prog) Try.underlying41 (by kernel_rfl) (opens_iso (P:=Try.prog) (fun x : S127 => (x.f0,x.f1,x.f2,x.f3,x.f4)) (fun x => (⟨x.1,x.2.1,x.2.2.1,x.2.2.2.1,x.2.2.2.2⟩ : S127)) (fun _ => rfl) (opens_struct (P:=Try.prog) Try.underlying127 (opensF_cons (P:=Try.prog) (by kernel_rfl) (opens_i64 (P:=Try.prog) Try.underlying3) (opensF_cons (P:=Try.prog) (by kernel_rfl) (opens_i64 (P:=Try.prog) Try.underlying3) (opensF_cons (P:=Try.prog) (by kernel_rfl) (opens_i64 (P:=Try.prog) Try.underlying3) (opensF_cons (P:=Try.prog) (by kernel_rfl) (opens_i64 (P:=Try.prog) Try.underlying3) (opensF_last (P:=Try.prog) (by kernel_rfl) (by kernel_rfl) (opens_i64 (P:=Try.prog) Try.underlying3))))))))))))
theorem opens1 : Opens Try.prog (Kd.slice 3 (Kd.int .i64)) 23 (fun l => l.length ≤ maxLen ∧ ∀ x ∈ l,I64 x):=(opens_slice (P:=Try.prog) Try.underlying23 (by kernel_rfl) (opens_i64 (P:=Try.prog) Try.underlying3))
set_option maxRecDepth 100000 in
set_option maxHeartbeats 2000000 in
theorem lifted (os : Os) (started : os.Started) (H : Type) (enc : TypeId × Value → H) :
  ReturnsInHanded {} Try.checked os 14 .any (Rows.fnExactTreeCostSpec.pre6 enc Try.prog Try.f14 Rows.fnExactTreeCostRow.domain false) (Rows.fnExactTreeCostSpec.post enc Try.prog Try.f14 false true false false):=by
 refine returnsInHanded_of_change_sized (C:=Try.checked) own started (by kernel_rfl) Try.func14
  (ChangeSpec.witness6 (enc:=enc) (C:=Try.checked) false ⟨#[],#[(.agg #[(.int .i64 0),(.slice none 0 0)]),(.slice none 0 0)],[]⟩ 8 (by kernel_rfl) (by kernel_rfl) (by kernel_rfl) (by kernel_rfl)) ?_
 intro W base args ds gs before hval0 hW hcnd hsz0 _;have hval : ∀ (j : Nat) t v,Try.f14.params[j]? = some t → args[j]? = some v → Value.okWide Try.prog W .any base t v:=hval0
 have hW':=hW;obtain ⟨p,q,hA0,hV,rfl,hfz,hnd⟩:=hW;have hA : DataW.TrodAll enc Try.prog W 0 (fun _ => true) true Try.f14.params.toList args.toList ds p:=hA0;rw [Try.params14] at hA hval;obtain ⟨v0,vs0,d0,ds0,p0,q0,hargs,rfl,rfl,h0,r0⟩:=trodAll_cons hA;obtain ⟨v1,vs1,d1,ds1,p1,q1,rfl,rfl,rfl,h1,r1⟩:=trodAll_cons r0;obtain ⟨rfl,rfl,rfl⟩:=trodAll_nil r1;obtain rfl : args = #[v0,v1]:=by cases args; simp_all
 obtain ⟨rfl,rfl⟩:=trodVars_none hV;have k0:=h0;have lt0 : ∀ x ∈ p0,x.block < W.heap.size:=by obtain ⟨m,hm⟩:=k0; exact DataW.trod_lt m _ _ _ hm
 obtain ⟨cs0,rfl,hsz0⟩:=okWide_struct Try.underlying43 (hval 0 43 v0 rfl rfl);obtain ⟨fuel0,hf0⟩:=h0;obtain ⟨x0,hK0,w0⟩:=opens0 hf0;obtain ⟨u0_0,v0_0,e0_0,ha0_0,hb0_0⟩:=hK0;have e0_1 : u0_0 = [.int .i64 x0.1]:=ha0_0;obtain ⟨A0_2,c0_2,e0_2,hc0_2,hr0_2⟩:=hb0_0;have z0 : cs0 = #[.int .i64 x0.1,.slice A0_2 x0.2.length c0_2]:=by
  apply Array.toList_inj.1
  have ee : (Value.agg cs0).cells.toList = cs0.toList:=rfl;rw [← ee];rw [e0_0];subst e0_1;subst e0_2;rfl
 subst z0;clear e0_2 e0_1 e0_0;have k1:=h1;have lt1 : ∀ x ∈ p1,x.block < W.heap.size:=by obtain ⟨m,hm⟩:=k1; exact DataW.trod_lt m _ _ _ hm
 obtain ⟨a1,len1,cap1,rfl⟩:=okWide_slice Try.underlying23 (hval 1 23 v1 rfl rfl);obtain ⟨fuel1,hf1⟩:=h1;obtain ⟨l1,⟨A1,c1,e1,hc1,hr1⟩,w1⟩:=opens1 hf1;have e1' : (Value.slice a1 len1 cap1) = .slice A1 l1.length c1:=(List.cons.inj e1).1;injection e1' with e1a e1b e1c
 subst e1a e1b e1c;obtain ⟨k,hh⟩:=Pure.FnExactTreeCost (x0.1) x0.2 l1 w0.1 w0.2 w1;refine (laws_FnExactTreeCost.calls k (x0.1) A0_2 c0_2 x0.2 _ _ l1 true W hr0_2 hc0_2 hr1 hc1 hh).mono fun e W' ⟨he,bel0⟩ => ?_
 have bel : Below W.heap.size W W':=bel0;subst he;exact ⟨_,rfl,_,_,_,[],_,[],hW',trodAll_mk1 (shut_bool Try.underlying4 _),(trodAll_cons_mk (Below.trod laidOut (by kernel_rfl) (of_decide_eq_true (by kernel_rfl)) k0 bel lt0) (trodAll_cons_mk (Below.trod laidOut (by kernel_rfl) (of_decide_eq_true (by kernel_rfl)) k1 bel lt1) trodAll_mk0)),rfl,bel.frame _,fun h => by cases h⟩
theorem over : Rows.fnExactTreeCostRow.holds Try.pinned (OpenSpec.ofChange Rows.fnExactTreeCostSpec) :=
 OpenClaim.holds_of_wide 14 Try.f14 rfl rfl rfl rfl rfl rfl rfl ⟨rfl,rfl,rfl,rfl,rfl⟩ rfl rfl rfl rfl rfl (by kernel_rfl) Try.func14 (by kernel_rfl)
  (of_decide_eq_true (by kernel_rfl)) (by unfold Func.isWrapper; first | (rw [if_pos (by decide +kernel)]; kernel_rfl) | (rw [if_neg (by decide +kernel)]; exact ⟨rfl,rfl⟩))
  (fun os started H enc _ => lifted os started H enc)
theorem proved : Rows.FnExactTreeCostSaid:=over
#print axioms proved
end Go.Proofs.Ytlhmljngjdfbpaa.fnExactTreeCost
namespace Go.Proofs.Ytlhmljngjdfbpaa
theorem fnExactTreeCost_holds : Rows.FnExactTreeCostSaid:=fnExactTreeCost.proved
end Go.Proofs.Ytlhmljngjdfbpaa
end
