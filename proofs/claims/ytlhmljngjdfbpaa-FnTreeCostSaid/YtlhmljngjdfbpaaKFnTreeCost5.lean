/- For the statement FnTreeCost of this seat: it is proved here, with no further conditions (part 6 of its texts: words, walks of the functions, the plain law, the row). -/
import Derived.RangeFuncFrom
import Derived.Shelf.SortM.SortNone
import Derived.Shelf.SortM.Plain
import Derived.Sort.OwnSortedInts
import Derived.Maps.AppendAt
import Derived.RangeFuncBox
import Derived.Laws.AppendOwn
import Derived.LoopIn
import Derived.TacticsInMore
import Derived.RegionIn
import Derived.OwnWalkIn
import Derived.ChangeArms
import Derived.ChangeSlices
import Derived.Deep.Slices
import Derived.WideShapes
import Derived.DataReads
import Derived.Deep.RegionLaw
import Derived.Lib.SlicesCompact
import Derived.Test.YtlhmljngjdfbpaaRows
import Derived.WalkKit
import Derived.ProofKit
import Derived.OpenShut
import Derived.ShutString
import Derived.ChangeOld
import Derived.Below
import Derived.SizedLaws
import Derived.Test.YtlhmljngjdfbpaaKFnTreeCost4
section
namespace Go.Proofs.Ytlhmljngjdfbpaa.Pr
open Go.RowKit Go.Proofs.YtlhmljngjdfbpaaW.PrintWords Go.Proofs.YtlhmljngjdfbpaaW.PrintLast Go.Proofs.YtlhmljngjdfbpaaW.PrintMore
attribute [local go_sem] max2_int min2_int max_two min_two max_three min_three max_four min_four
set_option linter.unusedVariables false
set_option linter.unusedSimpArgs false
open List renaming setIfInBounds_toArray → V, set_cons_zero → Z, set_cons_succ → zx
open Go.Proofs.YtlhmljngjdfbpaaW.PrintWords.Aside0 renaming mk → zy
set_option maxHeartbeats 2000000 in
set_option maxRecDepth 100000 in
theorem values_calls (A : Option Addr) (n c : Nat) (w : World) : Calls Try.prog 118 #[.slice A n c] w fun e w' => ∃ g, e = .returned (.func (.func 144) #[] #[.pointer (some ⟨g, 0, none⟩)]) ∧ w'.heap[g]? = some (.cells #[.slice A n c] 23 (0, 0)) ∧ w.heap.size ≤ g ∧ Below w.heap.size w w' := by
 go_enter Try.func118, Try.ntmps118
 go_wp2_with (first | ((with_reducible refine gate_dst (N := 1) rfl ?_); refine box_event ?hg (N := 1) ?hd (cs := #[.slice A n c]) (t := 23) ?hr ?_; (case hd => rfl); (case hg => rfl); (case hr => first | (go_simp; done) | (go_simp; rfl)); intro gB hgB w1 hbox hb; have HB := zy hbox; have H1 := zy hb; have H2 := zy (show w.heap.size ≤ gB by rw [hgB]; exact Nat.le_refl _); clear hbox hb hgB))
 go_ret;exact ⟨gB, rfl, HB.out, H2.out, H1.out⟩
set_option maxHeartbeats 2000000 in
set_option maxRecDepth 100000 in
theorem values_stops (F : Fence) (n : Nat) (hf : F.fn 144) (hro : F.round = none) (hn : 1 ≤ n) (Bm : Nat) (A : Option Addr) (c : Nat) (xs : List Int) (hx : xs.length ≤ 100000) (w : World) (hm : w.heap[Bm]? = some (.cells #[.slice A xs.length c] 23 (0, 0))) (hr : Kd.C (Kd.int .i64) w A xs.length xs) :
  SeqStopsK F n Try.prog 144 #[.pointer (some ⟨Bm, 0, none⟩)] (fun x : Int => #[.int .i64 x]) (Below w.heap.size) (fun ss => ss = xs) (fun _ => True) xs.length w := by
 intro l J Jx W hW _ _ hY h0;have HR := zy (Kd.C_below hr hW);have HWl := zy (show w.heap.size ≤ W.heap.size from hW.size);have HY := zy hY;have H0 := zy h0;have HX := zy hx;have q0 : W.cell? ⟨Bm, 0, none⟩ = some (.slice A xs.length c) := (blk_cell (blk_below hm hW) 0).trans rfl;have hrow : ∀ W', Below w.heap.size W W' → Kd.C (Kd.int .i64) W' A xs.length xs := fun W' hB => Kd.C_below hr (hW.trans hB)
 have HROW := zy hrow;clear hm hr hY h0 hx hW hrow;refine callsIn_of_wp Try.func144 rfl hf ?_ hro;simp only [Try.ntmps144, List.size_toArray, List.length_cons, List.length_nil, Nat.reduceAdd, Nat.reduceSub, Array.replicate_succ, Array.replicate_zero, List.push_toArray, List.append_toArray, List.nil_append, List.cons_append]
 gi_wp2
 clear q0
 gi_loopw [7] (fun i wr => ∃ j : Nat, i = .int .i64 (j : Int) ∧ Aside0 (j ≤ xs.length) ∧ Aside0 (J (xs.take j) wr) ∧ Aside0 (Below w.heap.size W wr)) (fun i _ => xs.length - (intOf i).toNat)
 case atStart => exact ⟨0, rfl, ⟨Nat.zero_le _⟩, H0, ⟨Below.refl _ _⟩⟩
 case round =>
  obtain ⟨j, rfl, J0, J1, J2⟩ := hrel
  by_cases hj : j < xs.length
  case neg =>
   have c1 : decide ((j : Int) < (xs.length : Int)) = false := decide_eq_false (by omega);have c2 : decide (j < xs.length) = false := decide_eq_false hj;have hjx : j = xs.length := by have := J0.out; omega
   have hJx : J xs wr := by have h := J1.out; rwa [hjx, List.take_length] at h
   clear hj hjx
   gi_wp2
   go_end0
   exact ⟨⟨_, rfl⟩, .inl ⟨_, rfl, hJx⟩⟩
  have c1 : decide ((j : Int) < (xs.length : Int)) = true := decide_eq_true (by omega);have c2 : decide (j < xs.length) = true := decide_eq_true hj;obtain ⟨ad, e, hxc⟩ := Kd.at_int (HROW.out _ J2.out) (j : Int) (by omega) (by omega);cases e;rw [Int.toNat_natCast] at hxc;have hrd : rd xs (j : Int) = xs[j] := by simp [rd, hj]
  have hnext : xs.take j ++ [rd xs (j : Int)] = xs.take (j + 1) := by rw [hrd, List.take_succ_eq_append_getElem hj]
  have HN := zy hnext;obtain ⟨fn, tmps, assign, body, hy, hR⟩ := HY.out (xs.take j) (rd xs (j : Int)) wr J1.out (by rw [List.length_take]; omega);generalize rd xs (j : Int) = x at hxc hy hR HN;have p0 : ((0 : Int) ≤ (j : Int)) = True := eq_true (by omega);have p1 : ((j : Int) < (xs.length : Int)) = True := eq_true (by omega);have hw : wrap64 ((j : Int) + 1) = ((j + 1 : Nat) : Int) := by have h1 := HX.out; unfold wrap64; omega
  have HW := zy hw;have HJ2 := zy hj;clear hw hj hrd hnext
  gi_wp2
  refine hR.mono ?_;rintro e W3 (⟨rfl, hJ3, hk3⟩ | ⟨rfl, hJx⟩)
  ·have K2 := zy (show Below w.heap.size W W3 from J2.out.trans hk3);clear hR hy hxc hk3 J1 J2
   gi_wp2
   have hj2 := HJ2.out
   go_roundw
   case rel => exact ⟨j + 1, by rw [HW.out], ⟨by omega⟩, ⟨by rw [← HN.out]; exact hJ3⟩, K2⟩
   case measure =>
    rw [HW.out]
    show xs.length - (((j + 1 : Nat) : Int)).toNat < xs.length - ((j : Int)).toNat
    omega
  ·clear hR hy hxc J1 J2
   gi_wp2
   refine bodyPost_ret (results_none rfl _ _ _) rfl ?_;exact ⟨⟨_, rfl⟩, .inr ⟨_, trivial, hJx⟩⟩
theorem below_setCell {B b : Nat} {A W : World} (h : Below B A W) (hb : B ≤ b) (u : Value) : Below B A (W.setCell ⟨b, 0, none⟩ u) := h.setCell hb u
theorem _root_.Go.World.ownsRow.setCell_other {w : World} {base e size n b : Nat} {v : Value} {xs : List Value} (h : w.ownsRow base e size v n xs) (u : Value) (hne : v.ownBlock = none ∨ v.ownBlock ≠ some b) : (w.setCell ⟨b, 0, none⟩ u).ownsRow base e size v n xs :=
 h.kept (row := some b) (grownBy_setCell' w b u) hne
set_option maxHeartbeats 4000000 in
set_option maxRecDepth 100000 in
theorem appendSeq_in (F : Fence) (n : Nat) (h11 : F.fn 153) (hro : F.round = none) (hn : 3 ≤ n) (g : Nat) (lb : Array Value) (hFg : F.fn g) (eg : ∀ args w, (callFunc g args).run Try.prog w = .ok (.enter g args) w) (xs : List Int) (hx : xs.length ≤ 100000) (w0 w : World) (hb : Below w0.heap.size w0 w) (hs0 : w0.heap.size ≤ w.heap.size) (hseq : SeqStopsK F (n - 1) Try.prog g lb (fun x : Int => #[.int .i64 x]) (Below w0.heap.size) (fun ss => ss = xs) (fun _ => True) xs.length w0) :
  CallsIn F n Try.prog 153 #[.slice none 0 0, .func (.func g) #[] lb] w fun e w' => ∃ v, e = .returned v ∧ w'.ownsRow w.heap.size 3 1 v xs.length (xs.map (Value.int .i64)) ∧ Below w.heap.size w w' := by
 have h1 : 1 ≤ n := by omega
 obtain ⟨i0, hi, hz0, hz1, hz2⟩ := info_parts info3;refine callsIn_of_wp_marks Try.func153 rfl h11 ?_ hro;simp only [Try.ntmps153, List.size_toArray, List.length_cons, List.length_nil, Nat.reduceAdd, Nat.reduceSub, Array.replicate_succ, Array.replicate_zero, List.push_toArray, List.append_toArray, List.nil_append, List.cons_append]
 gi_wp2
 have hv0 := heap_alloc_new w (.cells #[.slice none 0 0] 23);have hB0 : Below w.heap.size w (w.alloc (.cells #[.slice none 0 0] 23)) := below_alloc (Below.refl _ _) _;have hsz : (w.alloc (.cells #[.slice none 0 0] 23)).heap.size = w.heap.size + 1 := by simp
 have hb1 : Below w0.heap.size w0 (w.alloc (.cells #[.slice none 0 0] 23)) := hb.trans (hB0.mono hs0);generalize w.alloc (.cells #[.slice none 0 0] 23) = w1 at hv0 hB0 hsz hb1 ⊢;have own_ne : ∀ {W : World} {v : Value} {k : Nat} {ys : List Value} {j : Nat} {o : Obj}, W.ownsRow w.heap.size 3 1 v k ys → W.heap[j]? = some o → (∀ cur, o ≠ .cells cur 3 (0, 0)) → v.ownBlock = none ∨ v.ownBlock ≠ some j := by
  intro W v k ys j o ho hj hno
  rcases ho.2 with ⟨rfl, _⟩ | ⟨g', cap', cur', rfl, _, hh, _⟩
  ·exact .inl (by simp [Value.ownBlock])
  ·refine .inr (fun e => ?_);have e2 : g' = j := by simpa [Value.ownBlock] using e
   subst e2;rw [hh] at hj;exact hno _ (Option.some.inj hj).symm
 refine wpIn_rangeFunc_ownF hro h1 (gf := g) (lb := lb) rfl hFg eg hseq (fun h k => h.trans k) (fun W l o o' hl hh _ _ => (Below.refl _ W).grown (grownBy_putObj' W l o') (by have := (Array.getElem?_eq_some_iff.1 hh).1; omega) (fun k e => by cases e; omega)) hb1 (fun _ => rfl)
  (fun ss W => ∃ v, W.heap[w.heap.size]? = some (.cells #[v] 23 (0, 0)) ∧ W.ownsRow w.heap.size 3 1 v ss.length (ss.map (Value.int .i64)) ∧ Below w.heap.size w W)
  (fun _ _ _ => False) ?hI (fun _ _ _ _ _ hs _ _ => hs) ⟨_, hv0, ⟨rfl, .inl ⟨rfl, rfl⟩⟩, hB0⟩
  (fun x => { tmps := #[.slice none 0 0, .func (.func g) #[] lb, .pointer (some ⟨w.heap.size, 0, none⟩), undef, .slice none 0 0, .int .i64 x, .func (.func g) #[] lb, .int .i64 x, undef, undef, undef, undef, undef], defers := [] }) ?assign ?body ?done ?stop
 case hI =>
  rintro s W W' row ⟨v, a1, a2, a3⟩ hg hr;refine ⟨v, blk_grown a1 hg (fun e => ?_), a2.kept hg ?_, a3.grown hg a3.size (fun k e => by have := (hr k e).1; omega)⟩
  ·obtain ⟨_, o, ho, hc⟩ := hr _ e.symm;rw [a1] at ho;obtain rfl := Option.some.inj ho;cases hc
  ·cases row with
   | none =>
    rcases a2.2 with ⟨rfl, _⟩ | ⟨g', cap', cur', rfl, _⟩
    ·exact .inl (by simp [Value.ownBlock])
    ·exact .inr (by simp [Value.ownBlock])
   | some r =>
    obtain ⟨_, o, ho, hc⟩ := hr r rfl;exact own_ne a2 ho (fun cur e => by subst e; cases hc)
 case assign =>
  intro l x W K hK
  gi_wp2_with (first | (rw [Oper.semAt_eq _ _ _ (fun c h => by cases h)]; go_simp; try go_bits))
  exact hK
 case body =>
  rintro l pre x W ⟨v, a1, a2, a3⟩ hlt;have hc1 : W.cell? ⟨w.heap.size, 0, none⟩ = some v := (blk_cell a1 0).trans rfl;have hs1 : w.heap.size < W.heap.size := (Array.getElem?_eq_some_iff.1 a1).1;have hne2 : some w.heap.size ≠ v.ownBlock := by
   rcases own_ne a2 a1 (fun cur e => absurd (Obj.cells.inj e).2.1 (by decide)) with e | e
   ·rw [e]; simp
   ·exact fun e2 => e e2.symm
  gi_wp2_with (first
   | (gi_at_builtin; refine wpListIn_append_own _ rfl _ _ 23 rfl w.heap.size 3 i0 (.int .i64 0) 1 8 Try.underlying23 hi hz0 hz1 hz2 rfl (by decide) v pre.length (pre.map (Value.int .i64)) rfl (a2.alloc _) ⟨W.heap.size, 0, none⟩ 1 1 [.int .i64 x] rfl rfl (cell_one_new _ _ _) (by simp [Value.oneCell']) (by unfold maxLen; omega) (by omega) (by simp; omega) ?_; intro v' w3 hown' hg3 hnil3; have hv3 : w3.heap[w.heap.size]? = some (.cells #[v] 23 (0, 0)) := (hg3.block _ (by simp; omega) hne2).trans ((Below.heap_alloc _ _ _ hs1).trans a1); have hc3 : w3.cell? ⟨w.heap.size, 0, none⟩ = some v := (blk_cell hv3 0).trans rfl; have hf3 : w3.frozen? ⟨w.heap.size, 0, none⟩ = false := blk_frozen hv3 0; obtain ⟨g', cap', rfl⟩ : ∃ g' cap', v' = .slice (some ⟨g', 0, none⟩) (pre.length + 1) cap' := (by rcases hown'.2 with ⟨_, h0⟩ | ⟨g', cap', cur', e, _⟩; (exact absurd h0 (by omega)); exact ⟨g', cap', e⟩))
   | (rw [Oper.semAt_eq _ _ _ (fun c h => by cases h)]; go_simp; try go_bits))
  have hw3 : W.heap.size + 1 ≤ w3.heap.size := by have := hg3.size; simpa using this
  have hk3 : KeepsOthers (W.alloc (.cells #[.int .i64 x] 3)) w3 := KeepsOthers.of_grownBy hg3 (fun j o hj ho => by
   rcases (a2.alloc (.cells #[.int .i64 x] 3)).2 with ⟨rfl, _⟩ | ⟨g', cap', cur', rfl, _, hh, _⟩
   ·simp [Value.ownBlock] at hj
   ·have e2 : g' = j := by simpa [Value.ownBlock] using hj
    subst e2;rw [hh] at ho;rw [← Option.some.inj ho];rfl)
  have hb3 : Below w.heap.size w w3 := (a3.alloc a3.size _).grown hg3 (by have := a3.size; simp; omega) (fun k e => by
   rcases a2.2 with ⟨rfl, _⟩ | ⟨g', cap', cur', rfl, hb', _⟩
   ·simp [Value.ownBlock] at e
   ·have e2 : g' = k := by simpa [Value.ownBlock] using e
    omega)
  have hK3 : Below w0.heap.size W w3 := ((Below.refl w0.heap.size W).alloc (by have := a3.size; omega) _).grown hg3 (by have := a3.size; simp; omega) (fun k e => by
   rcases a2.2 with ⟨rfl, _⟩ | ⟨g', cap', cur', rfl, hb', _⟩
   ·simp [Value.ownBlock] at e
   ·have e2 : g' = k := by simpa [Value.ownBlock] using e
    omega)
  refine ⟨((KeepsOthers.alloc W _).trans hk3).trans (KeepsOthers.setCell _ _ _), below_setCell hK3 hs0 _, .slice (some ⟨g', 0, none⟩) (pre.length + 1) cap', ?_, ?_, below_setCell hb3 (Nat.le_refl _) _⟩
  ·exact blk_set hv3 0 _
  ·rw [List.length_append, List.map_append];exact hown'.setCell_other _ (own_ne hown' hv3 (fun cur e => absurd (Obj.cells.inj e).2.1 (by decide)))
 case done =>
  rintro D ss W hD rfl ⟨v, a1, a2, a3⟩ hK;have hc1 : W.cell? ⟨w.heap.size, 0, none⟩ = some v := (blk_cell a1 0).trans rfl
  gi_wp2
  refine ⟨by simp, .inl ⟨_, _, rfl, run_takeDeferred hK, ?_⟩⟩;refine ⟨_, results_tmp rfl _ _ _, v, rfl, a2.kept (grownBy_putObj' _ _ _) (own_ne a2 hK (fun cur e => by cases e)), a3.grown (grownBy_putObj' _ _ _) a3.size (fun k e => by cases e; omega)⟩
 case stop =>
  rintro D c pre W _ _ h _;exact h.elim
def rho_m5 : Go.Shelf.Ren := ⟨fun n => if n = 5 then 143 else if n = 7 then 154 else if n = 8 then 155 else if n = 10 then 159 else if n = 11 then 160 else if n = 12 then 161 else if n = 13 then 162 else if n = 14 then 163 else if n = 15 then 164 else if n = 16 then 126 else if n = 17 then 165 else if n = 18 then 166 else if n = 19 then 167 else if n = 20 then 168 else if n = 30 then 170 else if n = 31 then 171 else if n = 32 then 172 else if n = 33 then 173 else if n = 34 then 174 else if n = 35 then 135 else if n = 40 then 175 else n, fun n => if n = 22 then 23 else if n = 25 then 3 else if n = 32 then 140 else if n = 35 then 160 else if n = 36 then 161 else if n = 41 then 55 else if n = 44 then 153 else if n = 46 then 156 else if n = 53 then 168 else if n = 57 then 172 else if n = 63 then 174 else if n = 64 then 175 else n, fun n => n⟩
theorem lays_m5 : Go.Proofs.SlLaysM.n5 Try.prog rho_m5 where
 mixed := by kernel_rfl
 f5 := ⟨"slices.Sort[[]int,int]", by decide, by kernel_rfl⟩
 f7 := ⟨"slices.pdqsortOrdered[int]", by decide, by kernel_rfl⟩
 f8 := by kernel_rfl
 f10 := ⟨"slices.insertionSortOrdered[int]", by decide, by kernel_rfl⟩
 f11 := ⟨"slices.heapSortOrdered[int]", by decide, by kernel_rfl⟩
 f12 := ⟨"slices.breakPatternsOrdered[int]", by decide, by kernel_rfl⟩
 f13 := ⟨"slices.choosePivotOrdered[int]", by decide, by kernel_rfl⟩
 f14 := ⟨"slices.reverseRangeOrdered[int]", by decide, by kernel_rfl⟩
 f15 := ⟨"slices.partialInsertionSortOrdered[int]", by decide, by kernel_rfl⟩
 f16 := ⟨"cmp.Less[int]", by decide, by kernel_rfl⟩
 f17 := ⟨"slices.partitionEqualOrdered[int]", by decide, by kernel_rfl⟩
 f18 := ⟨"slices.partitionOrdered[int]", by decide, by kernel_rfl⟩
 f19 := by kernel_rfl
 f20 := by kernel_rfl
 f30 := ⟨"slices.siftDownOrdered[int]", by decide, by kernel_rfl⟩
 f31 := by kernel_rfl
 f32 := by kernel_rfl
 f33 := ⟨"slices.medianAdjacentOrdered[int]", by decide, by kernel_rfl⟩
 f34 := ⟨"slices.medianOrdered[int]", by decide, by kernel_rfl⟩
 f35 := ⟨"cmp.isNaN[int]", by decide, by kernel_rfl⟩
 f40 := ⟨"slices.order2Ordered[int]", by decide, by kernel_rfl⟩
 t0 := by kernel_rfl
 a0 := fun w => by kernel_rfl
 z0 := fun w => by kernel_rfl
 v0 := fun w => by kernel_rfl
 t3 := by kernel_rfl
 a3 := fun w => by kernel_rfl
 z3 := fun w => by kernel_rfl
 v3 := fun w => by kernel_rfl
 t4 := by kernel_rfl
 a4 := fun w => by kernel_rfl
 z4 := fun w => by kernel_rfl
 v4 := fun w => by kernel_rfl
 t5 := by kernel_rfl
 a5 := fun w => by kernel_rfl
 z5 := fun w => by kernel_rfl
 v5 := fun w => by kernel_rfl
 t9 := by kernel_rfl
 a9 := fun w => by kernel_rfl
 z9 := fun w => by kernel_rfl
 v9 := fun w => by kernel_rfl
 t22 := by kernel_rfl
 a22 := fun w => by kernel_rfl
 z22 := fun w => by kernel_rfl
 v22 := fun w => by kernel_rfl
 t23 := by kernel_rfl
 a23 := fun w => by kernel_rfl
 z23 := fun w => by kernel_rfl
 v23 := fun w => by kernel_rfl
 t25 := by kernel_rfl
 a25 := fun w => by kernel_rfl
 z25 := fun w => by kernel_rfl
 v25 := fun w => by kernel_rfl
 t32 := by kernel_rfl
 a32 := fun w => by kernel_rfl
 z32 := fun w => by kernel_rfl
 v32 := fun w => by kernel_rfl
 t35 := by kernel_rfl
 a35 := fun w => by kernel_rfl
 z35 := fun w => by kernel_rfl
 v35 := fun w => by kernel_rfl
 t36 := by kernel_rfl
 a36 := fun w => by kernel_rfl
 z36 := fun w => by kernel_rfl
 v36 := fun w => by kernel_rfl
 t41 := by kernel_rfl
 a41 := fun w => by kernel_rfl
 z41 := fun w => by kernel_rfl
 v41 := fun w => by kernel_rfl
 t44 := by kernel_rfl
 a44 := fun w => by kernel_rfl
 z44 := fun w => by kernel_rfl
 v44 := fun w => by kernel_rfl
 t46 := by kernel_rfl
 a46 := fun w => by kernel_rfl
 z46 := fun w => by kernel_rfl
 v46 := fun w => by kernel_rfl
 t53 := by kernel_rfl
 a53 := fun w => by kernel_rfl
 z53 := fun w => by kernel_rfl
 v53 := fun w => by kernel_rfl
 t57 := by kernel_rfl
 a57 := fun w => by kernel_rfl
 z57 := fun w => by kernel_rfl
 v57 := fun w => by kernel_rfl
 t63 := by kernel_rfl
 a63 := fun w => by kernel_rfl
 z63 := fun w => by kernel_rfl
 v63 := fun w => by kernel_rfl
 t64 := by kernel_rfl
 a64 := fun w => by kernel_rfl
 z64 := fun w => by kernel_rfl
 v64 := fun w => by kernel_rfl
set_option maxHeartbeats 2000000 in
set_option maxRecDepth 100000 in
theorem collect_calls (Bm : Nat) (A : Option Addr) (c : Nat) (xs : List Int) (hx : xs.length ≤ 100000) (w : World) (hm : w.heap[Bm]? = some (.cells #[.slice A xs.length c] 23 (0, 0))) (hr : Kd.C (Kd.int .i64) w A xs.length xs) :
  Calls Try.prog 142 #[.func (.func 144) #[] #[.pointer (some ⟨Bm, 0, none⟩)]] w fun e w' => ∃ v, e = .returned v ∧ w'.ownsRow w.heap.size 3 1 v xs.length (xs.map (Value.int .i64)) ∧ Below w.heap.size w w' := by
 have hv := values_stops Fence.wide 2 trivial rfl (by omega) Bm A c xs hx w hm hr;have ha := callsIn_wide.1 (appendSeq_in Fence.wide 3 trivial rfl (by omega) 144 #[.pointer (some ⟨Bm, 0, none⟩)] trivial (enters_of Try.func144 (by kernel_rfl) rfl) xs hx w w (Below.refl _ _) (Nat.le_refl _) hv);clear hv hm hr
 go_enter Try.func142, Try.ntmps142
 go_wp2_with (go_at_call 153; refine ha.mono ?_; rintro e W ⟨v, rfl, hrow, hb⟩)
 go_ret;exact ⟨v, rfl, hrow, hb⟩
set_option maxHeartbeats 2000000 in
set_option maxRecDepth 100000 in
theorem sorted_calls (Bm : Nat) (A : Option Addr) (c : Nat) (xs : List Int) (hx : xs.length ≤ 100000) (w : World) (hm : w.heap[Bm]? = some (.cells #[.slice A xs.length c] 23 (0, 0))) (hr : Kd.C (Kd.int .i64) w A xs.length xs) :
  Calls Try.prog 117 #[.func (.func 144) #[] #[.pointer (some ⟨Bm, 0, none⟩)]] w fun e w' => ∃ v, e = .returned v ∧ Kd.R (Kd.int .i64) 3 w' w.heap.size (fun _ => True) v (xs.mergeSort fun x y => decide (x ≤ y)) ∧ Below w.heap.size w w' := by
 have hcol := collect_calls Bm A c xs hx w hm hr;clear hm hr
 go_enter Try.func117, Try.ntmps117
 go_wp2_with (go_at_call 142; refine hcol.mono ?_; rintro e W ⟨v, rfl, hrow, hb⟩)
 have hlen : (xs.mergeSort fun x y => decide (x ≤ y)).length = xs.length := List.length_mergeSort _
 rcases hrow.2 with ⟨rfl, hz⟩ | ⟨gb, cap, cur, rfl, hbase, hgb, r1, r2, r3, r4⟩
 ·have hss : xs = [] := List.eq_nil_of_length_eq_zero hz;subst hss;have hs := Go.Proofs.AnyM.slices_Sort_int_none lays_m5 none 0 W
  change Calls Try.prog 143 _ _ _ at hs
  go_wp2_with (go_at_call 143; refine hs.mono ?_; rintro e w' ⟨rfl, rfl⟩)
  go_ret;refine ⟨_, rfl, ?_, hb⟩;rw [show (([] : List Int).mergeSort fun x y => decide (x ≤ y)) = [] from List.mergeSort_nil];exact Kd.R_nil _ _ _ _ _
 ·have hH : Go.Sort.Holds (Value.int .i64) W gb 0 xs.toArray := by
   intro j hj;have hj : j < xs.length := by simpa using hj
   refine ⟨?_, blk_frozen hgb _⟩;rw [Nat.zero_add, blk_cell hgb];have h4 : (cur.toList.take (xs.length * 1))[j]? = (xs.map (Value.int .i64))[j]? := by rw [r4]
   rw [List.getElem?_take_of_lt (by omega), Array.getElem?_toList] at h4;rw [h4];simp [hj]
  have hs := Go.Proofs.AnyM.slices_Sort_int lays_m5 gb 0 cap xs W hH (blk_lt hgb) (by omega)
  change Calls Try.prog 143 _ _ _ at hs
  go_wp2_with (go_at_call 143; refine hs.mono ?_; rintro e w' ⟨rfl, nn, os, rfl⟩)
  go_ret;have hR := Go.ownsRow_sortedI (n := nn) (os := os) hlen hbase hgb r1 r2 r3;have hg := Go.grownBy_sortedI (w := W) (g := gb) (n := nn) (os := os) (xs.mergeSort fun x y => decide (x ≤ y)).toArray;refine ⟨_, rfl, Kd.R_of_own (World.ownsRow.two (by rw [hlen]; exact hR)) (fun _ _ => trivial), hb.grown hg hb.size (fun j hj => by cases hj; exact hbase)⟩
end Go.Proofs.Ytlhmljngjdfbpaa.Pr
end
section
namespace Go.Proofs.Ytlhmljngjdfbpaa.Pr
open Go.RowKit Go.Proofs.YtlhmljngjdfbpaaW.PrintWords Go.Proofs.YtlhmljngjdfbpaaW.PrintLast Go.Proofs.YtlhmljngjdfbpaaW.PrintMore
attribute [local go_sem] max2_int min2_int max_two min_two max_three min_three max_four min_four
set_option linter.unusedVariables false
set_option linter.unusedSimpArgs false
open List renaming setIfInBounds_toArray → V,set_cons_zero → Z,set_cons_succ → zx
open Go.Proofs.YtlhmljngjdfbpaaW.PrintWords.Aside0 renaming mk → zy
def sortedOnce (x : List Int) : List Int:=Go.Lib.compactUpTo (x.mergeSort fun x y => decide (x ≤ y)).toArray (x.mergeSort fun x y => decide (x ≤ y)).length
def impl_TreeCost.f (k : Nat) (a0_0 : Int) (l0_1 : List S58) (l1 : List Int) : Option Int:=(impl_arcsOk.f a0_0 l0_1 l1).bind fun b => if b = true then if l1.length ≤ 100000 then impl_Net_cost.f k a0_0 l0_1 (sortedOnce l1) else none else some (-1)
set_option maxHeartbeats 8000000 in
set_option maxRecDepth 100000 in
theorem impl_TreeCost.calls (k : Nat) (a0_0 : Int) (A0_1 : Option Addr) (c0_1 : Nat) (l0_1 : List S58) (A1 : Option Addr) (c1 : Nat) (l1 : List Int) (r : Int) (w : World) (hr0_1 : Kd.C k58 w A0_1 l0_1.length l0_1) (hc0_1 : l0_1.length ≤ c0_1) (hr1 : Kd.C (Kd.int .i64) w A1 l1.length l1) (hc1 : l1.length ≤ c1) (h : impl_TreeCost.f k a0_0 l0_1 l1 = some r) :
  Calls Try.prog 60 #[.agg #[.int .i64 a0_0,.slice A0_1 l0_1.length c0_1],.slice A1 l1.length c1] w fun e w' => e = .returned (.int .i64 r) ∧ Below w.heap.size w w':=by
 have hu:=Try.underlying34;have HR:=zy hr0_1;have HC:=zy hc0_1;have HR1:=zy hr1;have HC1:=zy hc1;clear hr0_1 hc0_1 hr1 hc1
 unfold impl_TreeCost.f at h
 obtain ⟨b0,h0,h⟩:=Option.bind_eq_some_iff.1 h;have E0:=zy h0;clear h0;cases b0 with
 | false =>
  obtain rfl : (-1 : Int) = r:=by simpa using h
  clear h
  go_enter Try.func60,Try.ntmps60
  go_wp2_with (first
   | ((with_reducible refine gate_dst (N:=2) rfl ?_); refine box_event ?hg (N:=2) ?hd (cs:=#[.int .i64 a0_0,.slice A0_1 l0_1.length c0_1]) (t:=34) ?hr ?_; (case hd => rfl); (case hg => rfl); (case hr => first | (go_simp; done) | (go_simp; rfl)); intro gN hgN w1 hbox hb; have M1:=zy hbox; have B1:=zy hb; have q10 : w1.cell? ⟨gN,0,none⟩ = some (.int .i64 a0_0):=(blk_cell hbox 0).trans rfl; have q11 : w1.cell? ⟨gN,1,none⟩ = some (.slice A0_1 l0_1.length c0_1):=(blk_cell hbox 1).trans rfl; clear hbox hb hgN)
   | (go_at_call 110; refine (impl_arcsOk.calls a0_0 A0_1 c0_1 l0_1 A1 c1 l1 false w1 (Kd.C_below HR.out B1.out) HC.out (Kd.C_below HR1.out B1.out) HC1.out E0.out).mono ?_; rintro e w2 ⟨rfl,hB⟩; have B2:=zy (below_step B1.out hB); clear hB q10 q11))
  go_ret;exact ⟨rfl,B2.out⟩
 | true =>
  rw [if_pos rfl] at h;have hcond : l1.length ≤ 100000:=by
   by_cases hc : l1.length ≤ 100000
   case pos => exact hc
   rw [if_neg hc] at h; exact absurd h (by simp)
  rw [if_pos hcond] at h;have HT:=zy h;have HX:=zy hcond;clear h hcond
  go_enter Try.func60,Try.ntmps60
  go_wp2_with (first
   | ((with_reducible refine gate_dst (N:=2) rfl ?_); refine box_event ?hg (N:=2) ?hd (cs:=#[.int .i64 a0_0,.slice A0_1 l0_1.length c0_1]) (t:=34) ?hr ?_; (case hd => rfl); (case hg => rfl); (case hr => first | (go_simp; done) | (go_simp; rfl)); intro gN hgN w1 hbox hb; have M1:=zy hbox; have B1:=zy hb; have q10 : w1.cell? ⟨gN,0,none⟩ = some (.int .i64 a0_0):=(blk_cell hbox 0).trans rfl; have q11 : w1.cell? ⟨gN,1,none⟩ = some (.slice A0_1 l0_1.length c0_1):=(blk_cell hbox 1).trans rfl; clear hbox hb hgN)
   | (go_at_call 110; refine (impl_arcsOk.calls a0_0 A0_1 c0_1 l0_1 A1 c1 l1 true w1 (Kd.C_below HR.out B1.out) HC.out (Kd.C_below HR1.out B1.out) HC1.out E0.out).mono ?_; rintro e w2 ⟨rfl,hB⟩; have B2:=zy (below_step B1.out hB); have M2:=zy (blk_below M1.out hB); have q20 : w2.cell? ⟨gN,0,none⟩ = some (.int .i64 a0_0):=(blk_cell M2.out 0).trans rfl; have q21 : w2.cell? ⟨gN,1,none⟩ = some (.slice A0_1 l0_1.length c0_1):=(blk_cell M2.out 1).trans rfl; clear hB q10 q11))
  refine start_ (n:=7) (S:=fun w' => w'.cell? ⟨gN,0,none⟩ = some (.int .i64 a0_0) ∧ w'.cell? ⟨gN,1,none⟩ = some (.slice A0_1 l0_1.length c0_1)) (ds:=[]) #[false,false,false,false,false,false,false] (by kernel_rfl) rfl rfl ⟨q20,q21⟩ (fun hHeld => ?_);clear q20 q21;have M2d:=zy (blk_drew M2.out);have B2d:=zy (below_drew B2.out);clear M2 B2 M1 B1;generalize w2.drew = w2d at M2d B2d hHeld ⊢;refine pure_ (i:=1) (N:=some 10) (v:=?_) (a':=?_) #[false,true,false,false,false,false,false] rfl rfl (by kernel_rfl) (fun _ _ _ h => h) (Or.inl ⟨by rfl,?_⟩) ?_ ?_;rotate_left
  ·intro w';go_simp;with_reducible rfl
  rotate_left
  ·simp only [Act.put,V,Z,zx,i64_w,i32_w];rfl
  refine take_ (i:=0) (N:=some 9) (v:=?_) (a':=?_) #[true,true,false,false,false,false,false] rfl rfl (by kernel_rfl) (fun _ _ _ h => h) (Or.inl ⟨by rfl,?_⟩) hHeld ?_ ?_;rotate_left
  ·rintro w' ⟨s0,s1⟩;go_simp;with_reducible rfl
  rotate_left
  ·simp only [Act.put,V,Z,zx,i64_w,i32_w];rfl
  refine one_ (i:=2) (N:=some 11) #[true,true,true,false,false,false,false] rfl rfl (by kernel_rfl) (by decide) (fun K hK => ?_);replace hK:=zy hK;refine goes_ Try.func118 (by kernel_rfl) rfl #[.slice A1 l1.length c1] (by rfl) rfl rfl (by (try simp only [List.map_toArray,List.map_cons,List.map_nil]); first | done | rfl) ?_;refine (values_calls A1 l1.length c1 _).mono ?_;rintro e w3 ⟨gB,rfl,hB1,hB2,hB3⟩;refine ⟨_,rfl,?_⟩;have V3:=zy hB1;have M3:=zy (blk_below (by repeat (first | exact M2d.out | apply blk_drew | refine blk_drewN ?_ _)) hB3);have B3:=zy (below_step (by repeat (first | exact B2d.out | apply below_drew | apply pw_below_drewN)) hB3);clear hB1 hB2 hB3;refine hK.out _ _ ⟨(blk_cell M3.out 0).trans rfl,(blk_cell M3.out 1).trans rfl⟩ (fun hHeld => ?_);clear hK K;refine norm_ (a':=?_) ?_ ?_;rotate_left
  ·show Act.put _ (some 11) _ = _
   simp only [Act.put,V,Z,zx,i64_w,i32_w];rfl
  refine one_ (i:=3) (N:=some 12) #[true,true,true,true,false,false,false] rfl rfl (by kernel_rfl) (by decide) (fun K hK => ?_);replace hK:=zy hK;refine goes_ Try.func117 (by kernel_rfl) rfl #[.func (.func 144) #[] #[.pointer (some ⟨gB,0,none⟩)]] (by rfl) rfl rfl (by (try simp only [List.map_toArray,List.map_cons,List.map_nil]); first | done | rfl) ?_;refine (sorted_calls gB A1 c1 l1 HX.out _ (by repeat (first | exact V3.out | apply blk_drew | refine blk_drewN ?_ _)) (Kd.C_below HR1.out (by repeat (first | exact B3.out | apply below_drew | apply pw_below_drewN)))).mono ?_;rintro e w4 ⟨v4,rfl,hR4,hb4⟩;refine ⟨_,rfl,?_⟩;have R4:=zy (Kd.R_lower hR4 (below_size (by repeat (first | exact B3.out | apply below_drew | apply pw_below_drewN))));have M4:=zy (blk_below (by repeat (first | exact M3.out | apply blk_drew | refine blk_drewN ?_ _)) hb4);have B4:=zy (below_step (by repeat (first | exact B3.out | apply below_drew | apply pw_below_drewN)) hb4);clear hR4 hb4;refine hK.out _ _ ⟨(blk_cell M4.out 0).trans rfl,(blk_cell M4.out 1).trans rfl⟩ (fun hHeld => ?_);clear hK K;refine norm_ (a':=?_) ?_ ?_;rotate_left
  ·show Act.put _ (some 12) _ = _
   simp only [Act.put,V,Z,zx,i64_w,i32_w];rfl
  refine one_ (i:=4) (N:=some 13) #[true,true,true,true,true,false,false] rfl rfl (by kernel_rfl) (by decide) (fun K hK => ?_);replace hK:=zy hK;refine goes_ Try.func116 (by kernel_rfl) rfl #[v4] (by rfl) rfl rfl (by (try simp only [List.map_toArray,List.map_cons,List.map_nil]); first | done | rfl) ?_;refine (compact_R (by repeat (first | exact R4.out | apply Kd.R_drew | apply Kd.R_drewN)) (below_size (by repeat (first | exact B4.out | apply below_drew | apply pw_below_drewN)))).mono ?_;rintro e w5 ⟨v5,rfl,hR5,hb5,hg5⟩;obtain ⟨A5,c5,rfl⟩:=Kd.R_slice hR5;refine ⟨_,rfl,?_⟩;have R5:=zy hR5;have B5:=zy (Below.trans (by repeat (first | exact B4.out | apply below_drew | apply pw_below_drewN)) hb5);have M5:=zy (blk_grown (by repeat (first | exact M4.out | apply blk_drew | refine blk_drewN ?_ _)) hg5 (Kd.R_ne (by repeat (first | exact R4.out | apply Kd.R_drew | apply Kd.R_drewN)) (by repeat (first | exact M4.out | apply blk_drew | refine blk_drewN ?_ _)) (by decide)));clear hR5 hb5 hg5;refine hK.out _ _ ⟨(blk_cell M5.out 0).trans rfl,(blk_cell M5.out 1).trans rfl⟩ (fun hHeld => ?_);clear hK K;refine norm_ (a':=?_) ?_ ?_;rotate_left
  ·show Act.put _ (some 13) _ = _
   simp only [Act.put,V,Z,zx,i64_w,i32_w];rfl
  refine one_ (i:=5) (N:=some 14) #[true,true,true,true,true,true,false] rfl rfl (by kernel_rfl) (by decide) (fun K hK => ?_);replace hK:=zy hK;refine goes_ Try.func115 (by kernel_rfl) rfl #[.agg #[.int .i64 a0_0,.slice A0_1 l0_1.length c0_1],.slice A5 (sortedOnce l1).length c5] (by rfl) rfl rfl (by (try simp only [List.map_toArray,List.map_cons,List.map_nil]); first | done | rfl) ?_;refine (impl_Net_cost.calls k a0_0 A0_1 c0_1 l0_1 A5 c5 (sortedOnce l1) r _ (Kd.C_below HR.out (by repeat (first | exact B5.out | apply below_drew | apply pw_below_drewN))) HC.out (Kd.R_reads' (by repeat (first | exact R5.out | apply Kd.R_drew | apply Kd.R_drewN))).2.2 (Kd.R_reads' (by repeat (first | exact R5.out | apply Kd.R_drew | apply Kd.R_drewN))).2.1 HT.out).mono ?_;rintro e w6 ⟨rfl,hb6⟩;refine ⟨_,rfl,?_⟩;have M6:=zy (blk_below (by repeat (first | exact M5.out | apply blk_drew | refine blk_drewN ?_ _)) hb6);have B6:=zy (below_step (by repeat (first | exact B5.out | apply below_drew | apply pw_below_drewN)) hb6);clear hb6;refine hK.out _ _ ⟨(blk_cell M6.out 0).trans rfl,(blk_cell M6.out 1).trans rfl⟩ (fun hHeld => ?_);clear hK K;refine norm_ (a':=?_) ?_ ?_;rotate_left
  ·show Act.put _ (some 14) _ = _
   simp only [Act.put,V,Z,zx,i64_w,i32_w];rfl
  refine pure_ (i:=6) (N:=some 4) (v:=?_) (a':=?_) #[true,true,true,true,true,true,true] rfl rfl (by kernel_rfl) (fun _ _ _ h => h) (Or.inl ⟨by rfl,?_⟩) ?_ ?_;rotate_left
  ·intro w';go_simp;with_reducible rfl
  rotate_left
  ·simp only [Act.put,V,Z,zx,i64_w,i32_w];rfl
  refine done_ (by kernel_rfl) ?_
  go_wp2
  go_ret;exact ⟨rfl,(by repeat (first | exact B6.out | apply below_drew | apply pw_below_drewN))⟩
def spec_l1In.f (a0 : Int) (a1 : Int) (a2 : Int) : Option (Bool):=if a0 ≥ a1 then (some (decide (a0 ≤ a2))) else (some false)
set_option maxHeartbeats 8000000 in
set_option maxRecDepth 100000 in
theorem spec_l1In.calls (a0 : Int) (a1 : Int) (a2 : Int) (r : Bool) (w : World) (h : spec_l1In.f a0 a1 a2 = some r) :
  Calls Try.prog 90 #[.int .i64 a0,.int .i64 a1,.int .i64 a2] w fun e w' => e = .returned (.bool r) ∧ Drawn0 w w':=by
 have H : (if a0 ≥ a1 then (some (decide (a0 ≤ a2))) else (some false)) = some r:=h;clear h
 by_cases c4 : a0 ≥ a1
 case pos =>
  rw [if_pos c4] at H;have c4b0 : decide (a1 ≤ a0) = true:=decide_eq_true c4;clear c4;obtain rfl:=Option.some.inj H
  go_enter Try.func90,Try.ntmps90
  go_wp2
  go_ret;exact ⟨by first | rfl | (simp; done) | (simp [*]; done),by repeat (first | exact Drawn0.refl _ | apply Drawn0.step)⟩
 rw [if_neg c4] at H;have c4b0 : decide (a1 ≤ a0) = false:=decide_eq_false c4;clear c4;obtain rfl:=Option.some.inj H
 go_enter Try.func90,Try.ntmps90
 go_wp2
 go_ret;exact ⟨by first | rfl | (simp; done) | (simp [*]; done),by repeat (first | exact Drawn0.refl _ | apply Drawn0.step)⟩
def spec_l1Ok.l0 : Nat → Int → Int → List (S58) → Option (Bool)
 | 0,_,_,_ => none
 | k + 1,x3,x335000,x335001 => if x3 < (x335001.length : Int) then (if 0 ≤ x3 then ((spec_l1In.f ((rd_T58 x335001 x3).f0) 0 (wrap64 (x335000 - 1))).bind fun t338 => (if t338 = true then ((spec_l1In.f ((rd_T58 x335001 x3).f1) 0 (wrap64 (x335000 - 1))).bind fun t339 => (if t339 = true then (if ((rd_T58 x335001 x3).f0) = ((rd_T58 x335001 x3).f1) then (some false) else ((spec_l1In.f ((rd_T58 x335001 x3).f2) 0 99).bind fun t340 => (if t340 = true then ((spec_l1In.f ((rd_T58 x335001 x3).f3) 0 99).bind fun t341 => (if t341 = true then ((spec_l1In.f ((rd_T58 x335001 x3).f4) 0 9).bind fun t342 => (if t342 = true then (spec_l1Ok.l0 k (wrap64 (x3 + 1)) x335000 x335001) else (some false))) else (some false))) else (some false)))) else (some false))) else (some false))) else (none)) else ((spec_l1In.f x335000 1 8).bind fun t335 => (if t335 = true then (some (decide ((x335001.length : Int) ≤ 16))) else (some false)))
def spec_l1Ok.f (k : Nat) (a0_0 : Int) (l0_1 : List (S58)) : Option (Bool):=spec_l1Ok.l0 k 0 a0_0 l0_1
set_option maxHeartbeats 8000000 in
set_option maxRecDepth 100000 in
theorem spec_l1Ok.calls (k : Nat) (a0_0 : Int) (A0_1 : Option Addr) (c0_1 : Nat) (l0_1 : List (S58)) (r : Bool) (w : World) (hr0_1 : Kd.C k58 w A0_1 l0_1.length l0_1) (hc0_1 : l0_1.length ≤ c0_1) (h : spec_l1Ok.f k a0_0 l0_1 = some r) :
  Calls Try.prog 76 #[.agg #[.int .i64 a0_0,.slice A0_1 l0_1.length c0_1]] w fun e w' => e = .returned (.bool r) ∧ Below w.heap.size w w':=by
 have hu34:=Try.underlying34;have hu58:=Try.underlying58;have HR0_1:=zy hr0_1;have HC0_1:=zy hc0_1;clear hr0_1 hc0_1;have HB:=zy (Below.refl w.heap.size w);have H : (spec_l1Ok.l0 k 0 a0_0 l0_1) = some r:=h;clear h;have H':=zy H;clear H
 go_enter Try.func76,Try.ntmps76
 go_wp2_with (first | ((with_reducible refine gate_dst (N:=1) rfl ?_); (try (refine gate_guard (by rfl) ?_; dsimp only)); refine box_event ?hg (N:=1) ?hd (cs:=#[.int .i64 a0_0,.slice A0_1 l0_1.length c0_1]) (t:=34) ?hr ?_; (case hd => rfl); (case hg => rfl); (case hr => first | (go_simp; done) | (go_simp; rfl)); intro gb334 hg w2 hbox hb; have n0_:=zy (below_step (by repeat (first | (with_reducible first | exact HB.out | apply below_alloc | apply pw_below_drewN | apply below_drew1) | exact HB.out)) hb); have n1_:=zy (hbox); have n2_:=zy ((by rw [hg]; exact (below_size (by repeat (first | (with_reducible first | exact HB.out | apply below_alloc | apply pw_below_drewN | apply below_drew1) | exact HB.out))) : w.heap.size ≤ gb334)); have n3_:=zy ((by rw [hg]; exact (below_size (by repeat (first | (with_reducible first | exact HB.out | apply below_alloc | apply pw_below_drewN | apply below_drew1) | exact HB.out))) : w.heap.size ≤ gb334)); clear HB; have HB:=n0_; have BK334:=n1_; have GW334:=n2_; have GE334:=n3_; clear n0_ n1_ n2_ n3_; clear hb hbox hg))
 go_loopg [3] k (fun kq v3 w' => ∃ (x3_1 : Int),v3 = .int .i64 x3_1 ∧ Aside0 (spec_l1Ok.l0 kq x3_1 a0_0 l0_1 = some r) ∧ Aside0 (kq ≤ k) ∧ Aside0 (w'.heap[gb334]? = some (.cells #[.int .i64 a0_0,(.slice A0_1 l0_1.length c0_1)] 34 (0,0))) ∧ Aside0 (Below w.heap.size w w'))
 case atStart => exact ⟨(0),(by first | rfl | (simp; done) | (simp [*]; done)),H',⟨Nat.le_refl _⟩,⟨by (with_reducible repeat (first | refine blk_drewN ?_ _ | refine blk_drew ?_ | refine blk_alloc ?_ _)); exact BK334.out⟩,⟨by repeat (first | (with_reducible first | exact HB.out | apply below_alloc | apply pw_below_drewN | apply below_drew1 | refine below_set ?_ GE334.out) | exact HB.out)⟩⟩
 case round =>
  clear H'
  try clear p2
  obtain ⟨x3_1,rfl,HA,HK1,BK334,HB⟩:=hrel;cases gk with
  | zero => exact absurd HA.out (by simp [spec_l1Ok.l0])
  | succ k1 =>
   have H:=HA.out;clear HA;simp only [spec_l1Ok.l0] at H
   by_cases c3 : x3_1 < (l0_1.length : Int)
   case neg =>
    rw [if_neg c3] at H;have c3b0 : decide (x3_1 < (l0_1.length : Int)) = false:=decide_eq_false c3;clear c3;replace H:=Option.bind_eq_some_iff.mp H;obtain ⟨t335,A510,H⟩:=H;replace H : (if t335 = true then (some (decide ((l0_1.length : Int) ≤ 16))) else (some false)) = some r:=H;have A51:=zy A510;clear A510
    by_cases c52 : t335 = true
    case pos =>
     subst c52;have H1 : (some (decide ((l0_1.length : Int) ≤ 16))) = some r:=by rw [if_pos rfl] at H; exact H
     clear H;have H:=H1;clear H1;obtain rfl:=Option.some.inj H;have hcz53_0 : wr.cell? ⟨gb334,0,none⟩ = some (.int .i64 a0_0):=(blk_cell BK334.out 0).trans rfl;have hcz53_1 : wr.cell? ⟨gb334,1,none⟩ = some (.slice A0_1 l0_1.length c0_1):=(blk_cell BK334.out 1).trans rfl;have hfz53_0:=blk_frozen BK334.out 0;have hfz53_1:=blk_frozen BK334.out 1
     go_wp2_with (first | ((with_reducible refine gate_callee (f:=90) rfl ?_); refine goesL_ (some 60) rfl rfl Try.func90 (by kernel_rfl) rfl #[.int .i64 a0_0,.int .i64 1,.int .i64 8] rfl (by (try simp only [List.map_toArray,List.map_cons,List.map_nil]); first | done | rfl | (simp only [List.length_drop,List.length_take]; rfl)) ?_; (with_reducible refine (spec_l1In.calls a0_0 1 8 true _ A51.out).mono ?_); rintro e w' ⟨rfl,⟨nd,rfl⟩⟩; refine ⟨_,rfl,?_⟩))
     go_ret;exact ⟨by first | rfl | (simp [errW_none,errW_some] <;> rfl) | (simp [*,errW_none,errW_some] <;> rfl),by repeat (first | (with_reducible first | exact HB.out | apply below_alloc | apply pw_below_drewN | apply below_drew1 | refine below_set ?_ GE334.out) | exact HB.out)⟩
    replace c52:=Bool.eq_false_iff.mpr c52;subst c52;have H1 : (some false) = some r:=by rw [if_neg (show ¬ (false = true) by decide)] at H; exact H
    clear H;have H:=H1;clear H1;obtain rfl:=Option.some.inj H;have hcz54_0 : wr.cell? ⟨gb334,0,none⟩ = some (.int .i64 a0_0):=(blk_cell BK334.out 0).trans rfl;have hcz54_1 : wr.cell? ⟨gb334,1,none⟩ = some (.slice A0_1 l0_1.length c0_1):=(blk_cell BK334.out 1).trans rfl;have hfz54_0:=blk_frozen BK334.out 0;have hfz54_1:=blk_frozen BK334.out 1
    go_wp2_with (first | ((with_reducible refine gate_callee (f:=90) rfl ?_); refine goesL_ (some 60) rfl rfl Try.func90 (by kernel_rfl) rfl #[.int .i64 a0_0,.int .i64 1,.int .i64 8] rfl (by (try simp only [List.map_toArray,List.map_cons,List.map_nil]); first | done | rfl | (simp only [List.length_drop,List.length_take]; rfl)) ?_; (with_reducible refine (spec_l1In.calls a0_0 1 8 false _ A51.out).mono ?_); rintro e w' ⟨rfl,⟨nd,rfl⟩⟩; refine ⟨_,rfl,?_⟩))
    go_ret;exact ⟨by first | rfl | (simp [errW_none,errW_some] <;> rfl) | (simp [*,errW_none,errW_some] <;> rfl),by repeat (first | (with_reducible first | exact HB.out | apply below_alloc | apply pw_below_drewN | apply below_drew1 | refine below_set ?_ GE334.out) | exact HB.out)⟩
   rw [if_pos c3] at H;have c3b0 : decide (x3_1 < (l0_1.length : Int)) = true:=decide_eq_true c3;clear c3
   by_cases c4 : 0 ≤ x3_1
   case neg =>
    rw [if_neg c4] at H;exact absurd H (by simp)
   rw [if_pos c4] at H;have c4b0 : decide (0 ≤ x3_1) = true:=decide_eq_true c4;clear c4;replace H:=Option.bind_eq_some_iff.mp H;obtain ⟨t338,A50,H⟩:=H;replace H : (if t338 = true then ((spec_l1In.f ((rd_T58 l0_1 x3_1).f1) 0 (wrap64 (a0_0 - 1))).bind fun t339 => (if t339 = true then (if ((rd_T58 l0_1 x3_1).f0) = ((rd_T58 l0_1 x3_1).f1) then (some false) else ((spec_l1In.f ((rd_T58 l0_1 x3_1).f2) 0 99).bind fun t340 => (if t340 = true then ((spec_l1In.f ((rd_T58 l0_1 x3_1).f3) 0 99).bind fun t341 => (if t341 = true then ((spec_l1In.f ((rd_T58 l0_1 x3_1).f4) 0 9).bind fun t342 => (if t342 = true then (spec_l1Ok.l0 k1 (wrap64 (x3_1 + 1)) a0_0 l0_1) else (some false))) else (some false))) else (some false)))) else (some false))) else (some false)) = some r:=H;have A5:=zy A50;clear A50
   by_cases c6 : t338 = true
   case neg =>
    replace c6:=Bool.eq_false_iff.mpr c6;subst c6;have H1 : (some false) = some r:=by rw [if_neg (show ¬ (false = true) by decide)] at H; exact H
    clear H;have H:=H1;clear H1;obtain rfl:=Option.some.inj H;have hcz46_0 : wr.cell? ⟨gb334,0,none⟩ = some (.int .i64 a0_0):=(blk_cell BK334.out 0).trans rfl;have hcz46_1 : wr.cell? ⟨gb334,1,none⟩ = some (.slice A0_1 l0_1.length c0_1):=(blk_cell BK334.out 1).trans rfl;have hfz46_0:=blk_frozen BK334.out 0;have hfz46_1:=blk_frozen BK334.out 1;have p336 : 0 ≤ (x3_1 : Int):=of_decide_eq_true (by first | (with_reducible assumption) | assumption);have q336 : x3_1 < (l0_1.length : Int):=of_decide_eq_true (by first | (with_reducible assumption) | assumption);obtain ⟨ad336,e336,hx336_0,hx336_1,hx336_2,hx336_3,hx336_4⟩:=at_T58 HR0_1.out x3_1 p336 q336;cases e336;replace hx336_0:=(HB.out.cell (World.block_lt_of_cell? w _ hx336_0)).trans hx336_0;replace hx336_1:=(HB.out.cell (World.block_lt_of_cell? w _ hx336_1)).trans hx336_1;replace hx336_2:=(HB.out.cell (World.block_lt_of_cell? w _ hx336_2)).trans hx336_2;replace hx336_3:=(HB.out.cell (World.block_lt_of_cell? w _ hx336_3)).trans hx336_3;replace hx336_4:=(HB.out.cell (World.block_lt_of_cell? w _ hx336_4)).trans hx336_4;replace p336:=eq_true p336;replace q336:=eq_true q336
    go_wp2_with (first | ((with_reducible refine gate_dst (N:=4) rfl ?_); (try (refine gate_guard (by rfl) ?_; dsimp only)); refine box_event ?hg (N:=4) ?hd (cs:=#[.int .i64 0,.int .i64 0,.int .i64 0,.int .i64 0,.int .i64 0]) (t:=58) ?hr ?_; (case hd => rfl); (case hg => rfl); (case hr => first | (go_simp; done) | (go_simp; rfl)); intro gb337 hg w47 hbox hb; have n0_:=zy (blk_below (g:=gb334) (o:=.cells #[.int .i64 a0_0,.slice (some ad336) l0_1.length c0_1] 34 (0,0)) (by (with_reducible repeat (first | refine blk_drewN ?_ _ | refine blk_drew ?_ | refine blk_alloc ?_ _)); exact BK334.out) hb); have n1_:=zy (below_step (by repeat (first | (with_reducible first | exact HB.out | apply below_alloc | apply pw_below_drewN | apply below_drew1 | refine below_set ?_ GE334.out) | exact HB.out)) hb); have n2_:=zy (hbox); have n3_:=zy ((by rw [hg]; exact (below_size (by repeat (first | (with_reducible first | exact HB.out | apply below_alloc | apply pw_below_drewN | apply below_drew1 | refine below_set ?_ GE334.out) | exact HB.out))) : w.heap.size ≤ gb337)); have n4_:=zy ((by rw [hg]; exact (below_size (by repeat (first | (with_reducible first | exact HB.out | apply below_alloc | apply pw_below_drewN | apply below_drew1 | refine below_set ?_ GE334.out) | exact HB.out))) : w.heap.size ≤ gb337)); have n5_:=zy ((by rw [hg]; exact Nat.ne_of_lt (blk_lt (g:=gb334) (o:=.cells #[.int .i64 a0_0,.slice (some ad336) l0_1.length c0_1] 34 (0,0)) (by (with_reducible repeat (first | refine blk_drewN ?_ _ | refine blk_drew ?_ | refine blk_alloc ?_ _)); exact BK334.out)) : gb334 ≠ gb337)); have n6_:=zy ((by rw [hg]; exact Nat.ne_of_gt (blk_lt (g:=gb334) (o:=.cells #[.int .i64 a0_0,.slice (some ad336) l0_1.length c0_1] 34 (0,0)) (by (with_reducible repeat (first | refine blk_drewN ?_ _ | refine blk_drew ?_ | refine blk_alloc ?_ _)); exact BK334.out)) : gb337 ≠ gb334)); clear BK334; clear HB; have BK334:=n0_; have HB:=n1_; have BK337:=n2_; have GW337:=n3_; have GE337:=n4_; have NB334_337:=n5_; have NB337_334:=n6_; clear n0_ n1_ n2_ n3_ n4_ n5_ n6_; clear hb hbox hg; have hnb48:=NB337_334.out; have hnc48:=NB334_337.out; have hcz49_0 : w47.cell? ⟨gb337,0,none⟩ = some (.int .i64 0):=(blk_cell BK337.out 0).trans rfl; have hcz49_1 : w47.cell? ⟨gb337,1,none⟩ = some (.int .i64 0):=(blk_cell BK337.out 1).trans rfl; have hcz49_2 : w47.cell? ⟨gb337,2,none⟩ = some (.int .i64 0):=(blk_cell BK337.out 2).trans rfl; have hcz49_3 : w47.cell? ⟨gb337,3,none⟩ = some (.int .i64 0):=(blk_cell BK337.out 3).trans rfl; have hcz49_4 : w47.cell? ⟨gb337,4,none⟩ = some (.int .i64 0):=(blk_cell BK337.out 4).trans rfl; have hfz49_0:=blk_frozen BK337.out 0; have hfz49_1:=blk_frozen BK337.out 1; have hfz49_2:=blk_frozen BK337.out 2; have hfz49_3:=blk_frozen BK337.out 3; have hfz49_4:=blk_frozen BK337.out 4; have hcz50_0 : w47.cell? ⟨gb334,0,none⟩ = some (.int .i64 a0_0):=(blk_cell BK334.out 0).trans rfl; have hcz50_1 : w47.cell? ⟨gb334,1,none⟩ = some (.slice (some ad336) l0_1.length c0_1):=(blk_cell BK334.out 1).trans rfl; have hfz50_0:=blk_frozen BK334.out 0; have hfz50_1:=blk_frozen BK334.out 1) | ((with_reducible refine gate_callee (f:=90) rfl ?_); refine goesL_ (some 22) rfl rfl Try.func90 (by kernel_rfl) rfl #[.int .i64 ((rd_T58 l0_1 x3_1).f0),.int .i64 0,.int .i64 (wrap64 (a0_0 - 1))] rfl (by (try simp only [List.map_toArray,List.map_cons,List.map_nil]); first | done | rfl | (simp only [List.length_drop,List.length_take]; rfl)) ?_; (with_reducible refine (spec_l1In.calls ((rd_T58 l0_1 x3_1).f0) 0 (wrap64 (a0_0 - 1)) false _ A5.out).mono ?_); rintro e w' ⟨rfl,⟨nd,rfl⟩⟩; refine ⟨_,rfl,?_⟩))
    go_ret;exact ⟨by first | rfl | (simp [errW_none,errW_some] <;> rfl) | (simp [*,errW_none,errW_some] <;> rfl),by repeat (first | (with_reducible first | exact HB.out | apply below_alloc | apply pw_below_drewN | apply below_drew1 | refine below_set ?_ GE334.out | refine below_set ?_ GE337.out) | exact HB.out)⟩
   subst c6;have H1 : ((spec_l1In.f ((rd_T58 l0_1 x3_1).f1) 0 (wrap64 (a0_0 - 1))).bind fun t339 => (if t339 = true then (if ((rd_T58 l0_1 x3_1).f0) = ((rd_T58 l0_1 x3_1).f1) then (some false) else ((spec_l1In.f ((rd_T58 l0_1 x3_1).f2) 0 99).bind fun t340 => (if t340 = true then ((spec_l1In.f ((rd_T58 l0_1 x3_1).f3) 0 99).bind fun t341 => (if t341 = true then ((spec_l1In.f ((rd_T58 l0_1 x3_1).f4) 0 9).bind fun t342 => (if t342 = true then (spec_l1Ok.l0 k1 (wrap64 (x3_1 + 1)) a0_0 l0_1) else (some false))) else (some false))) else (some false)))) else (some false))) = some r:=by rw [if_pos rfl] at H; exact H
   clear H;have H:=H1;clear H1;replace H:=Option.bind_eq_some_iff.mp H;obtain ⟨t339,A70,H⟩:=H;replace H : (if t339 = true then (if ((rd_T58 l0_1 x3_1).f0) = ((rd_T58 l0_1 x3_1).f1) then (some false) else ((spec_l1In.f ((rd_T58 l0_1 x3_1).f2) 0 99).bind fun t340 => (if t340 = true then ((spec_l1In.f ((rd_T58 l0_1 x3_1).f3) 0 99).bind fun t341 => (if t341 = true then ((spec_l1In.f ((rd_T58 l0_1 x3_1).f4) 0 9).bind fun t342 => (if t342 = true then (spec_l1Ok.l0 k1 (wrap64 (x3_1 + 1)) a0_0 l0_1) else (some false))) else (some false))) else (some false)))) else (some false)) = some r:=H;have A7:=zy A70;clear A70
   by_cases c8 : t339 = true
   case neg =>
    replace c8:=Bool.eq_false_iff.mpr c8;subst c8;have H1 : (some false) = some r:=by rw [if_neg (show ¬ (false = true) by decide)] at H; exact H
    clear H;have H:=H1;clear H1;obtain rfl:=Option.some.inj H;have hcz41_0 : wr.cell? ⟨gb334,0,none⟩ = some (.int .i64 a0_0):=(blk_cell BK334.out 0).trans rfl;have hcz41_1 : wr.cell? ⟨gb334,1,none⟩ = some (.slice A0_1 l0_1.length c0_1):=(blk_cell BK334.out 1).trans rfl;have hfz41_0:=blk_frozen BK334.out 0;have hfz41_1:=blk_frozen BK334.out 1;have p336 : 0 ≤ (x3_1 : Int):=of_decide_eq_true (by first | (with_reducible assumption) | assumption);have q336 : x3_1 < (l0_1.length : Int):=of_decide_eq_true (by first | (with_reducible assumption) | assumption);obtain ⟨ad336,e336,hx336_0,hx336_1,hx336_2,hx336_3,hx336_4⟩:=at_T58 HR0_1.out x3_1 p336 q336;cases e336;replace hx336_0:=(HB.out.cell (World.block_lt_of_cell? w _ hx336_0)).trans hx336_0;replace hx336_1:=(HB.out.cell (World.block_lt_of_cell? w _ hx336_1)).trans hx336_1;replace hx336_2:=(HB.out.cell (World.block_lt_of_cell? w _ hx336_2)).trans hx336_2;replace hx336_3:=(HB.out.cell (World.block_lt_of_cell? w _ hx336_3)).trans hx336_3;replace hx336_4:=(HB.out.cell (World.block_lt_of_cell? w _ hx336_4)).trans hx336_4;replace p336:=eq_true p336;replace q336:=eq_true q336
    go_wp2_with (first | ((with_reducible refine gate_dst (N:=4) rfl ?_); (try (refine gate_guard (by rfl) ?_; dsimp only)); refine box_event ?hg (N:=4) ?hd (cs:=#[.int .i64 0,.int .i64 0,.int .i64 0,.int .i64 0,.int .i64 0]) (t:=58) ?hr ?_; (case hd => rfl); (case hg => rfl); (case hr => first | (go_simp; done) | (go_simp; rfl)); intro gb337 hg w42 hbox hb; have n0_:=zy (blk_below (g:=gb334) (o:=.cells #[.int .i64 a0_0,.slice (some ad336) l0_1.length c0_1] 34 (0,0)) (by (with_reducible repeat (first | refine blk_drewN ?_ _ | refine blk_drew ?_ | refine blk_alloc ?_ _)); exact BK334.out) hb); have n1_:=zy (below_step (by repeat (first | (with_reducible first | exact HB.out | apply below_alloc | apply pw_below_drewN | apply below_drew1 | refine below_set ?_ GE334.out) | exact HB.out)) hb); have n2_:=zy (hbox); have n3_:=zy ((by rw [hg]; exact (below_size (by repeat (first | (with_reducible first | exact HB.out | apply below_alloc | apply pw_below_drewN | apply below_drew1 | refine below_set ?_ GE334.out) | exact HB.out))) : w.heap.size ≤ gb337)); have n4_:=zy ((by rw [hg]; exact (below_size (by repeat (first | (with_reducible first | exact HB.out | apply below_alloc | apply pw_below_drewN | apply below_drew1 | refine below_set ?_ GE334.out) | exact HB.out))) : w.heap.size ≤ gb337)); have n5_:=zy ((by rw [hg]; exact Nat.ne_of_lt (blk_lt (g:=gb334) (o:=.cells #[.int .i64 a0_0,.slice (some ad336) l0_1.length c0_1] 34 (0,0)) (by (with_reducible repeat (first | refine blk_drewN ?_ _ | refine blk_drew ?_ | refine blk_alloc ?_ _)); exact BK334.out)) : gb334 ≠ gb337)); have n6_:=zy ((by rw [hg]; exact Nat.ne_of_gt (blk_lt (g:=gb334) (o:=.cells #[.int .i64 a0_0,.slice (some ad336) l0_1.length c0_1] 34 (0,0)) (by (with_reducible repeat (first | refine blk_drewN ?_ _ | refine blk_drew ?_ | refine blk_alloc ?_ _)); exact BK334.out)) : gb337 ≠ gb334)); clear BK334; clear HB; have BK334:=n0_; have HB:=n1_; have BK337:=n2_; have GW337:=n3_; have GE337:=n4_; have NB334_337:=n5_; have NB337_334:=n6_; clear n0_ n1_ n2_ n3_ n4_ n5_ n6_; clear hb hbox hg; have hnb43:=NB337_334.out; have hnc43:=NB334_337.out; have hcz44_0 : w42.cell? ⟨gb337,0,none⟩ = some (.int .i64 0):=(blk_cell BK337.out 0).trans rfl; have hcz44_1 : w42.cell? ⟨gb337,1,none⟩ = some (.int .i64 0):=(blk_cell BK337.out 1).trans rfl; have hcz44_2 : w42.cell? ⟨gb337,2,none⟩ = some (.int .i64 0):=(blk_cell BK337.out 2).trans rfl; have hcz44_3 : w42.cell? ⟨gb337,3,none⟩ = some (.int .i64 0):=(blk_cell BK337.out 3).trans rfl; have hcz44_4 : w42.cell? ⟨gb337,4,none⟩ = some (.int .i64 0):=(blk_cell BK337.out 4).trans rfl; have hfz44_0:=blk_frozen BK337.out 0; have hfz44_1:=blk_frozen BK337.out 1; have hfz44_2:=blk_frozen BK337.out 2; have hfz44_3:=blk_frozen BK337.out 3; have hfz44_4:=blk_frozen BK337.out 4; have hcz45_0 : w42.cell? ⟨gb334,0,none⟩ = some (.int .i64 a0_0):=(blk_cell BK334.out 0).trans rfl; have hcz45_1 : w42.cell? ⟨gb334,1,none⟩ = some (.slice (some ad336) l0_1.length c0_1):=(blk_cell BK334.out 1).trans rfl; have hfz45_0:=blk_frozen BK334.out 0; have hfz45_1:=blk_frozen BK334.out 1) | ((with_reducible refine gate_callee (f:=90) rfl ?_); refine goesL_ (some 22) rfl rfl Try.func90 (by kernel_rfl) rfl #[.int .i64 ((rd_T58 l0_1 x3_1).f0),.int .i64 0,.int .i64 (wrap64 (a0_0 - 1))] rfl (by (try simp only [List.map_toArray,List.map_cons,List.map_nil]); first | done | rfl | (simp only [List.length_drop,List.length_take]; rfl)) ?_; (with_reducible refine (spec_l1In.calls ((rd_T58 l0_1 x3_1).f0) 0 (wrap64 (a0_0 - 1)) true _ A5.out).mono ?_); rintro e w' ⟨rfl,⟨nd,rfl⟩⟩; refine ⟨_,rfl,?_⟩) | (go_at_call 90; (with_reducible refine (spec_l1In.calls ((rd_T58 l0_1 x3_1).f1) 0 (wrap64 (a0_0 - 1)) false _ A7.out).mono ?_); rintro e w' ⟨rfl,⟨nd,rfl⟩⟩))
    go_ret;exact ⟨by first | rfl | (simp [errW_none,errW_some] <;> rfl) | (simp [*,errW_none,errW_some] <;> rfl),by repeat (first | (with_reducible first | exact HB.out | apply below_alloc | apply pw_below_drewN | apply below_drew1 | refine below_set ?_ GE334.out | refine below_set ?_ GE337.out) | exact HB.out)⟩
   subst c8;have H1 : (if ((rd_T58 l0_1 x3_1).f0) = ((rd_T58 l0_1 x3_1).f1) then (some false) else ((spec_l1In.f ((rd_T58 l0_1 x3_1).f2) 0 99).bind fun t340 => (if t340 = true then ((spec_l1In.f ((rd_T58 l0_1 x3_1).f3) 0 99).bind fun t341 => (if t341 = true then ((spec_l1In.f ((rd_T58 l0_1 x3_1).f4) 0 9).bind fun t342 => (if t342 = true then (spec_l1Ok.l0 k1 (wrap64 (x3_1 + 1)) a0_0 l0_1) else (some false))) else (some false))) else (some false)))) = some r:=by rw [if_pos rfl] at H; exact H
   clear H;have H:=H1;clear H1
   by_cases c9 : ((rd_T58 l0_1 x3_1).f0) = ((rd_T58 l0_1 x3_1).f1)
   case pos =>
    rw [if_pos c9] at H;have c9b0 : (((rd_T58 l0_1 x3_1).f0) == ((rd_T58 l0_1 x3_1).f1)) = true:=beq_iff_eq.mpr c9;have c9b1 : (((rd_T58 l0_1 x3_1).f0) != ((rd_T58 l0_1 x3_1).f1)) = false:=bne_eq_false_iff_eq.mpr c9;clear c9;obtain rfl:=Option.some.inj H;have hcz10_0 : wr.cell? ⟨gb334,0,none⟩ = some (.int .i64 a0_0):=(blk_cell BK334.out 0).trans rfl;have hcz10_1 : wr.cell? ⟨gb334,1,none⟩ = some (.slice A0_1 l0_1.length c0_1):=(blk_cell BK334.out 1).trans rfl;have hfz10_0:=blk_frozen BK334.out 0;have hfz10_1:=blk_frozen BK334.out 1;have p336 : 0 ≤ (x3_1 : Int):=of_decide_eq_true (by first | (with_reducible assumption) | assumption);have q336 : x3_1 < (l0_1.length : Int):=of_decide_eq_true (by first | (with_reducible assumption) | assumption);obtain ⟨ad336,e336,hx336_0,hx336_1,hx336_2,hx336_3,hx336_4⟩:=at_T58 HR0_1.out x3_1 p336 q336;cases e336;replace hx336_0:=(HB.out.cell (World.block_lt_of_cell? w _ hx336_0)).trans hx336_0;replace hx336_1:=(HB.out.cell (World.block_lt_of_cell? w _ hx336_1)).trans hx336_1;replace hx336_2:=(HB.out.cell (World.block_lt_of_cell? w _ hx336_2)).trans hx336_2;replace hx336_3:=(HB.out.cell (World.block_lt_of_cell? w _ hx336_3)).trans hx336_3;replace hx336_4:=(HB.out.cell (World.block_lt_of_cell? w _ hx336_4)).trans hx336_4;replace p336:=eq_true p336;replace q336:=eq_true q336
    go_wp2_with (first | ((with_reducible refine gate_dst (N:=4) rfl ?_); (try (refine gate_guard (by rfl) ?_; dsimp only)); refine box_event ?hg (N:=4) ?hd (cs:=#[.int .i64 0,.int .i64 0,.int .i64 0,.int .i64 0,.int .i64 0]) (t:=58) ?hr ?_; (case hd => rfl); (case hg => rfl); (case hr => first | (go_simp; done) | (go_simp; rfl)); intro gb337 hg w11 hbox hb; have n0_:=zy (blk_below (g:=gb334) (o:=.cells #[.int .i64 a0_0,.slice (some ad336) l0_1.length c0_1] 34 (0,0)) (by (with_reducible repeat (first | refine blk_drewN ?_ _ | refine blk_drew ?_ | refine blk_alloc ?_ _)); exact BK334.out) hb); have n1_:=zy (below_step (by repeat (first | (with_reducible first | exact HB.out | apply below_alloc | apply pw_below_drewN | apply below_drew1 | refine below_set ?_ GE334.out) | exact HB.out)) hb); have n2_:=zy (hbox); have n3_:=zy ((by rw [hg]; exact (below_size (by repeat (first | (with_reducible first | exact HB.out | apply below_alloc | apply pw_below_drewN | apply below_drew1 | refine below_set ?_ GE334.out) | exact HB.out))) : w.heap.size ≤ gb337)); have n4_:=zy ((by rw [hg]; exact (below_size (by repeat (first | (with_reducible first | exact HB.out | apply below_alloc | apply pw_below_drewN | apply below_drew1 | refine below_set ?_ GE334.out) | exact HB.out))) : w.heap.size ≤ gb337)); have n5_:=zy ((by rw [hg]; exact Nat.ne_of_lt (blk_lt (g:=gb334) (o:=.cells #[.int .i64 a0_0,.slice (some ad336) l0_1.length c0_1] 34 (0,0)) (by (with_reducible repeat (first | refine blk_drewN ?_ _ | refine blk_drew ?_ | refine blk_alloc ?_ _)); exact BK334.out)) : gb334 ≠ gb337)); have n6_:=zy ((by rw [hg]; exact Nat.ne_of_gt (blk_lt (g:=gb334) (o:=.cells #[.int .i64 a0_0,.slice (some ad336) l0_1.length c0_1] 34 (0,0)) (by (with_reducible repeat (first | refine blk_drewN ?_ _ | refine blk_drew ?_ | refine blk_alloc ?_ _)); exact BK334.out)) : gb337 ≠ gb334)); clear BK334; clear HB; have BK334:=n0_; have HB:=n1_; have BK337:=n2_; have GW337:=n3_; have GE337:=n4_; have NB334_337:=n5_; have NB337_334:=n6_; clear n0_ n1_ n2_ n3_ n4_ n5_ n6_; clear hb hbox hg; have hnb12:=NB337_334.out; have hnc12:=NB334_337.out; have hcz13_0 : w11.cell? ⟨gb337,0,none⟩ = some (.int .i64 0):=(blk_cell BK337.out 0).trans rfl; have hcz13_1 : w11.cell? ⟨gb337,1,none⟩ = some (.int .i64 0):=(blk_cell BK337.out 1).trans rfl; have hcz13_2 : w11.cell? ⟨gb337,2,none⟩ = some (.int .i64 0):=(blk_cell BK337.out 2).trans rfl; have hcz13_3 : w11.cell? ⟨gb337,3,none⟩ = some (.int .i64 0):=(blk_cell BK337.out 3).trans rfl; have hcz13_4 : w11.cell? ⟨gb337,4,none⟩ = some (.int .i64 0):=(blk_cell BK337.out 4).trans rfl; have hfz13_0:=blk_frozen BK337.out 0; have hfz13_1:=blk_frozen BK337.out 1; have hfz13_2:=blk_frozen BK337.out 2; have hfz13_3:=blk_frozen BK337.out 3; have hfz13_4:=blk_frozen BK337.out 4; have hcz14_0 : w11.cell? ⟨gb334,0,none⟩ = some (.int .i64 a0_0):=(blk_cell BK334.out 0).trans rfl; have hcz14_1 : w11.cell? ⟨gb334,1,none⟩ = some (.slice (some ad336) l0_1.length c0_1):=(blk_cell BK334.out 1).trans rfl; have hfz14_0:=blk_frozen BK334.out 0; have hfz14_1:=blk_frozen BK334.out 1) | ((with_reducible refine gate_callee (f:=90) rfl ?_); refine goesL_ (some 22) rfl rfl Try.func90 (by kernel_rfl) rfl #[.int .i64 ((rd_T58 l0_1 x3_1).f0),.int .i64 0,.int .i64 (wrap64 (a0_0 - 1))] rfl (by (try simp only [List.map_toArray,List.map_cons,List.map_nil]); first | done | rfl | (simp only [List.length_drop,List.length_take]; rfl)) ?_; (with_reducible refine (spec_l1In.calls ((rd_T58 l0_1 x3_1).f0) 0 (wrap64 (a0_0 - 1)) true _ A5.out).mono ?_); rintro e w' ⟨rfl,⟨nd,rfl⟩⟩; refine ⟨_,rfl,?_⟩) | (go_at_call 90; (with_reducible refine (spec_l1In.calls ((rd_T58 l0_1 x3_1).f1) 0 (wrap64 (a0_0 - 1)) true _ A7.out).mono ?_); rintro e w' ⟨rfl,⟨nd,rfl⟩⟩))
    go_ret;exact ⟨by first | rfl | (simp [errW_none,errW_some] <;> rfl) | (simp [*,errW_none,errW_some] <;> rfl),by repeat (first | (with_reducible first | exact HB.out | apply below_alloc | apply pw_below_drewN | apply below_drew1 | refine below_set ?_ GE334.out | refine below_set ?_ GE337.out) | exact HB.out)⟩
   rw [if_neg c9] at H;have c9b0 : (((rd_T58 l0_1 x3_1).f0) == ((rd_T58 l0_1 x3_1).f1)) = false:=beq_eq_false_iff_ne.mpr c9;have c9b1 : (((rd_T58 l0_1 x3_1).f0) != ((rd_T58 l0_1 x3_1).f1)) = true:=bne_iff_ne.mpr c9;replace H:=Option.bind_eq_some_iff.mp H;obtain ⟨t340,A150,H⟩:=H;replace H : (if t340 = true then ((spec_l1In.f ((rd_T58 l0_1 x3_1).f3) 0 99).bind fun t341 => (if t341 = true then ((spec_l1In.f ((rd_T58 l0_1 x3_1).f4) 0 9).bind fun t342 => (if t342 = true then (spec_l1Ok.l0 k1 (wrap64 (x3_1 + 1)) a0_0 l0_1) else (some false))) else (some false))) else (some false)) = some r:=H;have A15:=zy A150;clear A150
   by_cases c16 : t340 = true
   case neg =>
    replace c16:=Bool.eq_false_iff.mpr c16;subst c16;have H1 : (some false) = some r:=by rw [if_neg (show ¬ (false = true) by decide)] at H; exact H
    clear H;have H:=H1;clear H1;obtain rfl:=Option.some.inj H;have hcz36_0 : wr.cell? ⟨gb334,0,none⟩ = some (.int .i64 a0_0):=(blk_cell BK334.out 0).trans rfl;have hcz36_1 : wr.cell? ⟨gb334,1,none⟩ = some (.slice A0_1 l0_1.length c0_1):=(blk_cell BK334.out 1).trans rfl;have hfz36_0:=blk_frozen BK334.out 0;have hfz36_1:=blk_frozen BK334.out 1;have p336 : 0 ≤ (x3_1 : Int):=of_decide_eq_true (by first | (with_reducible assumption) | assumption);have q336 : x3_1 < (l0_1.length : Int):=of_decide_eq_true (by first | (with_reducible assumption) | assumption);obtain ⟨ad336,e336,hx336_0,hx336_1,hx336_2,hx336_3,hx336_4⟩:=at_T58 HR0_1.out x3_1 p336 q336;cases e336;replace hx336_0:=(HB.out.cell (World.block_lt_of_cell? w _ hx336_0)).trans hx336_0;replace hx336_1:=(HB.out.cell (World.block_lt_of_cell? w _ hx336_1)).trans hx336_1;replace hx336_2:=(HB.out.cell (World.block_lt_of_cell? w _ hx336_2)).trans hx336_2;replace hx336_3:=(HB.out.cell (World.block_lt_of_cell? w _ hx336_3)).trans hx336_3;replace hx336_4:=(HB.out.cell (World.block_lt_of_cell? w _ hx336_4)).trans hx336_4;replace p336:=eq_true p336;replace q336:=eq_true q336
    go_wp2_with (first | ((with_reducible refine gate_dst (N:=4) rfl ?_); (try (refine gate_guard (by rfl) ?_; dsimp only)); refine box_event ?hg (N:=4) ?hd (cs:=#[.int .i64 0,.int .i64 0,.int .i64 0,.int .i64 0,.int .i64 0]) (t:=58) ?hr ?_; (case hd => rfl); (case hg => rfl); (case hr => first | (go_simp; done) | (go_simp; rfl)); intro gb337 hg w37 hbox hb; have n0_:=zy (blk_below (g:=gb334) (o:=.cells #[.int .i64 a0_0,.slice (some ad336) l0_1.length c0_1] 34 (0,0)) (by (with_reducible repeat (first | refine blk_drewN ?_ _ | refine blk_drew ?_ | refine blk_alloc ?_ _)); exact BK334.out) hb); have n1_:=zy (below_step (by repeat (first | (with_reducible first | exact HB.out | apply below_alloc | apply pw_below_drewN | apply below_drew1 | refine below_set ?_ GE334.out) | exact HB.out)) hb); have n2_:=zy (hbox); have n3_:=zy ((by rw [hg]; exact (below_size (by repeat (first | (with_reducible first | exact HB.out | apply below_alloc | apply pw_below_drewN | apply below_drew1 | refine below_set ?_ GE334.out) | exact HB.out))) : w.heap.size ≤ gb337)); have n4_:=zy ((by rw [hg]; exact (below_size (by repeat (first | (with_reducible first | exact HB.out | apply below_alloc | apply pw_below_drewN | apply below_drew1 | refine below_set ?_ GE334.out) | exact HB.out))) : w.heap.size ≤ gb337)); have n5_:=zy ((by rw [hg]; exact Nat.ne_of_lt (blk_lt (g:=gb334) (o:=.cells #[.int .i64 a0_0,.slice (some ad336) l0_1.length c0_1] 34 (0,0)) (by (with_reducible repeat (first | refine blk_drewN ?_ _ | refine blk_drew ?_ | refine blk_alloc ?_ _)); exact BK334.out)) : gb334 ≠ gb337)); have n6_:=zy ((by rw [hg]; exact Nat.ne_of_gt (blk_lt (g:=gb334) (o:=.cells #[.int .i64 a0_0,.slice (some ad336) l0_1.length c0_1] 34 (0,0)) (by (with_reducible repeat (first | refine blk_drewN ?_ _ | refine blk_drew ?_ | refine blk_alloc ?_ _)); exact BK334.out)) : gb337 ≠ gb334)); clear BK334; clear HB; have BK334:=n0_; have HB:=n1_; have BK337:=n2_; have GW337:=n3_; have GE337:=n4_; have NB334_337:=n5_; have NB337_334:=n6_; clear n0_ n1_ n2_ n3_ n4_ n5_ n6_; clear hb hbox hg; have hnb38:=NB337_334.out; have hnc38:=NB334_337.out; have hcz39_0 : w37.cell? ⟨gb337,0,none⟩ = some (.int .i64 0):=(blk_cell BK337.out 0).trans rfl; have hcz39_1 : w37.cell? ⟨gb337,1,none⟩ = some (.int .i64 0):=(blk_cell BK337.out 1).trans rfl; have hcz39_2 : w37.cell? ⟨gb337,2,none⟩ = some (.int .i64 0):=(blk_cell BK337.out 2).trans rfl; have hcz39_3 : w37.cell? ⟨gb337,3,none⟩ = some (.int .i64 0):=(blk_cell BK337.out 3).trans rfl; have hcz39_4 : w37.cell? ⟨gb337,4,none⟩ = some (.int .i64 0):=(blk_cell BK337.out 4).trans rfl; have hfz39_0:=blk_frozen BK337.out 0; have hfz39_1:=blk_frozen BK337.out 1; have hfz39_2:=blk_frozen BK337.out 2; have hfz39_3:=blk_frozen BK337.out 3; have hfz39_4:=blk_frozen BK337.out 4; have hcz40_0 : w37.cell? ⟨gb334,0,none⟩ = some (.int .i64 a0_0):=(blk_cell BK334.out 0).trans rfl; have hcz40_1 : w37.cell? ⟨gb334,1,none⟩ = some (.slice (some ad336) l0_1.length c0_1):=(blk_cell BK334.out 1).trans rfl; have hfz40_0:=blk_frozen BK334.out 0; have hfz40_1:=blk_frozen BK334.out 1) | ((with_reducible refine gate_callee (f:=90) rfl ?_); refine goesL_ (some 22) rfl rfl Try.func90 (by kernel_rfl) rfl #[.int .i64 ((rd_T58 l0_1 x3_1).f0),.int .i64 0,.int .i64 (wrap64 (a0_0 - 1))] rfl (by (try simp only [List.map_toArray,List.map_cons,List.map_nil]); first | done | rfl | (simp only [List.length_drop,List.length_take]; rfl)) ?_; (with_reducible refine (spec_l1In.calls ((rd_T58 l0_1 x3_1).f0) 0 (wrap64 (a0_0 - 1)) true _ A5.out).mono ?_); rintro e w' ⟨rfl,⟨nd,rfl⟩⟩; refine ⟨_,rfl,?_⟩) | (go_at_call 90; (with_reducible refine (spec_l1In.calls ((rd_T58 l0_1 x3_1).f1) 0 (wrap64 (a0_0 - 1)) true _ A7.out).mono ?_); rintro e w' ⟨rfl,⟨nd,rfl⟩⟩) | (go_at_call 90; (with_reducible refine (spec_l1In.calls ((rd_T58 l0_1 x3_1).f2) 0 99 false _ A15.out).mono ?_); rintro e w' ⟨rfl,⟨nd,rfl⟩⟩))
    go_ret;exact ⟨by first | rfl | (simp [errW_none,errW_some] <;> rfl) | (simp [*,errW_none,errW_some] <;> rfl),by repeat (first | (with_reducible first | exact HB.out | apply below_alloc | apply pw_below_drewN | apply below_drew1 | refine below_set ?_ GE334.out | refine below_set ?_ GE337.out) | exact HB.out)⟩
   subst c16;have H1 : ((spec_l1In.f ((rd_T58 l0_1 x3_1).f3) 0 99).bind fun t341 => (if t341 = true then ((spec_l1In.f ((rd_T58 l0_1 x3_1).f4) 0 9).bind fun t342 => (if t342 = true then (spec_l1Ok.l0 k1 (wrap64 (x3_1 + 1)) a0_0 l0_1) else (some false))) else (some false))) = some r:=by rw [if_pos rfl] at H; exact H
   clear H;have H:=H1;clear H1;replace H:=Option.bind_eq_some_iff.mp H;obtain ⟨t341,A170,H⟩:=H;replace H : (if t341 = true then ((spec_l1In.f ((rd_T58 l0_1 x3_1).f4) 0 9).bind fun t342 => (if t342 = true then (spec_l1Ok.l0 k1 (wrap64 (x3_1 + 1)) a0_0 l0_1) else (some false))) else (some false)) = some r:=H;have A17:=zy A170;clear A170
   by_cases c18 : t341 = true
   case neg =>
    replace c18:=Bool.eq_false_iff.mpr c18;subst c18;have H1 : (some false) = some r:=by rw [if_neg (show ¬ (false = true) by decide)] at H; exact H
    clear H;have H:=H1;clear H1;obtain rfl:=Option.some.inj H;have hcz31_0 : wr.cell? ⟨gb334,0,none⟩ = some (.int .i64 a0_0):=(blk_cell BK334.out 0).trans rfl;have hcz31_1 : wr.cell? ⟨gb334,1,none⟩ = some (.slice A0_1 l0_1.length c0_1):=(blk_cell BK334.out 1).trans rfl;have hfz31_0:=blk_frozen BK334.out 0;have hfz31_1:=blk_frozen BK334.out 1;have p336 : 0 ≤ (x3_1 : Int):=of_decide_eq_true (by first | (with_reducible assumption) | assumption);have q336 : x3_1 < (l0_1.length : Int):=of_decide_eq_true (by first | (with_reducible assumption) | assumption);obtain ⟨ad336,e336,hx336_0,hx336_1,hx336_2,hx336_3,hx336_4⟩:=at_T58 HR0_1.out x3_1 p336 q336;cases e336;replace hx336_0:=(HB.out.cell (World.block_lt_of_cell? w _ hx336_0)).trans hx336_0;replace hx336_1:=(HB.out.cell (World.block_lt_of_cell? w _ hx336_1)).trans hx336_1;replace hx336_2:=(HB.out.cell (World.block_lt_of_cell? w _ hx336_2)).trans hx336_2;replace hx336_3:=(HB.out.cell (World.block_lt_of_cell? w _ hx336_3)).trans hx336_3;replace hx336_4:=(HB.out.cell (World.block_lt_of_cell? w _ hx336_4)).trans hx336_4;replace p336:=eq_true p336;replace q336:=eq_true q336
    go_wp2_with (first | ((with_reducible refine gate_dst (N:=4) rfl ?_); (try (refine gate_guard (by rfl) ?_; dsimp only)); refine box_event ?hg (N:=4) ?hd (cs:=#[.int .i64 0,.int .i64 0,.int .i64 0,.int .i64 0,.int .i64 0]) (t:=58) ?hr ?_; (case hd => rfl); (case hg => rfl); (case hr => first | (go_simp; done) | (go_simp; rfl)); intro gb337 hg w32 hbox hb; have n0_:=zy (blk_below (g:=gb334) (o:=.cells #[.int .i64 a0_0,.slice (some ad336) l0_1.length c0_1] 34 (0,0)) (by (with_reducible repeat (first | refine blk_drewN ?_ _ | refine blk_drew ?_ | refine blk_alloc ?_ _)); exact BK334.out) hb); have n1_:=zy (below_step (by repeat (first | (with_reducible first | exact HB.out | apply below_alloc | apply pw_below_drewN | apply below_drew1 | refine below_set ?_ GE334.out) | exact HB.out)) hb); have n2_:=zy (hbox); have n3_:=zy ((by rw [hg]; exact (below_size (by repeat (first | (with_reducible first | exact HB.out | apply below_alloc | apply pw_below_drewN | apply below_drew1 | refine below_set ?_ GE334.out) | exact HB.out))) : w.heap.size ≤ gb337)); have n4_:=zy ((by rw [hg]; exact (below_size (by repeat (first | (with_reducible first | exact HB.out | apply below_alloc | apply pw_below_drewN | apply below_drew1 | refine below_set ?_ GE334.out) | exact HB.out))) : w.heap.size ≤ gb337)); have n5_:=zy ((by rw [hg]; exact Nat.ne_of_lt (blk_lt (g:=gb334) (o:=.cells #[.int .i64 a0_0,.slice (some ad336) l0_1.length c0_1] 34 (0,0)) (by (with_reducible repeat (first | refine blk_drewN ?_ _ | refine blk_drew ?_ | refine blk_alloc ?_ _)); exact BK334.out)) : gb334 ≠ gb337)); have n6_:=zy ((by rw [hg]; exact Nat.ne_of_gt (blk_lt (g:=gb334) (o:=.cells #[.int .i64 a0_0,.slice (some ad336) l0_1.length c0_1] 34 (0,0)) (by (with_reducible repeat (first | refine blk_drewN ?_ _ | refine blk_drew ?_ | refine blk_alloc ?_ _)); exact BK334.out)) : gb337 ≠ gb334)); clear BK334; clear HB; have BK334:=n0_; have HB:=n1_; have BK337:=n2_; have GW337:=n3_; have GE337:=n4_; have NB334_337:=n5_; have NB337_334:=n6_; clear n0_ n1_ n2_ n3_ n4_ n5_ n6_; clear hb hbox hg; have hnb33:=NB337_334.out; have hnc33:=NB334_337.out; have hcz34_0 : w32.cell? ⟨gb337,0,none⟩ = some (.int .i64 0):=(blk_cell BK337.out 0).trans rfl; have hcz34_1 : w32.cell? ⟨gb337,1,none⟩ = some (.int .i64 0):=(blk_cell BK337.out 1).trans rfl; have hcz34_2 : w32.cell? ⟨gb337,2,none⟩ = some (.int .i64 0):=(blk_cell BK337.out 2).trans rfl; have hcz34_3 : w32.cell? ⟨gb337,3,none⟩ = some (.int .i64 0):=(blk_cell BK337.out 3).trans rfl; have hcz34_4 : w32.cell? ⟨gb337,4,none⟩ = some (.int .i64 0):=(blk_cell BK337.out 4).trans rfl; have hfz34_0:=blk_frozen BK337.out 0; have hfz34_1:=blk_frozen BK337.out 1; have hfz34_2:=blk_frozen BK337.out 2; have hfz34_3:=blk_frozen BK337.out 3; have hfz34_4:=blk_frozen BK337.out 4; have hcz35_0 : w32.cell? ⟨gb334,0,none⟩ = some (.int .i64 a0_0):=(blk_cell BK334.out 0).trans rfl; have hcz35_1 : w32.cell? ⟨gb334,1,none⟩ = some (.slice (some ad336) l0_1.length c0_1):=(blk_cell BK334.out 1).trans rfl; have hfz35_0:=blk_frozen BK334.out 0; have hfz35_1:=blk_frozen BK334.out 1) | ((with_reducible refine gate_callee (f:=90) rfl ?_); refine goesL_ (some 22) rfl rfl Try.func90 (by kernel_rfl) rfl #[.int .i64 ((rd_T58 l0_1 x3_1).f0),.int .i64 0,.int .i64 (wrap64 (a0_0 - 1))] rfl (by (try simp only [List.map_toArray,List.map_cons,List.map_nil]); first | done | rfl | (simp only [List.length_drop,List.length_take]; rfl)) ?_; (with_reducible refine (spec_l1In.calls ((rd_T58 l0_1 x3_1).f0) 0 (wrap64 (a0_0 - 1)) true _ A5.out).mono ?_); rintro e w' ⟨rfl,⟨nd,rfl⟩⟩; refine ⟨_,rfl,?_⟩) | (go_at_call 90; (with_reducible refine (spec_l1In.calls ((rd_T58 l0_1 x3_1).f1) 0 (wrap64 (a0_0 - 1)) true _ A7.out).mono ?_); rintro e w' ⟨rfl,⟨nd,rfl⟩⟩) | (go_at_call 90; (with_reducible refine (spec_l1In.calls ((rd_T58 l0_1 x3_1).f2) 0 99 true _ A15.out).mono ?_); rintro e w' ⟨rfl,⟨nd,rfl⟩⟩) | (go_at_call 90; (with_reducible refine (spec_l1In.calls ((rd_T58 l0_1 x3_1).f3) 0 99 false _ A17.out).mono ?_); rintro e w' ⟨rfl,⟨nd,rfl⟩⟩))
    go_ret;exact ⟨by first | rfl | (simp [errW_none,errW_some] <;> rfl) | (simp [*,errW_none,errW_some] <;> rfl),by repeat (first | (with_reducible first | exact HB.out | apply below_alloc | apply pw_below_drewN | apply below_drew1 | refine below_set ?_ GE334.out | refine below_set ?_ GE337.out) | exact HB.out)⟩
   subst c18;have H1 : ((spec_l1In.f ((rd_T58 l0_1 x3_1).f4) 0 9).bind fun t342 => (if t342 = true then (spec_l1Ok.l0 k1 (wrap64 (x3_1 + 1)) a0_0 l0_1) else (some false))) = some r:=by rw [if_pos rfl] at H; exact H
   clear H;have H:=H1;clear H1;replace H:=Option.bind_eq_some_iff.mp H;obtain ⟨t342,A190,H⟩:=H;replace H : (if t342 = true then (spec_l1Ok.l0 k1 (wrap64 (x3_1 + 1)) a0_0 l0_1) else (some false)) = some r:=H;have A19:=zy A190;clear A190
   by_cases c20 : t342 = true
   case neg =>
    replace c20:=Bool.eq_false_iff.mpr c20;subst c20;have H1 : (some false) = some r:=by rw [if_neg (show ¬ (false = true) by decide)] at H; exact H
    clear H;have H:=H1;clear H1;obtain rfl:=Option.some.inj H;have hcz26_0 : wr.cell? ⟨gb334,0,none⟩ = some (.int .i64 a0_0):=(blk_cell BK334.out 0).trans rfl;have hcz26_1 : wr.cell? ⟨gb334,1,none⟩ = some (.slice A0_1 l0_1.length c0_1):=(blk_cell BK334.out 1).trans rfl;have hfz26_0:=blk_frozen BK334.out 0;have hfz26_1:=blk_frozen BK334.out 1;have p336 : 0 ≤ (x3_1 : Int):=of_decide_eq_true (by first | (with_reducible assumption) | assumption);have q336 : x3_1 < (l0_1.length : Int):=of_decide_eq_true (by first | (with_reducible assumption) | assumption);obtain ⟨ad336,e336,hx336_0,hx336_1,hx336_2,hx336_3,hx336_4⟩:=at_T58 HR0_1.out x3_1 p336 q336;cases e336;replace hx336_0:=(HB.out.cell (World.block_lt_of_cell? w _ hx336_0)).trans hx336_0;replace hx336_1:=(HB.out.cell (World.block_lt_of_cell? w _ hx336_1)).trans hx336_1;replace hx336_2:=(HB.out.cell (World.block_lt_of_cell? w _ hx336_2)).trans hx336_2;replace hx336_3:=(HB.out.cell (World.block_lt_of_cell? w _ hx336_3)).trans hx336_3;replace hx336_4:=(HB.out.cell (World.block_lt_of_cell? w _ hx336_4)).trans hx336_4;replace p336:=eq_true p336;replace q336:=eq_true q336
    go_wp2_with (first | ((with_reducible refine gate_dst (N:=4) rfl ?_); (try (refine gate_guard (by rfl) ?_; dsimp only)); refine box_event ?hg (N:=4) ?hd (cs:=#[.int .i64 0,.int .i64 0,.int .i64 0,.int .i64 0,.int .i64 0]) (t:=58) ?hr ?_; (case hd => rfl); (case hg => rfl); (case hr => first | (go_simp; done) | (go_simp; rfl)); intro gb337 hg w27 hbox hb; have n0_:=zy (blk_below (g:=gb334) (o:=.cells #[.int .i64 a0_0,.slice (some ad336) l0_1.length c0_1] 34 (0,0)) (by (with_reducible repeat (first | refine blk_drewN ?_ _ | refine blk_drew ?_ | refine blk_alloc ?_ _)); exact BK334.out) hb); have n1_:=zy (below_step (by repeat (first | (with_reducible first | exact HB.out | apply below_alloc | apply pw_below_drewN | apply below_drew1 | refine below_set ?_ GE334.out) | exact HB.out)) hb); have n2_:=zy (hbox); have n3_:=zy ((by rw [hg]; exact (below_size (by repeat (first | (with_reducible first | exact HB.out | apply below_alloc | apply pw_below_drewN | apply below_drew1 | refine below_set ?_ GE334.out) | exact HB.out))) : w.heap.size ≤ gb337)); have n4_:=zy ((by rw [hg]; exact (below_size (by repeat (first | (with_reducible first | exact HB.out | apply below_alloc | apply pw_below_drewN | apply below_drew1 | refine below_set ?_ GE334.out) | exact HB.out))) : w.heap.size ≤ gb337)); have n5_:=zy ((by rw [hg]; exact Nat.ne_of_lt (blk_lt (g:=gb334) (o:=.cells #[.int .i64 a0_0,.slice (some ad336) l0_1.length c0_1] 34 (0,0)) (by (with_reducible repeat (first | refine blk_drewN ?_ _ | refine blk_drew ?_ | refine blk_alloc ?_ _)); exact BK334.out)) : gb334 ≠ gb337)); have n6_:=zy ((by rw [hg]; exact Nat.ne_of_gt (blk_lt (g:=gb334) (o:=.cells #[.int .i64 a0_0,.slice (some ad336) l0_1.length c0_1] 34 (0,0)) (by (with_reducible repeat (first | refine blk_drewN ?_ _ | refine blk_drew ?_ | refine blk_alloc ?_ _)); exact BK334.out)) : gb337 ≠ gb334)); clear BK334; clear HB; have BK334:=n0_; have HB:=n1_; have BK337:=n2_; have GW337:=n3_; have GE337:=n4_; have NB334_337:=n5_; have NB337_334:=n6_; clear n0_ n1_ n2_ n3_ n4_ n5_ n6_; clear hb hbox hg; have hnb28:=NB337_334.out; have hnc28:=NB334_337.out; have hcz29_0 : w27.cell? ⟨gb337,0,none⟩ = some (.int .i64 0):=(blk_cell BK337.out 0).trans rfl; have hcz29_1 : w27.cell? ⟨gb337,1,none⟩ = some (.int .i64 0):=(blk_cell BK337.out 1).trans rfl; have hcz29_2 : w27.cell? ⟨gb337,2,none⟩ = some (.int .i64 0):=(blk_cell BK337.out 2).trans rfl; have hcz29_3 : w27.cell? ⟨gb337,3,none⟩ = some (.int .i64 0):=(blk_cell BK337.out 3).trans rfl; have hcz29_4 : w27.cell? ⟨gb337,4,none⟩ = some (.int .i64 0):=(blk_cell BK337.out 4).trans rfl; have hfz29_0:=blk_frozen BK337.out 0; have hfz29_1:=blk_frozen BK337.out 1; have hfz29_2:=blk_frozen BK337.out 2; have hfz29_3:=blk_frozen BK337.out 3; have hfz29_4:=blk_frozen BK337.out 4; have hcz30_0 : w27.cell? ⟨gb334,0,none⟩ = some (.int .i64 a0_0):=(blk_cell BK334.out 0).trans rfl; have hcz30_1 : w27.cell? ⟨gb334,1,none⟩ = some (.slice (some ad336) l0_1.length c0_1):=(blk_cell BK334.out 1).trans rfl; have hfz30_0:=blk_frozen BK334.out 0; have hfz30_1:=blk_frozen BK334.out 1) | ((with_reducible refine gate_callee (f:=90) rfl ?_); refine goesL_ (some 22) rfl rfl Try.func90 (by kernel_rfl) rfl #[.int .i64 ((rd_T58 l0_1 x3_1).f0),.int .i64 0,.int .i64 (wrap64 (a0_0 - 1))] rfl (by (try simp only [List.map_toArray,List.map_cons,List.map_nil]); first | done | rfl | (simp only [List.length_drop,List.length_take]; rfl)) ?_; (with_reducible refine (spec_l1In.calls ((rd_T58 l0_1 x3_1).f0) 0 (wrap64 (a0_0 - 1)) true _ A5.out).mono ?_); rintro e w' ⟨rfl,⟨nd,rfl⟩⟩; refine ⟨_,rfl,?_⟩) | (go_at_call 90; (with_reducible refine (spec_l1In.calls ((rd_T58 l0_1 x3_1).f1) 0 (wrap64 (a0_0 - 1)) true _ A7.out).mono ?_); rintro e w' ⟨rfl,⟨nd,rfl⟩⟩) | (go_at_call 90; (with_reducible refine (spec_l1In.calls ((rd_T58 l0_1 x3_1).f2) 0 99 true _ A15.out).mono ?_); rintro e w' ⟨rfl,⟨nd,rfl⟩⟩) | (go_at_call 90; (with_reducible refine (spec_l1In.calls ((rd_T58 l0_1 x3_1).f3) 0 99 true _ A17.out).mono ?_); rintro e w' ⟨rfl,⟨nd,rfl⟩⟩) | (go_at_call 90; (with_reducible refine (spec_l1In.calls ((rd_T58 l0_1 x3_1).f4) 0 9 false _ A19.out).mono ?_); rintro e w' ⟨rfl,⟨nd,rfl⟩⟩))
    go_ret;exact ⟨by first | rfl | (simp [errW_none,errW_some] <;> rfl) | (simp [*,errW_none,errW_some] <;> rfl),by repeat (first | (with_reducible first | exact HB.out | apply below_alloc | apply pw_below_drewN | apply below_drew1 | refine below_set ?_ GE334.out | refine below_set ?_ GE337.out) | exact HB.out)⟩
   subst c20;have H1 : (spec_l1Ok.l0 k1 (wrap64 (x3_1 + 1)) a0_0 l0_1) = some r:=by rw [if_pos rfl] at H; exact H
   clear H;have H:=H1;clear H1;have H':=zy H;clear H;have hcz21_0 : wr.cell? ⟨gb334,0,none⟩ = some (.int .i64 a0_0):=(blk_cell BK334.out 0).trans rfl;have hcz21_1 : wr.cell? ⟨gb334,1,none⟩ = some (.slice A0_1 l0_1.length c0_1):=(blk_cell BK334.out 1).trans rfl;have hfz21_0:=blk_frozen BK334.out 0;have hfz21_1:=blk_frozen BK334.out 1;have p336 : 0 ≤ (x3_1 : Int):=of_decide_eq_true (by first | (with_reducible assumption) | assumption);have q336 : x3_1 < (l0_1.length : Int):=of_decide_eq_true (by first | (with_reducible assumption) | assumption);obtain ⟨ad336,e336,hx336_0,hx336_1,hx336_2,hx336_3,hx336_4⟩:=at_T58 HR0_1.out x3_1 p336 q336;cases e336;replace hx336_0:=(HB.out.cell (World.block_lt_of_cell? w _ hx336_0)).trans hx336_0;replace hx336_1:=(HB.out.cell (World.block_lt_of_cell? w _ hx336_1)).trans hx336_1;replace hx336_2:=(HB.out.cell (World.block_lt_of_cell? w _ hx336_2)).trans hx336_2;replace hx336_3:=(HB.out.cell (World.block_lt_of_cell? w _ hx336_3)).trans hx336_3;replace hx336_4:=(HB.out.cell (World.block_lt_of_cell? w _ hx336_4)).trans hx336_4;replace p336:=eq_true p336;replace q336:=eq_true q336
   go_wp2_with (first | ((with_reducible refine gate_dst (N:=4) rfl ?_); (try (refine gate_guard (by rfl) ?_; dsimp only)); refine box_event ?hg (N:=4) ?hd (cs:=#[.int .i64 0,.int .i64 0,.int .i64 0,.int .i64 0,.int .i64 0]) (t:=58) ?hr ?_; (case hd => rfl); (case hg => rfl); (case hr => first | (go_simp; done) | (go_simp; rfl)); intro gb337 hg w22 hbox hb; have n0_:=zy (blk_below (g:=gb334) (o:=.cells #[.int .i64 a0_0,.slice (some ad336) l0_1.length c0_1] 34 (0,0)) (by (with_reducible repeat (first | refine blk_drewN ?_ _ | refine blk_drew ?_ | refine blk_alloc ?_ _)); exact BK334.out) hb); have n1_:=zy (below_step (by repeat (first | (with_reducible first | exact HB.out | apply below_alloc | apply pw_below_drewN | apply below_drew1 | refine below_set ?_ GE334.out) | exact HB.out)) hb); have n2_:=zy (hbox); have n3_:=zy ((by rw [hg]; exact (below_size (by repeat (first | (with_reducible first | exact HB.out | apply below_alloc | apply pw_below_drewN | apply below_drew1 | refine below_set ?_ GE334.out) | exact HB.out))) : w.heap.size ≤ gb337)); have n4_:=zy ((by rw [hg]; exact (below_size (by repeat (first | (with_reducible first | exact HB.out | apply below_alloc | apply pw_below_drewN | apply below_drew1 | refine below_set ?_ GE334.out) | exact HB.out))) : w.heap.size ≤ gb337)); have n5_:=zy ((by rw [hg]; exact Nat.ne_of_lt (blk_lt (g:=gb334) (o:=.cells #[.int .i64 a0_0,.slice (some ad336) l0_1.length c0_1] 34 (0,0)) (by (with_reducible repeat (first | refine blk_drewN ?_ _ | refine blk_drew ?_ | refine blk_alloc ?_ _)); exact BK334.out)) : gb334 ≠ gb337)); have n6_:=zy ((by rw [hg]; exact Nat.ne_of_gt (blk_lt (g:=gb334) (o:=.cells #[.int .i64 a0_0,.slice (some ad336) l0_1.length c0_1] 34 (0,0)) (by (with_reducible repeat (first | refine blk_drewN ?_ _ | refine blk_drew ?_ | refine blk_alloc ?_ _)); exact BK334.out)) : gb337 ≠ gb334)); clear BK334; clear HB; have BK334:=n0_; have HB:=n1_; have BK337:=n2_; have GW337:=n3_; have GE337:=n4_; have NB334_337:=n5_; have NB337_334:=n6_; clear n0_ n1_ n2_ n3_ n4_ n5_ n6_; clear hb hbox hg; have hnb23:=NB337_334.out; have hnc23:=NB334_337.out; have hcz24_0 : w22.cell? ⟨gb337,0,none⟩ = some (.int .i64 0):=(blk_cell BK337.out 0).trans rfl; have hcz24_1 : w22.cell? ⟨gb337,1,none⟩ = some (.int .i64 0):=(blk_cell BK337.out 1).trans rfl; have hcz24_2 : w22.cell? ⟨gb337,2,none⟩ = some (.int .i64 0):=(blk_cell BK337.out 2).trans rfl; have hcz24_3 : w22.cell? ⟨gb337,3,none⟩ = some (.int .i64 0):=(blk_cell BK337.out 3).trans rfl; have hcz24_4 : w22.cell? ⟨gb337,4,none⟩ = some (.int .i64 0):=(blk_cell BK337.out 4).trans rfl; have hfz24_0:=blk_frozen BK337.out 0; have hfz24_1:=blk_frozen BK337.out 1; have hfz24_2:=blk_frozen BK337.out 2; have hfz24_3:=blk_frozen BK337.out 3; have hfz24_4:=blk_frozen BK337.out 4; have hcz25_0 : w22.cell? ⟨gb334,0,none⟩ = some (.int .i64 a0_0):=(blk_cell BK334.out 0).trans rfl; have hcz25_1 : w22.cell? ⟨gb334,1,none⟩ = some (.slice (some ad336) l0_1.length c0_1):=(blk_cell BK334.out 1).trans rfl; have hfz25_0:=blk_frozen BK334.out 0; have hfz25_1:=blk_frozen BK334.out 1) | ((with_reducible refine gate_callee (f:=90) rfl ?_); refine goesL_ (some 22) rfl rfl Try.func90 (by kernel_rfl) rfl #[.int .i64 ((rd_T58 l0_1 x3_1).f0),.int .i64 0,.int .i64 (wrap64 (a0_0 - 1))] rfl (by (try simp only [List.map_toArray,List.map_cons,List.map_nil]); first | done | rfl | (simp only [List.length_drop,List.length_take]; rfl)) ?_; (with_reducible refine (spec_l1In.calls ((rd_T58 l0_1 x3_1).f0) 0 (wrap64 (a0_0 - 1)) true _ A5.out).mono ?_); rintro e w' ⟨rfl,⟨nd,rfl⟩⟩; refine ⟨_,rfl,?_⟩) | (go_at_call 90; (with_reducible refine (spec_l1In.calls ((rd_T58 l0_1 x3_1).f1) 0 (wrap64 (a0_0 - 1)) true _ A7.out).mono ?_); rintro e w' ⟨rfl,⟨nd,rfl⟩⟩) | (go_at_call 90; (with_reducible refine (spec_l1In.calls ((rd_T58 l0_1 x3_1).f2) 0 99 true _ A15.out).mono ?_); rintro e w' ⟨rfl,⟨nd,rfl⟩⟩) | (go_at_call 90; (with_reducible refine (spec_l1In.calls ((rd_T58 l0_1 x3_1).f3) 0 99 true _ A17.out).mono ?_); rintro e w' ⟨rfl,⟨nd,rfl⟩⟩) | (go_at_call 90; (with_reducible refine (spec_l1In.calls ((rd_T58 l0_1 x3_1).f4) 0 9 true _ A19.out).mono ?_); rintro e w' ⟨rfl,⟨nd,rfl⟩⟩))
   go_roundg k1
   case measure => have:=HK1.out; omega
   case rel => exact ⟨(wrap64 (x3_1 + 1)),(by first | rfl | (simp; done) | (simp [*]; done)),H',⟨by have:=HK1.out; omega⟩,⟨by (with_reducible repeat (first | refine blk_drewN ?_ _ | refine blk_drew ?_ | refine blk_alloc ?_ _)); refine blk_far ?_ NB334_337.out _; (with_reducible repeat (first | refine blk_drewN ?_ _ | refine blk_drew ?_ | refine blk_alloc ?_ _)); refine blk_far ?_ NB334_337.out _; (with_reducible repeat (first | refine blk_drewN ?_ _ | refine blk_drew ?_ | refine blk_alloc ?_ _)); refine blk_far ?_ NB334_337.out _; (with_reducible repeat (first | refine blk_drewN ?_ _ | refine blk_drew ?_ | refine blk_alloc ?_ _)); refine blk_far ?_ NB334_337.out _; (with_reducible repeat (first | refine blk_drewN ?_ _ | refine blk_drew ?_ | refine blk_alloc ?_ _)); refine blk_far ?_ NB334_337.out _; (with_reducible repeat (first | refine blk_drewN ?_ _ | refine blk_drew ?_ | refine blk_alloc ?_ _)); exact BK334.out⟩,⟨by repeat (first | (with_reducible first | exact HB.out | apply below_alloc | apply pw_below_drewN | apply below_drew1 | refine below_set ?_ GE334.out | refine below_set ?_ GE337.out) | exact HB.out)⟩⟩
def spec_l12In.l0 : Nat → List Int → Int → Int → Option (Bool)
 | 0,_,_,_ => none
 | k + 1,x0,x1,x5 => if x5 < (x0.length : Int) then (if 0 ≤ x5 then (if (rd x0 x5) = x1 then (some true) else (spec_l12In.l0 k x0 x1 (wrap64 (x5 + 1)))) else (none)) else (some false)
def spec_l12In.f (k : Nat) (l0 : List Int) (a1 : Int) : Option (Bool):=spec_l12In.l0 k l0 a1 0
set_option maxHeartbeats 8000000 in
set_option maxRecDepth 100000 in
theorem spec_l12In.calls (k : Nat) (A0 : Option Addr) (c0 : Nat) (l0 : List Int) (a1 : Int) (r : Bool) (w : World) (hr0 : Kd.C (Kd.int .i64) w A0 l0.length l0) (hc0 : l0.length ≤ c0) (h : spec_l12In.f k l0 a1 = some r) :
  Calls Try.prog 119 #[.slice A0 l0.length c0,.int .i64 a1] w fun e w' => e = .returned (.bool r) ∧ Drawn0 w w':=by
 have HR0:=zy hr0;have HC0:=zy hc0;clear hr0 hc0;have H : (spec_l12In.l0 k l0 a1 0) = some r:=h;clear h;have H':=zy H;clear H
 go_enter Try.func119,Try.ntmps119
 go_wp2
 go_loopg [5] k (fun kq v5 w' => ∃ (x5_1 : Int),v5 = .int .i64 x5_1 ∧ Aside0 (spec_l12In.l0 kq l0 a1 x5_1 = some r) ∧ Aside0 (kq ≤ k) ∧ Drawn0 w w')
 case atStart => exact ⟨(0),(by first | rfl | (simp; done) | (simp [*]; done)),H',⟨Nat.le_refl _⟩,by repeat (first | exact Drawn0.refl _ | apply Drawn0.step)⟩
 case round =>
  clear H'
  try clear c1
  try clear p2
  obtain ⟨x5_1,rfl,HA,HK1,⟨m1,rfl⟩⟩:=hrel;cases gk with
  | zero => exact absurd HA.out (by simp [spec_l12In.l0])
  | succ k1 =>
   have H:=HA.out;clear HA;simp only [spec_l12In.l0] at H
   by_cases c3 : x5_1 < (l0.length : Int)
   case neg =>
    rw [if_neg c3] at H;have c3b0 : decide (x5_1 < (l0.length : Int)) = false:=decide_eq_false c3;clear c3;obtain rfl:=Option.some.inj H
    go_wp2
    go_ret;exact ⟨by first | rfl | (simp; done) | (simp [*]; done),by repeat (first | exact Drawn0.refl _ | apply Drawn0.step)⟩
   rw [if_pos c3] at H;have c3b0 : decide (x5_1 < (l0.length : Int)) = true:=decide_eq_true c3;clear c3
   by_cases c4 : 0 ≤ x5_1
   case neg =>
    rw [if_neg c4] at H;exact absurd H (by simp)
   rw [if_pos c4] at H;have c4b0 : decide (0 ≤ x5_1) = true:=decide_eq_true c4;clear c4
   by_cases c5 : (rd l0 x5_1) = a1
   case pos =>
    rw [if_pos c5] at H;have c5b0 : ((rd l0 x5_1) == a1) = true:=beq_iff_eq.mpr c5;have c5b1 : ((rd l0 x5_1) != a1) = false:=bne_eq_false_iff_eq.mpr c5;clear c5;obtain rfl:=Option.some.inj H;have p444 : 0 ≤ (x5_1 : Int):=of_decide_eq_true (by first | (with_reducible assumption) | assumption);have q444 : x5_1 < (l0.length : Int):=of_decide_eq_true (by first | (with_reducible assumption) | assumption);obtain ⟨ad444,e444,hx444_0⟩:=Kd.at_int HR0.out x5_1 p444 q444;cases e444;replace p444:=eq_true p444;replace q444:=eq_true q444
    go_wp2
    go_ret;exact ⟨by first | rfl | (simp; done) | (simp [*]; done),by repeat (first | exact Drawn0.refl _ | apply Drawn0.step)⟩
   rw [if_neg c5] at H;have c5b0 : ((rd l0 x5_1) == a1) = false:=beq_eq_false_iff_ne.mpr c5;have c5b1 : ((rd l0 x5_1) != a1) = true:=bne_iff_ne.mpr c5;have H':=zy H;clear H;have p444 : 0 ≤ (x5_1 : Int):=of_decide_eq_true (by first | (with_reducible assumption) | assumption);have q444 : x5_1 < (l0.length : Int):=of_decide_eq_true (by first | (with_reducible assumption) | assumption);obtain ⟨ad444,e444,hx444_0⟩:=Kd.at_int HR0.out x5_1 p444 q444;cases e444;replace p444:=eq_true p444;replace q444:=eq_true q444
   go_wp2
   go_roundg k1
   case measure => have:=HK1.out; omega
   case rel => exact ⟨(wrap64 (x5_1 + 1)),(by first | rfl | (simp; done) | (simp [*]; done)),H',⟨by have:=HK1.out; omega⟩,by repeat (first | exact Drawn0.refl _ | apply Drawn0.step)⟩
def spec_TreeCost.l0 : Nat → List Int → Int → Int → Int → List (S58) → Option (Int)
 | 0,_,_,_,_,_ => none
 | k + 1,x1,x5,x6,x1309000,x1309001 => if x6 < (x1.length : Int) then (if 0 ≤ x6 then ((spec_l1In.f (rd x1 x6) 0 (wrap64 ((x1309001.length : Int) - 1))).bind fun t1311 => (if t1311 = true then (if x6 ≤ (x1.length : Int) then ((spec_l12In.f k (x1.take (x6 : Int).toNat) (rd x1 x6)).bind fun t1314 => (if t1314 = true then (spec_TreeCost.l0 k x1 x5 (wrap64 (x6 + 1)) x1309000 x1309001) else (if 0 ≤ (rd x1 x6) then (if (rd x1 x6) < (x1309001.length : Int) then (spec_TreeCost.l0 k x1 (wrap64 (x5 + ((rd_T58 x1309001 (rd x1 x6)).f2))) (wrap64 (x6 + 1)) x1309000 x1309001) else (none)) else (none)))) else (none)) else (some (-1)))) else (none)) else ((spec_l1Ok.f k x1309000 x1309001).bind fun t1309 => (if t1309 = true then (if (x1.length : Int) > 16 then (some (-1)) else (some x5)) else (some (-1))))
def spec_TreeCost.f (k : Nat) (a0_0 : Int) (l0_1 : List (S58)) (l1 : List Int) : Option (Int):=spec_TreeCost.l0 k l1 0 0 a0_0 l0_1
set_option maxHeartbeats 8000000 in
set_option maxRecDepth 100000 in
theorem spec_TreeCost.calls (k : Nat) (a0_0 : Int) (A0_1 : Option Addr) (c0_1 : Nat) (l0_1 : List (S58)) (A1 : Option Addr) (c1 : Nat) (l1 : List Int) (r : Int) (w : World) (hr0_1 : Kd.C k58 w A0_1 l0_1.length l0_1) (hc0_1 : l0_1.length ≤ c0_1) (hr1 : Kd.C (Kd.int .i64) w A1 l1.length l1) (hc1 : l1.length ≤ c1) (h : spec_TreeCost.f k a0_0 l0_1 l1 = some r) :
  Calls Try.prog 61 #[.agg #[.int .i64 a0_0,.slice A0_1 l0_1.length c0_1],.slice A1 l1.length c1] w fun e w' => e = .returned (.int .i64 r) ∧ Below w.heap.size w w':=by
 have hu34:=Try.underlying34;have HR0_1:=zy hr0_1;have HC0_1:=zy hc0_1;clear hr0_1 hc0_1;have HR1:=zy hr1;have HC1:=zy hc1;clear hr1 hc1;have HB:=zy (Below.refl w.heap.size w);have H : (spec_TreeCost.l0 k l1 0 0 a0_0 l0_1) = some r:=h;clear h;have H':=zy H;clear H
 go_enter Try.func61,Try.ntmps61
 go_wp2_with (first | ((with_reducible refine gate_dst (N:=2) rfl ?_); (try (refine gate_guard (by rfl) ?_; dsimp only)); refine box_event ?hg (N:=2) ?hd (cs:=#[.int .i64 a0_0,.slice A0_1 l0_1.length c0_1]) (t:=34) ?hr ?_; (case hd => rfl); (case hg => rfl); (case hr => first | (go_simp; done) | (go_simp; rfl)); intro gb1308 hg w3 hbox hb; have n0_:=zy (below_step (by repeat (first | (with_reducible first | exact HB.out | apply below_alloc | apply pw_below_drewN | apply below_drew1) | exact HB.out)) hb); have n1_:=zy (hbox); have n2_:=zy ((by rw [hg]; exact (below_size (by repeat (first | (with_reducible first | exact HB.out | apply below_alloc | apply pw_below_drewN | apply below_drew1) | exact HB.out))) : w.heap.size ≤ gb1308)); have n3_:=zy ((by rw [hg]; exact (below_size (by repeat (first | (with_reducible first | exact HB.out | apply below_alloc | apply pw_below_drewN | apply below_drew1) | exact HB.out))) : w.heap.size ≤ gb1308)); clear HB; have HB:=n0_; have BK1308:=n1_; have GW1308:=n2_; have GE1308:=n3_; clear n0_ n1_ n2_ n3_; clear hb hbox hg))
 repeat (go_quiet (first | ((with_reducible refine gate_dst (N:=2) rfl ?_); (try (refine gate_guard (by rfl) ?_; dsimp only)); refine box_event ?hg (N:=2) ?hd (cs:=#[.int .i64 a0_0,.slice A0_1 l0_1.length c0_1]) (t:=34) ?hr ?_; (case hd => rfl); (case hg => rfl); (case hr => first | (go_simp; done) | (go_simp; rfl)); intro gb1308 hg w3 hbox hb; have n0_:=zy (below_step (by repeat (first | (with_reducible first | exact HB.out | apply below_alloc | apply pw_below_drewN | apply below_drew1) | exact HB.out)) hb); have n1_:=zy (hbox); have n2_:=zy ((by rw [hg]; exact (below_size (by repeat (first | (with_reducible first | exact HB.out | apply below_alloc | apply pw_below_drewN | apply below_drew1) | exact HB.out))) : w.heap.size ≤ gb1308)); have n3_:=zy ((by rw [hg]; exact (below_size (by repeat (first | (with_reducible first | exact HB.out | apply below_alloc | apply pw_below_drewN | apply below_drew1) | exact HB.out))) : w.heap.size ≤ gb1308)); clear HB; have HB:=n0_; have BK1308:=n1_; have GW1308:=n2_; have GE1308:=n3_; clear n0_ n1_ n2_ n3_; clear hb hbox hg)); try go_wp2_with (first | ((with_reducible refine gate_dst (N:=2) rfl ?_); (try (refine gate_guard (by rfl) ?_; dsimp only)); refine box_event ?hg (N:=2) ?hd (cs:=#[.int .i64 a0_0,.slice A0_1 l0_1.length c0_1]) (t:=34) ?hr ?_; (case hd => rfl); (case hg => rfl); (case hr => first | (go_simp; done) | (go_simp; rfl)); intro gb1308 hg w3 hbox hb; have n0_:=zy (below_step (by repeat (first | (with_reducible first | exact HB.out | apply below_alloc | apply pw_below_drewN | apply below_drew1) | exact HB.out)) hb); have n1_:=zy (hbox); have n2_:=zy ((by rw [hg]; exact (below_size (by repeat (first | (with_reducible first | exact HB.out | apply below_alloc | apply pw_below_drewN | apply below_drew1) | exact HB.out))) : w.heap.size ≤ gb1308)); have n3_:=zy ((by rw [hg]; exact (below_size (by repeat (first | (with_reducible first | exact HB.out | apply below_alloc | apply pw_below_drewN | apply below_drew1) | exact HB.out))) : w.heap.size ≤ gb1308)); clear HB; have HB:=n0_; have BK1308:=n1_; have GW1308:=n2_; have GE1308:=n3_; clear n0_ n1_ n2_ n3_; clear hb hbox hg)))
 go_loopg [5,6] k (fun kq v5 v6 w' => ∃ (x5_1 : Int) (x6_1 : Int),v5 = .int .i64 x5_1 ∧ v6 = .int .i64 x6_1 ∧ Aside0 (spec_TreeCost.l0 kq l1 x5_1 x6_1 a0_0 l0_1 = some r) ∧ Aside0 (kq ≤ k) ∧ Aside0 (w'.heap[gb1308]? = some (.cells #[.int .i64 a0_0,(.slice A0_1 l0_1.length c0_1)] 34 (0,0))) ∧ Aside0 (Below w.heap.size w w'))
 case atStart => exact ⟨(0),(0),(by first | rfl | (simp; done) | (simp [*]; done)),(by first | rfl | (simp; done) | (simp [*]; done)),H',⟨Nat.le_refl _⟩,⟨by (with_reducible repeat (first | refine blk_drewN ?_ _ | refine blk_drew ?_ | refine blk_alloc ?_ _)); exact BK1308.out⟩,⟨by repeat (first | (with_reducible first | exact HB.out | apply below_alloc | apply pw_below_drewN | apply below_drew1 | refine below_set ?_ GE1308.out) | exact HB.out)⟩⟩
 case round =>
  clear H'
  try clear c1
  try clear p2
  obtain ⟨x5_1,x6_1,rfl,rfl,HA,HK1,BK1308,HB⟩:=hrel;cases gk with
  | zero => exact absurd HA.out (by simp [spec_TreeCost.l0])
  | succ k1 =>
   have H:=HA.out;clear HA;simp only [spec_TreeCost.l0] at H
   by_cases c4 : x6_1 < (l1.length : Int)
   case neg =>
    rw [if_neg c4] at H;have c4b0 : decide (x6_1 < (l1.length : Int)) = false:=decide_eq_false c4;clear c4;replace H:=Option.bind_eq_some_iff.mp H;obtain ⟨t1309,A190,H⟩:=H;replace H : (if t1309 = true then (if (l1.length : Int) > 16 then (some (-1)) else (some x5_1)) else (some (-1))) = some r:=H;have A19:=zy A190;clear A190
    by_cases c20 : t1309 = true
    case neg =>
     replace c20:=Bool.eq_false_iff.mpr c20;subst c20;have H1 : (some (-1)) = some r:=by rw [if_neg (show ¬ (false = true) by decide)] at H; exact H
     clear H;have H:=H1;clear H1;obtain rfl:=Option.some.inj H;have hcz26_0 : wr.cell? ⟨gb1308,0,none⟩ = some (.int .i64 a0_0):=(blk_cell BK1308.out 0).trans rfl;have hcz26_1 : wr.cell? ⟨gb1308,1,none⟩ = some (.slice A0_1 l0_1.length c0_1):=(blk_cell BK1308.out 1).trans rfl;have hfz26_0:=blk_frozen BK1308.out 0;have hfz26_1:=blk_frozen BK1308.out 1
     go_wp2_with (first | (go_at_call 76; (with_reducible refine (spec_l1Ok.calls k1 a0_0 _ _ l0_1 false _ ?side1 ?side2 A19.out).mono ?_); (case side1 => repeat (first | exact (Kd.C_below HR0_1.out HB.out) | (with_reducible refine Kd.C_alloc ?_ _) | (with_reducible refine Kd.C_drewN ?_ _) | (with_reducible refine Kd.C_drew ?_))); (case side2 => exact HC0_1.out); rintro e w27 ⟨rfl,hb⟩; have n0_:=zy (blk_below (g:=gb1308) (o:=.cells #[.int .i64 a0_0,.slice A0_1 l0_1.length c0_1] 34 (0,0)) (by (with_reducible repeat (first | refine blk_drewN ?_ _ | refine blk_drew ?_ | refine blk_alloc ?_ _)); exact BK1308.out) hb); have n1_:=zy (below_step (by repeat (first | (with_reducible first | exact HB.out | apply below_alloc | apply pw_below_drewN | apply below_drew1 | refine below_set ?_ GE1308.out) | exact HB.out)) hb); clear BK1308; clear HB; have BK1308:=n0_; have HB:=n1_; clear n0_ n1_; (try clear hb); (try clear hb2); (try clear hk); (try clear hi)))
     repeat (go_quiet (first | (go_at_call 76; (with_reducible refine (spec_l1Ok.calls k1 a0_0 _ _ l0_1 false _ ?side1 ?side2 A19.out).mono ?_); (case side1 => repeat (first | exact (Kd.C_below HR0_1.out HB.out) | (with_reducible refine Kd.C_alloc ?_ _) | (with_reducible refine Kd.C_drewN ?_ _) | (with_reducible refine Kd.C_drew ?_))); (case side2 => exact HC0_1.out); rintro e w27 ⟨rfl,hb⟩; have n0_:=zy (blk_below (g:=gb1308) (o:=.cells #[.int .i64 a0_0,.slice A0_1 l0_1.length c0_1] 34 (0,0)) (by (with_reducible repeat (first | refine blk_drewN ?_ _ | refine blk_drew ?_ | refine blk_alloc ?_ _)); exact BK1308.out) hb); have n1_:=zy (below_step (by repeat (first | (with_reducible first | exact HB.out | apply below_alloc | apply pw_below_drewN | apply below_drew1 | refine below_set ?_ GE1308.out) | exact HB.out)) hb); clear BK1308; clear HB; have BK1308:=n0_; have HB:=n1_; clear n0_ n1_; (try clear hb); (try clear hb2); (try clear hk); (try clear hi))); try go_wp2_with (first | (go_at_call 76; (with_reducible refine (spec_l1Ok.calls k1 a0_0 _ _ l0_1 false _ ?side1 ?side2 A19.out).mono ?_); (case side1 => repeat (first | exact (Kd.C_below HR0_1.out HB.out) | (with_reducible refine Kd.C_alloc ?_ _) | (with_reducible refine Kd.C_drewN ?_ _) | (with_reducible refine Kd.C_drew ?_))); (case side2 => exact HC0_1.out); rintro e w27 ⟨rfl,hb⟩; have n0_:=zy (blk_below (g:=gb1308) (o:=.cells #[.int .i64 a0_0,.slice A0_1 l0_1.length c0_1] 34 (0,0)) (by (with_reducible repeat (first | refine blk_drewN ?_ _ | refine blk_drew ?_ | refine blk_alloc ?_ _)); exact BK1308.out) hb); have n1_:=zy (below_step (by repeat (first | (with_reducible first | exact HB.out | apply below_alloc | apply pw_below_drewN | apply below_drew1 | refine below_set ?_ GE1308.out) | exact HB.out)) hb); clear BK1308; clear HB; have BK1308:=n0_; have HB:=n1_; clear n0_ n1_; (try clear hb); (try clear hb2); (try clear hk); (try clear hi))))
     go_ret;exact ⟨by first | rfl | (simp [errW_none,errW_some] <;> rfl) | (simp [*,errW_none,errW_some] <;> rfl),by repeat (first | (with_reducible first | exact HB.out | apply below_alloc | apply pw_below_drewN | apply below_drew1 | refine below_set ?_ GE1308.out) | exact HB.out)⟩
    subst c20;have H1 : (if (l1.length : Int) > 16 then (some (-1)) else (some x5_1)) = some r:=by rw [if_pos rfl] at H; exact H
    clear H;have H:=H1;clear H1
    by_cases c21 : (l1.length : Int) > 16
    case pos =>
     rw [if_pos c21] at H;have c21b0 : decide (16 < (l1.length : Int)) = true:=decide_eq_true c21;have c21b1 : decide (16 < l1.length) = true:=decide_eq_true (by omega);clear c21;obtain rfl:=Option.some.inj H;have hcz22_0 : wr.cell? ⟨gb1308,0,none⟩ = some (.int .i64 a0_0):=(blk_cell BK1308.out 0).trans rfl;have hcz22_1 : wr.cell? ⟨gb1308,1,none⟩ = some (.slice A0_1 l0_1.length c0_1):=(blk_cell BK1308.out 1).trans rfl;have hfz22_0:=blk_frozen BK1308.out 0;have hfz22_1:=blk_frozen BK1308.out 1
     go_wp2_with (first | (go_at_call 76; (with_reducible refine (spec_l1Ok.calls k1 a0_0 _ _ l0_1 true _ ?side1 ?side2 A19.out).mono ?_); (case side1 => repeat (first | exact (Kd.C_below HR0_1.out HB.out) | (with_reducible refine Kd.C_alloc ?_ _) | (with_reducible refine Kd.C_drewN ?_ _) | (with_reducible refine Kd.C_drew ?_))); (case side2 => exact HC0_1.out); rintro e w23 ⟨rfl,hb⟩; have n0_:=zy (blk_below (g:=gb1308) (o:=.cells #[.int .i64 a0_0,.slice A0_1 l0_1.length c0_1] 34 (0,0)) (by (with_reducible repeat (first | refine blk_drewN ?_ _ | refine blk_drew ?_ | refine blk_alloc ?_ _)); exact BK1308.out) hb); have n1_:=zy (below_step (by repeat (first | (with_reducible first | exact HB.out | apply below_alloc | apply pw_below_drewN | apply below_drew1 | refine below_set ?_ GE1308.out) | exact HB.out)) hb); clear BK1308; clear HB; have BK1308:=n0_; have HB:=n1_; clear n0_ n1_; (try clear hb); (try clear hb2); (try clear hk); (try clear hi)))
     repeat (go_quiet (first | (go_at_call 76; (with_reducible refine (spec_l1Ok.calls k1 a0_0 _ _ l0_1 true _ ?side1 ?side2 A19.out).mono ?_); (case side1 => repeat (first | exact (Kd.C_below HR0_1.out HB.out) | (with_reducible refine Kd.C_alloc ?_ _) | (with_reducible refine Kd.C_drewN ?_ _) | (with_reducible refine Kd.C_drew ?_))); (case side2 => exact HC0_1.out); rintro e w23 ⟨rfl,hb⟩; have n0_:=zy (blk_below (g:=gb1308) (o:=.cells #[.int .i64 a0_0,.slice A0_1 l0_1.length c0_1] 34 (0,0)) (by (with_reducible repeat (first | refine blk_drewN ?_ _ | refine blk_drew ?_ | refine blk_alloc ?_ _)); exact BK1308.out) hb); have n1_:=zy (below_step (by repeat (first | (with_reducible first | exact HB.out | apply below_alloc | apply pw_below_drewN | apply below_drew1 | refine below_set ?_ GE1308.out) | exact HB.out)) hb); clear BK1308; clear HB; have BK1308:=n0_; have HB:=n1_; clear n0_ n1_; (try clear hb); (try clear hb2); (try clear hk); (try clear hi))); try go_wp2_with (first | (go_at_call 76; (with_reducible refine (spec_l1Ok.calls k1 a0_0 _ _ l0_1 true _ ?side1 ?side2 A19.out).mono ?_); (case side1 => repeat (first | exact (Kd.C_below HR0_1.out HB.out) | (with_reducible refine Kd.C_alloc ?_ _) | (with_reducible refine Kd.C_drewN ?_ _) | (with_reducible refine Kd.C_drew ?_))); (case side2 => exact HC0_1.out); rintro e w23 ⟨rfl,hb⟩; have n0_:=zy (blk_below (g:=gb1308) (o:=.cells #[.int .i64 a0_0,.slice A0_1 l0_1.length c0_1] 34 (0,0)) (by (with_reducible repeat (first | refine blk_drewN ?_ _ | refine blk_drew ?_ | refine blk_alloc ?_ _)); exact BK1308.out) hb); have n1_:=zy (below_step (by repeat (first | (with_reducible first | exact HB.out | apply below_alloc | apply pw_below_drewN | apply below_drew1 | refine below_set ?_ GE1308.out) | exact HB.out)) hb); clear BK1308; clear HB; have BK1308:=n0_; have HB:=n1_; clear n0_ n1_; (try clear hb); (try clear hb2); (try clear hk); (try clear hi))))
     go_ret;exact ⟨by first | rfl | (simp [errW_none,errW_some] <;> rfl) | (simp [*,errW_none,errW_some] <;> rfl),by repeat (first | (with_reducible first | exact HB.out | apply below_alloc | apply pw_below_drewN | apply below_drew1 | refine below_set ?_ GE1308.out) | exact HB.out)⟩
    rw [if_neg c21] at H;have c21b0 : decide (16 < (l1.length : Int)) = false:=decide_eq_false c21;have c21b1 : decide (16 < l1.length) = false:=decide_eq_false (by omega);clear c21;obtain rfl:=Option.some.inj H;have hcz24_0 : wr.cell? ⟨gb1308,0,none⟩ = some (.int .i64 a0_0):=(blk_cell BK1308.out 0).trans rfl;have hcz24_1 : wr.cell? ⟨gb1308,1,none⟩ = some (.slice A0_1 l0_1.length c0_1):=(blk_cell BK1308.out 1).trans rfl;have hfz24_0:=blk_frozen BK1308.out 0;have hfz24_1:=blk_frozen BK1308.out 1
    go_wp2_with (first | (go_at_call 76; (with_reducible refine (spec_l1Ok.calls k1 a0_0 _ _ l0_1 true _ ?side1 ?side2 A19.out).mono ?_); (case side1 => repeat (first | exact (Kd.C_below HR0_1.out HB.out) | (with_reducible refine Kd.C_alloc ?_ _) | (with_reducible refine Kd.C_drewN ?_ _) | (with_reducible refine Kd.C_drew ?_))); (case side2 => exact HC0_1.out); rintro e w25 ⟨rfl,hb⟩; have n0_:=zy (blk_below (g:=gb1308) (o:=.cells #[.int .i64 a0_0,.slice A0_1 l0_1.length c0_1] 34 (0,0)) (by (with_reducible repeat (first | refine blk_drewN ?_ _ | refine blk_drew ?_ | refine blk_alloc ?_ _)); exact BK1308.out) hb); have n1_:=zy (below_step (by repeat (first | (with_reducible first | exact HB.out | apply below_alloc | apply pw_below_drewN | apply below_drew1 | refine below_set ?_ GE1308.out) | exact HB.out)) hb); clear BK1308; clear HB; have BK1308:=n0_; have HB:=n1_; clear n0_ n1_; (try clear hb); (try clear hb2); (try clear hk); (try clear hi)))
    repeat (go_quiet (first | (go_at_call 76; (with_reducible refine (spec_l1Ok.calls k1 a0_0 _ _ l0_1 true _ ?side1 ?side2 A19.out).mono ?_); (case side1 => repeat (first | exact (Kd.C_below HR0_1.out HB.out) | (with_reducible refine Kd.C_alloc ?_ _) | (with_reducible refine Kd.C_drewN ?_ _) | (with_reducible refine Kd.C_drew ?_))); (case side2 => exact HC0_1.out); rintro e w25 ⟨rfl,hb⟩; have n0_:=zy (blk_below (g:=gb1308) (o:=.cells #[.int .i64 a0_0,.slice A0_1 l0_1.length c0_1] 34 (0,0)) (by (with_reducible repeat (first | refine blk_drewN ?_ _ | refine blk_drew ?_ | refine blk_alloc ?_ _)); exact BK1308.out) hb); have n1_:=zy (below_step (by repeat (first | (with_reducible first | exact HB.out | apply below_alloc | apply pw_below_drewN | apply below_drew1 | refine below_set ?_ GE1308.out) | exact HB.out)) hb); clear BK1308; clear HB; have BK1308:=n0_; have HB:=n1_; clear n0_ n1_; (try clear hb); (try clear hb2); (try clear hk); (try clear hi))); try go_wp2_with (first | (go_at_call 76; (with_reducible refine (spec_l1Ok.calls k1 a0_0 _ _ l0_1 true _ ?side1 ?side2 A19.out).mono ?_); (case side1 => repeat (first | exact (Kd.C_below HR0_1.out HB.out) | (with_reducible refine Kd.C_alloc ?_ _) | (with_reducible refine Kd.C_drewN ?_ _) | (with_reducible refine Kd.C_drew ?_))); (case side2 => exact HC0_1.out); rintro e w25 ⟨rfl,hb⟩; have n0_:=zy (blk_below (g:=gb1308) (o:=.cells #[.int .i64 a0_0,.slice A0_1 l0_1.length c0_1] 34 (0,0)) (by (with_reducible repeat (first | refine blk_drewN ?_ _ | refine blk_drew ?_ | refine blk_alloc ?_ _)); exact BK1308.out) hb); have n1_:=zy (below_step (by repeat (first | (with_reducible first | exact HB.out | apply below_alloc | apply pw_below_drewN | apply below_drew1 | refine below_set ?_ GE1308.out) | exact HB.out)) hb); clear BK1308; clear HB; have BK1308:=n0_; have HB:=n1_; clear n0_ n1_; (try clear hb); (try clear hb2); (try clear hk); (try clear hi))))
    go_ret;exact ⟨by first | rfl | (simp [errW_none,errW_some] <;> rfl) | (simp [*,errW_none,errW_some] <;> rfl),by repeat (first | (with_reducible first | exact HB.out | apply below_alloc | apply pw_below_drewN | apply below_drew1 | refine below_set ?_ GE1308.out) | exact HB.out)⟩
   rw [if_pos c4] at H;have c4b0 : decide (x6_1 < (l1.length : Int)) = true:=decide_eq_true c4;clear c4
   by_cases c5 : 0 ≤ x6_1
   case neg =>
    rw [if_neg c5] at H;exact absurd H (by simp)
   rw [if_pos c5] at H;have c5b0 : decide (0 ≤ x6_1) = true:=decide_eq_true c5;clear c5;replace H:=Option.bind_eq_some_iff.mp H;obtain ⟨t1311,A60,H⟩:=H;replace H : (if t1311 = true then (if x6_1 ≤ (l1.length : Int) then ((spec_l12In.f k1 (l1.take (x6_1 : Int).toNat) (rd l1 x6_1)).bind fun t1314 => (if t1314 = true then (spec_TreeCost.l0 k1 l1 x5_1 (wrap64 (x6_1 + 1)) a0_0 l0_1) else (if 0 ≤ (rd l1 x6_1) then (if (rd l1 x6_1) < (l0_1.length : Int) then (spec_TreeCost.l0 k1 l1 (wrap64 (x5_1 + ((rd_T58 l0_1 (rd l1 x6_1)).f2))) (wrap64 (x6_1 + 1)) a0_0 l0_1) else (none)) else (none)))) else (none)) else (some (-1))) = some r:=H;have A6:=zy A60;clear A60
   by_cases c7 : t1311 = true
   case neg =>
    replace c7:=Bool.eq_false_iff.mpr c7;subst c7;have H1 : (some (-1)) = some r:=by rw [if_neg (show ¬ (false = true) by decide)] at H; exact H
    clear H;have H:=H1;clear H1;obtain rfl:=Option.some.inj H;have p1310 : 0 ≤ (x6_1 : Int):=of_decide_eq_true (by first | (with_reducible assumption) | assumption);have q1310 : x6_1 < (l1.length : Int):=of_decide_eq_true (by first | (with_reducible assumption) | assumption);obtain ⟨ad1310,e1310,hx1310_0⟩:=Kd.at_int HR1.out x6_1 p1310 q1310;cases e1310;replace hx1310_0:=(HB.out.cell (World.block_lt_of_cell? w _ hx1310_0)).trans hx1310_0;replace p1310:=eq_true p1310;replace q1310:=eq_true q1310;have hcz18_0 : wr.cell? ⟨gb1308,0,none⟩ = some (.int .i64 a0_0):=(blk_cell BK1308.out 0).trans rfl;have hcz18_1 : wr.cell? ⟨gb1308,1,none⟩ = some (.slice A0_1 l0_1.length c0_1):=(blk_cell BK1308.out 1).trans rfl;have hfz18_0:=blk_frozen BK1308.out 0;have hfz18_1:=blk_frozen BK1308.out 1
    go_wp2_with (first | (go_at_call 90; (with_reducible refine (spec_l1In.calls (rd l1 x6_1) 0 (wrap64 ((l0_1.length : Int) - 1)) false _ A6.out).mono ?_); rintro e w' ⟨rfl,⟨nd,rfl⟩⟩; (try first | exact ⟨rfl,_,World.drewN_drewN _ _ _⟩ | exact ⟨rfl,_,Eq.trans (World.drewN_drewN _ _ _) (congrArg (World.drewN _) (Nat.add_assoc _ _ _))⟩)))
    repeat (go_quiet (first | (go_at_call 90; (with_reducible refine (spec_l1In.calls (rd l1 x6_1) 0 (wrap64 ((l0_1.length : Int) - 1)) false _ A6.out).mono ?_); rintro e w' ⟨rfl,⟨nd,rfl⟩⟩; (try first | exact ⟨rfl,_,World.drewN_drewN _ _ _⟩ | exact ⟨rfl,_,Eq.trans (World.drewN_drewN _ _ _) (congrArg (World.drewN _) (Nat.add_assoc _ _ _))⟩))); try go_wp2_with (first | (go_at_call 90; (with_reducible refine (spec_l1In.calls (rd l1 x6_1) 0 (wrap64 ((l0_1.length : Int) - 1)) false _ A6.out).mono ?_); rintro e w' ⟨rfl,⟨nd,rfl⟩⟩; (try first | exact ⟨rfl,_,World.drewN_drewN _ _ _⟩ | exact ⟨rfl,_,Eq.trans (World.drewN_drewN _ _ _) (congrArg (World.drewN _) (Nat.add_assoc _ _ _))⟩))))
    go_ret;exact ⟨by first | rfl | (simp [errW_none,errW_some] <;> rfl) | (simp [*,errW_none,errW_some] <;> rfl),by repeat (first | (with_reducible first | exact HB.out | apply below_alloc | apply pw_below_drewN | apply below_drew1 | refine below_set ?_ GE1308.out) | exact HB.out)⟩
   subst c7;have H1 : (if x6_1 ≤ (l1.length : Int) then ((spec_l12In.f k1 (l1.take (x6_1 : Int).toNat) (rd l1 x6_1)).bind fun t1314 => (if t1314 = true then (spec_TreeCost.l0 k1 l1 x5_1 (wrap64 (x6_1 + 1)) a0_0 l0_1) else (if 0 ≤ (rd l1 x6_1) then (if (rd l1 x6_1) < (l0_1.length : Int) then (spec_TreeCost.l0 k1 l1 (wrap64 (x5_1 + ((rd_T58 l0_1 (rd l1 x6_1)).f2))) (wrap64 (x6_1 + 1)) a0_0 l0_1) else (none)) else (none)))) else (none)) = some r:=by rw [if_pos rfl] at H; exact H
   clear H;have H:=H1;clear H1;have c8b0:=eq_true (of_decide_eq_true (by first | (with_reducible assumption) | assumption) : 0 ≤ x6_1)
   by_cases c9 : x6_1 ≤ (l1.length : Int)
   case neg =>
    rw [if_neg c9] at H;exact absurd H (by simp)
   rw [if_pos c9] at H;have c9b0:=eq_true c9;have c9b1 : decide (x6_1 ≤ (l1.length : Int)) = true:=decide_eq_true c9;clear c9;replace H:=Option.bind_eq_some_iff.mp H;obtain ⟨t1314,A100,H⟩:=H;replace H : (if t1314 = true then (spec_TreeCost.l0 k1 l1 x5_1 (wrap64 (x6_1 + 1)) a0_0 l0_1) else (if 0 ≤ (rd l1 x6_1) then (if (rd l1 x6_1) < (l0_1.length : Int) then (spec_TreeCost.l0 k1 l1 (wrap64 (x5_1 + ((rd_T58 l0_1 (rd l1 x6_1)).f2))) (wrap64 (x6_1 + 1)) a0_0 l0_1) else (none)) else (none))) = some r:=H;have A10:=zy A100;clear A100
   by_cases c11 : t1314 = true
   case pos =>
    subst c11;have H1 : (spec_TreeCost.l0 k1 l1 x5_1 (wrap64 (x6_1 + 1)) a0_0 l0_1) = some r:=by rw [if_pos rfl] at H; exact H
    clear H;have H:=H1;clear H1;have H':=zy H;clear H;have p1310 : 0 ≤ (x6_1 : Int):=of_decide_eq_true (by first | (with_reducible assumption) | assumption);have q1310 : x6_1 < (l1.length : Int):=of_decide_eq_true (by first | (with_reducible assumption) | assumption);obtain ⟨ad1310,e1310,hx1310_0⟩:=Kd.at_int HR1.out x6_1 p1310 q1310;cases e1310;replace hx1310_0:=(HB.out.cell (World.block_lt_of_cell? w _ hx1310_0)).trans hx1310_0;replace p1310:=eq_true p1310;replace q1310:=eq_true q1310;have hcz12_0 : wr.cell? ⟨gb1308,0,none⟩ = some (.int .i64 a0_0):=(blk_cell BK1308.out 0).trans rfl;have hcz12_1 : wr.cell? ⟨gb1308,1,none⟩ = some (.slice A0_1 l0_1.length c0_1):=(blk_cell BK1308.out 1).trans rfl;have hfz12_0:=blk_frozen BK1308.out 0;have hfz12_1:=blk_frozen BK1308.out 1;obtain ⟨i013,hi013,_,hsz13,_⟩:=info_parts info3;obtain ⟨hcut13,hA13,hC13⟩:=print_take_of (P:=Try.prog) (Value.int .i64) 0 23 3 .i64 Try.underlying23 hi013 hsz13 (some ad1310) c1 l1 x6_1 (of_decide_eq_true (by first | (with_reducible assumption) | assumption)) (of_decide_eq_true (by first | (with_reducible assumption) | assumption)) HC1.out;have HR1312:=zy (Kd.C_of_reads (h1:=fun _ => rfl) (hA13 _ (Kd.reads_of_C HR1.out)));have HC1312:=zy hC13;clear hA13 hC13 hi013 hsz13;have p1313 : 0 ≤ (x6_1 : Int):=of_decide_eq_true (by first | (with_reducible assumption) | assumption);have q1313 : x6_1 < (l1.length : Int):=of_decide_eq_true (by first | (with_reducible assumption) | assumption);obtain ⟨ad1313,e1313,hx1313_0⟩:=Kd.at_int HR1.out x6_1 p1313 q1313;obtain rfl : ad1310 = ad1313:=(by injection e1313)
    replace hx1313_0:=(HB.out.cell (World.block_lt_of_cell? w _ hx1313_0)).trans hx1313_0;replace p1313:=eq_true p1313;replace q1313:=eq_true q1313
    go_wp2_with (first | (go_at_call 90; (with_reducible refine (spec_l1In.calls (rd l1 x6_1) 0 (wrap64 ((l0_1.length : Int) - 1)) true _ A6.out).mono ?_); rintro e w' ⟨rfl,⟨nd,rfl⟩⟩; (try first | exact ⟨rfl,_,World.drewN_drewN _ _ _⟩ | exact ⟨rfl,_,Eq.trans (World.drewN_drewN _ _ _) (congrArg (World.drewN _) (Nat.add_assoc _ _ _))⟩)) | (go_at_call 119; (try rw [show x6_1.toNat = (l1.take (x6_1 : Int).toNat).length by rw [List.length_take]; have h_:=of_eq_true q1313; omega]); (with_reducible refine (spec_l12In.calls k1 _ _ (l1.take (x6_1 : Int).toNat) (rd l1 x6_1) true _ ?side1 ?side2 A10.out).mono ?_); (case side1 => repeat (first | exact (Kd.C_below HR1312.out (by repeat (first | (with_reducible first | exact HB.out | apply below_alloc | apply pw_below_drewN | apply below_drew1 | refine below_set ?_ GE1308.out) | exact HB.out))) | (with_reducible refine Kd.C_alloc ?_ _) | (with_reducible refine Kd.C_drewN ?_ _) | (with_reducible refine Kd.C_drew ?_))); (case side2 => exact HC1312.out); rintro e w' ⟨rfl,⟨nd,rfl⟩⟩; (try first | exact ⟨rfl,_,World.drewN_drewN _ _ _⟩ | exact ⟨rfl,_,Eq.trans (World.drewN_drewN _ _ _) (congrArg (World.drewN _) (Nat.add_assoc _ _ _))⟩)))
    repeat (go_quiet (first | (go_at_call 90; (with_reducible refine (spec_l1In.calls (rd l1 x6_1) 0 (wrap64 ((l0_1.length : Int) - 1)) true _ A6.out).mono ?_); rintro e w' ⟨rfl,⟨nd,rfl⟩⟩; (try first | exact ⟨rfl,_,World.drewN_drewN _ _ _⟩ | exact ⟨rfl,_,Eq.trans (World.drewN_drewN _ _ _) (congrArg (World.drewN _) (Nat.add_assoc _ _ _))⟩)) | (go_at_call 119; (try rw [show x6_1.toNat = (l1.take (x6_1 : Int).toNat).length by rw [List.length_take]; have h_:=of_eq_true q1313; omega]); (with_reducible refine (spec_l12In.calls k1 _ _ (l1.take (x6_1 : Int).toNat) (rd l1 x6_1) true _ ?side1 ?side2 A10.out).mono ?_); (case side1 => repeat (first | exact (Kd.C_below HR1312.out (by repeat (first | (with_reducible first | exact HB.out | apply below_alloc | apply pw_below_drewN | apply below_drew1 | refine below_set ?_ GE1308.out) | exact HB.out))) | (with_reducible refine Kd.C_alloc ?_ _) | (with_reducible refine Kd.C_drewN ?_ _) | (with_reducible refine Kd.C_drew ?_))); (case side2 => exact HC1312.out); rintro e w' ⟨rfl,⟨nd,rfl⟩⟩; (try first | exact ⟨rfl,_,World.drewN_drewN _ _ _⟩ | exact ⟨rfl,_,Eq.trans (World.drewN_drewN _ _ _) (congrArg (World.drewN _) (Nat.add_assoc _ _ _))⟩))); try go_wp2_with (first | (go_at_call 90; (with_reducible refine (spec_l1In.calls (rd l1 x6_1) 0 (wrap64 ((l0_1.length : Int) - 1)) true _ A6.out).mono ?_); rintro e w' ⟨rfl,⟨nd,rfl⟩⟩; (try first | exact ⟨rfl,_,World.drewN_drewN _ _ _⟩ | exact ⟨rfl,_,Eq.trans (World.drewN_drewN _ _ _) (congrArg (World.drewN _) (Nat.add_assoc _ _ _))⟩)) | (go_at_call 119; (try rw [show x6_1.toNat = (l1.take (x6_1 : Int).toNat).length by rw [List.length_take]; have h_:=of_eq_true q1313; omega]); (with_reducible refine (spec_l12In.calls k1 _ _ (l1.take (x6_1 : Int).toNat) (rd l1 x6_1) true _ ?side1 ?side2 A10.out).mono ?_); (case side1 => repeat (first | exact (Kd.C_below HR1312.out (by repeat (first | (with_reducible first | exact HB.out | apply below_alloc | apply pw_below_drewN | apply below_drew1 | refine below_set ?_ GE1308.out) | exact HB.out))) | (with_reducible refine Kd.C_alloc ?_ _) | (with_reducible refine Kd.C_drewN ?_ _) | (with_reducible refine Kd.C_drew ?_))); (case side2 => exact HC1312.out); rintro e w' ⟨rfl,⟨nd,rfl⟩⟩; (try first | exact ⟨rfl,_,World.drewN_drewN _ _ _⟩ | exact ⟨rfl,_,Eq.trans (World.drewN_drewN _ _ _) (congrArg (World.drewN _) (Nat.add_assoc _ _ _))⟩))))
    go_roundg k1
    case measure => have:=HK1.out; omega
    case rel => exact ⟨(x5_1),(wrap64 (x6_1 + 1)),(by first | rfl | (simp; done) | (simp [*]; done)),(by first | rfl | (simp; done) | (simp [*]; done)),H',⟨by have:=HK1.out; omega⟩,⟨by (with_reducible repeat (first | refine blk_drewN ?_ _ | refine blk_drew ?_ | refine blk_alloc ?_ _)); exact BK1308.out⟩,⟨by repeat (first | (with_reducible first | exact HB.out | apply below_alloc | apply pw_below_drewN | apply below_drew1 | refine below_set ?_ GE1308.out) | exact HB.out)⟩⟩
   replace c11:=Bool.eq_false_iff.mpr c11;subst c11;have H1 : (if 0 ≤ (rd l1 x6_1) then (if (rd l1 x6_1) < (l0_1.length : Int) then (spec_TreeCost.l0 k1 l1 (wrap64 (x5_1 + ((rd_T58 l0_1 (rd l1 x6_1)).f2))) (wrap64 (x6_1 + 1)) a0_0 l0_1) else (none)) else (none)) = some r:=by rw [if_neg (show ¬ (false = true) by decide)] at H; exact H
   clear H;have H:=H1;clear H1
   by_cases c14 : 0 ≤ (rd l1 x6_1)
   case neg =>
    rw [if_neg c14] at H;exact absurd H (by simp)
   rw [if_pos c14] at H;have c14b0 : decide (0 ≤ (rd l1 x6_1)) = true:=decide_eq_true c14;clear c14
   by_cases c15 : (rd l1 x6_1) < (l0_1.length : Int)
   case neg =>
    rw [if_neg c15] at H;exact absurd H (by simp)
   rw [if_pos c15] at H;have c15b0 : decide ((rd l1 x6_1) < (l0_1.length : Int)) = true:=decide_eq_true c15;clear c15;have H':=zy H;clear H;have p1310 : 0 ≤ (x6_1 : Int):=of_decide_eq_true (by first | (with_reducible assumption) | assumption);have q1310 : x6_1 < (l1.length : Int):=of_decide_eq_true (by first | (with_reducible assumption) | assumption);obtain ⟨ad1310,e1310,hx1310_0⟩:=Kd.at_int HR1.out x6_1 p1310 q1310;cases e1310;replace hx1310_0:=(HB.out.cell (World.block_lt_of_cell? w _ hx1310_0)).trans hx1310_0;replace p1310:=eq_true p1310;replace q1310:=eq_true q1310;have hcz16_0 : wr.cell? ⟨gb1308,0,none⟩ = some (.int .i64 a0_0):=(blk_cell BK1308.out 0).trans rfl;have hcz16_1 : wr.cell? ⟨gb1308,1,none⟩ = some (.slice A0_1 l0_1.length c0_1):=(blk_cell BK1308.out 1).trans rfl;have hfz16_0:=blk_frozen BK1308.out 0;have hfz16_1:=blk_frozen BK1308.out 1;obtain ⟨i017,hi017,_,hsz17,_⟩:=info_parts info3;obtain ⟨hcut17,hA17,hC17⟩:=print_take_of (P:=Try.prog) (Value.int .i64) 0 23 3 .i64 Try.underlying23 hi017 hsz17 (some ad1310) c1 l1 x6_1 (of_decide_eq_true (by first | (with_reducible assumption) | assumption)) (of_decide_eq_true (by first | (with_reducible assumption) | assumption)) HC1.out;have HR1312:=zy (Kd.C_of_reads (h1:=fun _ => rfl) (hA17 _ (Kd.reads_of_C HR1.out)));have HC1312:=zy hC17;clear hA17 hC17 hi017 hsz17;have p1313 : 0 ≤ (x6_1 : Int):=of_decide_eq_true (by first | (with_reducible assumption) | assumption);have q1313 : x6_1 < (l1.length : Int):=of_decide_eq_true (by first | (with_reducible assumption) | assumption);obtain ⟨ad1313,e1313,hx1313_0⟩:=Kd.at_int HR1.out x6_1 p1313 q1313;obtain rfl : ad1310 = ad1313:=(by injection e1313)
   replace hx1313_0:=(HB.out.cell (World.block_lt_of_cell? w _ hx1313_0)).trans hx1313_0;replace p1313:=eq_true p1313;replace q1313:=eq_true q1313;have p1315 : 0 ≤ (x6_1 : Int):=of_decide_eq_true (by first | (with_reducible assumption) | assumption);have q1315 : x6_1 < (l1.length : Int):=of_decide_eq_true (by first | (with_reducible assumption) | assumption);obtain ⟨ad1315,e1315,hx1315_0⟩:=Kd.at_int HR1.out x6_1 p1315 q1315;obtain rfl : ad1310 = ad1315:=(by injection e1315)
   replace hx1315_0:=(HB.out.cell (World.block_lt_of_cell? w _ hx1315_0)).trans hx1315_0;replace p1315:=eq_true p1315;replace q1315:=eq_true q1315;have p1316 : 0 ≤ ((rd l1 x6_1) : Int):=of_decide_eq_true (by first | (with_reducible assumption) | assumption);have q1316 : (rd l1 x6_1) < (l0_1.length : Int):=of_decide_eq_true (by first | (with_reducible assumption) | assumption);obtain ⟨ad1316,e1316,hx1316_0,hx1316_1,hx1316_2,hx1316_3,hx1316_4⟩:=at_T58 HR0_1.out (rd l1 x6_1) p1316 q1316;cases e1316;replace hx1316_0:=(HB.out.cell (World.block_lt_of_cell? w _ hx1316_0)).trans hx1316_0;replace hx1316_1:=(HB.out.cell (World.block_lt_of_cell? w _ hx1316_1)).trans hx1316_1;replace hx1316_2:=(HB.out.cell (World.block_lt_of_cell? w _ hx1316_2)).trans hx1316_2;replace hx1316_3:=(HB.out.cell (World.block_lt_of_cell? w _ hx1316_3)).trans hx1316_3;replace hx1316_4:=(HB.out.cell (World.block_lt_of_cell? w _ hx1316_4)).trans hx1316_4;replace p1316:=eq_true p1316;replace q1316:=eq_true q1316
   go_wp2_with (first | (go_at_call 90; (with_reducible refine (spec_l1In.calls (rd l1 x6_1) 0 (wrap64 ((l0_1.length : Int) - 1)) true _ A6.out).mono ?_); rintro e w' ⟨rfl,⟨nd,rfl⟩⟩; (try first | exact ⟨rfl,_,World.drewN_drewN _ _ _⟩ | exact ⟨rfl,_,Eq.trans (World.drewN_drewN _ _ _) (congrArg (World.drewN _) (Nat.add_assoc _ _ _))⟩)) | (go_at_call 119; (try rw [show x6_1.toNat = (l1.take (x6_1 : Int).toNat).length by rw [List.length_take]; have h_:=of_eq_true q1315; omega]); (with_reducible refine (spec_l12In.calls k1 _ _ (l1.take (x6_1 : Int).toNat) (rd l1 x6_1) false _ ?side1 ?side2 A10.out).mono ?_); (case side1 => repeat (first | exact (Kd.C_below HR1312.out (by repeat (first | (with_reducible first | exact HB.out | apply below_alloc | apply pw_below_drewN | apply below_drew1 | refine below_set ?_ GE1308.out) | exact HB.out))) | (with_reducible refine Kd.C_alloc ?_ _) | (with_reducible refine Kd.C_drewN ?_ _) | (with_reducible refine Kd.C_drew ?_))); (case side2 => exact HC1312.out); rintro e w' ⟨rfl,⟨nd,rfl⟩⟩; (try first | exact ⟨rfl,_,World.drewN_drewN _ _ _⟩ | exact ⟨rfl,_,Eq.trans (World.drewN_drewN _ _ _) (congrArg (World.drewN _) (Nat.add_assoc _ _ _))⟩)))
   repeat (go_quiet (first | (go_at_call 90; (with_reducible refine (spec_l1In.calls (rd l1 x6_1) 0 (wrap64 ((l0_1.length : Int) - 1)) true _ A6.out).mono ?_); rintro e w' ⟨rfl,⟨nd,rfl⟩⟩; (try first | exact ⟨rfl,_,World.drewN_drewN _ _ _⟩ | exact ⟨rfl,_,Eq.trans (World.drewN_drewN _ _ _) (congrArg (World.drewN _) (Nat.add_assoc _ _ _))⟩)) | (go_at_call 119; (try rw [show x6_1.toNat = (l1.take (x6_1 : Int).toNat).length by rw [List.length_take]; have h_:=of_eq_true q1315; omega]); (with_reducible refine (spec_l12In.calls k1 _ _ (l1.take (x6_1 : Int).toNat) (rd l1 x6_1) false _ ?side1 ?side2 A10.out).mono ?_); (case side1 => repeat (first | exact (Kd.C_below HR1312.out (by repeat (first | (with_reducible first | exact HB.out | apply below_alloc | apply pw_below_drewN | apply below_drew1 | refine below_set ?_ GE1308.out) | exact HB.out))) | (with_reducible refine Kd.C_alloc ?_ _) | (with_reducible refine Kd.C_drewN ?_ _) | (with_reducible refine Kd.C_drew ?_))); (case side2 => exact HC1312.out); rintro e w' ⟨rfl,⟨nd,rfl⟩⟩; (try first | exact ⟨rfl,_,World.drewN_drewN _ _ _⟩ | exact ⟨rfl,_,Eq.trans (World.drewN_drewN _ _ _) (congrArg (World.drewN _) (Nat.add_assoc _ _ _))⟩))); try go_wp2_with (first | (go_at_call 90; (with_reducible refine (spec_l1In.calls (rd l1 x6_1) 0 (wrap64 ((l0_1.length : Int) - 1)) true _ A6.out).mono ?_); rintro e w' ⟨rfl,⟨nd,rfl⟩⟩; (try first | exact ⟨rfl,_,World.drewN_drewN _ _ _⟩ | exact ⟨rfl,_,Eq.trans (World.drewN_drewN _ _ _) (congrArg (World.drewN _) (Nat.add_assoc _ _ _))⟩)) | (go_at_call 119; (try rw [show x6_1.toNat = (l1.take (x6_1 : Int).toNat).length by rw [List.length_take]; have h_:=of_eq_true q1315; omega]); (with_reducible refine (spec_l12In.calls k1 _ _ (l1.take (x6_1 : Int).toNat) (rd l1 x6_1) false _ ?side1 ?side2 A10.out).mono ?_); (case side1 => repeat (first | exact (Kd.C_below HR1312.out (by repeat (first | (with_reducible first | exact HB.out | apply below_alloc | apply pw_below_drewN | apply below_drew1 | refine below_set ?_ GE1308.out) | exact HB.out))) | (with_reducible refine Kd.C_alloc ?_ _) | (with_reducible refine Kd.C_drewN ?_ _) | (with_reducible refine Kd.C_drew ?_))); (case side2 => exact HC1312.out); rintro e w' ⟨rfl,⟨nd,rfl⟩⟩; (try first | exact ⟨rfl,_,World.drewN_drewN _ _ _⟩ | exact ⟨rfl,_,Eq.trans (World.drewN_drewN _ _ _) (congrArg (World.drewN _) (Nat.add_assoc _ _ _))⟩))))
   go_roundg k1
   case measure => have:=HK1.out; omega
   case rel => exact ⟨(wrap64 (x5_1 + ((rd_T58 l0_1 (rd l1 x6_1)).f2))),(wrap64 (x6_1 + 1)),(by first | rfl | (simp; done) | (simp [*]; done)),(by first | rfl | (simp; done) | (simp [*]; done)),H',⟨by have:=HK1.out; omega⟩,⟨by (with_reducible repeat (first | refine blk_drewN ?_ _ | refine blk_drew ?_ | refine blk_alloc ?_ _)); exact BK1308.out⟩,⟨by repeat (first | (with_reducible first | exact HB.out | apply below_alloc | apply pw_below_drewN | apply below_drew1 | refine below_set ?_ GE1308.out) | exact HB.out)⟩⟩
mutual
def laws_FnTreeCost.j0 : Nat → List Int → Int → Bool → Int → List (S58) → Option (Bool)
 | 0,_,_,_,_,_ => none
 | k + 1,x4,x5,x28,x1325000,x1325001 => if x28 = true then ((spec_TreeCost.f k x1325000 x1325001 x4).bind fun t1327 => (some (x5 == t1327))) else (laws_FnTreeCost.l0 k x4 x5 0 0 x1325000 x1325001)
def laws_FnTreeCost.l0 : Nat → List Int → Int → Int → Int → Int → List (S58) → Option (Bool)
 | 0,_,_,_,_,_,_ => none
 | k + 1,x4,x5,x6,x7,x1325000,x1325001 => if x7 < (x1325001.length : Int) then ((laws_wkIn.f k x4 x7).bind fun t1328 => (if t1328 = true then (if 0 ≤ x7 then (laws_FnTreeCost.l0 k x4 x5 (wrap64 (x6 + ((rd_T58 x1325001 x7).f2))) (wrap64 (x7 + 1)) x1325000 x1325001) else (none)) else (laws_FnTreeCost.l0 k x4 x5 x6 (wrap64 (x7 + 1)) x1325000 x1325001))) else ((some (([] : List Int) : List Int)).bind fun y1330 => (if y1330.length + x4.length < 17592186044416 then ((some (y1330 ++ x4 : List Int)).bind fun y1333 => (if y1333.length + x4.length < 17592186044416 then ((some (y1333 ++ x4 : List Int)).bind fun y1336 => (if x6 = x5 then (if (y1336.length : Int) > 16 then (some true) else ((impl_TreeCost.f k x1325000 x1325001 y1336).bind fun t1339 => (some (t1339 == x5)))) else (some false))) else (none))) else (none)))
end
def laws_FnTreeCost.f (k : Nat) (l0 : List Int) : Option (Bool):=if (l0.length : Int) > 1048576 then (some true) else ((spec_DrawTreeCost.f k l0).bind fun bt1317 => ((impl_TreeCost.f k bt1317.1 bt1317.2.1 bt1317.2.2).bind fun t1325 => ((spec_TreeCost.f k bt1317.1 bt1317.2.1 bt1317.2.2).bind fun t1326 => (if t1325 = t1326 then (laws_FnTreeCost.j0 k bt1317.2.2 t1325 (decide (t1325 < 0)) bt1317.1 bt1317.2.1) else (laws_FnTreeCost.j0 k bt1317.2.2 t1325 true bt1317.1 bt1317.2.1)))))
set_option maxHeartbeats 8000000 in
set_option maxRecDepth 100000 in
theorem laws_FnTreeCost.calls (k : Nat) (A0 : Option Addr) (c0 : Nat) (l0 : List Int) (r : Bool) (w : World) (hr0 : Kd.C (Kd.int .u8) w A0 l0.length l0) (hc0 : l0.length ≤ c0) (h : laws_FnTreeCost.f k l0 = some r) :
  Calls Try.prog 13 #[.slice A0 l0.length c0] w fun e w' => e = .returned (.bool r) ∧ Below w.heap.size w w':=by
 have hu34:=Try.underlying34;have HR0:=zy hr0;have HC0:=zy hc0;clear hr0 hc0;have HB:=zy (Below.refl w.heap.size w);have H : (if (l0.length : Int) > 1048576 then (some true) else ((spec_DrawTreeCost.f k l0).bind fun bt1317 => ((impl_TreeCost.f k bt1317.1 bt1317.2.1 bt1317.2.2).bind fun t1325 => ((spec_TreeCost.f k bt1317.1 bt1317.2.1 bt1317.2.2).bind fun t1326 => (if t1325 = t1326 then (laws_FnTreeCost.j0 k bt1317.2.2 t1325 (decide (t1325 < 0)) bt1317.1 bt1317.2.1) else (laws_FnTreeCost.j0 k bt1317.2.2 t1325 true bt1317.1 bt1317.2.1)))))) = some r:=h;clear h
 by_cases c2 : (l0.length : Int) > 1048576
 case pos =>
  rw [if_pos c2] at H;have c2b0 : decide (1048576 < (l0.length : Int)) = true:=decide_eq_true c2;have c2b1 : decide (1048576 < l0.length) = true:=decide_eq_true (by omega);clear c2;obtain rfl:=Option.some.inj H
  go_enter Try.func13,Try.ntmps13
  go_wp2
  go_ret;exact ⟨by first | rfl | (simp [errW_none,errW_some] <;> rfl) | (simp [*,errW_none,errW_some] <;> rfl),by repeat (first | (with_reducible first | exact HB.out | apply below_alloc | apply pw_below_drewN | apply below_drew1) | exact HB.out)⟩
 rw [if_neg c2] at H;have c2b0 : decide (1048576 < (l0.length : Int)) = false:=decide_eq_false c2;have c2b1 : decide (1048576 < l0.length) = false:=decide_eq_false (by omega);clear c2;replace H:=Option.bind_eq_some_iff.mp H;obtain ⟨⟨t1317,t1318,t1321⟩,A30,H⟩:=H;replace H : ((impl_TreeCost.f k t1317 t1318 t1321).bind fun t1325 => ((spec_TreeCost.f k t1317 t1318 t1321).bind fun t1326 => (if t1325 = t1326 then (laws_FnTreeCost.j0 k t1321 t1325 (decide (t1325 < 0)) t1317 t1318) else (laws_FnTreeCost.j0 k t1321 t1325 true t1317 t1318)))) = some r:=H;have A3:=zy A30;clear A30;replace H:=Option.bind_eq_some_iff.mp H;obtain ⟨t1325,A40,H⟩:=H;replace H : ((spec_TreeCost.f k t1317 t1318 t1321).bind fun t1326 => (if t1325 = t1326 then (laws_FnTreeCost.j0 k t1321 t1325 (decide (t1325 < 0)) t1317 t1318) else (laws_FnTreeCost.j0 k t1321 t1325 true t1317 t1318))) = some r:=H;have A4:=zy A40;clear A40;have HC5:=zy H;clear H
 go_enter Try.func13,Try.ntmps13
 go_upto_region 5 with (first | ((with_reducible refine gate_callee (f:=59) rfl ?_); refine goesL_ (some 14) rfl rfl Try.func59 (by kernel_rfl) rfl #[.slice A0 l0.length c0] rfl (by (try simp only [List.map_toArray,List.map_cons,List.map_nil]); first | done | rfl | (simp only [List.length_drop,List.length_take]; rfl)) ?_; (with_reducible refine (spec_DrawTreeCost.calls k _ _ l0 t1317 t1318 t1321 _ ?side1 ?side2 A3.out).mono ?_); (case side1 => repeat (first | exact HR0.out | (with_reducible refine Kd.C_alloc ?_ _) | (with_reducible refine Kd.C_drewN ?_ _) | (with_reducible refine Kd.C_drew ?_))); (case side2 => exact HC0.out); rintro e w6 ⟨v1319,v1322,rfl,ho0,ho1,hb⟩; refine ⟨_,rfl,?_⟩; have n0_:=zy (Kd.R_lower ho0 (below_size (by repeat (first | (with_reducible first | exact HB.out | apply below_alloc | apply pw_below_drewN | apply below_drew1) | exact HB.out)))); have n1_:=zy (Kd.R_lower ho1 (below_size (by repeat (first | (with_reducible first | exact HB.out | apply below_alloc | apply pw_below_drewN | apply below_drew1) | exact HB.out)))); have n2_:=zy (below_step (by repeat (first | (with_reducible first | exact HB.out | apply below_alloc | apply pw_below_drewN | apply below_drew1) | exact HB.out)) hb); clear HB; have HO1320:=n0_; have HO1323:=n1_; have HB:=n2_; clear n0_ n1_ n2_; (try clear hb); (try clear hb2); (try clear hk); (try clear hi); (try clear ho0); (try clear ho1)) | ((with_reducible refine gate_dst (N:=3) rfl ?_); (try (refine gate_guard (by rfl) ?_; dsimp only)); refine box_event ?hg (N:=3) ?hd (cs:=#[.int .i64 0,.slice none 0 0]) (t:=34) ?hr ?_; (case hd => rfl); (case hg => rfl); (case hr => first | (go_simp; done) | (go_simp; rfl)); intro gb1324 hg w7 hbox hb; have n0_:=zy (Kd.R_below (by (with_reducible repeat (first | apply Kd.R_alloc | apply Kd.R_drewN | apply Kd.R_drew)); exact HO1320.out) hb); have n1_:=zy (Kd.R_below (by (with_reducible repeat (first | apply Kd.R_alloc | apply Kd.R_drewN | apply Kd.R_drew)); exact HO1323.out) hb); have n2_:=zy (below_step (by repeat (first | (with_reducible first | exact HB.out | apply below_alloc | apply pw_below_drewN | apply below_drew1) | exact HB.out)) hb); have n3_:=zy (hbox); have n4_:=zy ((by rw [hg]; exact (below_size (by repeat (first | (with_reducible first | exact HB.out | apply below_alloc | apply pw_below_drewN | apply below_drew1) | exact HB.out))) : w.heap.size ≤ gb1324)); have n5_:=zy ((by rw [hg]; exact (below_size (by repeat (first | (with_reducible first | exact HB.out | apply below_alloc | apply pw_below_drewN | apply below_drew1) | exact HB.out))) : w.heap.size ≤ gb1324)); clear HO1320; clear HO1323; clear HB; have HO1320:=n0_; have HO1323:=n1_; have HB:=n2_; have BK1324:=n3_; have GW1324:=n4_; have GE1324:=n5_; clear n0_ n1_ n2_ n3_ n4_ n5_; clear hb hbox hg; have hcz8_0 : w7.cell? ⟨gb1324,0,none⟩ = some (.int .i64 0):=(blk_cell BK1324.out 0).trans rfl; have hcz8_1 : w7.cell? ⟨gb1324,1,none⟩ = some (.slice none 0 0):=(blk_cell BK1324.out 1).trans rfl; have hfz8_0:=blk_frozen BK1324.out 0; have hfz8_1:=blk_frozen BK1324.out 1; obtain ⟨Ao9,co9,eo9⟩:=Kd.R_slice HO1320.out; subst eo9; obtain ⟨Ao10,co10,eo10⟩:=Kd.R_slice HO1323.out; subst eo10) | ((with_reducible refine gate_callee (f:=60) rfl ?_); refine goesL_ (some 19) rfl rfl Try.func60 (by kernel_rfl) rfl #[.agg #[.int .i64 t1317,.slice Ao9 t1318.length co9],.slice Ao10 t1321.length co10] rfl (by (try simp only [List.map_toArray,List.map_cons,List.map_nil]); first | done | rfl | (simp only [List.length_drop,List.length_take]; rfl)) ?_; (with_reducible refine (impl_TreeCost.calls k t1317 _ _ t1318 _ _ t1321 t1325 _ ?side1 ?side2 ?side3 ?side4 A4.out).mono ?_); (case side1 => refine (Kd.R_reads' (e:=58) (base:=w.heap.size) (ok:=fun k_ => True) (n:=t1318.length) (c:=co9) ?_).2.2; exact (by (with_reducible repeat (first | apply Kd.R_alloc | apply Kd.R_drewN | apply Kd.R_drew)); exact (Kd.R_mono (Kd.R_far (p:=⟨gb1324,1,none⟩) (Kd.R_far (p:=⟨gb1324,0,none⟩) (Kd.R_types HO1320.out BK1324.out (by decide)) (fun _ hk => hk.2) (.int .i64 t1317)) (fun _ hk => hk.2) (.slice Ao9 t1318.length co9)) (fun _ h_ => h_.1)))); (case side2 => exact (Kd.R_reads' HO1320.out).2.1); (case side3 => refine (Kd.R_reads' (e:=3) (base:=w.heap.size) (ok:=fun k_ => True) (n:=t1321.length) (c:=co10) ?_).2.2; exact (by (with_reducible repeat (first | apply Kd.R_alloc | apply Kd.R_drewN | apply Kd.R_drew)); exact (Kd.R_mono (Kd.R_far (p:=⟨gb1324,1,none⟩) (Kd.R_far (p:=⟨gb1324,0,none⟩) (Kd.R_types HO1323.out BK1324.out (by decide)) (fun _ hk => hk.2) (.int .i64 t1317)) (fun _ hk => hk.2) (.slice Ao9 t1318.length co9)) (fun _ h_ => h_.1)))); (case side4 => exact (Kd.R_reads' HO1323.out).2.1); rintro e w11 ⟨rfl,hb⟩; refine ⟨_,rfl,?_⟩; have n0_:=zy (Kd.R_below (by (with_reducible repeat (first | apply Kd.R_alloc | apply Kd.R_drewN | apply Kd.R_drew)); exact (Kd.R_mono (Kd.R_far (p:=⟨gb1324,1,none⟩) (Kd.R_far (p:=⟨gb1324,0,none⟩) (Kd.R_types HO1320.out BK1324.out (by decide)) (fun _ hk => hk.2) (.int .i64 t1317)) (fun _ hk => hk.2) (.slice Ao9 t1318.length co9)) (fun _ h_ => h_.1))) hb); have n1_:=zy (Kd.R_below (by (with_reducible repeat (first | apply Kd.R_alloc | apply Kd.R_drewN | apply Kd.R_drew)); exact (Kd.R_mono (Kd.R_far (p:=⟨gb1324,1,none⟩) (Kd.R_far (p:=⟨gb1324,0,none⟩) (Kd.R_types HO1323.out BK1324.out (by decide)) (fun _ hk => hk.2) (.int .i64 t1317)) (fun _ hk => hk.2) (.slice Ao9 t1318.length co9)) (fun _ h_ => h_.1))) hb); have n2_:=zy (blk_below (g:=gb1324) (o:=.cells #[.int .i64 t1317,.slice Ao9 t1318.length co9] 34 (0,0)) (by (with_reducible repeat (first | refine blk_drewN ?_ _ | refine blk_drew ?_ | refine blk_alloc ?_ _)); refine blk_put (cs:=#[.int .i64 t1317,.slice none 0 0]) ?_ 1 _ rfl; (with_reducible repeat (first | refine blk_drewN ?_ _ | refine blk_drew ?_ | refine blk_alloc ?_ _)); refine blk_put (cs:=#[.int .i64 0,.slice none 0 0]) ?_ 0 _ rfl; (with_reducible repeat (first | refine blk_drewN ?_ _ | refine blk_drew ?_ | refine blk_alloc ?_ _)); exact BK1324.out) hb); have n3_:=zy (below_step (by repeat (first | (with_reducible first | exact HB.out | apply below_alloc | apply pw_below_drewN | apply below_drew1 | refine below_set ?_ GE1324.out) | exact HB.out)) hb); clear HO1320; clear HO1323; clear BK1324; clear HB; have HO1320:=n0_; have HO1323:=n1_; have BK1324:=n2_; have HB:=n3_; clear n0_ n1_ n2_ n3_; (try clear hb); (try clear hb2); (try clear hk); (try clear hi)))
 (try simp only [Act.put,V,Z,zx])
 go_cut [28] (fun v28 wc => ∃ (kq : Nat) (x28_4 : Bool),v28 = .bool x28_4 ∧ Aside0 (laws_FnTreeCost.j0 kq t1321 t1325 x28_4 t1317 t1318 = some r) ∧ Aside0 (kq ≤ k) ∧ Aside0 (Kd.R (Kd.int .i64) 3 wc w.heap.size (fun _ => True) (.slice Ao10 t1321.length co10) t1321) ∧ Aside0 (Kd.R k58 58 wc w.heap.size (fun _ => True) (.slice Ao9 t1318.length co9) t1318) ∧ Aside0 (wc.heap[gb1324]? = some (.cells #[.int .i64 t1317,(.slice Ao9 t1318.length co9)] 34 (0,0))) ∧ Aside0 (Below w.heap.size w wc))
 case first =>
  have H:=HC5.out;clear HC5;replace H:=Option.bind_eq_some_iff.mp H;obtain ⟨t1326,A120,H⟩:=H;replace H : (if t1325 = t1326 then (laws_FnTreeCost.j0 k t1321 t1325 (decide (t1325 < 0)) t1317 t1318) else (laws_FnTreeCost.j0 k t1321 t1325 true t1317 t1318)) = some r:=H;have A12:=zy A120;clear A120
  by_cases c13 : t1325 = t1326
  case neg =>
   rw [if_neg c13] at H;have c13b0 : (t1325 == t1326) = false:=beq_eq_false_iff_ne.mpr c13;have c13b1 : (t1325 != t1326) = true:=bne_iff_ne.mpr c13
   (first | rw [c13b0] | (simp only [i64_w,i32_w]; rw [c13b0]) | skip)
   have H':=zy H;clear H;have hcz16_0 : w11.cell? ⟨gb1324,0,none⟩ = some (.int .i64 t1317):=(blk_cell BK1324.out 0).trans rfl;have hcz16_1 : w11.cell? ⟨gb1324,1,none⟩ = some (.slice Ao9 t1318.length co9):=(blk_cell BK1324.out 1).trans rfl;have hfz16_0:=blk_frozen BK1324.out 0;have hfz16_1:=blk_frozen BK1324.out 1
   go_wp2_with (first | ((with_reducible refine gate_callee (f:=61) rfl ?_); refine goesL_ (some 23) rfl rfl Try.func61 (by kernel_rfl) rfl #[.agg #[.int .i64 t1317,.slice Ao9 t1318.length co9],.slice Ao10 t1321.length co10] rfl (by (try simp only [List.map_toArray,List.map_cons,List.map_nil]); first | done | rfl | (simp only [List.length_drop,List.length_take]; rfl)) ?_; (with_reducible refine (spec_TreeCost.calls k t1317 _ _ t1318 _ _ t1321 t1326 _ ?side1 ?side2 ?side3 ?side4 A12.out).mono ?_); (case side1 => repeat (first | exact (Kd.R_reads' HO1320.out).2.2 | (with_reducible refine Kd.C_alloc ?_ _) | (with_reducible refine Kd.C_drewN ?_ _) | (with_reducible refine Kd.C_drew ?_))); (case side2 => exact (Kd.R_reads' HO1320.out).2.1); (case side3 => repeat (first | exact (Kd.R_reads' HO1323.out).2.2 | (with_reducible refine Kd.C_alloc ?_ _) | (with_reducible refine Kd.C_drewN ?_ _) | (with_reducible refine Kd.C_drew ?_))); (case side4 => exact (Kd.R_reads' HO1323.out).2.1); rintro e w17 ⟨rfl,hb⟩; refine ⟨_,rfl,?_⟩; have n0_:=zy (Kd.R_below (by (with_reducible repeat (first | apply Kd.R_alloc | apply Kd.R_drewN | apply Kd.R_drew)); exact HO1320.out) hb); have n1_:=zy (Kd.R_below (by (with_reducible repeat (first | apply Kd.R_alloc | apply Kd.R_drewN | apply Kd.R_drew)); exact HO1323.out) hb); have n2_:=zy (blk_below (g:=gb1324) (o:=.cells #[.int .i64 t1317,.slice Ao9 t1318.length co9] 34 (0,0)) (by (with_reducible repeat (first | refine blk_drewN ?_ _ | refine blk_drew ?_ | refine blk_alloc ?_ _)); exact BK1324.out) hb); have n3_:=zy (below_step (by repeat (first | (with_reducible first | exact HB.out | apply below_alloc | apply pw_below_drewN | apply below_drew1 | refine below_set ?_ GE1324.out) | exact HB.out)) hb); clear HO1320; clear HO1323; clear BK1324; clear HB; have HO1320:=n0_; have HO1323:=n1_; have BK1324:=n2_; have HB:=n3_; clear n0_ n1_ n2_ n3_; (try clear hb); (try clear hb2); (try clear hk); (try clear hi)))
   go_meet
   case rel => exact ⟨_,(true),(by first | rfl | (simp; done) | (simp [*]; done)),H',⟨by first | omega | exact Nat.le_refl _⟩,⟨by (with_reducible repeat (first | apply Kd.R_alloc | apply Kd.R_drewN | apply Kd.R_drew)); exact HO1323.out⟩,⟨by (with_reducible repeat (first | apply Kd.R_alloc | apply Kd.R_drewN | apply Kd.R_drew)); exact HO1320.out⟩,⟨by (with_reducible repeat (first | refine blk_drewN ?_ _ | refine blk_drew ?_ | refine blk_alloc ?_ _)); exact BK1324.out⟩,⟨by repeat (first | (with_reducible first | exact HB.out | apply below_alloc | apply pw_below_drewN | apply below_drew1 | refine below_set ?_ GE1324.out) | exact HB.out)⟩⟩
  rw [if_pos c13] at H;have c13b0 : (t1325 == t1326) = true:=beq_iff_eq.mpr c13;have c13b1 : (t1325 != t1326) = false:=bne_eq_false_iff_eq.mpr c13;clear c13
  (first | rw [c13b0] | (simp only [i64_w,i32_w]; rw [c13b0]) | skip)
  have H':=zy H;clear H;have hcz14_0 : w11.cell? ⟨gb1324,0,none⟩ = some (.int .i64 t1317):=(blk_cell BK1324.out 0).trans rfl;have hcz14_1 : w11.cell? ⟨gb1324,1,none⟩ = some (.slice Ao9 t1318.length co9):=(blk_cell BK1324.out 1).trans rfl;have hfz14_0:=blk_frozen BK1324.out 0;have hfz14_1:=blk_frozen BK1324.out 1
  go_wp2_with (first | ((with_reducible refine gate_callee (f:=61) rfl ?_); refine goesL_ (some 23) rfl rfl Try.func61 (by kernel_rfl) rfl #[.agg #[.int .i64 t1317,.slice Ao9 t1318.length co9],.slice Ao10 t1321.length co10] rfl (by (try simp only [List.map_toArray,List.map_cons,List.map_nil]); first | done | rfl | (simp only [List.length_drop,List.length_take]; rfl)) ?_; (with_reducible refine (spec_TreeCost.calls k t1317 _ _ t1318 _ _ t1321 t1326 _ ?side1 ?side2 ?side3 ?side4 A12.out).mono ?_); (case side1 => repeat (first | exact (Kd.R_reads' HO1320.out).2.2 | (with_reducible refine Kd.C_alloc ?_ _) | (with_reducible refine Kd.C_drewN ?_ _) | (with_reducible refine Kd.C_drew ?_))); (case side2 => exact (Kd.R_reads' HO1320.out).2.1); (case side3 => repeat (first | exact (Kd.R_reads' HO1323.out).2.2 | (with_reducible refine Kd.C_alloc ?_ _) | (with_reducible refine Kd.C_drewN ?_ _) | (with_reducible refine Kd.C_drew ?_))); (case side4 => exact (Kd.R_reads' HO1323.out).2.1); rintro e w15 ⟨rfl,hb⟩; refine ⟨_,rfl,?_⟩; have n0_:=zy (Kd.R_below (by (with_reducible repeat (first | apply Kd.R_alloc | apply Kd.R_drewN | apply Kd.R_drew)); exact HO1320.out) hb); have n1_:=zy (Kd.R_below (by (with_reducible repeat (first | apply Kd.R_alloc | apply Kd.R_drewN | apply Kd.R_drew)); exact HO1323.out) hb); have n2_:=zy (blk_below (g:=gb1324) (o:=.cells #[.int .i64 t1317,.slice Ao9 t1318.length co9] 34 (0,0)) (by (with_reducible repeat (first | refine blk_drewN ?_ _ | refine blk_drew ?_ | refine blk_alloc ?_ _)); exact BK1324.out) hb); have n3_:=zy (below_step (by repeat (first | (with_reducible first | exact HB.out | apply below_alloc | apply pw_below_drewN | apply below_drew1 | refine below_set ?_ GE1324.out) | exact HB.out)) hb); clear HO1320; clear HO1323; clear BK1324; clear HB; have HO1320:=n0_; have HO1323:=n1_; have BK1324:=n2_; have HB:=n3_; clear n0_ n1_ n2_ n3_; (try clear hb); (try clear hb2); (try clear hk); (try clear hi)))
  go_meet
  case rel => exact ⟨_,(decide (t1325 < 0)),(by first | rfl | (simp; done) | (simp [*]; done)),H',⟨by first | omega | exact Nat.le_refl _⟩,⟨by (with_reducible repeat (first | apply Kd.R_alloc | apply Kd.R_drewN | apply Kd.R_drew)); exact HO1323.out⟩,⟨by (with_reducible repeat (first | apply Kd.R_alloc | apply Kd.R_drewN | apply Kd.R_drew)); exact HO1320.out⟩,⟨by (with_reducible repeat (first | refine blk_drewN ?_ _ | refine blk_drew ?_ | refine blk_alloc ?_ _)); exact BK1324.out⟩,⟨by repeat (first | (with_reducible first | exact HB.out | apply below_alloc | apply pw_below_drewN | apply below_drew1 | refine below_set ?_ GE1324.out) | exact HB.out)⟩⟩
 case rest =>
  clear HC5
  try clear c1
  try clear c2
  try clear c2b0
  try clear c2b1
  try clear p2
  try clear c5
  try clear c6
  try clear c13
  try clear c13b0
  try clear c13b1
  try clear hcz14_0
  try clear hcz14_1
  try clear hcz16_0
  try clear hcz16_1
  try clear hcz8_0
  try clear hcz8_1
  try clear hfz14_0
  try clear hfz14_1
  try clear hfz16_0
  try clear hfz16_1
  try clear hfz8_0
  try clear hfz8_1
  obtain ⟨kq,x28_4,rfl,HA,HJ4,HO_4,HO_1325001,BK1324,HB⟩:=hcut;cases kq with
  | zero => exact absurd HA.out (by simp [laws_FnTreeCost.j0])
  | succ kj4 =>
   have H:=HA.out;clear HA;simp only [laws_FnTreeCost.j0] at H
   by_cases c18 : x28_4 = true
   case pos =>
    subst c18;have H1 : ((spec_TreeCost.f kj4 t1317 t1318 t1321).bind fun t1327 => (some (t1325 == t1327))) = some r:=by rw [if_pos rfl] at H; exact H
    clear H;have H:=H1;clear H1;replace H:=Option.bind_eq_some_iff.mp H;obtain ⟨t1327,A190,H⟩:=H;replace H : (some (t1325 == t1327)) = some r:=H;have A19:=zy A190;clear A190;obtain rfl:=Option.some.inj H;have hcz20_0 : wc.cell? ⟨gb1324,0,none⟩ = some (.int .i64 t1317):=(blk_cell BK1324.out 0).trans rfl;have hcz20_1 : wc.cell? ⟨gb1324,1,none⟩ = some (.slice Ao9 t1318.length co9):=(blk_cell BK1324.out 1).trans rfl;have hfz20_0:=blk_frozen BK1324.out 0;have hfz20_1:=blk_frozen BK1324.out 1
    go_wp2_with (first | ((with_reducible refine gate_callee (f:=61) rfl ?_); refine goesL_ (some 32) rfl rfl Try.func61 (by kernel_rfl) rfl #[.agg #[.int .i64 t1317,.slice Ao9 t1318.length co9],.slice Ao10 t1321.length co10] rfl (by (try simp only [List.map_toArray,List.map_cons,List.map_nil]); first | done | rfl | (simp only [List.length_drop,List.length_take]; rfl)) ?_; (with_reducible refine (spec_TreeCost.calls kj4 t1317 _ _ t1318 _ _ t1321 t1327 _ ?side1 ?side2 ?side3 ?side4 A19.out).mono ?_); (case side1 => repeat (first | exact (Kd.R_reads' HO_1325001.out).2.2 | (with_reducible refine Kd.C_alloc ?_ _) | (with_reducible refine Kd.C_drewN ?_ _) | (with_reducible refine Kd.C_drew ?_))); (case side2 => exact (Kd.R_reads' HO_1325001.out).2.1); (case side3 => repeat (first | exact (Kd.R_reads' HO_4.out).2.2 | (with_reducible refine Kd.C_alloc ?_ _) | (with_reducible refine Kd.C_drewN ?_ _) | (with_reducible refine Kd.C_drew ?_))); (case side4 => exact (Kd.R_reads' HO_4.out).2.1); rintro e w21 ⟨rfl,hb⟩; refine ⟨_,rfl,?_⟩; have n0_:=zy (Kd.R_below (by (with_reducible repeat (first | apply Kd.R_alloc | apply Kd.R_drewN | apply Kd.R_drew)); exact HO_4.out) hb); have n1_:=zy (Kd.R_below (by (with_reducible repeat (first | apply Kd.R_alloc | apply Kd.R_drewN | apply Kd.R_drew)); exact HO_1325001.out) hb); have n2_:=zy (blk_below (g:=gb1324) (o:=.cells #[.int .i64 t1317,.slice Ao9 t1318.length co9] 34 (0,0)) (by (with_reducible repeat (first | refine blk_drewN ?_ _ | refine blk_drew ?_ | refine blk_alloc ?_ _)); exact BK1324.out) hb); have n3_:=zy (below_step (by repeat (first | (with_reducible first | exact HB.out | apply below_alloc | apply pw_below_drewN | apply below_drew1 | refine below_set ?_ GE1324.out) | exact HB.out)) hb); clear HO_4; clear HO_1325001; clear BK1324; clear HB; have HO_4:=n0_; have HO_1325001:=n1_; have BK1324:=n2_; have HB:=n3_; clear n0_ n1_ n2_ n3_; (try clear hb); (try clear hb2); (try clear hk); (try clear hi)))
    go_ret;exact ⟨by first | rfl | (simp [errW_none,errW_some] <;> rfl) | (simp [*,errW_none,errW_some] <;> rfl),by repeat (first | (with_reducible first | exact HB.out | apply below_alloc | apply pw_below_drewN | apply below_drew1 | refine below_set ?_ GE1324.out) | exact HB.out)⟩
   replace c18:=Bool.eq_false_iff.mpr c18;subst c18;have H1 : (laws_FnTreeCost.l0 kj4 t1321 t1325 0 0 t1317 t1318) = some r:=by rw [if_neg (show ¬ (false = true) by decide)] at H; exact H
   clear H;have H:=H1;clear H1;have H':=zy H;clear H
   go_wp2
   go_loopg [6,7] kj4 (fun kq v6 v7 w' => ∃ (x6_2 : Int) (x7_2 : Int),v6 = .int .i64 x6_2 ∧ v7 = .int .i64 x7_2 ∧ Aside0 (laws_FnTreeCost.l0 kq t1321 t1325 x6_2 x7_2 t1317 t1318 = some r) ∧ Aside0 (kq ≤ kj4) ∧ Aside0 (Kd.R (Kd.int .i64) 3 w' w.heap.size (fun _ => True) (.slice Ao10 t1321.length co10) t1321) ∧ Aside0 (Kd.R k58 58 w' w.heap.size (fun _ => True) (.slice Ao9 t1318.length co9) t1318) ∧ Aside0 (w'.heap[gb1324]? = some (.cells #[.int .i64 t1317,(.slice Ao9 t1318.length co9)] 34 (0,0))) ∧ Aside0 (Below w.heap.size w w'))
   case atStart => exact ⟨(0),(0),(by first | rfl | (simp; done) | (simp [*]; done)),(by first | rfl | (simp; done) | (simp [*]; done)),H',⟨Nat.le_refl _⟩,⟨by (with_reducible repeat (first | apply Kd.R_alloc | apply Kd.R_drewN | apply Kd.R_drew)); exact HO_4.out⟩,⟨by (with_reducible repeat (first | apply Kd.R_alloc | apply Kd.R_drewN | apply Kd.R_drew)); exact HO_1325001.out⟩,⟨by (with_reducible repeat (first | refine blk_drewN ?_ _ | refine blk_drew ?_ | refine blk_alloc ?_ _)); exact BK1324.out⟩,⟨by repeat (first | (with_reducible first | exact HB.out | apply below_alloc | apply pw_below_drewN | apply below_drew1 | refine below_set ?_ GE1324.out) | exact HB.out)⟩⟩
   case round =>
    clear H'
    try clear c1
    try clear c2
    try clear c2b0
    try clear c2b1
    try clear p2
    try clear c5
    try clear c6
    try clear c13
    try clear c13b0
    try clear c13b1
    try clear c18
    try clear hcz14_0
    try clear hcz14_1
    try clear hcz16_0
    try clear hcz16_1
    try clear hcz20_0
    try clear hcz20_1
    try clear hcz8_0
    try clear hcz8_1
    try clear hfz14_0
    try clear hfz14_1
    try clear hfz16_0
    try clear hfz16_1
    try clear hfz20_0
    try clear hfz20_1
    try clear hfz8_0
    try clear hfz8_1
    try clear p2
    obtain ⟨x6_2,x7_2,rfl,rfl,HA,HK2,HO_4,HO_1325001,BK1324,HB⟩:=hrel;cases gk with
    | zero => exact absurd HA.out (by simp [laws_FnTreeCost.l0])
    | succ k2 =>
     have H:=HA.out;clear HA;simp only [laws_FnTreeCost.l0] at H
     by_cases c22 : x7_2 < (t1318.length : Int)
     case pos =>
      rw [if_pos c22] at H;have c22b0 : decide (x7_2 < (t1318.length : Int)) = true:=decide_eq_true c22;clear c22;replace H:=Option.bind_eq_some_iff.mp H;obtain ⟨t1328,A230,H⟩:=H;replace H : (if t1328 = true then (if 0 ≤ x7_2 then (laws_FnTreeCost.l0 k2 t1321 t1325 (wrap64 (x6_2 + ((rd_T58 t1318 x7_2).f2))) (wrap64 (x7_2 + 1)) t1317 t1318) else (none)) else (laws_FnTreeCost.l0 k2 t1321 t1325 x6_2 (wrap64 (x7_2 + 1)) t1317 t1318)) = some r:=H;have A23:=zy A230;clear A230
      by_cases c24 : t1328 = true
      case neg =>
       replace c24:=Bool.eq_false_iff.mpr c24;subst c24;have H1 : (laws_FnTreeCost.l0 k2 t1321 t1325 x6_2 (wrap64 (x7_2 + 1)) t1317 t1318) = some r:=by rw [if_neg (show ¬ (false = true) by decide)] at H; exact H
       clear H;have H:=H1;clear H1;have H':=zy H;clear H;have hcz27_0 : wr.cell? ⟨gb1324,0,none⟩ = some (.int .i64 t1317):=(blk_cell BK1324.out 0).trans rfl;have hcz27_1 : wr.cell? ⟨gb1324,1,none⟩ = some (.slice Ao9 t1318.length co9):=(blk_cell BK1324.out 1).trans rfl;have hfz27_0:=blk_frozen BK1324.out 0;have hfz27_1:=blk_frozen BK1324.out 1
       go_wp2_with (first | ((with_reducible refine gate_callee (f:=53) rfl ?_); refine goesL_ (some 43) rfl rfl Try.func53 (by kernel_rfl) rfl #[.slice Ao10 t1321.length co10,.int .i64 x7_2] rfl (by (try simp only [List.map_toArray,List.map_cons,List.map_nil]); first | done | rfl | (simp only [List.length_drop,List.length_take]; rfl)) ?_; (with_reducible refine (laws_wkIn.calls k2 _ _ t1321 x7_2 false _ ?side1 ?side2 A23.out).mono ?_); (case side1 => repeat (first | exact (Kd.R_reads' HO_4.out).2.2 | (with_reducible refine Kd.C_alloc ?_ _) | (with_reducible refine Kd.C_drewN ?_ _) | (with_reducible refine Kd.C_drew ?_))); (case side2 => exact (Kd.R_reads' HO_4.out).2.1); rintro e w' ⟨rfl,⟨nd,rfl⟩⟩; refine ⟨_,rfl,?_⟩))
       go_roundg k2
       case measure => have:=HJ4.out; have:=HK2.out; omega
       case rel => exact ⟨(x6_2),(wrap64 (x7_2 + 1)),(by first | rfl | (simp; done) | (simp [*]; done)),(by first | rfl | (simp; done) | (simp [*]; done)),H',⟨by have:=HJ4.out; have:=HK2.out; omega⟩,⟨by (with_reducible repeat (first | apply Kd.R_alloc | apply Kd.R_drewN | apply Kd.R_drew)); exact HO_4.out⟩,⟨by (with_reducible repeat (first | apply Kd.R_alloc | apply Kd.R_drewN | apply Kd.R_drew)); exact HO_1325001.out⟩,⟨by (with_reducible repeat (first | refine blk_drewN ?_ _ | refine blk_drew ?_ | refine blk_alloc ?_ _)); exact BK1324.out⟩,⟨by repeat (first | (with_reducible first | exact HB.out | apply below_alloc | apply pw_below_drewN | apply below_drew1 | refine below_set ?_ GE1324.out) | exact HB.out)⟩⟩
      subst c24;have H1 : (if 0 ≤ x7_2 then (laws_FnTreeCost.l0 k2 t1321 t1325 (wrap64 (x6_2 + ((rd_T58 t1318 x7_2).f2))) (wrap64 (x7_2 + 1)) t1317 t1318) else (none)) = some r:=by rw [if_pos rfl] at H; exact H
      clear H;have H:=H1;clear H1
      by_cases c25 : 0 ≤ x7_2
      case neg =>
       rw [if_neg c25] at H;exact absurd H (by simp)
      rw [if_pos c25] at H;have c25b0 : decide (0 ≤ x7_2) = true:=decide_eq_true c25;clear c25;have H':=zy H;clear H;have hcz26_0 : wr.cell? ⟨gb1324,0,none⟩ = some (.int .i64 t1317):=(blk_cell BK1324.out 0).trans rfl;have hcz26_1 : wr.cell? ⟨gb1324,1,none⟩ = some (.slice Ao9 t1318.length co9):=(blk_cell BK1324.out 1).trans rfl;have hfz26_0:=blk_frozen BK1324.out 0;have hfz26_1:=blk_frozen BK1324.out 1
      go_wp2_with (first | ((with_reducible refine gate_callee (f:=53) rfl ?_); refine goesL_ (some 43) rfl rfl Try.func53 (by kernel_rfl) rfl #[.slice Ao10 t1321.length co10,.int .i64 x7_2] rfl (by (try simp only [List.map_toArray,List.map_cons,List.map_nil]); first | done | rfl | (simp only [List.length_drop,List.length_take]; rfl)) ?_; (with_reducible refine (laws_wkIn.calls k2 _ _ t1321 x7_2 true _ ?side1 ?side2 A23.out).mono ?_); (case side1 => repeat (first | exact (Kd.R_reads' HO_4.out).2.2 | (with_reducible refine Kd.C_alloc ?_ _) | (with_reducible refine Kd.C_drewN ?_ _) | (with_reducible refine Kd.C_drew ?_))); (case side2 => exact (Kd.R_reads' HO_4.out).2.1); rintro e w' ⟨rfl,⟨nd,rfl⟩⟩; refine ⟨_,rfl,?_⟩; have p1329 : 0 ≤ (x7_2 : Int):=of_decide_eq_true (by first | (with_reducible assumption) | assumption); have q1329 : x7_2 < (t1318.length : Int):=of_decide_eq_true (by first | (with_reducible assumption) | assumption); obtain ⟨ad1329,e1329,hx1329_0,hx1329_1,hx1329_2,hx1329_3,hx1329_4⟩:=at_T58 (Kd.R_reads' HO_1325001.out).2.2 x7_2 p1329 q1329; cases e1329; replace p1329:=eq_true p1329; replace q1329:=eq_true q1329))
      go_roundg k2
      case measure => have:=HJ4.out; have:=HK2.out; omega
      case rel => exact ⟨(wrap64 (x6_2 + ((rd_T58 t1318 x7_2).f2))),(wrap64 (x7_2 + 1)),(by first | rfl | (simp; done) | (simp [*]; done)),(by first | rfl | (simp; done) | (simp [*]; done)),H',⟨by have:=HJ4.out; have:=HK2.out; omega⟩,⟨by (with_reducible repeat (first | apply Kd.R_alloc | apply Kd.R_drewN | apply Kd.R_drew)); exact HO_4.out⟩,⟨by (with_reducible repeat (first | apply Kd.R_alloc | apply Kd.R_drewN | apply Kd.R_drew)); exact HO_1325001.out⟩,⟨by (with_reducible repeat (first | refine blk_drewN ?_ _ | refine blk_drew ?_ | refine blk_alloc ?_ _)); exact BK1324.out⟩,⟨by repeat (first | (with_reducible first | exact HB.out | apply below_alloc | apply pw_below_drewN | apply below_drew1 | refine below_set ?_ GE1324.out) | exact HB.out)⟩⟩
     rw [if_neg c22] at H;have c22b0 : decide (x7_2 < (t1318.length : Int)) = false:=decide_eq_false c22;clear c22;obtain ⟨y1330,hy1330⟩ : ∃ y_ : List Int,y_ = (([] : List Int)):=⟨_,rfl⟩
     replace H : (if y1330.length + t1321.length < 17592186044416 then ((some (y1330 ++ t1321 : List Int)).bind fun y1333 => (if y1333.length + t1321.length < 17592186044416 then ((some (y1333 ++ t1321 : List Int)).bind fun y1336 => (if x6_2 = t1325 then (if (y1336.length : Int) > 16 then (some true) else ((impl_TreeCost.f k2 t1317 t1318 y1336).bind fun t1339 => (some (t1339 == t1325)))) else (some false))) else (none))) else (none)) = some r:=by first | (rw [hy1330]; with_reducible exact H) | (have H2_:=(Option.bind_some _ _).symm.trans H; rw [hy1330]; with_reducible exact H2_) | (have H2_:=(Option.bind_some _ _).symm.trans H; with_reducible exact H2_) | with_reducible exact H | (rw [hy1330]; exact H) | exact H
     have Ny1330:=zy hy1330;clear hy1330
     by_cases c28 : y1330.length + t1321.length < 17592186044416
     case neg =>
      rw [if_neg c28] at H;exact absurd H (by simp)
     rw [if_pos c28] at H;have LMc28:=zy c28;clear c28;obtain ⟨y1333,hy1333⟩ : ∃ y_ : List Int,y_ = (y1330 ++ t1321):=⟨_,rfl⟩
     replace H : (if y1333.length + t1321.length < 17592186044416 then ((some (y1333 ++ t1321 : List Int)).bind fun y1336 => (if x6_2 = t1325 then (if (y1336.length : Int) > 16 then (some true) else ((impl_TreeCost.f k2 t1317 t1318 y1336).bind fun t1339 => (some (t1339 == t1325)))) else (some false))) else (none)) = some r:=by first | (rw [hy1333]; with_reducible exact H) | (have H2_:=(Option.bind_some _ _).symm.trans H; rw [hy1333]; with_reducible exact H2_) | (have H2_:=(Option.bind_some _ _).symm.trans H; with_reducible exact H2_) | with_reducible exact H | (rw [hy1333]; exact H) | exact H
     have Ny1333:=zy hy1333;clear hy1333
     by_cases c29 : y1333.length + t1321.length < 17592186044416
     case neg =>
      rw [if_neg c29] at H;exact absurd H (by simp)
     rw [if_pos c29] at H;have LMc29:=zy c29;clear c29;obtain ⟨y1336,hy1336⟩ : ∃ y_ : List Int,y_ = (y1333 ++ t1321):=⟨_,rfl⟩
     replace H : (if x6_2 = t1325 then (if (y1336.length : Int) > 16 then (some true) else ((impl_TreeCost.f k2 t1317 t1318 y1336).bind fun t1339 => (some (t1339 == t1325)))) else (some false)) = some r:=by first | (rw [hy1336]; with_reducible exact H) | (have H2_:=(Option.bind_some _ _).symm.trans H; rw [hy1336]; with_reducible exact H2_) | (have H2_:=(Option.bind_some _ _).symm.trans H; with_reducible exact H2_) | with_reducible exact H | (rw [hy1336]; exact H) | exact H
     have Ny1336:=zy hy1336;clear hy1336
     by_cases c30 : x6_2 = t1325
     case neg =>
      rw [if_neg c30] at H;have c30b0 : (x6_2 == t1325) = false:=beq_eq_false_iff_ne.mpr c30;have c30b1 : (x6_2 != t1325) = true:=bne_iff_ne.mpr c30;obtain rfl:=Option.some.inj H;have hcz47_0 : wr.cell? ⟨gb1324,0,none⟩ = some (.int .i64 t1317):=(blk_cell BK1324.out 0).trans rfl;have hcz47_1 : wr.cell? ⟨gb1324,1,none⟩ = some (.slice Ao9 t1318.length co9):=(blk_cell BK1324.out 1).trans rfl;have hfz47_0:=blk_frozen BK1324.out 0;have hfz47_1:=blk_frozen BK1324.out 1
      go_wp2_with (first | ((with_reducible refine gate_dst (N:=52) rfl ?_); (try (refine gate_guard (by rfl) ?_; dsimp only)); refine Kd.R_lit (Kd.int .i64) _ 3 ?hg (N:=52) ?hd (xs:=([] : List Int)) (inner:=[]) (ok:=fun _ => True) (okp:=fun _ => True) ?hr ?hp (fun _ hk => hk) trivial (Below.refl _ _) (Nat.le_refl _) (by simp) ?_; (case hd => rfl); (case hg => rfl); (case hr => first | (go_simp; done) | (go_simp; rfl)); (case hp => exact (Reps.none _ _)); intro v1331 w48 ho49 hb hg_ hnew_; clear hg_ hnew_; (first | rw [← Ny1330.out] at ho49 | (simp only [Int.reduceToNat] at ho49; rw [← Ny1330.out] at ho49)); have n0_:=zy (Kd.R_elder' (by (with_reducible repeat (first | apply Kd.R_alloc | apply Kd.R_drewN | apply Kd.R_drew)); exact HO_4.out) (Kd.R_base ho49) hb); have n1_:=zy (Kd.R_below (by (with_reducible repeat (first | apply Kd.R_alloc | apply Kd.R_drewN | apply Kd.R_drew)); exact HO_1325001.out) hb); have n2_:=zy (Kd.R_lower (Kd.R_new' ho49 (Kd.R_lt (by (with_reducible repeat (first | apply Kd.R_alloc | apply Kd.R_drewN | apply Kd.R_drew)); exact HO_4.out))) (below_size (by repeat (first | (with_reducible first | exact HB.out | apply below_alloc | apply pw_below_drewN | apply below_drew1 | refine below_set ?_ GE1324.out) | exact HB.out)))); have n3_:=zy (blk_below (g:=gb1324) (o:=.cells #[.int .i64 t1317,.slice Ao9 t1318.length co9] 34 (0,0)) (by (with_reducible repeat (first | refine blk_drewN ?_ _ | refine blk_drew ?_ | refine blk_alloc ?_ _)); exact BK1324.out) hb); have n4_:=zy (below_step (by repeat (first | (with_reducible first | exact HB.out | apply below_alloc | apply pw_below_drewN | apply below_drew1 | refine below_set ?_ GE1324.out) | exact HB.out)) hb); clear HO_4; clear HO_1325001; clear BK1324; clear HB; have HO_4:=n0_; have HO_1325001:=n1_; have HO1332:=n2_; have BK1324:=n3_; have HB:=n4_; clear n0_ n1_ n2_ n3_ n4_; clear hb ho49) | ((with_reducible refine gate_builtin (b:=.append) (xs:=#[.tmp 52,.tmp 53]) rfl ?_); (try (refine gate_guard (by rfl) ?_; dsimp only)); at_builtin; refine Kd.R_append_rows (Kd.int .i64) (w0:=w) w.heap.size rfl (.tmp 52) (.tmp 53) 23 3 (.int .i64 0) 8 rfl Try.underlying23 info3 rfl (by decide) (by omega) v1331 y1330 t1321 _ _ _ (fun k_ => some k_ ≠ (.slice Ao10 t1321.length co10 : Value).ownBlock) (fun _ => False) rfl rfl ?aO ?aR (fun _ _ h => h) (fun _ h => h.elim) ?aF ?aB ?aS ?aL ?_; (case aR => repeat (first | exact (Kd.R_reads' HO_4.out).2.2 | (with_reducible refine Kd.C_alloc ?_ _) | (with_reducible refine Kd.C_drewN ?_ _) | (with_reducible refine Kd.C_drew ?_))); (case aB => exact (by repeat (first | (with_reducible first | exact HB.out | apply below_alloc | apply pw_below_drewN | apply below_drew1 | refine below_set ?_ GE1324.out) | exact HB.out))); (case aF => exact (fun k_ hk => Kd.fresh' (Kd.R_lt (by (with_reducible repeat (first | apply Kd.R_alloc | apply Kd.R_drewN | apply Kd.R_drew)); exact HO_4.out)) k_ hk)); (case aO => exact (by (with_reducible repeat (first | apply Kd.R_alloc | apply Kd.R_drewN | apply Kd.R_drew)); exact Kd.R_mono HO1332.out (fun _ hk => hk.2))); (case aS => exact (below_size (by repeat (first | (with_reducible first | exact HB.out | apply below_alloc | apply pw_below_drewN | apply below_drew1 | refine below_set ?_ GE1324.out) | exact HB.out)))); (case aL => have:=LMc28.out; omega); intro v1334 w50 ho hb hg hat; rw [← Ny1333.out] at ho; have n0_:=zy (Kd.R_after (ok:=(fun _ => True)) (by (with_reducible repeat (first | apply Kd.R_alloc | apply Kd.R_drewN | apply Kd.R_drew)); exact HO_4.out) hg hat); have n1_:=zy (Kd.R_over' (by (with_reducible repeat (first | apply Kd.R_alloc | apply Kd.R_drewN | apply Kd.R_drew)); exact HO_1325001.out) (Kd.R_typed (by (with_reducible repeat (first | apply Kd.R_alloc | apply Kd.R_drewN | apply Kd.R_drew)); exact HO1332.out)) (by decide) hg); have n2_:=zy (blk_grown (g:=gb1324) (o:=.cells #[.int .i64 t1317,.slice Ao9 t1318.length co9] 34 (0,0)) (by (with_reducible repeat (first | refine blk_drewN ?_ _ | refine blk_drew ?_ | refine blk_alloc ?_ _)); exact BK1324.out) hg (Kd.R_ne HO1332.out BK1324.out (by decide))); have n3_:=zy (hb); have n4_:=zy (ho); clear HO_4; clear HO_1325001; clear BK1324; clear HB; clear HO1332; have HO_4:=n0_; have HO_1325001:=n1_; have BK1324:=n2_; have HB:=n3_; have HO1335:=n4_; clear n0_ n1_ n2_ n3_ n4_; clear ho hb hg hat) | ((with_reducible refine gate_builtin (b:=.append) (xs:=#[.tmp 54,.tmp 55]) rfl ?_); (try (refine gate_guard (by rfl) ?_; dsimp only)); at_builtin; refine Kd.R_append_rows (Kd.int .i64) (w0:=w) w.heap.size rfl (.tmp 54) (.tmp 55) 23 3 (.int .i64 0) 8 rfl Try.underlying23 info3 rfl (by decide) (by omega) v1334 y1333 t1321 _ _ _ (fun k_ => some k_ ≠ (.slice Ao10 t1321.length co10 : Value).ownBlock) (fun _ => False) rfl rfl ?aO ?aR (fun _ _ h => h) (fun _ h => h.elim) ?aF ?aB ?aS ?aL ?_; (case aR => repeat (first | exact (Kd.R_reads' HO_4.out).2.2 | (with_reducible refine Kd.C_alloc ?_ _) | (with_reducible refine Kd.C_drewN ?_ _) | (with_reducible refine Kd.C_drew ?_))); (case aB => exact (by repeat (first | (with_reducible first | exact HB.out | apply below_alloc | apply pw_below_drewN | apply below_drew1 | refine below_set ?_ GE1324.out) | exact HB.out))); (case aF => exact (fun k_ hk => Kd.fresh' (Kd.R_lt (by (with_reducible repeat (first | apply Kd.R_alloc | apply Kd.R_drewN | apply Kd.R_drew)); exact HO_4.out)) k_ hk)); (case aO => exact (by (with_reducible repeat (first | apply Kd.R_alloc | apply Kd.R_drewN | apply Kd.R_drew)); exact HO1335.out)); (case aS => exact (below_size (by repeat (first | (with_reducible first | exact HB.out | apply below_alloc | apply pw_below_drewN | apply below_drew1 | refine below_set ?_ GE1324.out) | exact HB.out)))); (case aL => have:=LMc29.out; omega); intro v1337 w51 ho hb hg hat; rw [← Ny1336.out] at ho; have n0_:=zy (Kd.R_after (ok:=(fun _ => True)) (by (with_reducible repeat (first | apply Kd.R_alloc | apply Kd.R_drewN | apply Kd.R_drew)); exact HO_4.out) hg hat); have n1_:=zy (Kd.R_over' (by (with_reducible repeat (first | apply Kd.R_alloc | apply Kd.R_drewN | apply Kd.R_drew)); exact HO_1325001.out) (Kd.R_typed (by (with_reducible repeat (first | apply Kd.R_alloc | apply Kd.R_drewN | apply Kd.R_drew)); exact HO1335.out)) (by decide) hg); have n2_:=zy (blk_grown (g:=gb1324) (o:=.cells #[.int .i64 t1317,.slice Ao9 t1318.length co9] 34 (0,0)) (by (with_reducible repeat (first | refine blk_drewN ?_ _ | refine blk_drew ?_ | refine blk_alloc ?_ _)); exact BK1324.out) hg (Kd.R_ne HO1335.out BK1324.out (by decide))); have n3_:=zy (hb); have n4_:=zy (ho); clear HO_4; clear HO_1325001; clear BK1324; clear HB; clear HO1335; have HO_4:=n0_; have HO_1325001:=n1_; have BK1324:=n2_; have HB:=n3_; have HO1338:=n4_; clear n0_ n1_ n2_ n3_ n4_; clear ho hb hg hat))
      go_ret;exact ⟨by first | rfl | (simp [errW_none,errW_some] <;> rfl) | (simp [*,errW_none,errW_some] <;> rfl),by repeat (first | (with_reducible first | exact HB.out | apply below_alloc | apply pw_below_drewN | apply below_drew1 | refine below_set ?_ GE1324.out) | exact HB.out)⟩
     rw [if_pos c30] at H;have c30b0 : (x6_2 == t1325) = true:=beq_iff_eq.mpr c30;have c30b1 : (x6_2 != t1325) = false:=bne_eq_false_iff_eq.mpr c30;clear c30
     by_cases c31 : (y1336.length : Int) > 16
     case pos =>
      rw [if_pos c31] at H;have c31b0 : decide (16 < (y1336.length : Int)) = true:=decide_eq_true c31;have c31b1 : decide (16 < y1336.length) = true:=decide_eq_true (by omega);clear c31;obtain rfl:=Option.some.inj H;have hcz32_0 : wr.cell? ⟨gb1324,0,none⟩ = some (.int .i64 t1317):=(blk_cell BK1324.out 0).trans rfl;have hcz32_1 : wr.cell? ⟨gb1324,1,none⟩ = some (.slice Ao9 t1318.length co9):=(blk_cell BK1324.out 1).trans rfl;have hfz32_0:=blk_frozen BK1324.out 0;have hfz32_1:=blk_frozen BK1324.out 1
      go_wp2_with (first | ((with_reducible refine gate_dst (N:=52) rfl ?_); (try (refine gate_guard (by rfl) ?_; dsimp only)); refine Kd.R_lit (Kd.int .i64) _ 3 ?hg (N:=52) ?hd (xs:=([] : List Int)) (inner:=[]) (ok:=fun _ => True) (okp:=fun _ => True) ?hr ?hp (fun _ hk => hk) trivial (Below.refl _ _) (Nat.le_refl _) (by simp) ?_; (case hd => rfl); (case hg => rfl); (case hr => first | (go_simp; done) | (go_simp; rfl)); (case hp => exact (Reps.none _ _)); intro v1331 w33 ho34 hb hg_ hnew_; clear hg_ hnew_; (first | rw [← Ny1330.out] at ho34 | (simp only [Int.reduceToNat] at ho34; rw [← Ny1330.out] at ho34)); have n0_:=zy (Kd.R_elder' (by (with_reducible repeat (first | apply Kd.R_alloc | apply Kd.R_drewN | apply Kd.R_drew)); exact HO_4.out) (Kd.R_base ho34) hb); have n1_:=zy (Kd.R_below (by (with_reducible repeat (first | apply Kd.R_alloc | apply Kd.R_drewN | apply Kd.R_drew)); exact HO_1325001.out) hb); have n2_:=zy (Kd.R_lower (Kd.R_new' ho34 (Kd.R_lt (by (with_reducible repeat (first | apply Kd.R_alloc | apply Kd.R_drewN | apply Kd.R_drew)); exact HO_4.out))) (below_size (by repeat (first | (with_reducible first | exact HB.out | apply below_alloc | apply pw_below_drewN | apply below_drew1 | refine below_set ?_ GE1324.out) | exact HB.out)))); have n3_:=zy (blk_below (g:=gb1324) (o:=.cells #[.int .i64 t1317,.slice Ao9 t1318.length co9] 34 (0,0)) (by (with_reducible repeat (first | refine blk_drewN ?_ _ | refine blk_drew ?_ | refine blk_alloc ?_ _)); exact BK1324.out) hb); have n4_:=zy (below_step (by repeat (first | (with_reducible first | exact HB.out | apply below_alloc | apply pw_below_drewN | apply below_drew1 | refine below_set ?_ GE1324.out) | exact HB.out)) hb); clear HO_4; clear HO_1325001; clear BK1324; clear HB; have HO_4:=n0_; have HO_1325001:=n1_; have HO1332:=n2_; have BK1324:=n3_; have HB:=n4_; clear n0_ n1_ n2_ n3_ n4_; clear hb ho34) | ((with_reducible refine gate_builtin (b:=.append) (xs:=#[.tmp 52,.tmp 53]) rfl ?_); (try (refine gate_guard (by rfl) ?_; dsimp only)); at_builtin; refine Kd.R_append_rows (Kd.int .i64) (w0:=w) w.heap.size rfl (.tmp 52) (.tmp 53) 23 3 (.int .i64 0) 8 rfl Try.underlying23 info3 rfl (by decide) (by omega) v1331 y1330 t1321 _ _ _ (fun k_ => some k_ ≠ (.slice Ao10 t1321.length co10 : Value).ownBlock) (fun _ => False) rfl rfl ?aO ?aR (fun _ _ h => h) (fun _ h => h.elim) ?aF ?aB ?aS ?aL ?_; (case aR => repeat (first | exact (Kd.R_reads' HO_4.out).2.2 | (with_reducible refine Kd.C_alloc ?_ _) | (with_reducible refine Kd.C_drewN ?_ _) | (with_reducible refine Kd.C_drew ?_))); (case aB => exact (by repeat (first | (with_reducible first | exact HB.out | apply below_alloc | apply pw_below_drewN | apply below_drew1 | refine below_set ?_ GE1324.out) | exact HB.out))); (case aF => exact (fun k_ hk => Kd.fresh' (Kd.R_lt (by (with_reducible repeat (first | apply Kd.R_alloc | apply Kd.R_drewN | apply Kd.R_drew)); exact HO_4.out)) k_ hk)); (case aO => exact (by (with_reducible repeat (first | apply Kd.R_alloc | apply Kd.R_drewN | apply Kd.R_drew)); exact Kd.R_mono HO1332.out (fun _ hk => hk.2))); (case aS => exact (below_size (by repeat (first | (with_reducible first | exact HB.out | apply below_alloc | apply pw_below_drewN | apply below_drew1 | refine below_set ?_ GE1324.out) | exact HB.out)))); (case aL => have:=LMc28.out; omega); intro v1334 w35 ho hb hg hat; rw [← Ny1333.out] at ho; have n0_:=zy (Kd.R_after (ok:=(fun _ => True)) (by (with_reducible repeat (first | apply Kd.R_alloc | apply Kd.R_drewN | apply Kd.R_drew)); exact HO_4.out) hg hat); have n1_:=zy (Kd.R_over' (by (with_reducible repeat (first | apply Kd.R_alloc | apply Kd.R_drewN | apply Kd.R_drew)); exact HO_1325001.out) (Kd.R_typed (by (with_reducible repeat (first | apply Kd.R_alloc | apply Kd.R_drewN | apply Kd.R_drew)); exact HO1332.out)) (by decide) hg); have n2_:=zy (blk_grown (g:=gb1324) (o:=.cells #[.int .i64 t1317,.slice Ao9 t1318.length co9] 34 (0,0)) (by (with_reducible repeat (first | refine blk_drewN ?_ _ | refine blk_drew ?_ | refine blk_alloc ?_ _)); exact BK1324.out) hg (Kd.R_ne HO1332.out BK1324.out (by decide))); have n3_:=zy (hb); have n4_:=zy (ho); clear HO_4; clear HO_1325001; clear BK1324; clear HB; clear HO1332; have HO_4:=n0_; have HO_1325001:=n1_; have BK1324:=n2_; have HB:=n3_; have HO1335:=n4_; clear n0_ n1_ n2_ n3_ n4_; clear ho hb hg hat) | ((with_reducible refine gate_builtin (b:=.append) (xs:=#[.tmp 54,.tmp 55]) rfl ?_); (try (refine gate_guard (by rfl) ?_; dsimp only)); at_builtin; refine Kd.R_append_rows (Kd.int .i64) (w0:=w) w.heap.size rfl (.tmp 54) (.tmp 55) 23 3 (.int .i64 0) 8 rfl Try.underlying23 info3 rfl (by decide) (by omega) v1334 y1333 t1321 _ _ _ (fun k_ => some k_ ≠ (.slice Ao10 t1321.length co10 : Value).ownBlock) (fun _ => False) rfl rfl ?aO ?aR (fun _ _ h => h) (fun _ h => h.elim) ?aF ?aB ?aS ?aL ?_; (case aR => repeat (first | exact (Kd.R_reads' HO_4.out).2.2 | (with_reducible refine Kd.C_alloc ?_ _) | (with_reducible refine Kd.C_drewN ?_ _) | (with_reducible refine Kd.C_drew ?_))); (case aB => exact (by repeat (first | (with_reducible first | exact HB.out | apply below_alloc | apply pw_below_drewN | apply below_drew1 | refine below_set ?_ GE1324.out) | exact HB.out))); (case aF => exact (fun k_ hk => Kd.fresh' (Kd.R_lt (by (with_reducible repeat (first | apply Kd.R_alloc | apply Kd.R_drewN | apply Kd.R_drew)); exact HO_4.out)) k_ hk)); (case aO => exact (by (with_reducible repeat (first | apply Kd.R_alloc | apply Kd.R_drewN | apply Kd.R_drew)); exact HO1335.out)); (case aS => exact (below_size (by repeat (first | (with_reducible first | exact HB.out | apply below_alloc | apply pw_below_drewN | apply below_drew1 | refine below_set ?_ GE1324.out) | exact HB.out)))); (case aL => have:=LMc29.out; omega); intro v1337 w36 ho hb hg hat; rw [← Ny1336.out] at ho; have n0_:=zy (Kd.R_after (ok:=(fun _ => True)) (by (with_reducible repeat (first | apply Kd.R_alloc | apply Kd.R_drewN | apply Kd.R_drew)); exact HO_4.out) hg hat); have n1_:=zy (Kd.R_over' (by (with_reducible repeat (first | apply Kd.R_alloc | apply Kd.R_drewN | apply Kd.R_drew)); exact HO_1325001.out) (Kd.R_typed (by (with_reducible repeat (first | apply Kd.R_alloc | apply Kd.R_drewN | apply Kd.R_drew)); exact HO1335.out)) (by decide) hg); have n2_:=zy (blk_grown (g:=gb1324) (o:=.cells #[.int .i64 t1317,.slice Ao9 t1318.length co9] 34 (0,0)) (by (with_reducible repeat (first | refine blk_drewN ?_ _ | refine blk_drew ?_ | refine blk_alloc ?_ _)); exact BK1324.out) hg (Kd.R_ne HO1335.out BK1324.out (by decide))); have n3_:=zy (hb); have n4_:=zy (ho); clear HO_4; clear HO_1325001; clear BK1324; clear HB; clear HO1335; have HO_4:=n0_; have HO_1325001:=n1_; have BK1324:=n2_; have HB:=n3_; have HO1338:=n4_; clear n0_ n1_ n2_ n3_ n4_; clear ho hb hg hat; obtain ⟨Ao37,co37,eo37⟩:=Kd.R_slice HO1338.out; subst eo37))
      go_ret;exact ⟨by first | rfl | (simp [errW_none,errW_some] <;> rfl) | (simp [*,errW_none,errW_some] <;> rfl),by repeat (first | (with_reducible first | exact HB.out | apply below_alloc | apply pw_below_drewN | apply below_drew1 | refine below_set ?_ GE1324.out) | exact HB.out)⟩
     rw [if_neg c31] at H;have c31b0 : decide (16 < (y1336.length : Int)) = false:=decide_eq_false c31;have c31b1 : decide (16 < y1336.length) = false:=decide_eq_false (by omega);clear c31;replace H:=Option.bind_eq_some_iff.mp H;obtain ⟨t1339,A380,H⟩:=H;replace H : (some (t1339 == t1325)) = some r:=H;have A38:=zy A380;clear A380;obtain rfl:=Option.some.inj H;have hcz39_0 : wr.cell? ⟨gb1324,0,none⟩ = some (.int .i64 t1317):=(blk_cell BK1324.out 0).trans rfl;have hcz39_1 : wr.cell? ⟨gb1324,1,none⟩ = some (.slice Ao9 t1318.length co9):=(blk_cell BK1324.out 1).trans rfl;have hfz39_0:=blk_frozen BK1324.out 0;have hfz39_1:=blk_frozen BK1324.out 1
     go_wp2_with (first | ((with_reducible refine gate_dst (N:=52) rfl ?_); (try (refine gate_guard (by rfl) ?_; dsimp only)); refine Kd.R_lit (Kd.int .i64) _ 3 ?hg (N:=52) ?hd (xs:=([] : List Int)) (inner:=[]) (ok:=fun _ => True) (okp:=fun _ => True) ?hr ?hp (fun _ hk => hk) trivial (Below.refl _ _) (Nat.le_refl _) (by simp) ?_; (case hd => rfl); (case hg => rfl); (case hr => first | (go_simp; done) | (go_simp; rfl)); (case hp => exact (Reps.none _ _)); intro v1331 w40 ho41 hb hg_ hnew_; clear hg_ hnew_; (first | rw [← Ny1330.out] at ho41 | (simp only [Int.reduceToNat] at ho41; rw [← Ny1330.out] at ho41)); have n0_:=zy (Kd.R_elder' (by (with_reducible repeat (first | apply Kd.R_alloc | apply Kd.R_drewN | apply Kd.R_drew)); exact HO_4.out) (Kd.R_base ho41) hb); have n1_:=zy (Kd.R_below (by (with_reducible repeat (first | apply Kd.R_alloc | apply Kd.R_drewN | apply Kd.R_drew)); exact HO_1325001.out) hb); have n2_:=zy (Kd.R_lower (Kd.R_new' ho41 (Kd.R_lt (by (with_reducible repeat (first | apply Kd.R_alloc | apply Kd.R_drewN | apply Kd.R_drew)); exact HO_4.out))) (below_size (by repeat (first | (with_reducible first | exact HB.out | apply below_alloc | apply pw_below_drewN | apply below_drew1 | refine below_set ?_ GE1324.out) | exact HB.out)))); have n3_:=zy (blk_below (g:=gb1324) (o:=.cells #[.int .i64 t1317,.slice Ao9 t1318.length co9] 34 (0,0)) (by (with_reducible repeat (first | refine blk_drewN ?_ _ | refine blk_drew ?_ | refine blk_alloc ?_ _)); exact BK1324.out) hb); have n4_:=zy (below_step (by repeat (first | (with_reducible first | exact HB.out | apply below_alloc | apply pw_below_drewN | apply below_drew1 | refine below_set ?_ GE1324.out) | exact HB.out)) hb); clear HO_4; clear HO_1325001; clear BK1324; clear HB; have HO_4:=n0_; have HO_1325001:=n1_; have HO1332:=n2_; have BK1324:=n3_; have HB:=n4_; clear n0_ n1_ n2_ n3_ n4_; clear hb ho41) | ((with_reducible refine gate_builtin (b:=.append) (xs:=#[.tmp 52,.tmp 53]) rfl ?_); (try (refine gate_guard (by rfl) ?_; dsimp only)); at_builtin; refine Kd.R_append_rows (Kd.int .i64) (w0:=w) w.heap.size rfl (.tmp 52) (.tmp 53) 23 3 (.int .i64 0) 8 rfl Try.underlying23 info3 rfl (by decide) (by omega) v1331 y1330 t1321 _ _ _ (fun k_ => some k_ ≠ (.slice Ao10 t1321.length co10 : Value).ownBlock) (fun _ => False) rfl rfl ?aO ?aR (fun _ _ h => h) (fun _ h => h.elim) ?aF ?aB ?aS ?aL ?_; (case aR => repeat (first | exact (Kd.R_reads' HO_4.out).2.2 | (with_reducible refine Kd.C_alloc ?_ _) | (with_reducible refine Kd.C_drewN ?_ _) | (with_reducible refine Kd.C_drew ?_))); (case aB => exact (by repeat (first | (with_reducible first | exact HB.out | apply below_alloc | apply pw_below_drewN | apply below_drew1 | refine below_set ?_ GE1324.out) | exact HB.out))); (case aF => exact (fun k_ hk => Kd.fresh' (Kd.R_lt (by (with_reducible repeat (first | apply Kd.R_alloc | apply Kd.R_drewN | apply Kd.R_drew)); exact HO_4.out)) k_ hk)); (case aO => exact (by (with_reducible repeat (first | apply Kd.R_alloc | apply Kd.R_drewN | apply Kd.R_drew)); exact Kd.R_mono HO1332.out (fun _ hk => hk.2))); (case aS => exact (below_size (by repeat (first | (with_reducible first | exact HB.out | apply below_alloc | apply pw_below_drewN | apply below_drew1 | refine below_set ?_ GE1324.out) | exact HB.out)))); (case aL => have:=LMc28.out; omega); intro v1334 w42 ho hb hg hat; rw [← Ny1333.out] at ho; have n0_:=zy (Kd.R_after (ok:=(fun _ => True)) (by (with_reducible repeat (first | apply Kd.R_alloc | apply Kd.R_drewN | apply Kd.R_drew)); exact HO_4.out) hg hat); have n1_:=zy (Kd.R_over' (by (with_reducible repeat (first | apply Kd.R_alloc | apply Kd.R_drewN | apply Kd.R_drew)); exact HO_1325001.out) (Kd.R_typed (by (with_reducible repeat (first | apply Kd.R_alloc | apply Kd.R_drewN | apply Kd.R_drew)); exact HO1332.out)) (by decide) hg); have n2_:=zy (blk_grown (g:=gb1324) (o:=.cells #[.int .i64 t1317,.slice Ao9 t1318.length co9] 34 (0,0)) (by (with_reducible repeat (first | refine blk_drewN ?_ _ | refine blk_drew ?_ | refine blk_alloc ?_ _)); exact BK1324.out) hg (Kd.R_ne HO1332.out BK1324.out (by decide))); have n3_:=zy (hb); have n4_:=zy (ho); clear HO_4; clear HO_1325001; clear BK1324; clear HB; clear HO1332; have HO_4:=n0_; have HO_1325001:=n1_; have BK1324:=n2_; have HB:=n3_; have HO1335:=n4_; clear n0_ n1_ n2_ n3_ n4_; clear ho hb hg hat) | ((with_reducible refine gate_builtin (b:=.append) (xs:=#[.tmp 54,.tmp 55]) rfl ?_); (try (refine gate_guard (by rfl) ?_; dsimp only)); at_builtin; refine Kd.R_append_rows (Kd.int .i64) (w0:=w) w.heap.size rfl (.tmp 54) (.tmp 55) 23 3 (.int .i64 0) 8 rfl Try.underlying23 info3 rfl (by decide) (by omega) v1334 y1333 t1321 _ _ _ (fun k_ => some k_ ≠ (.slice Ao10 t1321.length co10 : Value).ownBlock) (fun _ => False) rfl rfl ?aO ?aR (fun _ _ h => h) (fun _ h => h.elim) ?aF ?aB ?aS ?aL ?_; (case aR => repeat (first | exact (Kd.R_reads' HO_4.out).2.2 | (with_reducible refine Kd.C_alloc ?_ _) | (with_reducible refine Kd.C_drewN ?_ _) | (with_reducible refine Kd.C_drew ?_))); (case aB => exact (by repeat (first | (with_reducible first | exact HB.out | apply below_alloc | apply pw_below_drewN | apply below_drew1 | refine below_set ?_ GE1324.out) | exact HB.out))); (case aF => exact (fun k_ hk => Kd.fresh' (Kd.R_lt (by (with_reducible repeat (first | apply Kd.R_alloc | apply Kd.R_drewN | apply Kd.R_drew)); exact HO_4.out)) k_ hk)); (case aO => exact (by (with_reducible repeat (first | apply Kd.R_alloc | apply Kd.R_drewN | apply Kd.R_drew)); exact HO1335.out)); (case aS => exact (below_size (by repeat (first | (with_reducible first | exact HB.out | apply below_alloc | apply pw_below_drewN | apply below_drew1 | refine below_set ?_ GE1324.out) | exact HB.out)))); (case aL => have:=LMc29.out; omega); intro v1337 w43 ho hb hg hat; rw [← Ny1336.out] at ho; have n0_:=zy (Kd.R_after (ok:=(fun _ => True)) (by (with_reducible repeat (first | apply Kd.R_alloc | apply Kd.R_drewN | apply Kd.R_drew)); exact HO_4.out) hg hat); have n1_:=zy (Kd.R_over' (by (with_reducible repeat (first | apply Kd.R_alloc | apply Kd.R_drewN | apply Kd.R_drew)); exact HO_1325001.out) (Kd.R_typed (by (with_reducible repeat (first | apply Kd.R_alloc | apply Kd.R_drewN | apply Kd.R_drew)); exact HO1335.out)) (by decide) hg); have n2_:=zy (blk_grown (g:=gb1324) (o:=.cells #[.int .i64 t1317,.slice Ao9 t1318.length co9] 34 (0,0)) (by (with_reducible repeat (first | refine blk_drewN ?_ _ | refine blk_drew ?_ | refine blk_alloc ?_ _)); exact BK1324.out) hg (Kd.R_ne HO1335.out BK1324.out (by decide))); have n3_:=zy (hb); have n4_:=zy (ho); clear HO_4; clear HO_1325001; clear BK1324; clear HB; clear HO1335; have HO_4:=n0_; have HO_1325001:=n1_; have BK1324:=n2_; have HB:=n3_; have HO1338:=n4_; clear n0_ n1_ n2_ n3_ n4_; clear ho hb hg hat; obtain ⟨Ao44,co44,eo44⟩:=Kd.R_slice HO1338.out; subst eo44; have hcz45_0 : w43.cell? ⟨gb1324,0,none⟩ = some (.int .i64 t1317):=(blk_cell BK1324.out 0).trans rfl; have hcz45_1 : w43.cell? ⟨gb1324,1,none⟩ = some (.slice Ao9 t1318.length co9):=(blk_cell BK1324.out 1).trans rfl; have hfz45_0:=blk_frozen BK1324.out 0; have hfz45_1:=blk_frozen BK1324.out 1) | (go_at_call 60; (with_reducible refine (impl_TreeCost.calls k2 t1317 _ _ t1318 _ _ y1336 t1339 _ ?side1 ?side2 ?side3 ?side4 A38.out).mono ?_); (case side1 => repeat (first | exact (Kd.R_reads' HO_1325001.out).2.2 | (with_reducible refine Kd.C_alloc ?_ _) | (with_reducible refine Kd.C_drewN ?_ _) | (with_reducible refine Kd.C_drew ?_))); (case side2 => exact (Kd.R_reads' HO_1325001.out).2.1); (case side3 => repeat (first | exact (Kd.R_reads' HO1338.out).2.2 | (with_reducible refine Kd.C_alloc ?_ _) | (with_reducible refine Kd.C_drewN ?_ _) | (with_reducible refine Kd.C_drew ?_))); (case side4 => exact (Kd.R_reads' HO1338.out).2.1); rintro e w46 ⟨rfl,hb⟩; have n0_:=zy (Kd.R_below (by (with_reducible repeat (first | apply Kd.R_alloc | apply Kd.R_drewN | apply Kd.R_drew)); exact HO_4.out) hb); have n1_:=zy (Kd.R_below (by (with_reducible repeat (first | apply Kd.R_alloc | apply Kd.R_drewN | apply Kd.R_drew)); exact HO_1325001.out) hb); have n2_:=zy (Kd.R_below (by (with_reducible repeat (first | apply Kd.R_alloc | apply Kd.R_drewN | apply Kd.R_drew)); exact HO1338.out) hb); have n3_:=zy (blk_below (g:=gb1324) (o:=.cells #[.int .i64 t1317,.slice Ao9 t1318.length co9] 34 (0,0)) (by (with_reducible repeat (first | refine blk_drewN ?_ _ | refine blk_drew ?_ | refine blk_alloc ?_ _)); exact BK1324.out) hb); have n4_:=zy (below_step (by repeat (first | (with_reducible first | exact HB.out | apply below_alloc | apply pw_below_drewN | apply below_drew1 | refine below_set ?_ GE1324.out) | exact HB.out)) hb); clear HO_4; clear HO_1325001; clear HO1338; clear BK1324; clear HB; have HO_4:=n0_; have HO_1325001:=n1_; have HO1338:=n2_; have BK1324:=n3_; have HB:=n4_; clear n0_ n1_ n2_ n3_ n4_; (try clear hb); (try clear hb2); (try clear hk); (try clear hi)))
     go_ret;exact ⟨by first | rfl | (simp [errW_none,errW_some] <;> rfl) | (simp [*,errW_none,errW_some] <;> rfl),by repeat (first | (with_reducible first | exact HB.out | apply below_alloc | apply pw_below_drewN | apply below_drew1 | refine below_set ?_ GE1324.out) | exact HB.out)⟩
end Go.Proofs.Ytlhmljngjdfbpaa.Pr
end
section
set_option linter.unusedVariables false
namespace Go.Proofs.YtlhmljngjdfbpaaW.PrintWords
open Go.RowKit Go.ChangeShapes Go.WideShapes
def Opens (P : Program) {α : Type} (d : Kd α) (t : TypeId) (wf : α → Prop) : Prop :=
 ∀ {H : Type} {enc : TypeId × Value → H} {w : World} {sp : Nat → Bool} {held : Bool} {fuel : Nat} {cs : List Value} {x : DataW H × List MemPlace},DataW.trod enc P w 0 sp held fuel t cs = some x → ∃ a,d.K w a cs ∧ wf a
section
variable {P : Program} {α β : Type}
theorem opens_int {t : TypeId} {k : IntKind} (ht : P.underlying t = some (.int k)) : Opens P (Kd.int k) t (fun n => (Lit.int k n).wf = true):=by
 intro H enc w sp held fuel cs x h;obtain ⟨n,rfl,_,hw⟩:=DataW.trod_int ht h;exact ⟨n,rfl,hw⟩
theorem addr_add_add (a : Addr) (i j : Nat) : (a.add i).add j = a.add (i + j):=by
 unfold Addr.add
 by_cases hi : i = 0 <;> by_cases hj : j = 0 <;> simp [hi,hj,Nat.add_assoc]
theorem opens_slice [Inhabited α] {d : Kd α} {t e : TypeId} {wf : α → Prop} (ht : P.underlying t = some (.slice e)) (hc : P.cellsOf e = d.sz) (he : Opens P d e wf) : Opens P (Kd.slice e d) t (fun l => l.length ≤ maxLen ∧ ∀ x ∈ l,wf x):=by
 intro H enc w sp held fuel cs x h
 rcases Deep.open_slice ht h with ⟨rfl,_⟩ | ⟨a,len,cap,m,n,D,Pl,rfl,_,hl,hm,hmm,_,hel⟩
 ·exact ⟨[],⟨none,0,rfl,Nat.le_refl _,Kd.C_nil d w⟩,by simp,by simp⟩
 ·have hlm : len ≤ m:=by rw [hmm]; split <;> omega
  have hx : ∀ i,i < len → ∃ y : α,(∃ c,c.length = d.sz ∧ d.K w y c ∧ ∀ j u,c[j]? = some u → w.cell? (a.add (i * d.sz + j)) = some u) ∧ wf y:=by
   intro i hi;obtain ⟨cs',hcs,htr⟩:=hel i (by omega);obtain ⟨y,hk,hw⟩:=he htr;obtain ⟨_,hlen,hcell⟩:=World.cells?_some hcs;refine ⟨y,⟨cs',d.K_len hk,hk,fun j u hu => ?_⟩,hw⟩;have hj : j < P.cellsOf e:=by
    have:=(List.getElem?_eq_some_iff.1 hu).1;omega
   have:=hcell j hj;rw [addr_add_add,hc,hu] at this;exact this
  obtain ⟨f,hf⟩:=Deep.choose_lt hx;refine ⟨(List.range len).map f,⟨some a,cap,by simp,by simpa using hl,by simp,by simp only [maxLen] at hm; simp; omega,fun _ => ⟨a,rfl,fun j p hj => ?_⟩⟩,by simp; omega,fun y hy => ?_⟩
  ·obtain ⟨hj1,hj2⟩:=List.getElem?_eq_some_iff.1 hj;simp at hj1 hj2;subst hj2;exact (hf j hj1).1
  ·simp only [List.mem_map,List.mem_range] at hy;obtain ⟨i,hi,rfl⟩:=hy;exact (hf i hi).2
end
end Go.Proofs.YtlhmljngjdfbpaaW.PrintWords
end
section
namespace Go.Proofs.Ytlhmljngjdfbpaa.Pr
open Go.RowKit Go.Proofs.YtlhmljngjdfbpaaW.PrintWords Go.Proofs.YtlhmljngjdfbpaaW.PrintLast Go.Proofs.YtlhmljngjdfbpaaW.PrintMore
open List renaming setIfInBounds_toArray → V,set_cons_zero → Z,set_cons_succ → zx
open Go.Proofs.YtlhmljngjdfbpaaW.PrintWords.Aside0 renaming mk → zy
def laws_FnTreeCost.Asked : Prop:=∀ (l0 : List Int),(l0.length ≤ maxLen ∧ ∀ x_ ∈ l0,(Lit.int .u8 x_).wf = true) → ∃ k,laws_FnTreeCost.f k l0 = some true
end Go.Proofs.Ytlhmljngjdfbpaa.Pr
end
section
set_option linter.unusedVariables false
namespace Go.Proofs.YtlhmljngjdfbpaaW.PrintWords
open Go.RowKit
section
variable {α β : Type}
theorem Ev.pos {c : Prop} [Decidable c] {t e : Nat → Option α} {r : α} (h : c) (k : Ev t r) : Ev (fun n => if c then t n else e n) r:=by
 simp only [if_pos h]; exact k
theorem Ev.neg {c : Prop} [Decidable c] {t e : Nat → Option α} {r : α} (h : ¬ c) (k : Ev e r) : Ev (fun n => if c then t n else e n) r:=by
 simp only [if_neg h]; exact k
theorem Ev.bind0 {g : Option α} {f : Nat → α → Option β} {a : α} {r : β} (h : g = some a) (k : Ev (fun n => f n a) r) : Ev (fun n => g.bind (f n)) r:=by
 subst h; exact k
theorem Ev.is {a r : α} (h : a = r) : Ev (fun _ => some a) r:=by subst h; exact Ev.now _
theorem Ev.cast {g : Nat → Option α} {a r : α} (k : Ev g a) (h : a = r) : Ev g r:=h ▸ k
theorem Ev.go {g f : Nat → Option α} {r : α} (k : Ev f r) (h : ∀ k,g (k + 1) = f k) : Ev g r:=Ev.step h k
end
theorem w64 {n : Int} (h : -9223372036854775808 ≤ n) (h' : n ≤ 9223372036854775807) : wrap64 n = n:=by unfold wrap64; omega
theorem rd_nat {l : List Int} {i : Nat} (h : i < l.length) : rd l (i : Int) = l[i]:=by simp [rd,h]
end Go.Proofs.YtlhmljngjdfbpaaW.PrintWords
end
section
set_option linter.unusedSimpArgs false
set_option linter.unusedVariables false
namespace Go.Proofs.Ytlhmljngjdfbpaa.Pure
open Go.RowKit Go.Proofs.Ytlhmljngjdfbpaa.Pr Go.Proofs.YtlhmljngjdfbpaaW.PrintWords Go.Proofs.YtlhmljngjdfbpaaW.PrintLast Go.Proofs.YtlhmljngjdfbpaaW.PrintMore
def inB (x a b : Int) : Bool:=decide (a ≤ x) && decide (x ≤ b)
theorem inB_iff {x a b : Int} : inB x a b = true ↔ a ≤ x ∧ x ≤ b:=by simp [inB]
theorem in1 (x a b : Int) : spec_l1In.f x a b = some (inB x a b):=by
 unfold spec_l1In.f inB
 by_cases h : x ≥ a
 case pos => rw [if_pos h]; simp [show a ≤ x from h]
 rw [if_neg h]; simp [show ¬ a ≤ x from h]
theorem within1 (x a b : Int) : impl_within.f x a b = some (inB x a b):=by
 unfold impl_within.f inB
 by_cases h : x ≥ a
 case pos => rw [if_pos h]; simp [show a ≤ x from h]
 rw [if_neg h]; simp [show ¬ a ≤ x from h]
theorem up1 {i n : Nat} (h : i < n) (hn : n ≤ maxLen) : wrap64 ((i : Int) + 1) = ((i + 1 : Nat) : Int):=by
 simp only [maxLen] at hn;rw [w64 (by omega) (by omega)]; omega
theorem rdn {l : List Int} {i : Nat} (h : i < l.length) : rd l (i : Int) = l[i]:=rd_nat h
def nth (l : List Int) (i : Nat) : Int:=l.getD i 0
theorem rdg {l : List Int} (i : Nat) : rd l (i : Int) = nth l i:=by simp [rd,nth]
theorem nth_get {l : List Int} {i : Nat} (h : i < l.length) : nth l i = l[i]:=by simp [nth,h]
theorem getD_mem {l : List Int} {i : Nat} (h : i < l.length) : nth l i ∈ l:=by
 rw [nth_get h];exact List.getElem_mem h
theorem mem_getD {l : List Int} {x : Int} (h : x ∈ l) : ∃ i,i < l.length ∧ nth l i = x:=by
 obtain ⟨i,hi,rfl⟩:=List.getElem_of_mem h;exact ⟨i,hi,nth_get hi⟩
theorem drop_cons {α : Type} {l : List α} {i : Nat} (h : i < l.length) : l.drop i = l[i] :: l.drop (i + 1):=List.drop_eq_getElem_cons h
def Pv {α : Type} (g : Nat → Option α) (P : α → Prop) : Prop:=∃ r,Ev g r ∧ P r
section
variable {α β : Type} {P : α → Prop}
theorem Pv.of {g : Nat → Option α} {r : α} (h : Ev g r) (hp : P r) : Pv g P:=⟨r,h,hp⟩
theorem Pv.now {a : α} (h : P a) : Pv (fun _ => some a) P:=⟨a,Ev.now a,h⟩
theorem Pv.pos {c : Prop} [Decidable c] {t e : Nat → Option α} (h : c) (k : Pv t P) : Pv (fun n => if c then t n else e n) P:=by
 obtain ⟨r,k,hp⟩:=k;exact ⟨r,Ev.pos h k,hp⟩
theorem Pv.neg {c : Prop} [Decidable c] {t e : Nat → Option α} (h : ¬ c) (k : Pv e P) : Pv (fun n => if c then t n else e n) P:=by
 obtain ⟨r,k,hp⟩:=k;exact ⟨r,Ev.neg h k,hp⟩
theorem Pv.ite {c : Prop} [Decidable c] {t e : Nat → Option α} (h : c → Pv t P) (k : ¬ c → Pv e P) : Pv (fun n => if c then t n else e n) P:=by
 by_cases hc : c
 case neg => exact Pv.neg hc (k hc)
 exact Pv.pos hc (h hc)
theorem Pv.bind {g : Nat → Option β} {f : Nat → β → Option α} {R : β → Prop} (h : Pv g R) (k : ∀ b,R b → Pv (fun n => f n b) P) : Pv (fun n => (g n).bind (f n)) P:=by
 obtain ⟨b,h,hb⟩:=h;obtain ⟨r,k,hp⟩:=k b hb;exact ⟨r,Ev.bind h k,hp⟩
theorem Pv.bind0 {g : Option β} {f : Nat → β → Option α} {b : β} (h : g = some b) (k : Pv (fun n => f n b) P) : Pv (fun n => g.bind (f n)) P:=by
 obtain ⟨r,k,hp⟩:=k;exact ⟨r,Ev.bind0 h k,hp⟩
theorem Pv.go {g f : Nat → Option α} (k : Pv f P) (h : ∀ k,g (k + 1) = f k) : Pv g P:=by
 obtain ⟨r,k,hp⟩:=k;exact ⟨r,Ev.go k h,hp⟩
theorem Pv.mono {g : Nat → Option α} {R : α → Prop} (h : Pv g R) (k : ∀ a,R a → P a) : Pv g P:=by
 obtain ⟨r,h,hr⟩:=h;exact ⟨r,h,k r hr⟩
end
theorem Pv.rounds {g : Nat → Option Bool} (h : Pv g (· = true)) : ∃ k,g k = some true:=by
 obtain ⟨r,h,rfl⟩:=h;exact Ev.rounds h
end Go.Proofs.Ytlhmljngjdfbpaa.Pure
end
section
set_option linter.unusedSimpArgs false
set_option linter.unusedVariables false
namespace Go.Proofs.Ytlhmljngjdfbpaa.Pure
open Go.RowKit Go.Proofs.Ytlhmljngjdfbpaa.Pr Go.Proofs.YtlhmljngjdfbpaaW.PrintWords Go.Proofs.YtlhmljngjdfbpaaW.PrintLast Go.Proofs.YtlhmljngjdfbpaaW.PrintMore
section
variable {t e : Nat → Option Bool} {r : Bool}
theorem Ev.and {b : Bool} (k : Ev t r) : Ev (fun n => if b = true then t n else some false) (b && r):=by
 cases b with
 | false => exact Ev.neg (by simp) (Ev.now _)
 | true => exact Ev.pos rfl k
theorem Ev.nand {c : Prop} [Decidable c] (k : Ev t r) : Ev (fun n => if c then some false else t n) (!decide c && r):=by
 by_cases h : c
 case pos => exact Ev.pos h (Ev.is (by simp [h]))
 exact Ev.neg h (k.cast (by simp [h]))
end
abbrev Arc:=S58
def arc (l : List Arc) (i : Nat) : Arc:=rd_T58 l (i : Int)
theorem rda (l : List Arc) (i : Nat) : rd_T58 l (i : Int) = arc l i:=rfl
theorem arc_get {l : List Arc} {i : Nat} (h : i < l.length) : arc l i = l[i]:=by simp [arc,rd_T58,h]
theorem arc_mem {l : List Arc} {i : Nat} (h : i < l.length) : arc l i ∈ l:=by
 rw [arc_get h];exact List.getElem_mem h
attribute [irreducible] arc
def okArcW (n : Int) (a : Arc) : Bool:=inB a.f0 0 (wrap64 (n - 1)) && (inB a.f1 0 (wrap64 (n - 1)) && (!decide (a.f0 = a.f1) && (inB a.f2 0 99 && (inB a.f3 0 99 && inB a.f4 0 9))))
theorem l1Ok_l (n : Int) (l : List Arc) (hm : l.length ≤ maxLen) : ∀ (m i : Nat),l.length - i = m → i ≤ l.length → Ev (fun k => spec_l1Ok.l0 k (i : Int) n l) ((l.drop i).all (okArcW n) && (inB n 1 8 && decide ((l.length : Int) ≤ 16))):=by
 intro m
 induction m with
 | zero =>
  intro i hd hi;refine Ev.go ?_ (fun k => by rw [spec_l1Ok.l0]);refine Ev.neg (by omega) (Ev.bind0 (in1 _ _ _) ?_);rw [List.drop_of_length_le (by omega)];exact (Ev.and (Ev.now _)).cast (by simp)
 | succ m ih =>
  intro i hd hi;have hlt : i < l.length:=by omega
  refine Ev.go ?_ (fun k => by rw [spec_l1Ok.l0]);rw [drop_cons hlt,← arc_get hlt,List.all_cons,rda,up1 hlt hm];refine Ev.pos (by omega) (Ev.pos (by omega) ?_);refine Ev.cast (Ev.bind0 (in1 _ _ _) (Ev.and (Ev.bind0 (in1 _ _ _) (Ev.and (Ev.nand (Ev.bind0 (in1 _ _ _) (Ev.and (Ev.bind0 (in1 _ _ _) (Ev.and (Ev.bind0 (in1 _ _ _) (Ev.and (ih (i + 1) (by omega) (by omega))))))))))))) ?_;simp only [okArcW,Bool.and_assoc]
theorem okArcW_okArc {n : Int} (h : 1 ≤ n) (h8 : n ≤ 8) (a : Arc) : okArcW n a = okArc n a:=by
 unfold okArcW okArc inB okN okC
 rw [w64 (by omega) (by omega)];have e : (a.f4 ≤ 9) ↔ (a.f4 ≤ 10 - 1):=by omega
 have e2 : (a.f0 == a.f1) = decide (a.f0 = a.f1):=by
  by_cases c : a.f0 = a.f1 <;> simp [c]
 rw [e2];simp only [Bool.and_assoc,e]
theorem l1Ok_ev (n : Int) (l : List Arc) (hm : l.length ≤ maxLen) : Ev (fun k => spec_l1Ok.f k n l) (netOkB n l):=by
 unfold spec_l1Ok.f
 refine (l1Ok_l n l hm _ 0 rfl (by omega)).cast ?_
 unfold netOkB
 rw [List.drop_zero]
 by_cases h : 1 ≤ n ∧ n ≤ 8
 case pos =>
  have e : l.all (okArcW n) = l.all (okArc n):=by
   congr 1
   funext a
   exact okArcW_okArc h.1 h.2 a
  rw [e,show inB n 1 8 = true from inB_iff.2 h];simp [h.1,h.2,Bool.and_comm]
 have e : inB n 1 8 = false:=by
  cases c : inB n 1 8 with
  | false => rfl
  | true => exact absurd (inB_iff.1 c) h
 rw [e];have e2 : (decide (1 ≤ n) && decide (n ≤ 8)) = false:=e;simp only [e2,Bool.false_and,Bool.and_false]
structure NetGood (n : Int) (l : List Arc) : Prop where
 n1 : 1 ≤ n
 n8 : n ≤ 8
 len : l.length ≤ 16
 ok : ∀ i,i < l.length → (0 ≤ (arc l i).f0 ∧ (arc l i).f0 < n) ∧ (0 ≤ (arc l i).f1 ∧ (arc l i).f1 < n) ∧ (arc l i).f0 ≠ (arc l i).f1 ∧ (0 ≤ (arc l i).f2 ∧ (arc l i).f2 ≤ 99) ∧ (0 ≤ (arc l i).f3 ∧ (arc l i).f3 ≤ 99) ∧ (0 ≤ (arc l i).f4 ∧ (arc l i).f4 ≤ 9)
theorem okArc_iff (n : Int) (a : Arc) : okArc n a = true ↔ (0 ≤ a.f0 ∧ a.f0 < n) ∧ (0 ≤ a.f1 ∧ a.f1 < n) ∧ a.f0 ≠ a.f1 ∧ (0 ≤ a.f2 ∧ a.f2 ≤ 99) ∧ (0 ≤ a.f3 ∧ a.f3 ≤ 99) ∧ (0 ≤ a.f4 ∧ a.f4 ≤ 9):=by
 simp only [okArc,okN,okC,Bool.and_eq_true,decide_eq_true_eq,Bool.not_eq_true',beq_eq_false_iff_ne];constructor
 ·rintro ⟨⟨⟨⟨⟨⟨a1,a2⟩,a3,a4⟩,a5⟩,a6⟩,a7⟩,a8,a9⟩;exact ⟨⟨a1,by omega⟩,⟨a3,by omega⟩,a5,a6,a7,a8,by omega⟩
 ·rintro ⟨⟨a1,a2⟩,⟨a3,a4⟩,a5,a6,a7,a8,a9⟩;exact ⟨⟨⟨⟨⟨⟨a1,by omega⟩,a3,by omega⟩,a5⟩,a6⟩,a7⟩,a8,by omega⟩
theorem netOkB_iff (n : Int) (l : List Arc) : netOkB n l = true ↔ NetGood n l:=by
 simp only [netOkB,Bool.and_eq_true,decide_eq_true_eq,List.all_eq_true];constructor
 ·rintro ⟨⟨⟨h1,h2⟩,h3⟩,h4⟩;exact ⟨h1,h2,by omega,fun i hi => (okArc_iff n _).1 (h4 _ (arc_mem hi))⟩
 ·rintro ⟨h1,h2,h3,h4⟩;refine ⟨⟨⟨h1,h2⟩,by omega⟩,fun a ha => ?_⟩;obtain ⟨i,hi,rfl⟩:=List.getElem_of_mem ha;rw [← arc_get hi];exact (okArc_iff n _).2 (h4 i hi)
end Go.Proofs.Ytlhmljngjdfbpaa.Pure
end
section
set_option linter.unusedSimpArgs false
set_option linter.unusedVariables false
namespace Go.Proofs.Ytlhmljngjdfbpaa.Pure
open Go.RowKit Go.Proofs.Ytlhmljngjdfbpaa.Pr Go.Proofs.YtlhmljngjdfbpaaW.PrintWords Go.Proofs.YtlhmljngjdfbpaaW.PrintLast Go.Proofs.YtlhmljngjdfbpaaW.PrintMore
inductive Conn (E : Nat → Nat → Prop) : Nat → Nat → Prop
 | refl (v : Nat) : Conn E v v
 | tail {u v w : Nat} : Conn E u v → (E v w ∨ E w v) → Conn E u w
end Go.Proofs.Ytlhmljngjdfbpaa.Pure
end
section
set_option linter.unusedSimpArgs false
set_option linter.unusedVariables false
set_option linter.unusedSectionVars false
namespace Go.Proofs.Ytlhmljngjdfbpaa.Pure
open Go.RowKit Go.Proofs.Ytlhmljngjdfbpaa.Pr Go.Proofs.YtlhmljngjdfbpaaW.PrintWords Go.Proofs.YtlhmljngjdfbpaaW.PrintLast Go.Proofs.YtlhmljngjdfbpaaW.PrintMore
structure Parts (n : Nat) (E : Nat → Nat → Prop) (F : Nat → Int) : Prop where
 same : ∀ a b,E a b → F a = F b
 low : ∀ v,v < n → F v ≤ v
 conn : ∀ v,v < n → ∃ u : Nat,F v = u ∧ u < n ∧ Conn E u v
section
variable {n : Int} {l : List Arc} (hg : NetGood n l) {x : List Int} (hx : ∀ j,j < x.length → 0 ≤ nth x j ∧ nth x j < l.length)
include hg hx
end
section
variable {n : Int} {l : List Arc} (hg : NetGood n l) {x : List Int} (hx : ∀ j,j < x.length → 0 ≤ nth x j ∧ nth x j < l.length)
include hg hx
end
section
variable {n : Int} {l : List Arc} (hg : NetGood n l) {x : List Int} (hx : ∀ j,j < x.length → 0 ≤ nth x j ∧ nth x j < l.length)
include hg hx
end
section
variable {n : Int} {l : List Arc} (hg : NetGood n l) {x : List Int} (hx : ∀ j,j < x.length → 0 ≤ nth x j ∧ nth x j < l.length) (hm : x.length ≤ 35184372088832)
include hg hx hm
end
end Go.Proofs.Ytlhmljngjdfbpaa.Pure
end
section
set_option linter.unusedSimpArgs false
set_option linter.unusedVariables false
namespace Go.Proofs.Ytlhmljngjdfbpaa.Pure
open Go.RowKit Go.Proofs.Ytlhmljngjdfbpaa.Pr Go.Proofs.YtlhmljngjdfbpaaW.PrintWords Go.Proofs.YtlhmljngjdfbpaaW.PrintLast Go.Proofs.YtlhmljngjdfbpaaW.PrintMore
def arcsB (n : Int) (l : List Arc) (x : List Int) : Bool:=netOkB n l && decide ((x.length : Int) ≤ 16) && x.all (okN (l.length : Int))
theorem arcsB_iff (n : Int) (l : List Arc) (x : List Int) : arcsB n l x = true ↔ NetGood n l ∧ x.length ≤ 16 ∧ ∀ j,j < x.length → 0 ≤ nth x j ∧ nth x j < l.length:=by
 simp only [arcsB,Bool.and_eq_true,netOkB_iff,decide_eq_true_eq,List.all_eq_true,okN];constructor
 ·rintro ⟨⟨h1,h2⟩,h3⟩;refine ⟨h1,by omega,fun j hj => ?_⟩;have:=h3 _ (getD_mem hj);omega
 ·rintro ⟨h1,h2,h3⟩;refine ⟨⟨h1,by omega⟩,fun c hc => ?_⟩;obtain ⟨j,hj,rfl⟩:=mem_getD hc;have:=h3 j hj;omega
end Go.Proofs.Ytlhmljngjdfbpaa.Pure
end
section
set_option linter.unusedVariables false
set_option linter.unusedSimpArgs false
set_option linter.unusedSimpArgs false
end
section
set_option linter.unusedSimpArgs false
set_option linter.unusedVariables false
set_option linter.unusedVariables false
end
section
set_option linter.unusedSectionVars false
namespace Go.Proofs.Ytlhmljngjdfbpaa.Sp
structure G where
 n : Nat
 m : Nat
 fr : Nat → Nat
 tw : Nat → Nat
 w : Nat → Int
 use : Nat → Bool
structure G.Ok (g : G) : Prop where
 fl : ∀ i,i < g.m → g.fr i < g.n
 tl : ∀ i,i < g.m → g.tw i < g.n
 w0 : ∀ i,i < g.m → 0 ≤ g.w i
inductive Wk (g : G) : Nat → Nat → Nat → Int → Prop
 | nil (v : Nat) : Wk g v v 0 0
 | cons {i v k : Nat} {c : Int} : i < g.m → g.use i = true → Wk g (g.tw i) v k c → Wk g (g.fr i) v (k + 1) (g.w i + c)
inductive Sm (g : G) (t : Nat) : Nat → List Nat → Nat → Int → Prop
 | nil : Sm g t t [t] 0 0
 | cons {i k : Nat} {L : List Nat} {c : Int} : i < g.m → g.use i = true → Sm g t (g.tw i) L k c → g.fr i ∉ L → Sm g t (g.fr i) (g.fr i :: L) (k + 1) (g.w i + c)
def Opt (g : G) (t : Nat) (L : Nat → Option Int) : Prop:=∀ v,v < g.n → (∀ x,L v = some x → ∃ k,Wk g v t k x) ∧ (∀ k c,Wk g v t k c → ∃ x,L v = some x ∧ x ≤ c)
def lts (a : Int) : Option Int → Bool
 | none => true
 | some y => decide (a < y)
def put (L : Nat → Option Int) (a : Nat) (x : Int) : Nat → Option Int:=fun v => if v = a then some x else L v
def relax (g : G) (L : Nat → Option Int) (i : Nat) : Nat → Option Int :=
 if g.use i = true then
  match L (g.tw i) with
  | none => L
  | some x => if lts (x + g.w i) (L (g.fr i)) = true then put L (g.fr i) (x + g.w i) else L
 else L
def sweep (g : G) (L : Nat → Option Int) : Nat → (Nat → Option Int)
 | 0 => L
 | i + 1 => relax g (sweep g L i) i
def start (t : Nat) : Nat → Option Int:=fun v => if v = t then some 0 else none
def rounds (g : G) (t : Nat) : Nat → (Nat → Option Int)
 | 0 => start t
 | r + 1 => sweep g (rounds g t r) g.m
end Go.Proofs.Ytlhmljngjdfbpaa.Sp
namespace Go.Proofs.Ytlhmljngjdfbpaa.Sp
structure Dbl (g e s : G) (D : Nat → Option Int) : Prop where
 en : e.n = g.n
 em : e.m = g.m
 ef : e.fr = g.fr
 et : e.tw = g.tw
 eu : e.use = g.use
 ew : ∀ i,i < g.m → e.w i = 1000 * g.w i + 1
 sn : s.n = g.n
 sm : s.m = g.m
 sf : s.fr = g.fr
 st : s.tw = g.tw
 sw : ∀ i,i < g.m → s.w i = 1
 su : ∀ i,i < g.m → (s.use i = true ↔ g.use i = true ∧ ∃ x,D (g.tw i) = some x ∧ D (g.fr i) = some (g.w i + x))
section
variable {g e s : G} {t : Nat} {D S : Nat → Option Int} (h : Dbl g e s D) (ok : g.Ok) (hD : Opt g t D) (hS : Opt s t S) (ht : t < g.n)
include h
end
end Go.Proofs.Ytlhmljngjdfbpaa.Sp
end
section
set_option linter.unusedSimpArgs false
set_option linter.unusedVariables false
set_option linter.unusedSectionVars false
namespace Go.Proofs.Ytlhmljngjdfbpaa.Pure
open Go.RowKit Go.Proofs.Ytlhmljngjdfbpaa.Pr Go.Proofs.YtlhmljngjdfbpaaW.PrintWords Go.Proofs.YtlhmljngjdfbpaaW.PrintLast Go.Proofs.YtlhmljngjdfbpaaW.PrintMore
open Go.Proofs.Ytlhmljngjdfbpaa.Sp (G Wk Opt lts put relax sweep rounds start Dbl)
section
variable {N : Nat} {l : List Arc} (hg : NetGood N l)
include hg
end
section
variable {N : Nat} {l : List Arc} (hg : NetGood N l) {t : Nat} (ht : t < N)
include hg ht
end
def far : Option Int → Int
 | none => 99999
 | some x => x
def hit (g : G) (L : Nat → Option Int) (i : Nat) : Bool:=match L (g.tw i) with
 | none => false
 | some x => lts (x + g.w i) (L (g.fr i))
def fl (g : G) (L : Nat → Option Int) : Nat → Bool
 | 0 => false
 | i + 1 => fl g L i || hit g (sweep g L i) i
section
variable {N : Nat} {l : List Arc} (hg : NetGood N l)
include hg
end
end Go.Proofs.Ytlhmljngjdfbpaa.Pure
end
section
namespace Go.Proofs.Ytlhmljngjdfbpaa.Pr
open Go.RowKit Go.Proofs.YtlhmljngjdfbpaaW.PrintWords Go.Proofs.YtlhmljngjdfbpaaW.PrintLast Go.Proofs.YtlhmljngjdfbpaaW.PrintMore
attribute [local go_sem] max2_int min2_int max_two min_two max_three min_three max_four min_four
set_option linter.unusedVariables false
set_option linter.unusedSimpArgs false
open List renaming setIfInBounds_toArray → V,set_cons_zero → Z,set_cons_succ → zx
open Go.Proofs.YtlhmljngjdfbpaaW.PrintWords.Aside0 renaming mk → zy
mutual
def impl_WalkOk.j0 : Nat → List Int → Bool → Int → List (S58) → Option (Bool)
 | 0,_,_,_,_ => none
 | k + 1,x1,x14,x414000,x414001 => if x14 = true then (some false) else (impl_WalkOk.l0 k x1 x1 (x1.length : Int) 0 x414000 x414001)
def impl_WalkOk.l0 : Nat → List Int → List Int → Int → Int → Int → List (S58) → Option (Bool)
 | 0,_,_,_,_,_,_ => none
 | k + 1,x1,x15,x16,x17,x414000,x414001 => if x17 < x16 then (if 0 ≤ x17 then (if x17 < (x15.length : Int) then ((impl_within.f (rd x15 x17) 0 (wrap64 ((x414001.length : Int) - 1))).bind fun t416 => (if t416 = true then (if x17 > 0 then (if 0 ≤ (wrap64 (x17 - 1)) then (if (wrap64 (x17 - 1)) < (x1.length : Int) then (if 0 ≤ (rd x1 (wrap64 (x17 - 1))) then (if (rd x1 (wrap64 (x17 - 1))) < (x414001.length : Int) then (if 0 ≤ (rd x15 x17) then (if (rd x15 x17) < (x414001.length : Int) then (if ((rd_T58 x414001 (rd x1 (wrap64 (x17 - 1)))).f1) = ((rd_T58 x414001 (rd x15 x17)).f0) then (impl_WalkOk.l0 k x1 x15 x16 (wrap64 (x17 + 1)) x414000 x414001) else (some false)) else (none)) else (none)) else (none)) else (none)) else (none)) else (none)) else (impl_WalkOk.l0 k x1 x15 x16 (wrap64 (x17 + 1)) x414000 x414001)) else (some false))) else (none)) else (none)) else (some true)
end
end Go.Proofs.Ytlhmljngjdfbpaa.Pr
end
section
set_option linter.unusedSimpArgs false
set_option linter.unusedVariables false
set_option linter.unusedSectionVars false
namespace Go.Proofs.Ytlhmljngjdfbpaa.Pure
open Go.RowKit Go.Proofs.Ytlhmljngjdfbpaa.Pr Go.Proofs.YtlhmljngjdfbpaaW.PrintWords Go.Proofs.YtlhmljngjdfbpaaW.PrintLast Go.Proofs.YtlhmljngjdfbpaaW.PrintMore
open Go.Proofs.Ytlhmljngjdfbpaa.Sp (G Wk Opt)
def wkB (l : List Arc) : Option Int → List Int → Bool
 | _,[] => true
 | p,k :: w => (inB k 0 ((l.length : Int) - 1) && (match p with | none => true | some q => decide ((arc l q.toNat).f1 = (arc l k.toNat).f0))) && wkB l (some k) w
def sumW (l : List Arc) (w : List Int) : Int:=(w.map fun k => (arc l k.toNat).f2).sum
theorem sumW_bd {N : Nat} {l : List Arc} (hg : NetGood N l) : ∀ (w : List Int),(∀ k ∈ w,0 ≤ k ∧ k < l.length) → 0 ≤ sumW l w ∧ sumW l w ≤ 99 * (w.length : Int)
 | [],_ => by simp [sumW]
 | k :: w,h => by
  have ih:=sumW_bd hg w (fun x hx => h x (List.mem_cons_of_mem _ hx));have h1:=h k (List.mem_cons_self ..);have h2:=(hg.ok k.toNat (by omega)).2.2.2.1;have e : sumW l (k :: w) = (arc l k.toNat).f2 + sumW l w:=by simp [sumW]
  rw [e,List.length_cons];omega
def prv (w : List Int) : Nat → Option Int
 | 0 => none
 | i + 1 => some (nth w i)
theorem walkOk_l (n : Int) {l : List Arc} (hl : l.length ≤ 1000) {w : List Int} (hw : w.length ≤ 1000) : ∀ (m i : Nat),w.length - i = m → i ≤ w.length → (∀ q,prv w i = some q → 0 ≤ q ∧ q < l.length) → Ev (fun k => impl_WalkOk.l0 k w w (w.length : Int) (i : Int) n l) (wkB l (prv w i) (w.drop i)):=by
 intro m
 induction m with
 | zero =>
  intro i hd hi _;refine Ev.go ?_ (fun k => by rw [impl_WalkOk.l0]);rw [List.drop_of_length_le (by omega)];exact Ev.neg (by omega) (Ev.is (by cases prv w i <;> rfl))
 | succ m ih =>
  intro i hd hi hp;have hlt : i < w.length:=by omega
  refine Ev.go ?_ (fun k => by rw [impl_WalkOk.l0]);rw [rdg i,up1 hlt (by simp only [maxLen]; omega),drop_cons hlt,← nth_get hlt];refine Ev.pos (by omega) (Ev.pos (by omega) (Ev.pos (by omega) (Ev.bind0 (within1 _ _ _) ?_)));rw [w64 (n:=(l.length : Int) - 1) (by omega) (by omega)];cases hb : inB (nth w i) 0 ((l.length : Int) - 1) with
  | false => exact Ev.neg (by simp) (Ev.is (by simp [wkB,hb]))
  | true =>
   have hk:=inB_iff.1 hb;have ih:=ih (i + 1) (by omega) (by omega) (fun q hq => by obtain rfl:=Option.some.inj hq; omega);refine Ev.pos rfl ?_;cases i with
   | zero => exact Ev.neg (by omega) (ih.cast (by simp [wkB,hb,prv]))
   | succ j =>
    have hq:=hp (nth w j) rfl;have e : wrap64 (((j + 1 : Nat) : Int) - 1) = (j : Int):=by rw [w64 (by omega) (by omega)]; omega
    rw [e,rdg j];have ea : ∀ q : Int,0 ≤ q → rd_T58 l q = arc l q.toNat:=fun q h => by rw [← rda]; congr 1; omega
    rw [ea _ hq.1,ea _ hk.1];refine Ev.pos (by omega) (Ev.pos (by omega) (Ev.pos (by omega) (Ev.pos (by omega) (Ev.pos (by omega) (Ev.pos (by omega) (Ev.pos (by omega) ?_))))))
    by_cases c : (arc l (nth w j).toNat).f1 = (arc l (nth w (j + 1)).toNat).f0
    case neg => exact Ev.neg c (Ev.is (by simp [wkB,hb,prv,c]))
    exact Ev.pos c (ih.cast (by simp [wkB,hb,prv,c]))
theorem cost_l {N : Nat} {l : List Arc} (hg : NetGood N l) {w : List Int} (hw : w.length ≤ 1000) (hk : ∀ k ∈ w,0 ≤ k ∧ k < l.length) : ∀ (m i : Nat),w.length - i = m → i ≤ w.length → Ev (fun k => impl_Net_cost.l0 k (sumW l (w.take i)) w (w.length : Int) (i : Int) N l) (sumW l w):=by
 intro m
 induction m with
 | zero =>
  intro i hd hi;refine Ev.go ?_ (fun k => by rw [impl_Net_cost.l0]);rw [List.take_of_length_le (by omega)];exact Ev.neg (by omega) (Ev.now _)
 | succ m ih =>
  intro i hd hi;have hlt : i < w.length:=by omega
  have h1:=hk w[i] (List.getElem_mem hlt);have h2:=(hg.ok w[i].toNat (by omega)).2.2.2.1;have hb:=sumW_bd hg (w.take i) (fun k hx => hk k (List.mem_of_mem_take hx));rw [List.length_take] at hb;refine Ev.go ?_ (fun k => by rw [impl_Net_cost.l0]);have ih:=ih (i + 1) (by omega) (by omega);have e : sumW l (w.take (i + 1)) = sumW l (w.take i) + (arc l w[i].toNat).f2:=by
   unfold sumW
   rw [List.take_succ_eq_append_getElem hlt,List.map_append,List.sum_append_int,List.map_singleton,List.sum_singleton]
  rw [e] at ih;have ea : rd_T58 l w[i] = arc l w[i].toNat:=by rw [← rda]; congr 1; omega
  rw [rdg i,nth_get hlt,ea,up1 hlt (by simp only [maxLen]; omega),w64 (n:=sumW l (w.take i) + _) (by omega) (by omega)];exact Ev.pos (by omega) (Ev.pos (by omega) (Ev.pos (by omega) (Ev.pos (by omega) (Ev.pos (by omega) ih))))
theorem cost_ev {N : Nat} {l : List Arc} (hg : NetGood N l) {w : List Int} (hw : w.length ≤ 1000) (hk : ∀ k ∈ w,0 ≤ k ∧ k < l.length) : Ev (fun k => impl_Net_cost.f k N l w) (sumW l w):=by
 unfold impl_Net_cost.f
 simpa [sumW] using cost_l hg hw hk _ 0 rfl (Nat.zero_le _)
end Go.Proofs.Ytlhmljngjdfbpaa.Pure
end
section
set_option linter.unusedSimpArgs false
set_option linter.unusedVariables false
namespace Go.Proofs.Ytlhmljngjdfbpaa.Dd
def addZ (s : List Int) (x : Int) : List Int:=if x ∈ s then s else s ++ [x]
def dd (xs : List Int) : List Int:=xs.foldl addZ []
theorem addZ_mem {s : List Int} {x y : Int} : y ∈ addZ s x ↔ y ∈ s ∨ y = x:=by
 unfold addZ
 by_cases h : x ∈ s
 case neg =>
  rw [if_neg h];simp
 rw [if_pos h];exact ⟨Or.inl,fun e => e.elim id (fun e => by rw [e]; exact h)⟩
theorem addZ_nodup {s : List Int} {x : Int} (h : s.Nodup) : (addZ s x).Nodup:=by
 unfold addZ
 by_cases hx : x ∈ s
 case pos => rw [if_pos hx]; exact h
 rw [if_neg hx,List.nodup_append];exact ⟨h,by simp,fun a ha b hb e => hx (by rw [List.mem_singleton] at hb; rw [← hb,← e]; exact ha)⟩
theorem fold_nodup : ∀ (xs s : List Int),s.Nodup → (xs.foldl addZ s).Nodup
 | [],_,h => h
 | _ :: xs,s,h => fold_nodup xs _ (addZ_nodup h)
theorem fold_mem {y : Int} : ∀ (xs s : List Int),y ∈ xs.foldl addZ s ↔ y ∈ s ∨ y ∈ xs
 | [],_ => by simp
 | x :: xs,s => by
  rw [List.foldl_cons,fold_mem xs,addZ_mem,List.mem_cons];constructor
  ·rintro ((h | h) | h)
   ·exact .inl h
   ·exact .inr (.inl h)
   ·exact .inr (.inr h)
  ·rintro (h | h | h)
   ·exact .inl (.inl h)
   ·exact .inl (.inr h)
   ·exact .inr h
theorem dd_mem {xs : List Int} {y : Int} : y ∈ dd xs ↔ y ∈ xs:=by unfold dd; rw [fold_mem]; simp
theorem dd_nodup (xs : List Int) : (dd xs).Nodup:=fold_nodup xs [] List.nodup_nil
theorem dd_snoc (xs : List Int) (x : Int) : dd (xs ++ [x]) = addZ (dd xs) x:=by
 unfold dd
 rw [List.foldl_append];rfl
theorem sub_len : ∀ (a b : List Int),a.Nodup → (∀ x ∈ a,x ∈ b) → a.length ≤ b.length
 | [],b,_,_ => Nat.zero_le _
 | x :: a,b,hn,hs => by
  obtain ⟨h1,h2⟩:=List.nodup_cons.1 hn;have hx:=hs x (List.mem_cons_self ..);have ih:=sub_len a (b.erase x) h2 (fun y hy => (List.mem_erase_of_ne (fun e => h1 (by rw [← e]; exact hy))).2 (hs y (List.mem_cons_of_mem _ hy)));rw [List.length_erase_of_mem hx] at ih;have:=List.length_pos_of_mem hx;rw [List.length_cons];omega
end Go.Proofs.Ytlhmljngjdfbpaa.Dd
end
section
set_option linter.unusedSimpArgs false
set_option linter.unusedVariables false
namespace Go.Proofs.Ytlhmljngjdfbpaa.Dd
open Go.Lib
theorem compact_once (zs : List Int) (hs : zs.Pairwise (· ≤ ·)) : ∀ m,m ≤ zs.length → (compactUpTo zs.toArray m).Nodup ∧ ∀ x,x ∈ compactUpTo zs.toArray m ↔ x ∈ zs.take m
 | 0,_ => ⟨by simp [compactUpTo],by simp [compactUpTo]⟩
 | m + 1,hm => by
  obtain ⟨h1,h2⟩:=compact_once zs hs m (by omega);have hlt : m < zs.length:=hm;have e1 : zs.toArray[m]! = zs[m]:=by simp [getElem!_pos,hlt]
  have ht : ∀ x,x ∈ zs.take (m + 1) ↔ x ∈ zs.take m ∨ x = zs[m]:=fun x => by
   rw [List.take_succ_eq_append_getElem hlt,List.mem_append,List.mem_singleton]
  have hle : ∀ i (hi : i < zs.length) j (hj : j < zs.length),i < j → zs[i] ≤ zs[j]:=fun i hi j hj hij => List.pairwise_iff_getElem.1 hs i j hi hj hij
  rw [compactUpTo_succ,e1]
  by_cases hk : keeps zs.toArray m = true
  case neg =>
   rw [if_neg hk,List.append_nil];refine ⟨h1,fun x => ?_⟩;rw [h2,ht]
   unfold keeps at hk
   rw [decide_eq_true_eq,not_or,Classical.not_not] at hk;have e2 : zs.toArray[m - 1]! = zs[m - 1]:=by simp [getElem!_pos,show m - 1 < zs.length by omega]
   have e3:=hk.2;rw [e1,e2] at e3;refine ⟨Or.inl,fun h => h.elim id (fun e => ?_)⟩;rw [e,e3];have : m - 1 < (zs.take m).length:=by simp; omega
   have:=List.getElem_mem this
   rwa [List.getElem_take] at this
  rw [if_pos hk];have hn : zs[m] ∉ zs.take m:=by
   intro h;obtain ⟨i,hi,e⟩:=List.getElem_of_mem h;have hi2 : i < m:=by simp at hi; omega
   rw [List.getElem_take] at e
   unfold keeps at hk
   rw [decide_eq_true_eq] at hk
   rcases hk with hk | hk
   ·omega
   ·have e2 : zs.toArray[m - 1]! = zs[m - 1]:=by simp [getElem!_pos,show m - 1 < zs.length by omega]
    rw [e1,e2] at hk;have a1:=hle (m - 1) (by omega) m hlt (by omega)
    by_cases c : i = m - 1
    case pos => subst c; exact hk e.symm
    have a2:=hle i (by omega) (m - 1) (by omega) (by omega);omega
  refine ⟨?_,fun x => ?_⟩
  ·rw [List.nodup_append];exact ⟨h1,by simp,fun a ha b hb e => hn (by rw [List.mem_singleton] at hb; rw [← hb,← e]; exact (h2 a).1 ha)⟩
  ·rw [List.mem_append,List.mem_singleton,h2,ht]
theorem sorted_pw (x : List Int) : (x.mergeSort fun x y => decide (x ≤ y)).Pairwise (· ≤ ·):=by
 have:=List.pairwise_mergeSort (le:=fun x y : Int => decide (x ≤ y)) (fun a b c h1 h2 => by rw [decide_eq_true_eq] at *; omega) (fun a b => by
  rw [Bool.or_eq_true,decide_eq_true_eq,decide_eq_true_eq]; omega) x
 exact this.imp (fun h => by simpa using h)
theorem sum_same (f : Int → Int) : ∀ (a b : List Int),a.Nodup → b.Nodup → (∀ x,x ∈ a ↔ x ∈ b) → (a.map f).sum = (b.map f).sum
 | [],b,_,_,h => by
  have : b = []:=List.eq_nil_iff_forall_not_mem.2 (fun x hx => by have:=(h x).2 hx; simp at this);rw [this]
 | x :: a,b,hn,hb,h => by
  obtain ⟨h1,h2⟩:=List.nodup_cons.1 hn;have hx:=(h x).1 (List.mem_cons_self ..);obtain ⟨p,q,e⟩:=List.append_of_mem hx;subst e;have hb2:=List.nodup_append.1 hb;obtain ⟨hq1,hq2⟩:=List.nodup_cons.1 hb2.2.1;have hpx : x ∉ p:=fun hp => hb2.2.2 x hp x (List.mem_cons_self ..) rfl
  have ih:=sum_same f a (p ++ q) h2 (List.nodup_append.2 ⟨hb2.1,hq2,fun a ha b hb e => hb2.2.2 a ha b (List.mem_cons_of_mem _ hb) e⟩) (fun y => by
   have hy:=h y;rw [List.mem_cons,List.mem_append,List.mem_cons] at hy;rw [List.mem_append];constructor
   ·intro ha
    rcases hy.1 (.inr ha) with h | h | h
    ·exact .inl h
    ·subst h; exact absurd ha h1
    ·exact .inr h
   ·intro hm;have : y ≠ x:=fun e => by subst e; exact hm.elim hpx hq1
    rcases hy.2 (hm.elim .inl (fun h => .inr (.inr h))) with h | h
    ·exact absurd h this
    ·exact h)
  simp only [List.map_cons,List.sum_cons,List.map_append,List.sum_append] at ih ⊢;omega
end Go.Proofs.Ytlhmljngjdfbpaa.Dd
end
section
set_option linter.unusedSimpArgs false
set_option linter.unusedVariables false
namespace Go.Proofs.Ytlhmljngjdfbpaa.Pure
open Go.RowKit Go.Proofs.Ytlhmljngjdfbpaa.Pr Go.Proofs.YtlhmljngjdfbpaaW.PrintWords Go.Proofs.YtlhmljngjdfbpaaW.PrintLast Go.Proofs.YtlhmljngjdfbpaaW.PrintMore
open Go.Proofs.Ytlhmljngjdfbpaa.Dd (dd dd_mem dd_nodup addZ dd_snoc)
theorem inL_l (x : List Int) (v : Int) (hm : x.length ≤ maxLen) : ∀ (m i : Nat),x.length - i = m → i ≤ x.length → Ev (fun k => spec_l12In.l0 k x v (i : Int)) (decide (v ∈ x.drop i)):=by
 intro m
 induction m with
 | zero =>
  intro i hd hi;refine Ev.go ?_ (fun k => by rw [spec_l12In.l0]);rw [List.drop_of_length_le (by omega)];exact Ev.neg (by omega) (Ev.is (by simp))
 | succ m ih =>
  intro i hd hi;have hlt : i < x.length:=by omega
  have hn:=ih (i + 1) (by omega) (by omega);rw [← up1 hlt hm] at hn;refine Ev.go ?_ (fun k => by rw [spec_l12In.l0]);refine Ev.pos (by omega) (Ev.pos (by omega) ?_);rw [rdn hlt,drop_cons hlt]
  by_cases c : x[i] = v
  case pos => exact Ev.pos c (Ev.is (decide_eq_true (List.mem_cons.2 (.inl c.symm))).symm)
  exact Ev.neg c (hn.cast (by rw [decide_eq_decide]; simp only [List.mem_cons]; exact ⟨.inr,fun h => h.resolve_left (fun e => c e.symm)⟩))
theorem inL_ev (x : List Int) (v : Int) (hm : x.length ≤ maxLen) : Ev (fun k => spec_l12In.f k x v) (decide (v ∈ x)):=by
 have:=inL_l x v hm _ 0 rfl (Nat.zero_le _)
 rwa [List.drop_zero] at this
def costV (n : Int) (l : List Arc) (x : List Int) : Int:=if arcsB n l x = true then sumW l (dd x) else -1
theorem sumW_same (l : List Arc) {a b : List Int} (ha : a.Nodup) (hb : b.Nodup) (h : ∀ x,x ∈ a ↔ x ∈ b) : sumW l a = sumW l b:=Dd.sum_same _ a b ha hb h
theorem once_facts (x : List Int) : (sortedOnce x).Nodup ∧ ∀ y,y ∈ sortedOnce x ↔ y ∈ x:=by
 obtain ⟨h1,h2⟩:=Dd.compact_once (x.mergeSort fun x y => decide (x ≤ y)) (Dd.sorted_pw x) _ (Nat.le_refl _);refine ⟨h1,fun y => ?_⟩
 unfold sortedOnce
 rw [h2,List.take_length];exact (List.mergeSort_perm x _).mem_iff
theorem arcs_rng {n : Int} {l : List Arc} {x : List Int} (h : ∀ j,j < x.length → 0 ≤ nth x j ∧ nth x j < l.length) : ∀ k ∈ x,0 ≤ k ∧ k < l.length:=fun k hk => by
 obtain ⟨j,hj,rfl⟩:=mem_getD hk;exact h j hj
theorem implCost_ev (n : Int) (l : List Arc) (x : List Int) : Ev (fun k => impl_TreeCost.f k n l x) (costV n l x):=by
 unfold impl_TreeCost.f
 refine Ev.bind0 (show impl_arcsOk.f n l x = some (arcsB n l x) from rfl) ?_
 unfold costV
 cases h : arcsB n l x with
 | false => exact Ev.neg (by simp) (Ev.is (by simp))
 | true =>
  obtain ⟨hg,h16,hx⟩:=(arcsB_iff n l x).1 h;have hr:=arcs_rng (n:=n) hx;obtain ⟨N,rfl⟩ : ∃ N : Nat,n = (N : Int):=⟨n.toNat,by have:=hg.n1; omega⟩
  obtain ⟨o1,o2⟩:=once_facts x;have hl:=Dd.sub_len _ x o1 (fun y hy => (o2 y).1 hy);rw [if_pos rfl];refine Ev.pos rfl (Ev.pos (by omega) ((cost_ev hg (by omega) (fun k hk => hr k ((o2 k).1 hk))).cast ?_));exact sumW_same l o1 (dd_nodup x) (fun y => by rw [o2,dd_mem])
theorem specCostNo_l (n : Int) (l : List Arc) (x : List Int) (hl : l.length ≤ maxLen) (hm : x.length ≤ maxLen) : ∀ (m i : Nat) (s : Int),x.length - i = m → i ≤ x.length → (∀ j,j < i → okN (l.length : Int) (nth x j) = true) → arcsB n l x = false → Ev (fun k => spec_TreeCost.l0 k x s (i : Int) n l) (-1):=by
 have hl2:=hl;simp only [maxLen] at hl2;intro m
 induction m with
 | zero =>
  intro i s hd hi hok hno;have e : i = x.length:=by omega
  subst e;have hall : x.all (okN (l.length : Int)) = true:=List.all_eq_true.2 (fun c hc => by
   obtain ⟨j,hj,rfl⟩:=mem_getD hc;exact hok j hj)
  have hb : arcsB n l x = (netOkB n l && decide ((x.length : Int) ≤ 16)):=by unfold arcsB; rw [hall,Bool.and_true]
  rw [hb] at hno;refine Ev.go ?_ (fun k => by rw [spec_TreeCost.l0]);refine Ev.neg (by omega) (Ev.bind (l1Ok_ev n l hl) ?_);cases h : netOkB n l with
  | false => exact Ev.neg (by simp) (Ev.now _)
  | true =>
   rw [h] at hno;refine Ev.pos rfl (Ev.pos ?_ (Ev.now _));simp at hno;omega
 | succ m ih =>
  intro i s hd hi hok hno;have hlt : i < x.length:=by omega
  have hin:=inL_ev (x.take i) (nth x i) (by rw [List.length_take]; omega);refine Ev.go ?_ (fun k => by rw [spec_TreeCost.l0]);refine Ev.pos (by omega) (Ev.pos (by omega) (Ev.bind0 (in1 _ _ _) ?_));rw [rdg i,w64 (by omega) (by omega),Int.toNat_natCast,up1 hlt hm]
  change Ev (fun k => if okN (l.length : Int) (nth x i) = true then _ else _) _
  cases h : okN (l.length : Int) (nth x i) with
  | false => exact Ev.neg (by simp) (Ev.now _)
  | true =>
   have hr : 0 ≤ nth x i ∧ nth x i < l.length:=by
    simp only [okN,Bool.and_eq_true,decide_eq_true_eq] at h;omega
   have hj : ∀ j,j < i + 1 → okN (l.length : Int) (nth x j) = true:=fun j hj => by
    by_cases e : j = i
    case pos => subst e; exact h
    exact hok j (by omega)
   refine Ev.pos rfl (Ev.pos (by omega) (Ev.bind hin ?_));cases decide (nth x i ∈ x.take i) with
   | true => exact Ev.pos rfl (ih (i + 1) s (by omega) (by omega) hj hno)
   | false => exact Ev.neg (by simp) (Ev.pos (by omega) (Ev.pos (by omega) (ih (i + 1) _ (by omega) (by omega) hj hno)))
theorem specCost_l {n : Int} {l : List Arc} (hg : NetGood n l) {x : List Int} (h16 : x.length ≤ 16) (hx : ∀ j,j < x.length → 0 ≤ nth x j ∧ nth x j < l.length) : ∀ (m i : Nat),x.length - i = m → i ≤ x.length → Ev (fun k => spec_TreeCost.l0 k x (sumW l (dd (x.take i))) (i : Int) n l) (sumW l (dd x)):=by
 have hl:=hg.len;have hr:=arcs_rng (n:=n) hx;obtain ⟨N,rfl⟩ : ∃ N : Nat,n = (N : Int):=⟨n.toNat,by have:=hg.n1; omega⟩
 intro m
 induction m with
 | zero =>
  intro i hd hi;have hok:=l1Ok_ev (N : Int) l (by simp only [maxLen]; omega);rw [(netOkB_iff (N : Int) l).2 hg] at hok;refine Ev.go ?_ (fun k => by rw [spec_TreeCost.l0]);rw [show x.take i = x from List.take_of_length_le (by omega)];exact Ev.neg (by omega) (Ev.bind hok (Ev.pos rfl (Ev.neg (by omega) (Ev.now _))))
 | succ m ih =>
  intro i hd hi;have hlt : i < x.length:=by omega
  have h1:=hx i hlt;have hin:=inL_ev (x.take i) (nth x i) (by rw [List.length_take]; simp only [maxLen]; omega);have hn:=ih (i + 1) (by omega) (by omega);have et : x.take (i + 1) = x.take i ++ [nth x i]:=by rw [List.take_succ_eq_append_getElem hlt,nth_get hlt]
  rw [et,dd_snoc] at hn;have hdl : (dd (x.take i)).length ≤ 16:=by
   have:=Dd.sub_len _ (x.take i) (dd_nodup (x.take i)) (fun y hy => dd_mem.1 hy);rw [List.length_take] at this;omega
  have hb:=sumW_bd hg (dd (x.take i)) (fun k hk => hr k (List.mem_of_mem_take (dd_mem.1 hk)));have hc:=(hg.ok (nth x i).toNat (by omega)).2.2.2.1;have ea : rd_T58 l (nth x i) = arc l (nth x i).toNat:=by rw [← rda]; congr 1; omega
  refine Ev.go ?_ (fun k => by rw [spec_TreeCost.l0]);refine Ev.pos (by omega) (Ev.pos (by omega) (Ev.bind0 (in1 _ _ _) ?_));rw [rdg i,w64 (by omega) (by omega),Int.toNat_natCast,up1 hlt (by simp only [maxLen]; omega),ea];have hinb : inB (nth x i) 0 ((l.length : Int) - 1) = true:=inB_iff.2 ⟨h1.1,by omega⟩;refine Ev.pos hinb (Ev.pos (by omega) (Ev.bind hin ?_))
  by_cases c : nth x i ∈ x.take i
  case pos =>
   rw [decide_eq_true c];have e : addZ (dd (x.take i)) (nth x i) = dd (x.take i):=by unfold addZ; rw [if_pos (dd_mem.2 c)]
   rw [e] at hn;exact Ev.pos rfl hn
  rw [decide_eq_false c];have e : addZ (dd (x.take i)) (nth x i) = dd (x.take i) ++ [nth x i]:=by unfold addZ; rw [if_neg (fun h => c (dd_mem.1 h))]
  have e2 : sumW l (dd (x.take i) ++ [nth x i]) = sumW l (dd (x.take i)) + (arc l (nth x i).toNat).f2:=by simp [sumW]
  rw [e,e2] at hn;refine Ev.neg (by simp) (Ev.pos (by omega) (Ev.pos (by omega) ?_));rw [w64 (by omega) (by omega)];exact hn
theorem specCost_ev (n : Int) (l : List Arc) (x : List Int) (hl : l.length ≤ maxLen) (hm : x.length ≤ maxLen) : Ev (fun k => spec_TreeCost.f k n l x) (costV n l x):=by
 unfold spec_TreeCost.f costV
 cases h : arcsB n l x with
 | false => exact specCostNo_l n l x hl hm _ 0 0 rfl (Nat.zero_le _) (fun j h => absurd h (by omega)) h
 | true =>
  obtain ⟨hg,h16,hx⟩:=(arcsB_iff n l x).1 h;exact specCost_l hg h16 hx _ 0 rfl (Nat.zero_le _)
theorem costV_bd (n : Int) (l : List Arc) (x : List Int) : costV n l x = -1 ∧ arcsB n l x = false ∨ arcsB n l x = true ∧ costV n l x = sumW l (dd x) ∧ 0 ≤ sumW l (dd x):=by
 unfold costV
 cases h : arcsB n l x with
 | false => exact .inl ⟨if_neg (by simp),rfl⟩
 | true =>
  obtain ⟨hg,h16,hx⟩:=(arcsB_iff n l x).1 h;obtain ⟨N,rfl⟩ : ∃ N : Nat,n = (N : Int):=⟨n.toNat,by have:=hg.n1; omega⟩
  exact .inr ⟨rfl,if_pos rfl,(sumW_bd hg _ (fun k hk => arcs_rng (n:=N) hx k (dd_mem.1 hk))).1⟩
end Go.Proofs.Ytlhmljngjdfbpaa.Pure
end
section
set_option linter.unusedSimpArgs false
set_option linter.unusedVariables false
namespace Go.Proofs.Ytlhmljngjdfbpaa.Pure
open Go.RowKit Go.Proofs.Ytlhmljngjdfbpaa.Pr Go.Proofs.YtlhmljngjdfbpaaW.PrintWords Go.Proofs.YtlhmljngjdfbpaaW.PrintLast Go.Proofs.YtlhmljngjdfbpaaW.PrintMore
structure Rdr (b : List Int) : Prop where
 len : b.length ≤ 2000
 rng : ∀ i,i < b.length → 0 ≤ nth b i ∧ nth b i ≤ 255
theorem Rdr.rd {b : List Int} (h : Rdr b) (i : Int) : 0 ≤ Go.Proofs.YtlhmljngjdfbpaaW.PrintWords.rd b i ∧ Go.Proofs.YtlhmljngjdfbpaaW.PrintWords.rd b i ≤ 255:=by
 have e : Go.Proofs.YtlhmljngjdfbpaaW.PrintWords.rd b i = nth b i.toNat:=rfl;rw [e]
 by_cases c : i.toNat < b.length
 case pos => exact h.rng _ c
 have c2 : b.length ≤ i.toNat:=by omega
 simp [nth,List.getElem?_eq_none c2]
theorem tm {x a : Int} (hx : 0 ≤ x) (ha : 0 < a) : 0 ≤ Int.tmod x a ∧ Int.tmod x a < a:=by
 rw [Int.tmod_eq_emod_of_nonneg hx];exact ⟨Int.emod_nonneg _ (by omega),Int.emod_lt_of_pos _ ha⟩
theorem td {x a : Int} (hx : 0 ≤ x) (ha : 0 < a) : 0 ≤ Int.tdiv x a ∧ Int.tdiv x a ≤ x:=by
 rw [Int.tdiv_eq_ediv_of_nonneg hx];exact ⟨Int.ediv_nonneg hx (by omega),Int.ediv_le_self _ hx⟩
theorem xor_nn {x y : Int} (hx : 0 ≤ x) (hx' : x < 4294967296) (hy : 0 ≤ y) (hy' : y < 4294967296) : 0 ≤ Go.bits .xor .i64 x y:=by
 obtain ⟨x,rfl⟩:=Int.eq_ofNat_of_zero_le hx;obtain ⟨y,rfl⟩:=Int.eq_ofNat_of_zero_le hy;have h1 : x ^^^ y < 2 ^ 32:=Nat.xor_lt_two_pow (by omega) (by omega);have e : Go.bits .xor .i64 ((x : Nat) : Int) ((y : Nat) : Int) = wrap64 (((BitVec.ofInt 64 ((x : Nat) : Int) ^^^ BitVec.ofInt 64 ((y : Nat) : Int)).toNat : Nat) : Int):=by
  unfold Go.bits
  simp only [i64_w];rfl
 rw [e,BitVec.toNat_xor,BitVec.ofInt_natCast,BitVec.ofInt_natCast,BitVec.toNat_ofNat,BitVec.toNat_ofNat,Nat.mod_eq_of_lt (by omega),Nat.mod_eq_of_lt (by omega),w64 (by omega) (by omega)];omega
theorem pick_pv {b : List Int} (h : Rdr b) {p a : Int} (hp : 0 ≤ p) (hp' : p ≤ 1000000) : Pv (fun k => spec_l30Rd_pick.f k b p a) (fun r => (0 ≤ r.1 ∧ (a < 1 → r.1 = 0) ∧ (1 ≤ a → r.1 < a)) ∧ r.2 = p + 1):=by
 have w1 : wrap64 (p + 1) = p + 1:=w64 (by omega) (by omega);have w2 : wrap64 (p + 1 - 1) = p:=by rw [w64 (by omega) (by omega)]; omega
 unfold spec_l30Rd_pick.f
 refine Pv.ite (fun c => ?_) (fun c => ?_)
 ·refine Pv.go ?_ (fun k => by rw [spec_l30Rd_pick.j0]);exact Pv.pos rfl (Pv.now ⟨⟨Int.le_refl _,fun _ => rfl,fun c2 => by omega⟩,w1⟩)
 ·refine Pv.go ?_ (fun k => by rw [spec_l30Rd_pick.j0]);refine Pv.ite (fun _ => Pv.now ⟨⟨Int.le_refl _,fun _ => rfl,fun c2 => by dsimp only; omega⟩,w1⟩) (fun c0 => ?_);have hb : 0 < (b.length : Int):=by
   have : (b.length : Int) ≠ 0:=by simpa using c0
   omega
  have hb2:=h.len;rw [w1,w2];have fin : ∀ X : Int,0 ≤ X → Pv (fun _ => some (Int.tmod X a,p + 1)) (fun r => (0 ≤ r.1 ∧ (a < 1 → r.1 = 0) ∧ (1 ≤ a → r.1 < a)) ∧ r.2 = p + 1):=by
   intro X hX;have:=tm hX (show 0 < a by omega);exact Pv.now ⟨⟨this.1,fun c2 => absurd c2 c,fun _ => this.2⟩,rfl⟩
  refine Pv.ite (fun c1 => Pv.pos hp (Pv.neg (by omega) ?_)) (fun c1 => ?_)
  ·have:=h.rd p;rw [w64 (n:=Go.Proofs.YtlhmljngjdfbpaaW.PrintWords.rd b p) (by omega) (by omega)];exact fin _ (by omega)
  ·have t1:=tm hp hb;have e1 : wrap64 (p * 7) = p * 7:=w64 (by omega) (by omega);have e2 : wrap64 (p * 7 + 3) = p * 7 + 3:=w64 (by omega) (by omega);rw [e1,e2];have t2:=tm (show 0 ≤ p * 7 + 3 by omega) hb;have r1:=h.rd (Int.tmod p b.length);have r2:=h.rd (Int.tmod (p * 7 + 3) b.length);have d1:=td hp hb;refine Pv.neg (by omega) (Pv.pos t1.1 (Pv.pos t1.2 (Pv.pos t2.1 (Pv.pos t2.2 (Pv.neg (by omega) ?_)))));generalize Go.Proofs.YtlhmljngjdfbpaaW.PrintWords.rd b (Int.tmod p b.length) = u at r1;generalize Go.Proofs.YtlhmljngjdfbpaaW.PrintWords.rd b (Int.tmod (p * 7 + 3) b.length) = v at r2;generalize Int.tdiv p b.length = q at d1;rw [w64 (n:=u) (by omega) (by omega),w64 (n:=v) (by omega) (by omega),w64 (n:=q) (by omega) (by omega),w64 (n:=u * 131) (by omega) (by omega),w64 (n:=v * 1117) (by omega) (by omega),w64 (n:=p * 29) (by omega) (by omega),w64 (n:=q * 53) (by omega) (by omega),w64 (n:=u * 131 + v * 1117) (by omega) (by omega),w64 (n:=u * 131 + v * 1117 + p * 29) (by omega) (by omega),w64 (n:=u * 131 + v * 1117 + p * 29 + q * 53) (by omega) (by omega)];have d2:=td (show 0 ≤ u * 131 + v * 1117 + p * 29 + q * 53 by omega) (show (0 : Int) < 64 by omega);generalize Int.tdiv (u * 131 + v * 1117 + p * 29 + q * 53) 64 = z at d2;rw [w64 (n:=z) (by omega) (by omega)];exact fin _ (xor_nn (by omega) (by omega) (by omega) (by omega))
theorem one_pv {b : List Int} (h : Rdr b) {p : Int} (hp : 0 ≤ p) (hp' : p ≤ 1000000) {l : List Int} (hl : 0 < l.length) : Pv (fun k => spec_l30Rd_one.f k b p l) (fun r => r.1 ∈ l ∧ r.2 = p + 1):=by
 unfold spec_l30Rd_one.f
 refine Pv.bind (pick_pv h hp hp') (fun r ⟨⟨h1,_,h2⟩,h3⟩ => ?_);have h2:=h2 (by omega);refine Pv.pos h1 (Pv.pos h2 (Pv.now ⟨?_,h3⟩));have e : Go.Proofs.YtlhmljngjdfbpaaW.PrintWords.rd l r.1 = nth l r.1.toNat:=rfl;dsimp only;rw [e];exact getD_mem (by omega)
theorem u8_range {x : Int} (h : (Lit.int .u8 x).wf = true) : 0 ≤ x ∧ x ≤ 255:=by
 simp only [Lit.wf] at h;have h2 : IntKind.u8.min ≤ x ∧ x ≤ IntKind.u8.max:=by simpa using h
 have e1 : IntKind.u8.min = 0:=by decide
 have e2 : IntKind.u8.max = 255:=by decide
 omega
theorem open_pv {l : List Int} (hl : ∀ x ∈ l,(Lit.int .u8 x).wf = true) : ∃ b,spec_l30Open.f l = some (b,0) ∧ Rdr b:=by
 have key : ∀ m : List Int,m.length ≤ 2000 → (∀ x ∈ m,x ∈ l) → Rdr m:=fun m h1 h2 => ⟨h1,fun i hi => u8_range (hl _ (h2 _ (getD_mem hi)))⟩
 unfold spec_l30Open.f
 by_cases c : (l.length : Int) > 2000
 case neg =>
  rw [if_neg c];exact ⟨_,rfl,key _ (by omega) (fun x hx => hx)⟩
 rw [if_pos c,if_pos (by omega)];exact ⟨_,rfl,key _ (by simp; omega) (fun x hx => List.mem_of_mem_take hx)⟩
def NetSz (p : Int) (r : Int × List Arc × Int) : Prop:=(0 ≤ r.1 ∧ r.1 ≤ 9) ∧ r.2.1.length ≤ 13 ∧ (p ≤ r.2.2 ∧ r.2.2 ≤ p + 100)
theorem net_l {b : List Int} (h : Rdr b) (n : Int) (hn : 1 ≤ n ∧ n ≤ 9) : ∀ (m : Nat) (p : Int) (l : List Arc),0 ≤ p → p + 6 * m ≤ 100000 → m ≤ 13 → l.length ≤ 13 - m → Pv (fun k => spec_l30Net.l0 k (m : Int) b p n l) (fun r => r.1 = n ∧ r.2.1.length ≤ 13 ∧ (p ≤ r.2.2 ∧ r.2.2 ≤ p + 6 * m)):=by
 intro m
 induction m with
 | zero =>
  intro p l hp hp' hm hl;refine Pv.go ?_ (fun k => by rw [spec_l30Net.l0]);exact Pv.neg (by omega) (Pv.now ⟨rfl,by dsimp only; omega,by dsimp only; omega⟩)
 | succ m ih =>
  intro p l hp hp' hm hl;have hw : wrap64 (((m + 1 : Nat) : Int) - 1) = (m : Int):=by rw [w64 (by omega) (by omega)]; omega
  refine Pv.go ?_ (fun k => by rw [spec_l30Net.l0]);rw [hw];refine Pv.pos (by omega) (Pv.bind (pick_pv h hp (by omega)) (fun r1 ⟨a1,e1⟩ => Pv.bind (pick_pv h (p:=r1.2) (by omega) (by omega)) (fun r2 ⟨a2,e2⟩ => Pv.bind (pick_pv h (p:=r2.2) (by omega) (by omega)) (fun r3 ⟨a3,e3⟩ => Pv.bind (one_pv h (p:=r3.2) (by omega) (by omega) (by simp)) (fun r4 ⟨a4,e4⟩ => Pv.bind (one_pv h (p:=r4.2) (by omega) (by omega) (by simp)) (fun r5 ⟨a5,e5⟩ => Pv.bind (pick_pv h (p:=r5.2) (by omega) (by omega)) (fun r6 ⟨a6,e6⟩ => ?_)))))));have step : ∀ x : Arc,Pv (fun k => spec_l30Net.l0 k (m : Int) b r6.2 n (l ++ [x])) (fun r => r.1 = n ∧ r.2.1.length ≤ 13 ∧ (p ≤ r.2.2 ∧ r.2.2 ≤ p + 6 * ((m + 1 : Nat) : Int))):=fun x => (ih r6.2 (l ++ [x]) (by omega) (by omega) (by omega) (by simp; omega)).mono (fun r hr => ⟨hr.1,hr.2.1,by omega,by omega⟩)
  refine Pv.ite (fun _ => Pv.neg (by omega) (Pv.pos (by omega) (step _))) (fun _ => Pv.pos (by omega) (step _))
theorem net_pv {b : List Int} (h : Rdr b) {p : Int} (hp : 0 ≤ p) (hp' : p ≤ 10000) : Pv (fun k => spec_l30Net.f k b p) (fun r => (2 ≤ r.1 ∧ r.1 ≤ 6) ∧ r.2.1.length ≤ 13 ∧ (p ≤ r.2.2 ∧ r.2.2 ≤ p + 90)):=by
 unfold spec_l30Net.f
 refine Pv.bind (pick_pv h hp (by omega)) (fun r1 ⟨a1,e1⟩ => Pv.bind (pick_pv h (p:=r1.2) (by omega) (by omega)) (fun r2 ⟨a2,e2⟩ => ?_));have b1:=a1.2.2 (by omega);have b2:=a2.2.2 (by omega);have hw : wrap64 (2 + r1.1) = 2 + r1.1:=w64 (by omega) (by omega);rw [hw];have:=net_l h (2 + r1.1) (by omega) r2.1.toNat r2.2 [] (by omega) (by omega) (by omega) (by simp);rw [Int.toNat_of_nonneg a2.1] at this;exact this.mono (fun r hr => ⟨⟨by omega,by omega⟩,hr.2.1,by omega,by omega⟩)
theorem anyNet_pv {b : List Int} (h : Rdr b) {p : Int} (hp : 0 ≤ p) (hp' : p ≤ 10000) : Pv (fun k => spec_l30AnyNet.f k b p) (NetSz p):=by
 unfold spec_l30AnyNet.f
 refine Pv.bind (net_pv h hp hp') (fun r0 ⟨a0,l0,e0⟩ => ?_);refine Pv.ite (fun c => ?_) (fun c => Pv.now ⟨by dsimp only; omega,l0,by dsimp only; omega⟩);refine Pv.bind (pick_pv h (p:=r0.2.2) (by omega) (by omega)) (fun r1 ⟨a1,e1⟩ => Pv.bind (pick_pv h (p:=r1.2) (by omega) (by omega)) (fun r2 ⟨a2,e2⟩ => ?_));have b1:=a1.2.2 (by omega);refine Pv.ite (fun c1 => Pv.pos a1.1 (Pv.pos b1 (Pv.bind (one_pv h (p:=r2.2) (by omega) (by omega) (by simp)) (fun r3 ⟨a3,e3⟩ => Pv.now ⟨by dsimp only; omega,by simpa using l0,by dsimp only; omega⟩)))) (fun c1 => ?_);refine Pv.ite (fun c2 => Pv.bind (one_pv h (p:=r2.2) (by omega) (by omega) (by simp)) (fun r3 ⟨a3,e3⟩ => Pv.pos a1.1 (Pv.pos b1 (Pv.now ⟨by dsimp only; omega,by simpa using l0,by dsimp only; omega⟩)))) (fun c2 => ?_);refine Pv.ite (fun c3 => Pv.bind (one_pv h (p:=r2.2) (by omega) (by omega) (by simp)) (fun r3 ⟨a3,e3⟩ => Pv.now ⟨?_,l0,by dsimp only; omega⟩)) (fun c3 => Pv.now ⟨by dsimp only; omega,l0,by dsimp only; omega⟩);simp only [List.mem_cons,List.not_mem_nil,or_false] at a3;dsimp only;omega
theorem drawParts_l {b : List Int} (h : Rdr b) (n : Int) (l : List Arc) (hl : l.length ≤ 13) : ∀ (m : Nat) (p : Int) (x : List Int),(0 ≤ p ∧ p + m ≤ 100000) → m ≤ 5 → x.length + m ≤ 5 → Pv (fun k => spec_DrawTreeParts.l0 k x (m : Int) b p n l) (fun r => r.1 = n ∧ r.2.1 = l ∧ r.2.2.length ≤ 6):=by
 intro m
 induction m with
 | zero =>
  intro p x hp hm hx;refine Pv.go ?_ (fun k => by rw [spec_DrawTreeParts.l0]);refine Pv.neg (by omega) (Pv.bind (pick_pv h (by omega) (by omega)) (fun r1 ⟨a1,e1⟩ => ?_));exact Pv.ite (fun _ => Pv.pos (by omega) (Pv.now ⟨rfl,rfl,by simp; omega⟩)) (fun _ => Pv.now ⟨rfl,rfl,by dsimp only; omega⟩)
 | succ m ih =>
  intro p x hp hm hx;refine Pv.go ?_ (fun k => by rw [spec_DrawTreeParts.l0]);have w2 : wrap64 (((m + 1 : Nat) : Int) - 1) = (m : Int):=by rw [w64 (by omega) (by omega)]; omega
  rw [w2];refine Pv.pos (by omega) (Pv.ite (fun _ => ?_) (fun _ => ?_))
  ·exact Pv.bind (pick_pv h (by omega) (by omega)) (fun r1 ⟨a1,e1⟩ => Pv.pos (by omega) (ih r1.2 (x ++ [r1.1]) (by omega) (by omega) (by simp; omega)))
  ·refine Pv.bind (pick_pv h (by omega) (by omega)) (fun r1 ⟨a1,e1⟩ => ?_);exact Pv.ite (fun _ => Pv.pos (by omega) (Pv.now ⟨rfl,rfl,by simp; omega⟩)) (fun _ => Pv.now ⟨rfl,rfl,by dsimp only; omega⟩)
theorem drawParts_pv {x : List Int} (hx : ∀ c ∈ x,(Lit.int .u8 c).wf = true) : Pv (fun k => spec_DrawTreeParts.f k x) (fun r => r.2.1.length ≤ 13 ∧ r.2.2.length ≤ 6):=by
 unfold spec_DrawTreeParts.f
 obtain ⟨b,e,hb⟩:=open_pv hx;refine Pv.bind0 e (Pv.bind (anyNet_pv hb (p:=0) (by omega) (by omega)) (fun r1 h1 => Pv.bind (pick_pv hb (p:=r1.2.2) (by have:=h1.2.2; omega) (by have:=h1.2.2; omega)) (fun r2 ⟨a2,e2⟩ => ?_)));have b2:=a2.2.2 (by omega);have h3:=h1.2.2;have:=drawParts_l hb r1.1 r1.2.1 h1.2.1 r2.1.toNat r2.2 [] (by omega) (by omega) (by simp; omega);rw [Int.toNat_of_nonneg a2.1] at this;exact this.mono (fun r hr => ⟨by rw [hr.2.1]; exact h1.2.1,hr.2.2⟩)
theorem wkIn_l (a : List Int) (v : Int) (hm : a.length ≤ maxLen) : ∀ (m i : Nat),a.length - i = m → i ≤ a.length → Ev (fun k => laws_wkIn.l0 k a v (i : Int)) (decide (v ∈ a.drop i)):=by
 intro m
 induction m with
 | zero =>
  intro i hd hi;refine Ev.go ?_ (fun k => by rw [laws_wkIn.l0]);refine Ev.neg (by omega) (Ev.is ?_);rw [List.drop_of_length_le (by omega)];simp
 | succ m ih =>
  intro i hd hi;have hlt : i < a.length:=by omega
  refine Ev.go ?_ (fun k => by rw [laws_wkIn.l0]);refine Ev.pos (by omega) (Ev.pos (by omega) ?_);rw [rdn hlt,up1 hlt hm,drop_cons hlt]
  by_cases c : a[i] = v
  case pos => exact Ev.pos c (Ev.is (decide_eq_true (List.mem_cons.2 (.inl c.symm))).symm)
  exact Ev.neg c ((ih (i + 1) (by omega) (by omega)).cast (by rw [decide_eq_decide]; simp only [List.mem_cons]; exact ⟨.inr,fun h => h.resolve_left (fun e => c e.symm)⟩))
theorem wkIn_ev (a : List Int) (v : Int) (hm : a.length ≤ maxLen) : Ev (fun k => laws_wkIn.f k a v) (decide (v ∈ a)):=by
 unfold laws_wkIn.f
 simpa using wkIn_l a v hm _ 0 rfl (Nat.zero_le _)
end Go.Proofs.Ytlhmljngjdfbpaa.Pure
end
section
set_option linter.unusedSimpArgs false
set_option linter.unusedVariables false
namespace Go.Proofs.Ytlhmljngjdfbpaa.Pure
open Go.RowKit Go.Proofs.Ytlhmljngjdfbpaa.Pr Go.Proofs.YtlhmljngjdfbpaaW.PrintWords Go.Proofs.YtlhmljngjdfbpaaW.PrintLast Go.Proofs.YtlhmljngjdfbpaaW.PrintMore
open Go.Proofs.Ytlhmljngjdfbpaa.Dd (dd dd_mem dd_nodup)
def below (x : List Int) (i : Nat) : List Int:=((List.range i).map fun j => ((j : Nat) : Int)).filter fun k => decide (k ∈ x)
theorem below_mem (x : List Int) (i : Nat) (y : Int) : y ∈ below x i ↔ (0 ≤ y ∧ y < (i : Int)) ∧ y ∈ x:=by
 unfold below
 rw [List.mem_filter,List.mem_map,decide_eq_true_eq];constructor
 ·rintro ⟨⟨j,hj,rfl⟩,h⟩;have:=List.mem_range.1 hj;exact ⟨by omega,h⟩
 ·rintro ⟨h1,h2⟩;exact ⟨⟨y.toNat,List.mem_range.2 (by omega),by omega⟩,h2⟩
theorem below_step (x : List Int) (i : Nat) : below x (i + 1) = if (i : Int) ∈ x then below x i ++ [(i : Int)] else below x i:=by
 unfold below
 rw [List.range_succ,List.map_append,List.filter_append]
 by_cases h : (i : Int) ∈ x
 case neg => rw [if_neg h]; simp [h]
 rw [if_pos h]; simp [h]
theorem below_nodup (x : List Int) : ∀ i,(below x i).Nodup
 | 0 => by simp [below]
 | i + 1 => by
  rw [below_step]
  split
  ·rw [List.nodup_append];exact ⟨below_nodup x i,by simp,fun a ha b hb e => by
    rw [List.mem_singleton] at hb;have:=((below_mem x i a).1 ha).1.2;omega⟩
  ·exact below_nodup x i
theorem below_len (x : List Int) (i : Nat) : (below x i).length ≤ i:=by
 unfold below
 exact Nat.le_trans (List.length_filter_le _ _) (by simp)
section
variable {N : Nat} {l : List Arc} (hg : NetGood N l) {x : List Int} (h16 : x.length ≤ 16) (hx : ∀ j,j < x.length → 0 ≤ nth x j ∧ nth x j < l.length)
include hg h16 hx
theorem treeSum : ∀ (m i : Nat),l.length - i = m → i ≤ l.length → Ev (fun k => laws_FnTreeCost.l0 k x (sumW l (dd x)) (sumW l (below x i)) (i : Int) N l) true:=by
 have hl:=hg.len;have hr:=arcs_rng (n:=N) hx;have hab : arcsB N l x = true:=(arcsB_iff N l x).2 ⟨hg,h16,hx⟩;intro m
 induction m with
 | zero =>
  intro i hd hi;have e : i = l.length:=by omega
  subst e;refine Ev.go ?_ (fun k => by rw [laws_FnTreeCost.l0]);refine Ev.neg (by omega) ?_;have hs : sumW l (below x l.length) = sumW l (dd x):=sumW_same l (below_nodup x _) (dd_nodup x) (fun y => by
   rw [below_mem,dd_mem];exact ⟨fun h => h.2,fun h => ⟨hr y h,h⟩⟩)
  refine Ev.bind0 rfl ?_;refine Ev.pos (by simp; omega) ?_;refine Ev.bind0 rfl ?_;refine Ev.pos (by simp; omega) ?_;refine Ev.bind0 rfl ?_;rw [List.nil_append];refine Ev.pos hs ?_
  by_cases c : ((x ++ x).length : Int) > 16
  case pos => exact Ev.pos c (Ev.now _)
  refine Ev.neg c (Ev.bind (implCost_ev (N : Int) l (x ++ x)) (Ev.is ?_));have h2 : arcsB N l (x ++ x) = true:=(arcsB_iff N l (x ++ x)).2 ⟨hg,by omega,fun j hj => by
   have:=getD_mem hj
   rcases List.mem_append.1 this with h | h <;> exact hr _ h⟩
  unfold costV
  rw [if_pos h2];rw [beq_iff_eq];exact sumW_same l (dd_nodup _) (dd_nodup _) (fun y => by rw [dd_mem,dd_mem,List.mem_append,or_self])
 | succ m ih =>
  intro i hd hi;have hlt : i < l.length:=by omega
  have hn:=ih (i + 1) (by omega) (by omega);have hw:=wkIn_ev x (i : Int) (by simp only [maxLen]; omega);have hb:=sumW_bd hg (below x i) (fun k hk => hr k ((below_mem x i k).1 hk).2);have hbl:=below_len x i;have hc:=(hg.ok i hlt).2.2.2.1;rw [below_step] at hn;refine Ev.go ?_ (fun k => by rw [laws_FnTreeCost.l0]);rw [up1 hlt (by simp only [maxLen]; omega)];refine Ev.pos (by omega) (Ev.bind hw ?_)
  by_cases c : (i : Int) ∈ x
  case neg =>
   rw [decide_eq_false c];rw [if_neg c] at hn;exact Ev.neg (by simp) hn
  rw [decide_eq_true c];rw [if_pos c] at hn;have e2 : sumW l (below x i ++ [(i : Int)]) = sumW l (below x i) + (arc l i).f2:=by simp [sumW]
  rw [e2] at hn;refine Ev.pos rfl (Ev.pos (by omega) ?_);rw [rda,w64 (by omega) (by omega)];exact hn
end
theorem FnTreeCost : laws_FnTreeCost.Asked:=by
 intro b hb;refine Pv.rounds ?_
 unfold laws_FnTreeCost.f
 refine Pv.ite (fun _ => Pv.now rfl) (fun _ => ?_);have hd : Pv (fun k => spec_DrawTreeCost.f k b) (fun r => r.2.1.length ≤ 13 ∧ r.2.2.length ≤ 6):=by
  unfold spec_DrawTreeCost.f
  exact Pv.bind (drawParts_pv hb.2) (fun r h => Pv.now h)
 refine Pv.bind hd (fun r h => ?_);obtain ⟨n,l,x⟩:=r;have hs:=specCost_ev n l x (by simp only [maxLen]; have:=h.1; simp only at this; omega) (by simp only [maxLen]; have:=h.2; simp only at this; omega);refine Pv.of (Ev.bind (implCost_ev n l x) (Ev.bind hs (Ev.pos rfl (Ev.go ?_ (fun k => by rw [laws_FnTreeCost.j0]))))) rfl
 rcases costV_bd n l x with ⟨e,_⟩ | ⟨h1,e,h0⟩
 ·rw [e] at hs ⊢;refine Ev.pos (by simp) (Ev.bind hs (Ev.is (by simp)))
 ·rw [e];obtain ⟨hg,h16,hx⟩:=(arcsB_iff n l x).1 h1;obtain ⟨N,rfl⟩ : ∃ N : Nat,n = (N : Int):=⟨n.toNat,by have:=hg.n1; omega⟩
  exact Ev.neg (by simp; omega) (treeSum hg h16 hx _ 0 rfl (Nat.zero_le _))
end Go.Proofs.Ytlhmljngjdfbpaa.Pure
end
section
namespace Go.Proofs.Ytlhmljngjdfbpaa.fnTreeCost
open Go.ChangeShapes Go.WideShapes Go.ChangeAt Go.RowKit Go.Proofs.YtlhmljngjdfbpaaW.PrintWords Go.Proofs.Ytlhmljngjdfbpaa.Pr
open Go.ChangeMaps (open_string shut_string)
set_option linter.unusedVariables false
set_option linter.unusedSimpArgs false
theorem own : ownKnob Try.prog.godebug = none:=by kernel_rfl
theorem laidOut : laidOutB Try.prog = true:=by kernel_rfl
theorem opens0 : Opens Try.prog (Kd.slice 5 (Kd.int .u8)) 22 (fun l => l.length ≤ maxLen ∧ ∀ x ∈ l,(fun n => (Lit.int .u8 n).wf = true) x):=(opens_slice (P:=Try.prog) Try.underlying22 (by kernel_rfl) (opens_int (P:=Try.prog) (k:=.u8) Try.underlying5))
set_option maxRecDepth 100000 in
set_option maxHeartbeats 2000000 in
theorem lifted (os : Os) (started : os.Started) (H : Type) (enc : TypeId × Value → H) :
  ReturnsInHanded {} Try.checked os 13 .any (Rows.fnTreeCostSpec.pre6 enc Try.prog Try.f13 Rows.fnTreeCostRow.domain false) (Rows.fnTreeCostSpec.post enc Try.prog Try.f13 false true false false):=by
 refine returnsInHanded_of_change_sized (C:=Try.checked) own started (by kernel_rfl) Try.func13
  (ChangeSpec.witness6 (enc:=enc) (C:=Try.checked) false ⟨#[],#[(.slice none 0 0)],[]⟩ 8 (by kernel_rfl) (by kernel_rfl) (by kernel_rfl) (by kernel_rfl)) ?_
 intro W base args ds gs before hval0 hW hcnd hsz0 _;have hval : ∀ (j : Nat) t v,Try.f13.params[j]? = some t → args[j]? = some v → Value.okWide Try.prog W .any base t v:=hval0
 have hW':=hW;obtain ⟨p,q,hA0,hV,rfl,hfz,hnd⟩:=hW;have hA : DataW.TrodAll enc Try.prog W 0 (fun _ => true) true Try.f13.params.toList args.toList ds p:=hA0;rw [Try.params13] at hA hval;obtain ⟨v0,vs0,d0,ds0,p0,q0,hargs,rfl,rfl,h0,r0⟩:=trodAll_cons hA;obtain ⟨rfl,rfl,rfl⟩:=trodAll_nil r0;obtain rfl : args = #[v0]:=by cases args; simp_all
 obtain ⟨rfl,rfl⟩:=trodVars_none hV;have k0:=h0;have lt0 : ∀ x ∈ p0,x.block < W.heap.size:=by obtain ⟨m,hm⟩:=k0; exact DataW.trod_lt m _ _ _ hm
 obtain ⟨a0,len0,cap0,rfl⟩:=okWide_slice Try.underlying22 (hval 0 22 v0 rfl rfl);obtain ⟨fuel0,hf0⟩:=h0;obtain ⟨l0,⟨A0,c0,e0,hc0,hr0⟩,w0⟩:=opens0 hf0;have e0' : (Value.slice a0 len0 cap0) = .slice A0 l0.length c0:=(List.cons.inj e0).1;injection e0' with e0a e0b e0c
 subst e0a e0b e0c;obtain ⟨k,hh⟩:=Pure.FnTreeCost l0 w0;refine (laws_FnTreeCost.calls k _ _ l0 true W hr0 hc0 hh).mono fun e W' ⟨he,bel0⟩ => ?_
 have bel : Below W.heap.size W W':=bel0;subst he;exact ⟨_,rfl,_,_,_,[],_,[],hW',trodAll_mk1 (shut_bool Try.underlying4 _),(trodAll_cons_mk (Below.trod laidOut (by kernel_rfl) (of_decide_eq_true (by kernel_rfl)) k0 bel lt0) trodAll_mk0),rfl,bel.frame _,fun h => by cases h⟩
theorem over : Rows.fnTreeCostRow.holds Try.pinned (OpenSpec.ofChange Rows.fnTreeCostSpec) :=
 OpenClaim.holds_of_wide 13 Try.f13 rfl rfl rfl rfl rfl rfl rfl ⟨rfl,rfl,rfl,rfl,rfl⟩ rfl rfl rfl rfl rfl (by kernel_rfl) Try.func13 (by kernel_rfl)
  (of_decide_eq_true (by kernel_rfl)) (by unfold Func.isWrapper; first | (rw [if_pos (by decide +kernel)]; kernel_rfl) | (rw [if_neg (by decide +kernel)]; exact ⟨rfl,rfl⟩))
  (fun os started H enc _ => lifted os started H enc)
theorem proved : Rows.FnTreeCostSaid:=over
#print axioms proved
end Go.Proofs.Ytlhmljngjdfbpaa.fnTreeCost
namespace Go.Proofs.Ytlhmljngjdfbpaa
theorem fnTreeCost_holds : Rows.FnTreeCostSaid:=fnTreeCost.proved
end Go.Proofs.Ytlhmljngjdfbpaa
end
