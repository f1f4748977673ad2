/- Plain laws on fares: what FareOk and FareDay of the program and of the reference compute. -/
import Derived.Test.YtjiiipmeocageaaPints
import Derived.Test.YtjiiipmeocageaaPrx4
import Derived.Test.YtjiiipmeocageaaPrx5
import Derived.Test.YtjiiipmeocageaaPrx3
import Derived.Test.YtjiiipmeocageaaPrx2
import Derived.Test.YtjiiipmeocageaaPrx4
import Derived.Test.YtjiiipmeocageaaPrx3
set_option linter.unusedSimpArgs false
set_option linter.unusedVariables false
namespace Go.Proofs.Ytjiiipmeocageaa.Pure
open Go.RowKit Go.Proofs.Ytjiiipmeocageaa.Pr Go.Proofs.YtjiiipmeocageaaW.PrintWords Go.Proofs.YtjiiipmeocageaaW.PrintLast Go.Proofs.YtjiiipmeocageaaW.PrintMore
theorem okC_inB (c : Int) : okC c = inB c 0 99 := rfl
theorem costOk1 (c : Int) : impl_costOk.f c = some (inB c 0 99) := okC_costOk c
theorem less1 (a b : Int) : cmp_Less_int.f a b = some (decide (a < b)) := by
  unfold cmp_Less_int.f cmp_isNaN_int.f
  simp
/-- From place i on: prices, and none less than the one ahead. -/
def RisesFrom (l : List Int) (i : Nat) : Prop := ∀ j, j < l.length → i ≤ j → (0 ≤ nth l j ∧ nth l j ≤ 99) ∧ (0 < j → nth l (j - 1) ≤ nth l j)
def FareGood (l : List Int) (d w : Int) : Prop := l.length = 4 ∧ RisesFrom l 0 ∧ (0 ≤ d ∧ d ≤ 99) ∧ (0 ≤ w ∧ w ≤ 990)
noncomputable def fareB (l : List Int) (d w : Int) : Bool := Bp (FareGood l d w)
theorem specFareOk_l (l : List Int) (d w : Int) (hm : l.length ≤ maxLen) : ∀ (m i : Nat), l.length - i = m → i ≤ l.length → Ev (fun k => spec_l28Ok.l0 k (i : Int) l d w) (Bp (l.length = 4 ∧ RisesFrom l i ∧ (0 ≤ d ∧ d ≤ 99) ∧ (0 ≤ w ∧ w ≤ 990))) := by
  intro m
  induction m with
  | zero =>
    intro i hd hi
    refine Ev.go ?_ (fun k => by rw [spec_l28Ok.l0])
    refine Ev.neg (by omega) ?_
    have hr : RisesFrom l i := fun j h h' => absurd h (by omega)
    by_cases h4 : l.length = 4
    · refine Ev.pos (by omega) (Ev.bind0 (in1 _ _ _) ?_)
      cases hd : inB d 0 99 with
      | false => exact Ev.neg (by simp) (Ev.is (Bp_false (fun h => by have := inB_iff.2 h.2.2.1; simp [hd] at this)).symm)
      | true =>
        refine Ev.pos rfl (Ev.bind0 (in1 _ _ _) (Ev.is (eq_Bp ?_)))
        rw [inB_iff]
        exact ⟨fun h => ⟨h4, hr, inB_iff.1 hd, h⟩, fun h => h.2.2.2⟩
    · exact Ev.neg (by omega) (Ev.is (Bp_false (fun h => h4 h.1)).symm)
  | succ m ih =>
    intro i hd hi
    have hlt : i < l.length := by omega
    have hstep : RisesFrom l i ↔ ((0 ≤ nth l i ∧ nth l i ≤ 99) ∧ (0 < i → nth l (i - 1) ≤ nth l i)) ∧ RisesFrom l (i + 1) := by
      constructor
      · exact fun h => ⟨h i hlt (Nat.le_refl _), fun j hj hij => h j hj (by omega)⟩
      · intro h j hj hij
        by_cases e : j = i
        · subst e; exact h.1
        · exact h.2 j hj (by omega)
    refine Ev.go ?_ (fun k => by rw [spec_l28Ok.l0])
    refine Ev.pos (by omega) (Ev.pos (by omega) (Ev.bind0 (in1 _ _ _) ?_))
    rw [rdg i]
    cases hp : inB (nth l i) 0 99 with
    | false => exact Ev.neg (by simp) (Ev.is (Bp_false (fun h => by have := inB_iff.2 (hstep.1 h.2.1).1.1; rw [hp] at this; exact absurd this (by simp))).symm)
    | true =>
      refine Ev.pos rfl ?_
      have hnext := ih (i + 1) (by omega) (by omega)
      rw [← up1 hlt hm] at hnext
      by_cases h0 : 0 < i
      · have hw : wrap64 ((i : Int) - 1) = ((i - 1 : Nat) : Int) := by
          simp only [maxLen] at hm
          rw [w64 (by omega) (by omega)]; omega
        refine Ev.pos (by omega) ?_
        rw [hw]
        refine Ev.pos (by omega) (Ev.pos (by omega) ?_)
        rw [rdg (i - 1)]
        by_cases hl : nth l i < nth l (i - 1)
        · refine Ev.pos hl (Ev.is (Bp_false (fun h => ?_)).symm)
          have := (hstep.1 h.2.1).1.2 h0
          omega
        · refine Ev.neg hl (hnext.cast (Bp_congr ?_))
          rw [hstep]
          have := inB_iff.1 hp
          exact ⟨fun h => ⟨h.1, ⟨⟨this, fun _ => by omega⟩, h.2.1⟩, h.2.2⟩, fun h => ⟨h.1, h.2.1.2, h.2.2⟩⟩
      · refine Ev.neg (by omega) (hnext.cast (Bp_congr ?_))
        rw [hstep]
        have := inB_iff.1 hp
        exact ⟨fun h => ⟨h.1, ⟨⟨this, fun h' => absurd h' h0⟩, h.2.1⟩, h.2.2⟩, fun h => ⟨h.1, h.2.1.2, h.2.2⟩⟩
theorem specFareOk_ev (l : List Int) (d w : Int) (hm : l.length ≤ maxLen) : Ev (fun k => spec_l28Ok.f k l d w) (fareB l d w) :=
  specFareOk_l l d w hm _ 0 rfl (by omega)
/-- Sorted from place i down. -/
def SortedTo (l : List Int) (i : Nat) : Prop := ∀ j, j < l.length → j ≤ i → 0 < j → nth l (j - 1) ≤ nth l j
theorem isSorted_l (l : List Int) (hm : l.length ≤ maxLen) : ∀ (i : Nat), i < l.length → Ev (fun k => slices_IsSorted_int_int.l0 k l (i : Int)) (Bp (SortedTo l i)) := by
  intro i
  induction i with
  | zero =>
    intro hi
    refine Ev.go ?_ (fun k => by rw [slices_IsSorted_int_int.l0])
    exact Ev.neg (by simp) (Ev.is (Bp_true (fun j h h1 h2 => absurd h2 (by omega))).symm)
  | succ i ih =>
    intro hi
    have hw : wrap64 (((i + 1 : Nat) : Int) - 1) = (i : Int) := by
      simp only [maxLen] at hm
      rw [w64 (by omega) (by omega)]; omega
    refine Ev.go ?_ (fun k => by rw [slices_IsSorted_int_int.l0])
    refine Ev.pos (by omega) (Ev.pos (by omega) (Ev.pos (by omega) ?_))
    rw [hw]
    refine Ev.pos (by omega) (Ev.pos (by omega) (Ev.bind0 (less1 _ _) ?_))
    rw [rdg (i + 1), rdg i]
    by_cases hl : nth l (i + 1) < nth l i
    · rw [decide_eq_true hl]
      refine Ev.pos rfl (Ev.is (Bp_false (fun h => ?_)).symm)
      have := h (i + 1) hi (Nat.le_refl _) (by omega)
      rw [Nat.add_sub_cancel] at this
      omega
    · rw [decide_eq_false hl]
      refine Ev.neg (by simp) ((ih (by omega)).cast (Bp_congr ?_))
      constructor
      · intro h j hj hij h0
        by_cases e : j = i + 1
        · subst e; rw [Nat.add_sub_cancel]; omega
        · exact h j hj (by omega) h0
      · exact fun h j hj hij h0 => h j hj (by omega) h0
theorem implFareOk_ev (l : List Int) (d w : Int) (hm : l.length ≤ maxLen) : Ev (fun k => impl_FareOk.f k l d w) (fareB l d w) := by
  unfold impl_FareOk.f fareB
  by_cases h4 : l.length = 4
  · refine Ev.pos (by omega) (Ev.bind0 rfl ?_)
    have hall : (!(l.any fun c => !okC c)) = true ↔ ∀ c ∈ l, 0 ≤ c ∧ c ≤ 99 := by
      simp [okC]
    cases hp : (!(l.any fun c => !okC c)) with
    | false =>
      refine Ev.neg (by simp) (Ev.is (Bp_false (fun h => ?_)).symm)
      have : (!(l.any fun c => !okC c)) = true := hall.2 (fun c hc => by
        obtain ⟨j, hj, rfl⟩ := mem_getD hc
        exact (h.2.1 j hj (by omega)).1)
      rw [hp] at this
      simp at this
    | true =>
      have hpr := hall.1 hp
      refine Ev.pos rfl ?_
      have hs : Ev (fun k => slices_IsSorted_int_int.f k l) (Bp (SortedTo l 3)) := by
        unfold slices_IsSorted_int_int.f
        have := isSorted_l l hm 3 (by omega)
        have e : wrap64 ((l.length : Int) - 1) = ((3 : Nat) : Int) := by rw [w64 (by omega) (by omega)]; omega
        rw [e]
        exact this
      refine Ev.bind hs ?_
      cases hb : Bp (SortedTo l 3) with
      | false =>
        refine Ev.neg (by simp) (Ev.is (Bp_false (fun h => ?_)).symm)
        have : Bp (SortedTo l 3) = true := Bp_true (fun j hj _ h0 => (h.2.1 j hj (by omega)).2 h0)
        rw [hb] at this
        simp at this
      | true =>
        have hso := Bp_iff.1 hb
        have hr : RisesFrom l 0 := fun j hj _ => ⟨hpr _ (getD_mem hj), fun h0 => hso j hj (by omega) h0⟩
        refine Ev.pos rfl (Ev.bind0 (costOk1 _) ?_)
        cases hd : inB d 0 99 with
        | false => exact Ev.neg (by simp) (Ev.is (Bp_false (fun h => by have := inB_iff.2 h.2.2.1; simp [hd] at this)).symm)
        | true =>
          refine Ev.pos rfl (Ev.bind0 (within1 _ _ _) (Ev.is (eq_Bp ?_)))
          rw [inB_iff]
          exact ⟨fun h => ⟨h4, hr, inB_iff.1 hd, h⟩, fun h => h.2.2.2⟩
  · exact Ev.neg (by omega) (Ev.is (Bp_false (fun h => h4 h.1)).symm)
end Go.Proofs.Ytjiiipmeocageaa.Pure
