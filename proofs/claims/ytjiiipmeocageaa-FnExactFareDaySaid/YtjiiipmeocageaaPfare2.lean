/- Plain laws on fares: what a day costs, by the program and by the reference. -/
import Derived.Test.YtjiiipmeocageaaPfare
set_option linter.unusedSimpArgs false
set_option linter.unusedVariables false
namespace Go.Proofs.Ytjiiipmeocageaa.Pure
open Go.RowKit Go.Proofs.Ytjiiipmeocageaa.Pr Go.Proofs.YtjiiipmeocageaaW.PrintWords Go.Proofs.YtjiiipmeocageaaW.PrintLast Go.Proofs.YtjiiipmeocageaaW.PrintMore
/-- The sum of the first i numbers. -/
def sumTo (l : List Int) : Nat → Int
  | 0 => 0
  | i + 1 => sumTo l i + nth l i
def Prices (l : List Int) : Prop := ∀ i, i < l.length → 0 ≤ nth l i ∧ nth l i ≤ 99
theorem sumTo_bd {l : List Int} (h : Prices l) : ∀ i, i ≤ l.length → 0 ≤ sumTo l i ∧ sumTo l i ≤ 99 * (i : Int) := by
  intro i
  induction i with
  | zero => intro _; simp [sumTo]
  | succ i ih =>
    intro hi
    have h1 := ih (by omega)
    have h2 := h i (by omega)
    simp only [sumTo]
    omega
def RidesOk (l : List Int) : Prop := Prices l ∧ l.length ≤ 10
open Classical in
noncomputable def dayV (l : List Int) (d w : Int) (r : List Int) : Int := if FareGood l d w ∧ RidesOk r then min (sumTo r r.length) d else -1
theorem ridesOk_l (r : List Int) (hm : r.length ≤ maxLen) : ∀ (m i : Nat), r.length - i = m → i ≤ r.length → Ev (fun k => spec_l28Rides.l0 k r (i : Int)) (Bp ((∀ j, j < r.length → i ≤ j → 0 ≤ nth r j ∧ nth r j ≤ 99) ∧ r.length ≤ 10)) := by
  intro m
  induction m with
  | zero =>
    intro i hd hi
    refine Ev.go ?_ (fun k => by rw [spec_l28Rides.l0])
    refine Ev.neg (by omega) (Ev.is (eq_Bp ?_))
    rw [decide_eq_true_eq]
    exact ⟨fun h => ⟨fun j hj hij => absurd hj (by omega), by omega⟩, fun h => by have := h.2; omega⟩
  | succ m ih =>
    intro i hd hi
    have hlt : i < r.length := by omega
    refine Ev.go ?_ (fun k => by rw [spec_l28Rides.l0])
    refine Ev.pos (by omega) (Ev.pos (by omega) (Ev.bind0 (in1 _ _ _) ?_))
    rw [rdg i]
    cases hp : inB (nth r i) 0 99 with
    | false => exact Ev.neg (by simp) (Ev.is (Bp_false (fun h => by have := inB_iff.2 (h.1 i hlt (Nat.le_refl _)); rw [hp] at this; exact absurd this (by simp))).symm)
    | true =>
      refine Ev.pos rfl ?_
      rw [up1 hlt hm]
      refine (ih (i + 1) (by omega) (by omega)).cast (Bp_congr ?_)
      have hb := inB_iff.1 hp
      constructor
      · refine fun h => ⟨fun j hj hij => ?_, h.2⟩
        by_cases e : j = i
        · subst e; exact hb
        · exact h.1 j hj (by omega)
      · exact fun h => ⟨fun j hj hij => h.1 j hj (by omega), h.2⟩
theorem ridesOk_ev (r : List Int) (hm : r.length ≤ maxLen) : Ev (fun k => spec_l28Rides.f k r) (Bp (RidesOk r)) :=
  (ridesOk_l r hm _ 0 rfl (by omega)).cast (Bp_congr ⟨fun h => ⟨fun i hi => h.1 i hi (by omega), h.2⟩, fun h => ⟨fun j hj _ => h.1 j hj, h.2⟩⟩)
theorem day_l (l : List Int) (d w : Int) (r : List Int) (hr : RidesOk r) : ∀ (m i : Nat), r.length - i = m → i ≤ r.length → Ev (fun k => spec_l28Day.l0 k r (sumTo r i) (i : Int) l d w) (min (sumTo r r.length) d) := by
  intro m
  have h10 := hr.2
  induction m with
  | zero =>
    intro i hd hi
    refine Ev.go ?_ (fun k => by rw [spec_l28Day.l0])
    refine Ev.neg (by omega) ?_
    have e : i = r.length := by omega
    subst e
    by_cases h : sumTo r r.length > d
    · exact Ev.pos h (Ev.is (by omega))
    · exact Ev.neg h (Ev.is (by omega))
  | succ m ih =>
    intro i hd hi
    have hlt : i < r.length := by omega
    refine Ev.go ?_ (fun k => by rw [spec_l28Day.l0])
    refine Ev.pos (by omega) (Ev.pos (by omega) ?_)
    have h1 := sumTo_bd hr.1 i (by omega)
    have h2 := hr.1 i hlt
    rw [rdg i, w64 (by omega) (by omega), up1 hlt (by simp only [maxLen]; omega)]
    exact ih (i + 1) (by omega) (by omega)
theorem specFareDay_ev (l : List Int) (d w : Int) (r : List Int) (hm : l.length ≤ maxLen) (hr : r.length ≤ maxLen) : Ev (fun k => spec_FareDay.f k l d w r) (dayV l d w r) := by
  unfold spec_FareDay.f
  refine Ev.bind (specFareOk_ev l d w hm) ?_
  unfold dayV
  by_cases hg : FareGood l d w
  · rw [show fareB l d w = true from Bp_true hg]
    refine Ev.pos rfl (Ev.bind (ridesOk_ev r hr) ?_)
    by_cases ho : RidesOk r
    · rw [Bp_true ho, if_pos ⟨hg, ho⟩]
      exact Ev.pos rfl (Ev.bind (day_l l d w r ho _ 0 rfl (by omega)) (Ev.now _))
    · rw [Bp_false ho, if_neg (fun h => ho h.2)]
      exact Ev.neg (by simp) (Ev.now _)
  · rw [show fareB l d w = false from Bp_false hg, if_neg (fun h => hg h.1)]
    exact Ev.neg (by simp) (Ev.now _)
theorem mn_min (a b : Int) : mn a b = min a b := by unfold mn; omega
theorem implDay_l (l : List Int) (d w : Int) (r : List Int) (hr : RidesOk r) : ∀ (m i : Nat), r.length - i = m → i ≤ r.length → Ev (fun k => impl_FareDay.l0 k (sumTo r i) r (r.length : Int) (i : Int) l d w) (min (sumTo r r.length) d) := by
  intro m
  have h10 := hr.2
  induction m with
  | zero =>
    intro i hd hi
    refine Ev.go ?_ (fun k => by rw [impl_FareDay.l0])
    have e : i = r.length := by omega
    subst e
    exact Ev.neg (by omega) (Ev.is (mn_min _ _))
  | succ m ih =>
    intro i hd hi
    have hlt : i < r.length := by omega
    refine Ev.go ?_ (fun k => by rw [impl_FareDay.l0])
    refine Ev.pos (by omega) (Ev.pos (by omega) (Ev.pos (by omega) ?_))
    have h1 := sumTo_bd hr.1 i (by omega)
    have h2 := hr.1 i hlt
    rw [rdg i, w64 (by omega) (by omega), up1 hlt (by simp only [maxLen]; omega)]
    exact ih (i + 1) (by omega) (by omega)
theorem implFareDay_ev (l : List Int) (d w : Int) (r : List Int) (hm : l.length ≤ maxLen) (hr : r.length ≤ maxLen) : Ev (fun k => impl_FareDay.f k l d w r) (dayV l d w r) := by
  unfold impl_FareDay.f
  refine Ev.bind (implFareOk_ev l d w hm) ?_
  unfold dayV
  by_cases hg : FareGood l d w
  · rw [show fareB l d w = true from Bp_true hg]
    refine Ev.pos rfl ?_
    by_cases h10 : r.length ≤ 10
    · refine Ev.neg (by omega) (Ev.bind0 rfl ?_)
      have hall : (!(r.any fun c => !okC c)) = true ↔ ∀ c ∈ r, 0 ≤ c ∧ c ≤ 99 := by simp [okC]
      by_cases ho : RidesOk r
      · have e : (!(r.any fun c => !okC c)) = true := hall.2 (fun c hc => by
          obtain ⟨j, hj, rfl⟩ := mem_getD hc
          exact ho.1 j hj)
        rw [e, if_pos ⟨hg, ho⟩]
        refine Ev.go ?_ (fun k => by rw [impl_FareDay.j0])
        exact Ev.neg (by simp) (implDay_l l d w r ho _ 0 rfl (by omega))
      · have e : (!(r.any fun c => !okC c)) = false := by
          cases h : (!(r.any fun c => !okC c)) with
          | false => rfl
          | true => exact absurd ⟨fun i hi => hall.1 h _ (getD_mem hi), h10⟩ ho
        rw [e, if_neg (fun h => ho h.2)]
        refine Ev.go ?_ (fun k => by rw [impl_FareDay.j0])
        exact Ev.pos rfl (Ev.now _)
    · rw [if_neg (fun h => h10 h.2.2)]
      refine Ev.pos (by omega) (Ev.go ?_ (fun k => by rw [impl_FareDay.j0]))
      exact Ev.pos rfl (Ev.now _)
  · rw [show fareB l d w = false from Bp_false hg, if_neg (fun h => hg h.1)]
    refine Ev.neg (by simp) (Ev.go ?_ (fun k => by rw [impl_FareDay.j0]))
    exact Ev.pos rfl (Ev.now _)
end Go.Proofs.Ytjiiipmeocageaa.Pure
