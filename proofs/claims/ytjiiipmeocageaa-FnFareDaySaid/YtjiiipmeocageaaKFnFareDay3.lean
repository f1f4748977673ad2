/- For the statement FnFareDay of this seat: it is proved here, with no further conditions (part 4 of its texts: walks of the functions, the plain law, the row). -/
import Derived.Test.YtjiiipmeocageaaRows
import Derived.WalkKit
import Derived.ProofKit
import Derived.OpenShut
import Derived.ShutString
import Derived.ChangeOld
import Derived.Below
import Derived.SizedLaws
import Derived.WideShapes
import Derived.Test.YtjiiipmeocageaaKFnFareDay2
section
set_option linter.unusedSimpArgs false
set_option linter.unusedVariables false
namespace Go.Proofs.Ytjiiipmeocageaa.Pure
open Go.RowKit Go.Proofs.Ytjiiipmeocageaa.Pr Go.Proofs.YtjiiipmeocageaaW.PrintWords Go.Proofs.YtjiiipmeocageaaW.PrintLast Go.Proofs.YtjiiipmeocageaaW.PrintMore
/-- The sum of the first i numbers. -/
def sumTo (l : List Int) : Nat → Int
  | 0 => 0
  | i + 1 => sumTo l i + nth l i
def Prices (l : List Int) : Prop := ∀ i, i < l.length → 0 ≤ nth l i ∧ nth l i ≤ 99
theorem sumTo_bd {l : List Int} (h : Prices l) : ∀ i, i ≤ l.length → 0 ≤ sumTo l i ∧ sumTo l i ≤ 99 * (i : Int) := by
  intro i
  induction i with
  | zero => intro _; simp [sumTo]
  | succ i ih =>
    intro hi
    have h1 := ih (by omega)
    have h2 := h i (by omega)
    simp only [sumTo]
    omega
def RidesOk (l : List Int) : Prop := Prices l ∧ l.length ≤ 10
open Classical in
noncomputable def dayV (l : List Int) (d w : Int) (r : List Int) : Int := if FareGood l d w ∧ RidesOk r then min (sumTo r r.length) d else -1
theorem ridesOk_l (r : List Int) (hm : r.length ≤ maxLen) : ∀ (m i : Nat), r.length - i = m → i ≤ r.length → Ev (fun k => spec_l28Rides.l0 k r (i : Int)) (Bp ((∀ j, j < r.length → i ≤ j → 0 ≤ nth r j ∧ nth r j ≤ 99) ∧ r.length ≤ 10)) := by
  intro m
  induction m with
  | zero =>
    intro i hd hi
    refine Ev.go ?_ (fun k => by rw [spec_l28Rides.l0])
    refine Ev.neg (by omega) (Ev.is (eq_Bp ?_))
    rw [decide_eq_true_eq]
    exact ⟨fun h => ⟨fun j hj hij => absurd hj (by omega), by omega⟩, fun h => by have := h.2; omega⟩
  | succ m ih =>
    intro i hd hi
    have hlt : i < r.length := by omega
    refine Ev.go ?_ (fun k => by rw [spec_l28Rides.l0])
    refine Ev.pos (by omega) (Ev.pos (by omega) (Ev.bind0 (in1 _ _ _) ?_))
    rw [rdg i]
    cases hp : inB (nth r i) 0 99 with
    | false => exact Ev.neg (by simp) (Ev.is (Bp_false (fun h => by have := inB_iff.2 (h.1 i hlt (Nat.le_refl _)); rw [hp] at this; exact absurd this (by simp))).symm)
    | true =>
      refine Ev.pos rfl ?_
      rw [up1 hlt hm]
      refine (ih (i + 1) (by omega) (by omega)).cast (Bp_congr ?_)
      have hb := inB_iff.1 hp
      constructor
      · refine fun h => ⟨fun j hj hij => ?_, h.2⟩
        by_cases e : j = i
        · subst e; exact hb
        · exact h.1 j hj (by omega)
      · exact fun h => ⟨fun j hj hij => h.1 j hj (by omega), h.2⟩
theorem ridesOk_ev (r : List Int) (hm : r.length ≤ maxLen) : Ev (fun k => spec_l28Rides.f k r) (Bp (RidesOk r)) :=
  (ridesOk_l r hm _ 0 rfl (by omega)).cast (Bp_congr ⟨fun h => ⟨fun i hi => h.1 i hi (by omega), h.2⟩, fun h => ⟨fun j hj _ => h.1 j hj, h.2⟩⟩)
theorem day_l (l : List Int) (d w : Int) (r : List Int) (hr : RidesOk r) : ∀ (m i : Nat), r.length - i = m → i ≤ r.length → Ev (fun k => spec_l28Day.l0 k r (sumTo r i) (i : Int) l d w) (min (sumTo r r.length) d) := by
  intro m
  have h10 := hr.2
  induction m with
  | zero =>
    intro i hd hi
    refine Ev.go ?_ (fun k => by rw [spec_l28Day.l0])
    refine Ev.neg (by omega) ?_
    have e : i = r.length := by omega
    subst e
    by_cases h : sumTo r r.length > d
    · exact Ev.pos h (Ev.is (by omega))
    · exact Ev.neg h (Ev.is (by omega))
  | succ m ih =>
    intro i hd hi
    have hlt : i < r.length := by omega
    refine Ev.go ?_ (fun k => by rw [spec_l28Day.l0])
    refine Ev.pos (by omega) (Ev.pos (by omega) ?_)
    have h1 := sumTo_bd hr.1 i (by omega)
    have h2 := hr.1 i hlt
    rw [rdg i, w64 (by omega) (by omega), up1 hlt (by simp only [maxLen]; omega)]
    exact ih (i + 1) (by omega) (by omega)
theorem specFareDay_ev (l : List Int) (d w : Int) (r : List Int) (hm : l.length ≤ maxLen) (hr : r.length ≤ maxLen) : Ev (fun k => spec_FareDay.f k l d w r) (dayV l d w r) := by
  unfold spec_FareDay.f
  refine Ev.bind (specFareOk_ev l d w hm) ?_
  unfold dayV
  by_cases hg : FareGood l d w
  · rw [show fareB l d w = true from Bp_true hg]
    refine Ev.pos rfl (Ev.bind (ridesOk_ev r hr) ?_)
    by_cases ho : RidesOk r
    · rw [Bp_true ho, if_pos ⟨hg, ho⟩]
      exact Ev.pos rfl (Ev.bind (day_l l d w r ho _ 0 rfl (by omega)) (Ev.now _))
    · rw [Bp_false ho, if_neg (fun h => ho h.2)]
      exact Ev.neg (by simp) (Ev.now _)
  · rw [show fareB l d w = false from Bp_false hg, if_neg (fun h => hg h.1)]
    exact Ev.neg (by simp) (Ev.now _)
theorem mn_min (a b : Int) : mn a b = min a b := by unfold mn; omega
theorem implDay_l (l : List Int) (d w : Int) (r : List Int) (hr : RidesOk r) : ∀ (m i : Nat), r.length - i = m → i ≤ r.length → Ev (fun k => impl_FareDay.l0 k (sumTo r i) r (r.length : Int) (i : Int) l d w) (min (sumTo r r.length) d) := by
  intro m
  have h10 := hr.2
  induction m with
  | zero =>
    intro i hd hi
    refine Ev.go ?_ (fun k => by rw [impl_FareDay.l0])
    have e : i = r.length := by omega
    subst e
    exact Ev.neg (by omega) (Ev.is (mn_min _ _))
  | succ m ih =>
    intro i hd hi
    have hlt : i < r.length := by omega
    refine Ev.go ?_ (fun k => by rw [impl_FareDay.l0])
    refine Ev.pos (by omega) (Ev.pos (by omega) (Ev.pos (by omega) ?_))
    have h1 := sumTo_bd hr.1 i (by omega)
    have h2 := hr.1 i hlt
    rw [rdg i, w64 (by omega) (by omega), up1 hlt (by simp only [maxLen]; omega)]
    exact ih (i + 1) (by omega) (by omega)
theorem implFareDay_ev (l : List Int) (d w : Int) (r : List Int) (hm : l.length ≤ maxLen) (hr : r.length ≤ maxLen) : Ev (fun k => impl_FareDay.f k l d w r) (dayV l d w r) := by
  unfold impl_FareDay.f
  refine Ev.bind (implFareOk_ev l d w hm) ?_
  unfold dayV
  by_cases hg : FareGood l d w
  · rw [show fareB l d w = true from Bp_true hg]
    refine Ev.pos rfl ?_
    by_cases h10 : r.length ≤ 10
    · refine Ev.neg (by omega) (Ev.bind0 rfl ?_)
      have hall : (!(r.any fun c => !okC c)) = true ↔ ∀ c ∈ r, 0 ≤ c ∧ c ≤ 99 := by simp [okC]
      by_cases ho : RidesOk r
      · have e : (!(r.any fun c => !okC c)) = true := hall.2 (fun c hc => by
          obtain ⟨j, hj, rfl⟩ := mem_getD hc
          exact ho.1 j hj)
        rw [e, if_pos ⟨hg, ho⟩]
        refine Ev.go ?_ (fun k => by rw [impl_FareDay.j0])
        exact Ev.neg (by simp) (implDay_l l d w r ho _ 0 rfl (by omega))
      · have e : (!(r.any fun c => !okC c)) = false := by
          cases h : (!(r.any fun c => !okC c)) with
          | false => rfl
          | true => exact absurd ⟨fun i hi => hall.1 h _ (getD_mem hi), h10⟩ ho
        rw [e, if_neg (fun h => ho h.2)]
        refine Ev.go ?_ (fun k => by rw [impl_FareDay.j0])
        exact Ev.pos rfl (Ev.now _)
    · rw [if_neg (fun h => h10 h.2.2)]
      refine Ev.pos (by omega) (Ev.go ?_ (fun k => by rw [impl_FareDay.j0]))
      exact Ev.pos rfl (Ev.now _)
  · rw [show fareB l d w = false from Bp_false hg, if_neg (fun h => hg h.1)]
    refine Ev.neg (by simp) (Ev.go ?_ (fun k => by rw [impl_FareDay.j0]))
    exact Ev.pos rfl (Ev.now _)
end Go.Proofs.Ytjiiipmeocageaa.Pure
end
section
set_option linter.unusedSimpArgs false
set_option linter.unusedVariables false
namespace Go.Proofs.Ytjiiipmeocageaa.Pure
open Go.RowKit Go.Proofs.Ytjiiipmeocageaa.Pr Go.Proofs.YtjiiipmeocageaaW.PrintWords Go.Proofs.YtjiiipmeocageaaW.PrintLast Go.Proofs.YtjiiipmeocageaaW.PrintMore
theorem sumTo_sum (l : List Int) : ∀ i, i ≤ l.length → sumTo l i = (l.take i).sum := by
  intro i
  induction i with
  | zero => intro _; simp [sumTo]
  | succ i ih =>
    intro hi
    simp only [sumTo]
    rw [ih (by omega), List.take_succ_eq_append_getElem (by omega), List.sum_append_int, nth_get (by omega)]
    simp
theorem sumTo_all (l : List Int) : sumTo l l.length = l.sum := by rw [sumTo_sum l _ (Nat.le_refl _), List.take_length]
theorem prices_iff (l : List Int) : Prices l ↔ ∀ x ∈ l, 0 ≤ x ∧ x ≤ 99 := by
  constructor
  · intro h x hx
    obtain ⟨i, hi, rfl⟩ := mem_getD hx
    exact h i hi
  · intro h i hi
    exact h _ (getD_mem hi)
theorem ridesOk_rev {l : List Int} (h : RidesOk l) : RidesOk l.reverse := ⟨(prices_iff _).2 (fun x hx => (prices_iff l).1 h.1 x (by simpa using hx)), by simpa using h.2⟩
theorem fare_l {b : List Int} (h : Rdr b) (d w : Int) : ∀ (m : Nat) (c p : Int) (l : List Int), (0 ≤ p ∧ p + m ≤ 100000) → (0 ≤ c ∧ c + 5 * m ≤ 1000) → m ≤ 4 → l.length + m = 4 → Pv (fun k => spec_l30Fare.l0 k c (4 - (m : Int)) b p l d w) (fun r => r.1.length ≤ 4 ∧ (p ≤ r.2.2.2 ∧ r.2.2.2 ≤ p + m + 3)) := by
  intro m
  induction m with
  | zero =>
    intro c p l hp hc hm hl
    refine Pv.go ?_ (fun k => by rw [spec_l30Fare.l0])
    refine Pv.neg (by omega) (Pv.bind (pick_pv h (by omega) (by omega)) (fun r1 ⟨a1, e1⟩ => ?_))
    refine Pv.ite (fun c1 => Pv.bind (one_pv h (p := r1.2) (by omega) (by omega) (by simp)) (fun r2 ⟨a2, e2⟩ => Pv.pos (by omega) (Pv.now ⟨by simp; omega, by dsimp only; omega⟩))) (fun c1 => ?_)
    refine Pv.ite (fun c2 => Pv.bind (one_pv h (p := r1.2) (by omega) (by omega) (by simp)) (fun r2 ⟨a2, e2⟩ => Pv.now ⟨by dsimp only; omega, by dsimp only; omega⟩)) (fun c2 => ?_)
    exact Pv.ite (fun c3 => Pv.pos (by omega) (Pv.now ⟨by simp; omega, by dsimp only; omega⟩)) (fun c3 => Pv.now ⟨by dsimp only; omega, by dsimp only; omega⟩)
  | succ m ih =>
    intro c p l hp hc hm hl
    refine Pv.go ?_ (fun k => by rw [spec_l30Fare.l0])
    refine Pv.pos (by omega) (Pv.pos (by omega) (Pv.bind (pick_pv h (by omega) (by omega)) (fun r1 ⟨a1, e1⟩ => ?_)))
    have b1 := a1.2.2 (by omega)
    have w1 : wrap64 (c + r1.1) = c + r1.1 := w64 (by omega) (by omega)
    have w2 : wrap64 (4 - ((m + 1 : Nat) : Int) + 1) = 4 - (m : Int) := by rw [w64 (by omega) (by omega)]; omega
    rw [w1, w2]
    exact (ih (c + r1.1) r1.2 (l ++ [c]) (by omega) (by omega) (by omega) (by simp; omega)).mono (fun r hr => ⟨hr.1, by omega⟩)
theorem fare_pv {b : List Int} (h : Rdr b) {p : Int} (hp : 0 ≤ p) (hp' : p ≤ 10000) : Pv (fun k => spec_l30Fare.f k b p) (fun r => r.1.length ≤ 4 ∧ (p ≤ r.2.2.2 ∧ r.2.2.2 ≤ p + 10)) := by
  unfold spec_l30Fare.f
  refine Pv.bind (pick_pv h hp (by omega)) (fun r1 ⟨a1, e1⟩ => Pv.bind (pick_pv h (p := r1.2) (by omega) (by omega)) (fun r2 ⟨a2, e2⟩ => Pv.bind (pick_pv h (p := r2.2) (by omega) (by omega)) (fun r3 ⟨a3, e3⟩ => ?_)))
  have b3 := a3.2.2 (by omega)
  exact (fare_l h _ _ 4 r3.1 r3.2 [] (by omega) (by omega) (by omega) (by simp)).mono (fun r hr => ⟨hr.1, by omega⟩)
theorem rides_l {b : List Int} (h : Rdr b) : ∀ (m : Nat) (p : Int) (l : List Int), (0 ≤ p ∧ p + m ≤ 100000) → m ≤ 5 → l.length + m ≤ 5 → Pv (fun k => spec_l30Rides.l0 k l (m : Int) b p) (fun r => r.1.length ≤ 6 ∧ (p ≤ r.2 ∧ r.2 ≤ p + m + 3)) := by
  intro m
  induction m with
  | zero =>
    intro p l hp hm hl
    refine Pv.go ?_ (fun k => by rw [spec_l30Rides.l0])
    refine Pv.neg (by omega) (Pv.bind (pick_pv h (by omega) (by omega)) (fun r1 ⟨a1, e1⟩ => ?_))
    exact Pv.ite (fun c1 => Pv.bind (one_pv h (p := r1.2) (by omega) (by omega) (by simp)) (fun r2 ⟨a2, e2⟩ => Pv.pos (by omega) (Pv.now ⟨by simp; omega, by dsimp only; omega⟩))) (fun c1 => Pv.now ⟨by dsimp only; omega, by dsimp only; omega⟩)
  | succ m ih =>
    intro p l hp hm hl
    refine Pv.go ?_ (fun k => by rw [spec_l30Rides.l0])
    have w2 : wrap64 (((m + 1 : Nat) : Int) - 1) = (m : Int) := by rw [w64 (by omega) (by omega)]; omega
    rw [w2]
    refine Pv.pos (by omega) (Pv.bind (pick_pv h (by omega) (by omega)) (fun r1 ⟨a1, e1⟩ => Pv.pos (by omega) ?_))
    exact (ih r1.2 (l ++ [r1.1]) (by omega) (by omega) (by simp; omega)).mono (fun r hr => ⟨hr.1, by omega⟩)
theorem rides_pv {b : List Int} (h : Rdr b) {p : Int} (hp : 0 ≤ p) (hp' : p ≤ 10000) : Pv (fun k => spec_l30Rides.f k b p) (fun r => r.1.length ≤ 6 ∧ (p ≤ r.2 ∧ r.2 ≤ p + 10)) := by
  unfold spec_l30Rides.f
  refine Pv.bind (pick_pv h hp (by omega)) (fun r1 ⟨a1, e1⟩ => ?_)
  have b1 := a1.2.2 (by omega)
  have := rides_l h r1.1.toNat r1.2 [] (by omega) (by omega) (by simp; omega)
  rw [Int.toNat_of_nonneg a1.1] at this
  exact this.mono (fun r hr => ⟨hr.1, by omega⟩)
end Go.Proofs.Ytjiiipmeocageaa.Pure
end
section
set_option linter.unusedSimpArgs false
set_option linter.unusedVariables false
namespace Go.Proofs.Ytjiiipmeocageaa.Pure
open Go.RowKit Go.Proofs.Ytjiiipmeocageaa.Pr Go.Proofs.YtjiiipmeocageaaW.PrintWords Go.Proofs.YtjiiipmeocageaaW.PrintLast Go.Proofs.YtjiiipmeocageaaW.PrintMore
theorem day_of {l : List Int} {d w : Int} {r : List Int} (h : FareGood l d w) (hr : RidesOk r) : dayV l d w r = min r.sum d := by
  unfold dayV
  rw [if_pos ⟨h, hr⟩, sumTo_all]
theorem day_neg {l : List Int} {d w : Int} {r : List Int} (h : ¬ dayV l d w r < 0) : FareGood l d w ∧ RidesOk r := by
  apply Classical.byContradiction
  intro c
  apply h
  unfold dayV
  rw [if_neg c]
  omega
theorem dayEnd {l : List Int} {d w : Int} {r : List Int} (hg : FareGood l d w) (hr : RidesOk r) : ∀ (i : Nat), i ≤ r.length → Ev (fun k => laws_FnFareDay.l0 k r (min r.sum d) (r.drop i).reverse (r.drop i).sum ((i : Int) - 1) l d w) true := by
  have hl := hg.1
  have hd := hg.2.2.1
  have hlen := hr.2
  have hpr := (prices_iff r).1 hr.1
  have hsum := sumTo_bd hr.1 r.length (Nat.le_refl _)
  rw [sumTo_all] at hsum
  intro i
  induction i with
  | zero =>
    intro _
    refine Ev.go ?_ (fun k => by rw [laws_FnFareDay.l0])
    simp only [List.drop_zero]
    refine Ev.neg (by omega) (Ev.pos (by simp; omega) ?_)
    have e1 := implFareDay_ev l d w (r.reverse ++ [1]) (by simp only [maxLen]; omega) (by simp [maxLen]; omega)
    have e2 := implFareDay_ev l d w r.reverse (by simp only [maxLen]; omega) (by simp [maxLen]; omega)
    rw [day_of hg (ridesOk_rev hr), List.sum_reverse] at e2
    refine Ev.bind e1 (Ev.pos (by omega) ?_)
    have rest : Ev (fun _ => if (r.length : Int) ≥ 10 then some true else if dayV l d w (r.reverse ++ [1]) ≥ min r.sum d then some (decide (dayV l d w (r.reverse ++ [1]) ≤ wrap64 (min r.sum d + 1))) else some false) true := by
      by_cases c : (r.length : Int) ≥ 10
      · exact Ev.pos c (Ev.now _)
      · have hr2 : RidesOk (r.reverse ++ [1]) := ⟨(prices_iff _).2 (fun x hx => by
          rcases List.mem_append.1 hx with hx | hx
          · exact hpr x (by simpa using hx)
          · obtain rfl : x = 1 := by simpa using hx
            omega), by simp; omega⟩
        refine Ev.neg c ?_
        rw [day_of hg hr2, List.sum_append_int, List.sum_reverse, show ([1] : List Int).sum = 1 from rfl, w64 (by omega) (by omega)]
        exact Ev.pos (by omega) (Ev.is (decide_eq_true (by omega)))
    by_cases c : min r.sum d = r.sum
    · exact Ev.pos c (Ev.bind e2 (Ev.pos rfl rest))
    · refine Ev.neg c (Ev.pos (by omega) (Ev.pos (by omega) (Ev.bind e2 (Ev.pos rfl rest))))
  | succ i ih =>
    intro hi
    refine Ev.go ?_ (fun k => by rw [laws_FnFareDay.l0])
    have e0 : ((i + 1 : Nat) : Int) - 1 = (i : Int) := by omega
    rw [e0]
    have hx := hpr r[i] (List.getElem_mem (by omega))
    have ed : r.drop i = r[i] :: r.drop (i + 1) := List.drop_eq_getElem_cons (by omega)
    have hs : 0 ≤ (r.drop (i + 1)).sum ∧ (r.drop (i + 1)).sum ≤ 990 := by
      have hp : Prices (r.drop (i + 1)) := (prices_iff _).2 (fun x hx => hpr x (List.mem_of_mem_drop hx))
      have := sumTo_bd hp _ (Nat.le_refl _)
      rw [sumTo_all, List.length_drop] at this
      omega
    have w1 : wrap64 ((r.drop (i + 1)).sum + r[i]) = (r.drop i).sum := by
      rw [w64 (by omega) (by omega), ed, List.sum_cons]
      omega
    have w2 : wrap64 ((i : Int) - 1) = (i : Int) - 1 := w64 (by omega) (by omega)
    have e3 : (r.drop (i + 1)).reverse ++ [r[i]] = (r.drop i).reverse := by rw [ed, List.reverse_cons]
    rw [rdn (show i < r.length by omega), w1, w2, e3]
    exact Ev.pos (by omega) (Ev.pos (by omega) (Ev.pos (by omega) (Ev.pos (by simp; omega) (ih (by omega)))))
theorem FnFareDay : laws_FnFareDay.Asked := by
  intro x hx
  refine Pv.rounds ?_
  unfold laws_FnFareDay.f
  refine Pv.ite (fun _ => Pv.now rfl) (fun _ => ?_)
  have hd : Pv (fun k => spec_DrawFareDay.f k x) (fun r => r.1.length ≤ 4 ∧ r.2.2.2.length ≤ 6) := by
    unfold spec_DrawFareDay.f
    obtain ⟨b, e, hb⟩ := open_pv hx.2
    refine Pv.bind0 e (Pv.bind (fare_pv hb (p := 0) (by omega) (by omega)) (fun r1 h1 => Pv.bind (rides_pv hb (p := r1.2.2.2) (by omega) (by omega)) (fun r2 h2 => Pv.now ⟨h1.1, h2.1⟩)))
  refine Pv.bind hd (fun r ⟨h1, h2⟩ => ?_)
  obtain ⟨l, d, w, r⟩ := r
  dsimp only at h1 h2 ⊢
  have hi := implFareDay_ev l d w r (by simp only [maxLen]; omega) (by simp only [maxLen]; omega)
  have hs := specFareDay_ev l d w r (by simp only [maxLen]; omega) (by simp only [maxLen]; omega)
  refine Pv.of (Ev.bind hi (Ev.bind hs (Ev.pos rfl (Ev.go (r := true) ?_ (fun k => by rw [laws_FnFareDay.j0]))))) rfl
  by_cases c : dayV l d w r < 0
  · exact Ev.pos (by simpa using c) (Ev.bind hs (Ev.cast (Ev.now _) (beq_self_eq_true _)))
  · refine Ev.neg (by simpa using c) ?_
    obtain ⟨hg, hr⟩ := day_neg c
    have := dayEnd hg hr r.length (Nat.le_refl _)
    rw [List.drop_length] at this
    rw [day_of hg hr, w64 (by omega) (by omega)]
    exact this
end Go.Proofs.Ytjiiipmeocageaa.Pure
end
section
namespace Go.Proofs.Ytjiiipmeocageaa.fnFareDay
open Go.ChangeShapes Go.WideShapes Go.ChangeAt Go.RowKit Go.Proofs.YtjiiipmeocageaaW.PrintWords Go.Proofs.Ytjiiipmeocageaa.Pr
open Go.ChangeMaps (open_string shut_string)
set_option linter.unusedVariables false
set_option linter.unusedSimpArgs false
theorem own : ownKnob Try.prog.godebug = none := by kernel_rfl
theorem laidOut : laidOutB Try.prog = true := by kernel_rfl
theorem opens0 : Opens Try.prog (Kd.slice 5 (Kd.int .u8)) 45 (fun l => l.length ≤ maxLen ∧ ∀ x ∈ l, (fun n => (Lit.int .u8 n).wf = true) x) := (opens_slice (P := Try.prog) Try.underlying45 (by kernel_rfl) (opens_int (P := Try.prog) (k := .u8) Try.underlying5))
set_option maxRecDepth 100000 in
set_option maxHeartbeats 2000000 in
theorem lifted (os : Os) (started : os.Started) (H : Type) (enc : TypeId × Value → H) :
    ReturnsInHanded {} Try.checked os 6 .any (Rows.fnFareDaySpec.pre6 enc Try.prog Try.f6 Rows.fnFareDayRow.domain false) (Rows.fnFareDaySpec.post enc Try.prog Try.f6 false true false false) := by
  refine returnsInHanded_of_change_sized (C := Try.checked) own started (by kernel_rfl) Try.func6
    (ChangeSpec.witness6 (enc := enc) (C := Try.checked) false ⟨#[], #[(.slice none 0 0)], []⟩ 8 (by kernel_rfl) (by kernel_rfl) (by kernel_rfl) (by kernel_rfl)) ?_
  intro W base args ds gs before hval0 hW hcnd hsz0 _
  have hval : ∀ (j : Nat) t v, Try.f6.params[j]? = some t → args[j]? = some v → Value.okWide Try.prog W .any base t v := hval0
  have hW' := hW
  obtain ⟨p, q, hA0, hV, rfl, hfz, hnd⟩ := hW
  have hA : DataW.TrodAll enc Try.prog W 0 (fun _ => true) true Try.f6.params.toList args.toList ds p := hA0
  rw [Try.params6] at hA hval
  obtain ⟨v0, vs0, d0, ds0, p0, q0, hargs, rfl, rfl, h0, r0⟩ := trodAll_cons hA
  obtain ⟨rfl, rfl, rfl⟩ := trodAll_nil r0
  obtain rfl : args = #[v0] := by cases args; simp_all
  obtain ⟨rfl, rfl⟩ := trodVars_none hV
  have k0 := h0
  have lt0 : ∀ x ∈ p0, x.block < W.heap.size := by obtain ⟨m, hm⟩ := k0; exact DataW.trod_lt m _ _ _ hm
  obtain ⟨a0, len0, cap0, rfl⟩ := okWide_slice Try.underlying45 (hval 0 45 v0 rfl rfl)
  obtain ⟨fuel0, hf0⟩ := h0
  obtain ⟨l0, ⟨A0, c0, e0, hc0, hr0⟩, w0⟩ := opens0 hf0
  have e0' : (Value.slice a0 len0 cap0) = .slice A0 l0.length c0 := (List.cons.inj e0).1
  injection e0' with e0a e0b e0c
  subst e0a e0b e0c
  obtain ⟨k, hh⟩ := Pure.FnFareDay l0 w0
  refine (laws_FnFareDay.calls k _ _ l0 true W hr0 hc0 hh).mono fun e W' ⟨he, bel0⟩ => ?_
  have bel : Below W.heap.size W W' := bel0
  subst he
  exact ⟨_, rfl, _, _, _, [], _, [], hW', trodAll_mk1 (shut_bool Try.underlying4 _), (trodAll_cons_mk (Below.trod laidOut (by kernel_rfl) (of_decide_eq_true (by kernel_rfl)) k0 bel lt0) trodAll_mk0), rfl, bel.frame _, fun h => by cases h⟩
theorem over : Rows.fnFareDayRow.holds Try.pinned (OpenSpec.ofChange Rows.fnFareDaySpec) :=
  OpenClaim.holds_of_wide 6 Try.f6 rfl rfl rfl rfl rfl rfl rfl ⟨rfl, rfl, rfl, rfl, rfl⟩ rfl rfl rfl rfl rfl (by kernel_rfl) Try.func6 (by kernel_rfl)
    (of_decide_eq_true (by kernel_rfl)) (by unfold Func.isWrapper; first | (rw [if_pos (by decide +kernel)]; kernel_rfl) | (rw [if_neg (by decide +kernel)]; exact ⟨rfl, rfl⟩))
    (fun os started H enc _ => lifted os started H enc)
theorem proved : Rows.FnFareDaySaid := over
#print axioms proved
end Go.Proofs.Ytjiiipmeocageaa.fnFareDay
namespace Go.Proofs.Ytjiiipmeocageaa
/-- The row, under a short name, for the claim. -/
theorem fnFareDay_holds : Rows.FnFareDaySaid := fnFareDay.proved
end Go.Proofs.Ytjiiipmeocageaa
end
