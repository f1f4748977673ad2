/- For the statement FnExactFareWeek of this seat: it is proved here, with no further conditions (part 3 of its texts: walks of the functions, the plain law, the row). -/
import Derived.Test.YtmabopomecdidaaRows
import Derived.WalkKit
import Derived.ProofKit
import Derived.OpenShut
import Derived.ShutString
import Derived.ChangeOld
import Derived.Below
import Derived.SizedLaws
import Derived.WideShapes
import Derived.Test.YtmabopomecdidaaKFnExactFareWeek1
section
set_option linter.unusedSimpArgs false
set_option linter.unusedVariables false
namespace Go.Proofs.Ytmabopomecdidaa.Pure
open Go.RowKit Go.Proofs.Ytmabopomecdidaa.Pr Go.Proofs.YtmabopomecdidaaW.PrintWords Go.Proofs.YtmabopomecdidaaW.PrintLast Go.Proofs.YtmabopomecdidaaW.PrintMore
/-- The sum of the first i numbers. -/
def sumTo (l : List Int) : Nat → Int
  | 0 => 0
  | i + 1 => sumTo l i + nth l i
def Prices (l : List Int) : Prop := ∀ i, i < l.length → 0 ≤ nth l i ∧ nth l i ≤ 99
theorem sumTo_bd {l : List Int} (h : Prices l) : ∀ i, i ≤ l.length → 0 ≤ sumTo l i ∧ sumTo l i ≤ 99 * (i : Int) := by
  intro i
  induction i with
  | zero => intro _; simp [sumTo]
  | succ i ih =>
    intro hi
    have h1 := ih (by omega)
    have h2 := h i (by omega)
    simp only [sumTo]
    omega
def RidesOk (l : List Int) : Prop := Prices l ∧ l.length ≤ 10
open Classical in
noncomputable def dayV (l : List Int) (d w : Int) (r : List Int) : Int := if FareGood l d w ∧ RidesOk r then min (sumTo r r.length) d else -1
theorem ridesOk_l (r : List Int) (hm : r.length ≤ maxLen) : ∀ (m i : Nat), r.length - i = m → i ≤ r.length → Ev (fun k => spec_l28Rides.l0 k r (i : Int)) (Bp ((∀ j, j < r.length → i ≤ j → 0 ≤ nth r j ∧ nth r j ≤ 99) ∧ r.length ≤ 10)) := by
  intro m
  induction m with
  | zero =>
    intro i hd hi
    refine Ev.go ?_ (fun k => by rw [spec_l28Rides.l0])
    refine Ev.neg (by omega) (Ev.is (eq_Bp ?_))
    rw [decide_eq_true_eq]
    exact ⟨fun h => ⟨fun j hj hij => absurd hj (by omega), by omega⟩, fun h => by have := h.2; omega⟩
  | succ m ih =>
    intro i hd hi
    have hlt : i < r.length := by omega
    refine Ev.go ?_ (fun k => by rw [spec_l28Rides.l0])
    refine Ev.pos (by omega) (Ev.pos (by omega) (Ev.bind0 (in1 _ _ _) ?_))
    rw [rdg i]
    cases hp : inB (nth r i) 0 99 with
    | false => exact Ev.neg (by simp) (Ev.is (Bp_false (fun h => by have := inB_iff.2 (h.1 i hlt (Nat.le_refl _)); rw [hp] at this; exact absurd this (by simp))).symm)
    | true =>
      refine Ev.pos rfl ?_
      rw [up1 hlt hm]
      refine (ih (i + 1) (by omega) (by omega)).cast (Bp_congr ?_)
      have hb := inB_iff.1 hp
      constructor
      · refine fun h => ⟨fun j hj hij => ?_, h.2⟩
        by_cases e : j = i
        · subst e; exact hb
        · exact h.1 j hj (by omega)
      · exact fun h => ⟨fun j hj hij => h.1 j hj (by omega), h.2⟩
theorem ridesOk_ev (r : List Int) (hm : r.length ≤ maxLen) : Ev (fun k => spec_l28Rides.f k r) (Bp (RidesOk r)) :=
  (ridesOk_l r hm _ 0 rfl (by omega)).cast (Bp_congr ⟨fun h => ⟨fun i hi => h.1 i hi (by omega), h.2⟩, fun h => ⟨fun j hj _ => h.1 j hj, h.2⟩⟩)
theorem day_l (l : List Int) (d w : Int) (r : List Int) (hr : RidesOk r) : ∀ (m i : Nat), r.length - i = m → i ≤ r.length → Ev (fun k => spec_l28Day.l0 k r (sumTo r i) (i : Int) l d w) (min (sumTo r r.length) d) := by
  intro m
  have h10 := hr.2
  induction m with
  | zero =>
    intro i hd hi
    refine Ev.go ?_ (fun k => by rw [spec_l28Day.l0])
    refine Ev.neg (by omega) ?_
    have e : i = r.length := by omega
    subst e
    by_cases h : sumTo r r.length > d
    · exact Ev.pos h (Ev.is (by omega))
    · exact Ev.neg h (Ev.is (by omega))
  | succ m ih =>
    intro i hd hi
    have hlt : i < r.length := by omega
    refine Ev.go ?_ (fun k => by rw [spec_l28Day.l0])
    refine Ev.pos (by omega) (Ev.pos (by omega) ?_)
    have h1 := sumTo_bd hr.1 i (by omega)
    have h2 := hr.1 i hlt
    rw [rdg i, w64 (by omega) (by omega), up1 hlt (by simp only [maxLen]; omega)]
    exact ih (i + 1) (by omega) (by omega)
theorem mn_min (a b : Int) : mn a b = min a b := by unfold mn; omega
theorem implDay_l (l : List Int) (d w : Int) (r : List Int) (hr : RidesOk r) : ∀ (m i : Nat), r.length - i = m → i ≤ r.length → Ev (fun k => impl_FareDay.l0 k (sumTo r i) r (r.length : Int) (i : Int) l d w) (min (sumTo r r.length) d) := by
  intro m
  have h10 := hr.2
  induction m with
  | zero =>
    intro i hd hi
    refine Ev.go ?_ (fun k => by rw [impl_FareDay.l0])
    have e : i = r.length := by omega
    subst e
    exact Ev.neg (by omega) (Ev.is (mn_min _ _))
  | succ m ih =>
    intro i hd hi
    have hlt : i < r.length := by omega
    refine Ev.go ?_ (fun k => by rw [impl_FareDay.l0])
    refine Ev.pos (by omega) (Ev.pos (by omega) (Ev.pos (by omega) ?_))
    have h1 := sumTo_bd hr.1 i (by omega)
    have h2 := hr.1 i hlt
    rw [rdg i, w64 (by omega) (by omega), up1 hlt (by simp only [maxLen]; omega)]
    exact ih (i + 1) (by omega) (by omega)
theorem implFareDay_ev (l : List Int) (d w : Int) (r : List Int) (hm : l.length ≤ maxLen) (hr : r.length ≤ maxLen) : Ev (fun k => impl_FareDay.f k l d w r) (dayV l d w r) := by
  unfold impl_FareDay.f
  refine Ev.bind (implFareOk_ev l d w hm) ?_
  unfold dayV
  by_cases hg : FareGood l d w
  · rw [show fareB l d w = true from Bp_true hg]
    refine Ev.pos rfl ?_
    by_cases h10 : r.length ≤ 10
    · refine Ev.neg (by omega) (Ev.bind0 rfl ?_)
      have hall : (!(r.any fun c => !okC c)) = true ↔ ∀ c ∈ r, 0 ≤ c ∧ c ≤ 99 := by simp [okC]
      by_cases ho : RidesOk r
      · have e : (!(r.any fun c => !okC c)) = true := hall.2 (fun c hc => by
          obtain ⟨j, hj, rfl⟩ := mem_getD hc
          exact ho.1 j hj)
        rw [e, if_pos ⟨hg, ho⟩]
        refine Ev.go ?_ (fun k => by rw [impl_FareDay.j0])
        exact Ev.neg (by simp) (implDay_l l d w r ho _ 0 rfl (by omega))
      · have e : (!(r.any fun c => !okC c)) = false := by
          cases h : (!(r.any fun c => !okC c)) with
          | false => rfl
          | true => exact absurd ⟨fun i hi => hall.1 h _ (getD_mem hi), h10⟩ ho
        rw [e, if_neg (fun h => ho h.2)]
        refine Ev.go ?_ (fun k => by rw [impl_FareDay.j0])
        exact Ev.pos rfl (Ev.now _)
    · rw [if_neg (fun h => h10 h.2.2)]
      refine Ev.pos (by omega) (Ev.go ?_ (fun k => by rw [impl_FareDay.j0]))
      exact Ev.pos rfl (Ev.now _)
  · rw [show fareB l d w = false from Bp_false hg, if_neg (fun h => hg h.1)]
    refine Ev.neg (by simp) (Ev.go ?_ (fun k => by rw [impl_FareDay.j0]))
    exact Ev.pos rfl (Ev.now _)
end Go.Proofs.Ytmabopomecdidaa.Pure
end
section
set_option linter.unusedSimpArgs false
set_option linter.unusedVariables false
namespace Go.Proofs.Ytmabopomecdidaa.Pure
open Go.RowKit Go.Proofs.Ytmabopomecdidaa.Pr Go.Proofs.YtmabopomecdidaaW.PrintWords Go.Proofs.YtmabopomecdidaaW.PrintLast Go.Proofs.YtmabopomecdidaaW.PrintMore
/-- The row at place i. -/
def row (l : List (List Int)) (i : Nat) : List Int := rd_L1 l (i : Int)
theorem rdr (l : List (List Int)) (i : Nat) : rd_L1 l (i : Int) = row l i := rfl
theorem row_get {l : List (List Int)} {i : Nat} (h : i < l.length) : row l i = l[i] := by simp [row, rd_L1, h]
theorem row_mem {l : List (List Int)} {i : Nat} (h : i < l.length) : row l i ∈ l := by
  rw [row_get h]
  exact List.getElem_mem h
/-- The sum of what the first i days cost, no day more than d. -/
def weekTo (l : List (List Int)) (d : Int) : Nat → Int
  | 0 => 0
  | i + 1 => weekTo l d i + min (sumTo (row l i) (row l i).length) d
def DaysFrom (l : List (List Int)) (i : Nat) : Prop := ∀ j, j < l.length → i ≤ j → RidesOk (row l j)
open Classical in
noncomputable def weekV (p : List Int) (d w : Int) (l : List (List Int)) : Int := if FareGood p d w ∧ l.length ≤ 7 ∧ DaysFrom l 0 then min (weekTo l d l.length) w else -1
theorem days_step {l : List (List Int)} {i : Nat} (h : i < l.length) : DaysFrom l i ↔ RidesOk (row l i) ∧ DaysFrom l (i + 1) := by
  constructor
  · exact fun k => ⟨k i h (Nat.le_refl _), fun j hj hij => k j hj (by omega)⟩
  · intro k j hj hij
    by_cases e : j = i
    · subst e; exact k.1
    · exact k.2 j hj (by omega)
theorem weekTo_bd {l : List (List Int)} {d : Int} (hd : 0 ≤ d ∧ d ≤ 99) : ∀ i, (∀ j, j < i → RidesOk (row l j)) → 0 ≤ weekTo l d i ∧ weekTo l d i ≤ 99 * (i : Int) := by
  intro i
  induction i with
  | zero => intro _; simp [weekTo]
  | succ i ih =>
    intro h
    have h1 := ih (fun j hj => h j (by omega))
    have h2 := h i (Nat.lt_succ_self _)
    have h3 := sumTo_bd h2.1 (row l i).length (Nat.le_refl _)
    simp only [weekTo]
    omega
open Classical in
theorem specWeek_l {p : List Int} {d w : Int} (hg : FareGood p d w) (l : List (List Int)) (h7 : l.length ≤ 7) (hm : ∀ r ∈ l, r.length ≤ maxLen) : ∀ (m i : Nat), l.length - i = m → i ≤ l.length → (∀ j, j < i → RidesOk (row l j)) → Ev (fun k => spec_FareWeek.l0 k l (weekTo l d i) (i : Int) p d w) (if DaysFrom l i then min (weekTo l d l.length) w else -1) := by
  intro m
  induction m with
  | zero =>
    intro i hd hi hr
    have e : i = l.length := by omega
    subst e
    refine Ev.go ?_ (fun k => by rw [spec_FareWeek.l0])
    rw [if_pos (show DaysFrom l l.length from fun j h1 h2 => absurd h1 (by omega))]
    refine Ev.neg (by omega) ?_
    by_cases h : weekTo l d l.length > w
    · exact Ev.pos h (Ev.is (by omega))
    · exact Ev.neg h (Ev.is (by omega))
  | succ m ih =>
    intro i hd hi hr
    have hlt : i < l.length := by omega
    refine Ev.go ?_ (fun k => by rw [spec_FareWeek.l0])
    refine Ev.pos (by omega) (Ev.pos (by omega) ?_)
    rw [rdr]
    refine Ev.bind (ridesOk_ev (row l i) (hm _ (row_mem hlt))) ?_
    by_cases ho : RidesOk (row l i)
    · rw [Bp_true ho]
      have hr' : ∀ j, j < i + 1 → RidesOk (row l j) := by
        intro j hj
        by_cases e : j = i
        · subst e; exact ho
        · exact hr j (by omega)
      refine Ev.pos rfl (Ev.bind (show Ev (fun k => spec_l28Day.f k p d w (row l i)) _ from day_l p d w (row l i) ho _ 0 rfl (Nat.zero_le _)) ?_)
      have hn := ih (i + 1) (by omega) (by omega) hr'
      rw [← up1 hlt (by simp only [maxLen]; omega)] at hn
      have hw : wrap64 (weekTo l d i + min (sumTo (row l i) (row l i).length) d) = weekTo l d (i + 1) := by
        have b := weekTo_bd (l := l) hg.2.2.1 (i + 1) hr'
        rw [show weekTo l d i + min (sumTo (row l i) (row l i).length) d = weekTo l d (i + 1) from rfl]
        exact w64 (by omega) (by omega)
      rw [hw]
      refine hn.cast ?_
      have hp : DaysFrom l i = DaysFrom l (i + 1) := propext ⟨fun h => ((days_step hlt).1 h).2, fun h => (days_step hlt).2 ⟨ho, h⟩⟩
      rw [hp]
    · rw [Bp_false ho, if_neg (fun h => ho ((days_step hlt).1 h).1)]
      exact Ev.neg (by simp) (Ev.now _)
theorem specWeek_ev (p : List Int) (d w : Int) (l : List (List Int)) (hp : p.length ≤ maxLen) (hm : ∀ r ∈ l, r.length ≤ maxLen) : Ev (fun k => spec_FareWeek.f k p d w l) (weekV p d w l) := by
  unfold spec_FareWeek.f
  refine Ev.bind (specFareOk_ev p d w hp) ?_
  unfold weekV
  by_cases hg : FareGood p d w
  · rw [show fareB p d w = true from Bp_true hg]
    refine Ev.pos rfl (Ev.go ?_ (fun k => by rw [spec_FareWeek.j0]))
    by_cases h7 : l.length ≤ 7
    · refine Ev.neg (by simp; omega) ((specWeek_l hg l h7 hm _ 0 rfl (Nat.zero_le _) (fun j h => absurd h (by omega))).cast ?_)
      by_cases hd : DaysFrom l 0
      · rw [if_pos hd, if_pos ⟨hg, h7, hd⟩]
      · rw [if_neg hd, if_neg (fun h => hd h.2.2)]
    · rw [if_neg (fun h => h7 h.2.1)]
      exact Ev.pos (by simp; omega) (Ev.now _)
  · rw [show fareB p d w = false from Bp_false hg, if_neg (fun h => hg h.1)]
    refine Ev.neg (by simp) (Ev.go ?_ (fun k => by rw [spec_FareWeek.j0]))
    exact Ev.pos rfl (Ev.now _)
open Classical in
theorem implWeek_l {p : List Int} {d w : Int} (hg : FareGood p d w) (hpm : p.length ≤ maxLen) (l : List (List Int)) (h7 : l.length ≤ 7) (hm : ∀ r ∈ l, r.length ≤ maxLen) : ∀ (m i : Nat), l.length - i = m → i ≤ l.length → (∀ j, j < i → RidesOk (row l j)) → Ev (fun k => impl_FareWeek.l0 k (weekTo l d i) l (l.length : Int) (i : Int) p d w) (if DaysFrom l i then min (weekTo l d l.length) w else -1) := by
  intro m
  induction m with
  | zero =>
    intro i hd hi hr
    have e : i = l.length := by omega
    subst e
    refine Ev.go ?_ (fun k => by rw [impl_FareWeek.l0])
    rw [if_pos (show DaysFrom l l.length from fun j h1 h2 => absurd h1 (by omega))]
    exact Ev.neg (by omega) (Ev.is (mn_min _ _))
  | succ m ih =>
    intro i hd hi hr
    have hlt : i < l.length := by omega
    refine Ev.go ?_ (fun k => by rw [impl_FareWeek.l0])
    refine Ev.pos (by omega) (Ev.pos (by omega) (Ev.pos (by omega) ?_))
    rw [rdr]
    refine Ev.bind (implFareDay_ev p d w (row l i) hpm (hm _ (row_mem hlt))) ?_
    unfold dayV
    by_cases ho : RidesOk (row l i)
    · rw [if_pos ⟨hg, ho⟩]
      have hr' : ∀ j, j < i + 1 → RidesOk (row l j) := by
        intro j hj
        by_cases e : j = i
        · subst e; exact ho
        · exact hr j (by omega)
      have h3 := sumTo_bd ho.1 (row l i).length (Nat.le_refl _)
      have h4 := hg.2.2.1
      refine Ev.neg (by omega) ?_
      have hn := ih (i + 1) (by omega) (by omega) hr'
      rw [← up1 hlt (by simp only [maxLen]; omega)] at hn
      have hw : wrap64 (weekTo l d i + min (sumTo (row l i) (row l i).length) d) = weekTo l d (i + 1) := by
        have b := weekTo_bd (l := l) hg.2.2.1 (i + 1) hr'
        rw [show weekTo l d i + min (sumTo (row l i) (row l i).length) d = weekTo l d (i + 1) from rfl]
        exact w64 (by omega) (by omega)
      rw [hw]
      refine hn.cast ?_
      have hp : DaysFrom l i = DaysFrom l (i + 1) := propext ⟨fun h => ((days_step hlt).1 h).2, fun h => (days_step hlt).2 ⟨ho, h⟩⟩
      rw [hp]
    · rw [if_neg (fun h => ho h.2), if_neg (fun h => ho ((days_step hlt).1 h).1)]
      exact Ev.pos (by omega) (Ev.now _)
theorem implWeek_ev (p : List Int) (d w : Int) (l : List (List Int)) (hp : p.length ≤ maxLen) (hm : ∀ r ∈ l, r.length ≤ maxLen) : Ev (fun k => impl_FareWeek.f k p d w l) (weekV p d w l) := by
  unfold impl_FareWeek.f
  refine Ev.bind (implFareOk_ev p d w hp) ?_
  unfold weekV
  by_cases hg : FareGood p d w
  · rw [show fareB p d w = true from Bp_true hg]
    refine Ev.pos rfl (Ev.go ?_ (fun k => by rw [impl_FareWeek.j0]))
    by_cases h7 : l.length ≤ 7
    · refine Ev.neg (by simp; omega) ((implWeek_l hg hp l h7 hm _ 0 rfl (Nat.zero_le _) (fun j h => absurd h (by omega))).cast ?_)
      by_cases hd : DaysFrom l 0
      · rw [if_pos hd, if_pos ⟨hg, h7, hd⟩]
      · rw [if_neg hd, if_neg (fun h => hd h.2.2)]
    · rw [if_neg (fun h => h7 h.2.1)]
      exact Ev.pos (by simp; omega) (Ev.now _)
  · rw [show fareB p d w = false from Bp_false hg, if_neg (fun h => hg h.1)]
    refine Ev.neg (by simp) (Ev.go ?_ (fun k => by rw [impl_FareWeek.j0]))
    exact Ev.pos rfl (Ev.now _)
theorem toIntSS_l (l : List (List Int)) (hm : l.length ≤ maxLen) (hr : ∀ r ∈ l, r.length ≤ 35184372088832) : ∀ (d i : Nat) (x : List (List Int)), l.length - i = d → i ≤ l.length → x.length = l.length → x.take i = l.take i → Ev (fun k => laws_toIntSS.l0 k l x (i : Int)) l := by
  intro d
  induction d with
  | zero =>
    intro i x hd hi hx ht
    refine Ev.go ?_ (fun k => by rw [laws_toIntSS.l0])
    refine Ev.neg (by omega) (Ev.is ?_)
    have e : i = l.length := by omega
    subst e
    rwa [List.take_of_length_le (by omega), List.take_of_length_le (by omega)] at ht
  | succ d ih =>
    intro i x hd hi hx ht
    have hlt : i < l.length := by omega
    refine Ev.go ?_ (fun k => by rw [laws_toIntSS.l0])
    refine Ev.pos (by omega) (Ev.pos (by omega) ?_)
    rw [rdr]
    refine Ev.bind (toIntS_ev (row l i) (hr _ (row_mem hlt))) (Ev.pos (by omega) ?_)
    rw [up1 hlt hm, row_get hlt]
    refine ih (i + 1) _ (by omega) (by omega) (by simp [hx]) ?_
    simp only [Int.toNat_natCast]
    rw [List.take_succ_eq_append_getElem hlt, List.take_succ_eq_append_getElem (by simp; omega), List.take_set_of_le (Nat.le_refl _), ht]
    simp
theorem toIntSS_ev (l : List (List Int)) (hm : l.length ≤ 11728124029610) (hr : ∀ r ∈ l, r.length ≤ 35184372088832) : Ev (fun k => laws_toIntSS.f k l) l := by
  unfold laws_toIntSS.f
  refine Ev.pos (by omega) (Ev.pos (by simp; omega) ?_)
  exact toIntSS_l l (by simp only [maxLen]; omega) hr _ 0 _ rfl (by omega) (by simp) (by simp)
theorem eqIntSS_l (l : List (List Int)) (hm : l.length ≤ maxLen) (hr : ∀ r ∈ l, r.length ≤ maxLen) : ∀ (d i : Nat), l.length - i = d → i ≤ l.length → Ev (fun k => laws_eqIntSS.l0 k l l (i : Int)) true := by
  intro d
  induction d with
  | zero =>
    intro i hd hi
    refine Ev.go ?_ (fun k => by rw [laws_eqIntSS.l0])
    exact Ev.neg (by omega) (Ev.now _)
  | succ d ih =>
    intro i hd hi
    have hlt : i < l.length := by omega
    refine Ev.go ?_ (fun k => by rw [laws_eqIntSS.l0])
    refine Ev.pos (by omega) (Ev.pos (by omega) (Ev.pos (by omega) ?_))
    rw [rdr, up1 hlt hm]
    exact Ev.bind (eqIntS_ev _ (hr _ (row_mem hlt))) (Ev.pos rfl (ih (i + 1) (by omega) (by omega)))
theorem eqIntSS_ev (l : List (List Int)) (hm : l.length ≤ maxLen) (hr : ∀ r ∈ l, r.length ≤ maxLen) : Ev (fun k => laws_eqIntSS.f k l l) true := by
  unfold laws_eqIntSS.f
  exact Ev.pos rfl (eqIntSS_l l hm hr _ 0 rfl (by omega))
theorem szIntSS_l (l : List (List Int)) (hm : l.length ≤ maxLen) (hr : ∀ r ∈ l, r.length ≤ maxLen) : ∀ (d i : Nat) (a : Int), l.length - i = d → i ≤ l.length → 0 ≤ a → a ≤ 1048576 → ∃ t, Ev (fun k => laws_szIntSS.l0 k l a (i : Int)) t ∧ (0 ≤ t → ∀ j, j < l.length → i ≤ j → (row l j).length ≤ 1048576) := by
  intro d
  induction d with
  | zero =>
    intro i a hd hi ha ha'
    refine ⟨a, Ev.go ?_ (fun k => by rw [laws_szIntSS.l0]), fun _ j h1 h2 => absurd h1 (by omega)⟩
    exact Ev.neg (by omega) (Ev.now _)
  | succ d ih =>
    intro i a hd hi ha ha'
    have hlt : i < l.length := by omega
    have hs := szIntS_eq (row l i) a (by omega) ha' (hr _ (row_mem hlt))
    by_cases c : a - ((row l i).length : Int) < 0
    · refine ⟨-1, Ev.go ?_ (fun k => by rw [laws_szIntSS.l0]), fun h => absurd h (by omega)⟩
      rw [if_pos c] at hs
      refine Ev.pos (by omega) (Ev.pos (by omega) ?_)
      rw [rdr]
      exact Ev.bind0 hs (Ev.pos (by omega) (Ev.now _))
    · rw [if_neg c] at hs
      obtain ⟨t, h1, h2⟩ := ih (i + 1) (a - ((row l i).length : Int)) (by omega) (by omega) (by omega) (by omega)
      refine ⟨t, Ev.go ?_ (fun k => by rw [laws_szIntSS.l0]), fun h j hj hij => ?_⟩
      · refine Ev.pos (by omega) (Ev.pos (by omega) ?_)
        rw [rdr, up1 hlt hm]
        exact Ev.bind0 hs (Ev.neg (by omega) h1)
      · by_cases e : j = i
        · subst e; omega
        · exact h2 h j hj (by omega)
theorem szIntSS_ev (l : List (List Int)) (a : Int) (ha : 0 ≤ a) (ha' : a ≤ 1048576) (hm : l.length ≤ maxLen) (hr : ∀ r ∈ l, r.length ≤ maxLen) : ∃ t, Ev (fun k => laws_szIntSS.f k l a) t ∧ (0 ≤ t → l.length ≤ 1048576 ∧ ∀ r ∈ l, r.length ≤ 1048576) := by
  have hm2 := hm
  simp only [maxLen] at hm2
  unfold laws_szIntSS.f
  rw [w64 (by omega) (by omega)]
  by_cases c : a - (l.length : Int) < 0
  · exact ⟨-1, Ev.pos c (Ev.now _), fun h => absurd h (by omega)⟩
  · obtain ⟨t, h1, h2⟩ := szIntSS_l l hm hr _ 0 (a - (l.length : Int)) rfl (Nat.zero_le _) (by omega) (by omega)
    refine ⟨t, Ev.neg c h1, fun h => ⟨by omega, fun r hr' => ?_⟩⟩
    obtain ⟨i, hi, rfl⟩ := List.getElem_of_mem hr'
    rw [← row_get hi]
    exact h2 h i hi (Nat.zero_le _)
end Go.Proofs.Ytmabopomecdidaa.Pure
end
section
set_option linter.unusedSimpArgs false
set_option linter.unusedVariables false
namespace Go.Proofs.Ytmabopomecdidaa.Pure
open Go.RowKit Go.Proofs.Ytmabopomecdidaa.Pr Go.Proofs.YtmabopomecdidaaW.PrintWords Go.Proofs.YtmabopomecdidaaW.PrintLast Go.Proofs.YtmabopomecdidaaW.PrintMore
theorem FnExactFareWeek : laws_FnExactFareWeek.Asked := by
  intro p d w l hp hd hw hl
  refine Ev.rounds ?_
  unfold laws_FnExactFareWeek.f
  have hr : ∀ r ∈ l, r.length ≤ maxLen := fun r h => (hl.2 r h).1
  refine Ev.bind0 (szFare_eq p d w 1048576 (by omega) (by omega) hp.1) ?_
  by_cases hs : (p.length : Int) ≤ 1048576
  · rw [if_neg (by omega)]
    refine Ev.neg (by omega) ?_
    obtain ⟨t, h1, h2⟩ := szIntSS_ev l (1048576 - (p.length : Int)) (by omega) (by omega) hl.1 hr
    refine Ev.bind h1 ?_
    by_cases ht : t < 0
    · exact Ev.pos ht (Ev.now _)
    · obtain ⟨h3, h4⟩ := h2 (by omega)
      have hf : Ev (fun k => laws_toFare.f k p d w) (p, d, w) := by
        unfold laws_toFare.f
        exact Ev.bind (toIntS_ev p (by omega)) (Ev.now _)
      have hi := toIntSS_ev l (by omega) (fun r h => by have := h4 r h; omega)
      refine Ev.neg ht (Ev.bind hf (Ev.bind hi (Ev.bind (specWeek_ev p d w l hp.1 hr) (Ev.bind hf (Ev.bind hi (Ev.bind (implWeek_ev p d w l hp.1 hr) (Ev.pos rfl (Ev.bind hf ?_))))))))
      refine Ev.bind (a := true) ?_ (Ev.pos rfl (Ev.bind hi (Ev.bind (eqIntSS_ev l hl.1 hr) (Ev.pos rfl (Ev.now _)))))
      unfold laws_eqFare.f
      exact Ev.bind (eqIntS_ev p hp.1) (Ev.pos rfl (Ev.pos rfl (Ev.pos rfl (Ev.now _))))
  · rw [if_pos (by omega)]
    exact Ev.pos (by omega) (Ev.now _)
end Go.Proofs.Ytmabopomecdidaa.Pure
end
section
namespace Go.Proofs.Ytmabopomecdidaa.fnExactFareWeek
open Go.ChangeShapes Go.WideShapes Go.ChangeAt Go.RowKit Go.Proofs.YtmabopomecdidaaW.PrintWords Go.Proofs.Ytmabopomecdidaa.Pr
open Go.ChangeMaps (open_string shut_string)
set_option linter.unusedVariables false
set_option linter.unusedSimpArgs false
theorem own : ownKnob Try.prog.godebug = none := by kernel_rfl
theorem laidOut : laidOutB Try.prog = true := by kernel_rfl
theorem opens0 : Opens Try.prog (Kd.pair (Kd.slice 3 (Kd.int .i64)) (Kd.pair (Kd.int .i64) (Kd.int .i64))) 24 (fun x => (fun l => l.length ≤ maxLen ∧ ∀ x ∈ l, I64 x) x.1 ∧ (fun x => I64 x.1 ∧ I64 x.2) x.2) := (opens_struct (P := Try.prog) Try.underlying24 (opensF_cons (P := Try.prog) (by kernel_rfl) (opens_slice (P := Try.prog) Try.underlying22 (by kernel_rfl) (opens_i64 (P := Try.prog) Try.underlying3)) (opensF_cons (P := Try.prog) (by kernel_rfl) (opens_i64 (P := Try.prog) Try.underlying3) (opensF_last (P := Try.prog) (by kernel_rfl) (by kernel_rfl) (opens_i64 (P := Try.prog) Try.underlying3)))))
theorem opens1 : Opens Try.prog (Kd.slice 22 (Kd.slice 3 (Kd.int .i64))) 25 (fun l => l.length ≤ maxLen ∧ ∀ x ∈ l, (fun l => l.length ≤ maxLen ∧ ∀ x ∈ l, I64 x) x) := (opens_slice (P := Try.prog) Try.underlying25 (by kernel_rfl) (opens_slice (P := Try.prog) Try.underlying22 (by kernel_rfl) (opens_i64 (P := Try.prog) Try.underlying3)))
set_option maxRecDepth 100000 in
set_option maxHeartbeats 2000000 in
theorem lifted (os : Os) (started : os.Started) (H : Type) (enc : TypeId × Value → H) :
    ReturnsInHanded {} Try.checked os 3 .any (Rows.fnExactFareWeekSpec.pre6 enc Try.prog Try.f3 Rows.fnExactFareWeekRow.domain false) (Rows.fnExactFareWeekSpec.post enc Try.prog Try.f3 false true false false) := by
  refine returnsInHanded_of_change_sized (C := Try.checked) own started (by kernel_rfl) Try.func3
    (ChangeSpec.witness6 (enc := enc) (C := Try.checked) false ⟨#[], #[(.agg #[(.slice none 0 0), (.int .i64 0), (.int .i64 0)]), (.slice none 0 0)], []⟩ 8 (by kernel_rfl) (by kernel_rfl) (by kernel_rfl) (by kernel_rfl)) ?_
  intro W base args ds gs before hval0 hW hcnd hsz0 _
  have hval : ∀ (j : Nat) t v, Try.f3.params[j]? = some t → args[j]? = some v → Value.okWide Try.prog W .any base t v := hval0
  have hW' := hW
  obtain ⟨p, q, hA0, hV, rfl, hfz, hnd⟩ := hW
  have hA : DataW.TrodAll enc Try.prog W 0 (fun _ => true) true Try.f3.params.toList args.toList ds p := hA0
  rw [Try.params3] at hA hval
  obtain ⟨v0, vs0, d0, ds0, p0, q0, hargs, rfl, rfl, h0, r0⟩ := trodAll_cons hA
  obtain ⟨v1, vs1, d1, ds1, p1, q1, rfl, rfl, rfl, h1, r1⟩ := trodAll_cons r0
  obtain ⟨rfl, rfl, rfl⟩ := trodAll_nil r1
  obtain rfl : args = #[v0, v1] := by cases args; simp_all
  obtain ⟨rfl, rfl⟩ := trodVars_none hV
  have k0 := h0
  have lt0 : ∀ x ∈ p0, x.block < W.heap.size := by obtain ⟨m, hm⟩ := k0; exact DataW.trod_lt m _ _ _ hm
  obtain ⟨cs0, rfl, hsz0⟩ := okWide_struct Try.underlying24 (hval 0 24 v0 rfl rfl)
  obtain ⟨fuel0, hf0⟩ := h0
  obtain ⟨x0, hK0, w0⟩ := opens0 hf0
  obtain ⟨u0_0, v0_0, e0_0, ha0_0, hb0_0⟩ := hK0
  obtain ⟨A0_1, c0_1, e0_1, hc0_1, hr0_1⟩ := ha0_0
  obtain ⟨u0_2, v0_2, e0_2, ha0_2, hb0_2⟩ := hb0_0
  have e0_3 : u0_2 = [.int .i64 x0.2.1] := ha0_2
  have e0_4 : v0_2 = [.int .i64 x0.2.2] := hb0_2
  have z0 : cs0 = #[.slice A0_1 x0.1.length c0_1, .int .i64 x0.2.1, .int .i64 x0.2.2] := by
    apply Array.toList_inj.1
    have ee : (Value.agg cs0).cells.toList = cs0.toList := rfl
    rw [← ee]
    rw [e0_0]
    subst e0_1
    subst e0_2
    subst e0_3
    subst e0_4
    rfl
  subst z0
  clear e0_4 e0_3 e0_2 e0_1 e0_0
  have k1 := h1
  have lt1 : ∀ x ∈ p1, x.block < W.heap.size := by obtain ⟨m, hm⟩ := k1; exact DataW.trod_lt m _ _ _ hm
  obtain ⟨a1, len1, cap1, rfl⟩ := okWide_slice Try.underlying25 (hval 1 25 v1 rfl rfl)
  obtain ⟨fuel1, hf1⟩ := h1
  obtain ⟨l1, ⟨A1, c1, e1, hc1, hr1⟩, w1⟩ := opens1 hf1
  have e1' : (Value.slice a1 len1 cap1) = .slice A1 l1.length c1 := (List.cons.inj e1).1
  injection e1' with e1a e1b e1c
  subst e1a e1b e1c
  obtain ⟨k, hh⟩ := Pure.FnExactFareWeek x0.1 (x0.2.1) (x0.2.2) l1 w0.1 w0.2.1 w0.2.2 w1
  refine (laws_FnExactFareWeek.calls k A0_1 c0_1 x0.1 (x0.2.1) (x0.2.2) _ _ l1 true W hr0_1 hc0_1 hr1 hc1 hh).mono fun e W' ⟨he, bel0⟩ => ?_
  have bel : Below W.heap.size W W' := bel0
  subst he
  exact ⟨_, rfl, _, _, _, [], _, [], hW', trodAll_mk1 (shut_bool Try.underlying4 _), (trodAll_cons_mk (Below.trod laidOut (by kernel_rfl) (of_decide_eq_true (by kernel_rfl)) k0 bel lt0) (trodAll_cons_mk (Below.trod laidOut (by kernel_rfl) (of_decide_eq_true (by kernel_rfl)) k1 bel lt1) trodAll_mk0)), rfl, bel.frame _, fun h => by cases h⟩
theorem over : Rows.fnExactFareWeekRow.holds Try.pinned (OpenSpec.ofChange Rows.fnExactFareWeekSpec) :=
  OpenClaim.holds_of_wide 3 Try.f3 rfl rfl rfl rfl rfl rfl rfl ⟨rfl, rfl, rfl, rfl, rfl⟩ rfl rfl rfl rfl rfl (by kernel_rfl) Try.func3 (by kernel_rfl)
    (of_decide_eq_true (by kernel_rfl)) (by unfold Func.isWrapper; first | (rw [if_pos (by decide +kernel)]; kernel_rfl) | (rw [if_neg (by decide +kernel)]; exact ⟨rfl, rfl⟩))
    (fun os started H enc _ => lifted os started H enc)
theorem proved : Rows.FnExactFareWeekSaid := over
#print axioms proved
end Go.Proofs.Ytmabopomecdidaa.fnExactFareWeek
namespace Go.Proofs.Ytmabopomecdidaa
/-- The row, under a short name, for the claim. -/
theorem fnExactFareWeek_holds : Rows.FnExactFareWeekSaid := fnExactFareWeek.proved
end Go.Proofs.Ytmabopomecdidaa
end
