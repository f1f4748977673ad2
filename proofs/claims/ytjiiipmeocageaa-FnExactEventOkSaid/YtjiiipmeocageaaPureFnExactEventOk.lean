/- For every event the program's EventOk answers what the reference's does. The law's pure statement. -/
import Derived.Test.YtjiiipmeocageaaQFnExactEventOk
import Derived.Test.YtjiiipmeocageaaEv
set_option linter.unusedSimpArgs false
set_option linter.unusedVariables false
namespace Go.Proofs.Ytjiiipmeocageaa.Pure
open Go.RowKit Go.Proofs.Ytjiiipmeocageaa.Pr Go.Proofs.YtjiiipmeocageaaW.PrintWords Go.Proofs.YtjiiipmeocageaaW.PrintLast Go.Proofs.YtjiiipmeocageaaW.PrintMore
theorem in1 (x a b : Int) : spec_l1In.f x a b = some (decide (a ≤ x) && decide (x ≤ b)) := by
  unfold spec_l1In.f
  by_cases h : x ≥ a
  · rw [if_pos h]; simp [show a ≤ x from h]
  · rw [if_neg h]; simp [show ¬ a ≤ x from h]
theorem within1 (x a b : Int) : impl_within.f x a b = some (decide (a ≤ x) && decide (x ≤ b)) := by
  unfold impl_within.f
  by_cases h : x ≥ a
  · rw [if_pos h]; simp [show a ≤ x from h]
  · rw [if_neg h]; simp [show ¬ a ≤ x from h]
theorem FnExactEventOk : laws_FnExactEventOk.Pure := by
  intro o i a m hi ha hm
  have h15 : wrap64 (16 - 1) = 15 := w64 (by omega) (by omega)
  unfold laws_FnExactEventOk.f laws_toEvent.f laws_toNews.f spec_EventOk.f spec_l21Ok.f impl_EventOk.f impl_newsOk.f
  simp only [Option.bind_some, in1, within1, h15]
  cases o with
  | false =>
    simp only [Bool.false_eq_true, if_false, some_ite, Option.bind_some, Bool.and_true]
    exact same_true rfl
  | true =>
    simp only [if_true, some_ite, some_ite_p, Option.bind_some]
    refine same_true ?_
    rw [Bool.eq_iff_iff]
    simp only [Bool.and_eq_true, decide_eq_true_eq, beq_iff_eq]
    omega
end Go.Proofs.Ytjiiipmeocageaa.Pure
