/- For every tariff and rides the program's FareDay answers what the reference's does, and leaves its arguments as they were. The law's pure statement. -/
import Derived.Test.YtjiiipmeocageaaQFnExactFareDay
import Derived.Test.YtjiiipmeocageaaPfare2
import Derived.Test.YtjiiipmeocageaaPints
set_option linter.unusedSimpArgs false
set_option linter.unusedVariables false
namespace Go.Proofs.Ytjiiipmeocageaa.Pure
open Go.RowKit Go.Proofs.Ytjiiipmeocageaa.Pr Go.Proofs.YtjiiipmeocageaaW.PrintWords Go.Proofs.YtjiiipmeocageaaW.PrintLast Go.Proofs.YtjiiipmeocageaaW.PrintMore
theorem FnExactFareDay : laws_FnExactFareDay.Pure := by
  intro l d w r hl hd hw hr
  refine Ev.rounds ?_
  unfold laws_FnExactFareDay.f
  by_cases hr2 : (r.length : Int) ≤ 1048576
  · refine Ev.neg (by omega) ?_
    refine Ev.bind0 (szFare_eq l d w 1048576 (by omega) (by omega) hl.1) ?_
    by_cases hs : (l.length : Int) ≤ 1048576
    · rw [if_neg (by omega)]
      have hf : Ev (fun k => laws_toFare.f k l d w) (l, d, w) := by
        unfold laws_toFare.f
        exact Ev.bind (toIntS_ev l (by omega)) (Ev.now _)
      have hi := toIntS_ev r (by omega)
      refine Ev.neg (by omega) (Ev.bind hf (Ev.bind hi (Ev.bind (specFareDay_ev l d w r hl.1 hr.1) (Ev.bind hf (Ev.bind hi (Ev.bind (implFareDay_ev l d w r hl.1 hr.1) (Ev.pos rfl (Ev.bind hf ?_))))))))
      refine Ev.bind (a := true) ?_ (Ev.pos rfl (Ev.bind hi (Ev.bind (eqIntS_ev r hr.1) (Ev.pos rfl (Ev.now _)))))
      unfold laws_eqFare.f
      exact Ev.bind (eqIntS_ev l hl.1) (Ev.pos rfl (Ev.pos rfl (Ev.pos rfl (Ev.now _))))
    · rw [if_pos (by omega)]
      exact Ev.pos (by omega) (Ev.now _)
  · exact Ev.pos (by omega) (Ev.now _)
end Go.Proofs.Ytjiiipmeocageaa.Pure
