/- For every tariff the program's FareOk answers what the reference's does, and leaves its argument as it was. The law's pure statement. -/
import Derived.Test.YtjiiipmeocageaaQFnExactFareOk
import Derived.Test.YtjiiipmeocageaaPfare
import Derived.Test.YtjiiipmeocageaaPints
set_option linter.unusedSimpArgs false
set_option linter.unusedVariables false
namespace Go.Proofs.Ytjiiipmeocageaa.Pure
open Go.RowKit Go.Proofs.Ytjiiipmeocageaa.Pr Go.Proofs.YtjiiipmeocageaaW.PrintWords Go.Proofs.YtjiiipmeocageaaW.PrintLast Go.Proofs.YtjiiipmeocageaaW.PrintMore
theorem FnExactFareOk : laws_FnExactFareOk.Pure := by
  intro l d w hl hd hw
  refine Ev.rounds ?_
  unfold laws_FnExactFareOk.f
  refine Ev.bind0 (szFare_eq l d w 1048576 (by omega) (by omega) hl.1) ?_
  by_cases hs : (l.length : Int) ≤ 1048576
  · rw [if_neg (by omega)]
    have hf : Ev (fun k => laws_toFare.f k l d w) (l, d, w) := by
      unfold laws_toFare.f
      exact Ev.bind (toIntS_ev l (by omega)) (Ev.now _)
    have hsp : Ev (fun k => spec_FareOk.f k l d w) (fareB l d w) := by
      unfold spec_FareOk.f
      exact Ev.bind (specFareOk_ev l d w hl.1) (Ev.now _)
    have heq : Ev (fun k => laws_eqFare.f k l d w l d w) true := by
      unfold laws_eqFare.f
      exact Ev.bind (eqIntS_ev l hl.1) (Ev.pos rfl (Ev.pos rfl (Ev.pos rfl (Ev.now _))))
    exact Ev.neg (by omega) (Ev.bind hf (Ev.bind hsp (Ev.bind hf (Ev.bind (implFareOk_ev l d w hl.1) (Ev.neg (by simp) (Ev.bind hf (Ev.bind heq (Ev.pos rfl (Ev.now _)))))))))
  · rw [if_pos (by omega)]
    exact Ev.pos (by omega) (Ev.now _)
end Go.Proofs.Ytjiiipmeocageaa.Pure
