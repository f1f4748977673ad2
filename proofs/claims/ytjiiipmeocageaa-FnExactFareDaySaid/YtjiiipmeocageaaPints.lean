/- Plain laws: lists of numbers are copied, compared, counted by the laws' own helpers. -/
import Derived.Test.YtjiiipmeocageaaPa
import Derived.Test.YtjiiipmeocageaaPrx2
import Derived.Test.YtjiiipmeocageaaPrx3
import Derived.Test.YtjiiipmeocageaaPrx2
import Derived.Test.YtjiiipmeocageaaPrx2
set_option linter.unusedSimpArgs false
set_option linter.unusedVariables false
namespace Go.Proofs.Ytjiiipmeocageaa.Pure
open Go.RowKit Go.Proofs.Ytjiiipmeocageaa.Pr Go.Proofs.YtjiiipmeocageaaW.PrintWords Go.Proofs.YtjiiipmeocageaaW.PrintLast Go.Proofs.YtjiiipmeocageaaW.PrintMore
theorem toIntS_l (l : List Int) (hm : l.length ≤ maxLen) : ∀ (d i : Nat) (x : List Int), l.length - i = d → i ≤ l.length → x.length = l.length → x.take i = l.take i → Ev (fun k => laws_toIntS.l0 k l x (i : Int)) l := by
  intro d
  induction d with
  | zero =>
    intro i x hd hi hx ht
    refine Ev.go ?_ (fun k => by rw [laws_toIntS.l0])
    refine Ev.neg (by omega) (Ev.is ?_)
    have e : i = l.length := by omega
    subst e
    rwa [List.take_of_length_le (by omega), List.take_of_length_le (by omega)] at ht
  | succ d ih =>
    intro i x hd hi hx ht
    have hlt : i < l.length := by omega
    refine Ev.go ?_ (fun k => by rw [laws_toIntS.l0])
    refine Ev.pos (by omega) (Ev.pos (by omega) (Ev.pos (by omega) ?_))
    rw [up1 hlt hm, rdn hlt]
    refine ih (i + 1) _ (by omega) (by omega) (by simp [hx]) ?_
    simp only [Int.toNat_natCast]
    rw [List.take_succ_eq_append_getElem hlt, List.take_succ_eq_append_getElem (by simp; omega), List.take_set_of_le (Nat.le_refl _), ht]
    simp
theorem toIntS_ev (l : List Int) (hm : l.length ≤ 35184372088832) : Ev (fun k => laws_toIntS.f k l) l := by
  unfold laws_toIntS.f
  refine Ev.pos (by omega) (Ev.pos (by simp; omega) ?_)
  exact toIntS_l l (by simp only [maxLen]; omega) _ 0 _ rfl (by omega) (by simp) (by simp)
theorem eqIntS_l (l : List Int) (hm : l.length ≤ maxLen) : ∀ (d i : Nat), l.length - i = d → i ≤ l.length → Ev (fun k => laws_eqIntS.l0 k l l (i : Int)) true := by
  intro d
  induction d with
  | zero =>
    intro i hd hi
    refine Ev.go ?_ (fun k => by rw [laws_eqIntS.l0])
    exact Ev.neg (by omega) (Ev.now _)
  | succ d ih =>
    intro i hd hi
    have hlt : i < l.length := by omega
    refine Ev.go ?_ (fun k => by rw [laws_eqIntS.l0])
    refine Ev.pos (by omega) (Ev.pos (by omega) (Ev.pos (by omega) (Ev.pos rfl ?_)))
    rw [up1 hlt hm]
    exact ih (i + 1) (by omega) (by omega)
theorem eqIntS_ev (l : List Int) (hm : l.length ≤ maxLen) : Ev (fun k => laws_eqIntS.f k l l) true := by
  unfold laws_eqIntS.f
  exact Ev.pos rfl (eqIntS_l l hm _ 0 rfl (by omega))
theorem szIntS_eq (l : List Int) (a : Int) (ha : -1 ≤ a) (ha' : a ≤ 1048576) (hm : l.length ≤ maxLen) : laws_szIntS.f l a = some (if a - (l.length : Int) < 0 then -1 else a - (l.length : Int)) := by
  simp only [maxLen] at hm
  unfold laws_szIntS.f
  rw [w64 (by omega) (by omega)]
  split <;> rfl
theorem szFare_eq (l : List Int) (d w a : Int) (ha : -1 ≤ a) (ha' : a ≤ 1048576) (hm : l.length ≤ maxLen) : laws_szFare.f l d w a = some (if a - (l.length : Int) < 0 then -1 else a - (l.length : Int)) := by
  unfold laws_szFare.f
  rw [szIntS_eq l a ha ha' hm]
  simp only [Option.bind_some]
  split <;> simp <;> omega
end Go.Proofs.Ytjiiipmeocageaa.Pure
