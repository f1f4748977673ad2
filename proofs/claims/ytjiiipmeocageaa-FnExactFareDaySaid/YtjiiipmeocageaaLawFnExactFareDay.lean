/- The row of the law FnExactFareDay, out of its pure statement and the walk. -/
import Derived.Test.YtjiiipmeocageaaRows
import Derived.Test.YtjiiipmeocageaaQFnExactFareDay
import Derived.Test.YtjiiipmeocageaaPureFnExactFareDay
import Derived.WalkKit
import Derived.ProofKit
import Derived.OpenShut
import Derived.ShutString
import Derived.ChangeOld
import Derived.Below
import Derived.SizedLaws
import Derived.WideShapes
namespace Go.Proofs.Ytjiiipmeocageaa.fnExactFareDay
open Go.ChangeShapes Go.WideShapes Go.ChangeAt Go.RowKit Go.Proofs.YtjiiipmeocageaaW.PrintWords Go.Proofs.Ytjiiipmeocageaa.Pr
open Go.ChangeMaps (open_string shut_string)
set_option linter.unusedVariables false
set_option linter.unusedSimpArgs false
theorem own : ownKnob Try.prog.godebug = none := by kernel_rfl
theorem laidOut : laidOutB Try.prog = true := by kernel_rfl
theorem opens0 : Opens Try.prog (Kd.pair (Kd.slice 3 (Kd.int .i64)) (Kd.pair (Kd.int .i64) (Kd.int .i64))) 34 (fun x => (fun l => l.length ≤ maxLen ∧ ∀ x ∈ l, I64 x) x.1 ∧ (fun x => I64 x.1 ∧ I64 x.2) x.2) := (opens_struct (P := Try.prog) Try.underlying34 (opensF_cons (P := Try.prog) (by kernel_rfl) (opens_slice (P := Try.prog) Try.underlying32 (by kernel_rfl) (opens_i64 (P := Try.prog) Try.underlying3)) (opensF_cons (P := Try.prog) (by kernel_rfl) (opens_i64 (P := Try.prog) Try.underlying3) (opensF_last (P := Try.prog) (by kernel_rfl) (by kernel_rfl) (opens_i64 (P := Try.prog) Try.underlying3)))))
theorem opens1 : Opens Try.prog (Kd.slice 3 (Kd.int .i64)) 32 (fun l => l.length ≤ maxLen ∧ ∀ x ∈ l, I64 x) := (opens_slice (P := Try.prog) Try.underlying32 (by kernel_rfl) (opens_i64 (P := Try.prog) Try.underlying3))
set_option maxRecDepth 100000 in
set_option maxHeartbeats 2000000 in
theorem lifted (os : Os) (started : os.Started) (H : Type) (enc : TypeId × Value → H) :
    ReturnsInHanded {} Try.checked os 5 .any (Rows.fnExactFareDaySpec.pre6 enc Try.prog Try.f5 Rows.fnExactFareDayRow.domain false) (Rows.fnExactFareDaySpec.post enc Try.prog Try.f5 false true false false) := by
  refine returnsInHanded_of_change_sized (C := Try.checked) own started (by kernel_rfl) Try.func5
    (ChangeSpec.witness6 (enc := enc) (C := Try.checked) false ⟨#[], #[(.agg #[(.slice none 0 0), (.int .i64 0), (.int .i64 0)]), (.slice none 0 0)], []⟩ 8 (by kernel_rfl) (by kernel_rfl) (by kernel_rfl) (by kernel_rfl)) ?_
  intro W base args ds gs before hval0 hW hcnd hsz0 _
  have hval : ∀ (j : Nat) t v, Try.f5.params[j]? = some t → args[j]? = some v → Value.okWide Try.prog W .any base t v := hval0
  have hW' := hW
  obtain ⟨p, q, hA0, hV, rfl, hfz, hnd⟩ := hW
  have hA : DataW.TrodAll enc Try.prog W 0 (fun _ => true) true Try.f5.params.toList args.toList ds p := hA0
  rw [Try.params5] at hA hval
  obtain ⟨v0, vs0, d0, ds0, p0, q0, hargs, rfl, rfl, h0, r0⟩ := trodAll_cons hA
  obtain ⟨v1, vs1, d1, ds1, p1, q1, rfl, rfl, rfl, h1, r1⟩ := trodAll_cons r0
  obtain ⟨rfl, rfl, rfl⟩ := trodAll_nil r1
  obtain rfl : args = #[v0, v1] := by cases args; simp_all
  obtain ⟨rfl, rfl⟩ := trodVars_none hV
  have k0 := h0
  have lt0 : ∀ x ∈ p0, x.block < W.heap.size := by obtain ⟨m, hm⟩ := k0; exact DataW.trod_lt m _ _ _ hm
  obtain ⟨cs0, rfl, hsz0⟩ := okWide_struct Try.underlying34 (hval 0 34 v0 rfl rfl)
  obtain ⟨fuel0, hf0⟩ := h0
  obtain ⟨x0, hK0, w0⟩ := opens0 hf0
  obtain ⟨u0_0, v0_0, e0_0, ha0_0, hb0_0⟩ := hK0
  obtain ⟨A0_1, c0_1, e0_1, hc0_1, hr0_1⟩ := ha0_0
  obtain ⟨u0_2, v0_2, e0_2, ha0_2, hb0_2⟩ := hb0_0
  have e0_3 : u0_2 = [.int .i64 x0.2.1] := ha0_2
  have e0_4 : v0_2 = [.int .i64 x0.2.2] := hb0_2
  have z0 : cs0 = #[.slice A0_1 x0.1.length c0_1, .int .i64 x0.2.1, .int .i64 x0.2.2] := by
    apply Array.toList_inj.1
    have ee : (Value.agg cs0).cells.toList = cs0.toList := rfl
    rw [← ee]
    rw [e0_0]
    subst e0_1
    subst e0_2
    subst e0_3
    subst e0_4
    rfl
  subst z0
  clear e0_4 e0_3 e0_2 e0_1 e0_0
  have k1 := h1
  have lt1 : ∀ x ∈ p1, x.block < W.heap.size := by obtain ⟨m, hm⟩ := k1; exact DataW.trod_lt m _ _ _ hm
  obtain ⟨a1, len1, cap1, rfl⟩ := okWide_slice Try.underlying32 (hval 1 32 v1 rfl rfl)
  obtain ⟨fuel1, hf1⟩ := h1
  obtain ⟨l1, ⟨A1, c1, e1, hc1, hr1⟩, w1⟩ := opens1 hf1
  have e1' : (Value.slice a1 len1 cap1) = .slice A1 l1.length c1 := (List.cons.inj e1).1
  injection e1' with e1a e1b e1c
  subst e1a e1b e1c
  obtain ⟨k, hh⟩ := Pure.FnExactFareDay x0.1 (x0.2.1) (x0.2.2) l1 w0.1 w0.2.1 w0.2.2 w1
  refine (laws_FnExactFareDay.calls k A0_1 c0_1 x0.1 (x0.2.1) (x0.2.2) _ _ l1 true W hr0_1 hc0_1 hr1 hc1 hh).mono fun e W' ⟨he, bel0⟩ => ?_
  have bel : Below W.heap.size W W' := bel0
  subst he
  exact ⟨_, rfl, _, _, _, [], _, [], hW', trodAll_mk1 (shut_bool Try.underlying4 _), (trodAll_cons_mk (Below.trod laidOut (by kernel_rfl) (of_decide_eq_true (by kernel_rfl)) k0 bel lt0) (trodAll_cons_mk (Below.trod laidOut (by kernel_rfl) (of_decide_eq_true (by kernel_rfl)) k1 bel lt1) trodAll_mk0)), rfl, bel.frame _, fun h => by cases h⟩
theorem over : Rows.fnExactFareDayRow.holds Try.pinned (OpenSpec.ofChange Rows.fnExactFareDaySpec) :=
  OpenClaim.holds_of_wide 5 Try.f5 rfl rfl rfl rfl rfl rfl rfl ⟨rfl, rfl, rfl, rfl, rfl⟩ rfl rfl rfl rfl rfl (by kernel_rfl) Try.func5 (by kernel_rfl)
    (of_decide_eq_true (by kernel_rfl)) (by unfold Func.isWrapper; first | (rw [if_pos (by decide +kernel)]; kernel_rfl) | (rw [if_neg (by decide +kernel)]; exact ⟨rfl, rfl⟩))
    (fun os started H enc _ => lifted os started H enc)
theorem proved : Rows.FnExactFareDaySaid := over
#print axioms proved
end Go.Proofs.Ytjiiipmeocageaa.fnExactFareDay
namespace Go.Proofs.Ytjiiipmeocageaa
/-- The row, under a short name, for the claim. -/
theorem fnExactFareDay_holds : Rows.FnExactFareDaySaid := fnExactFareDay.proved
end Go.Proofs.Ytjiiipmeocageaa
