/- For the statement FnExactRingBest of this seat: it is proved here, with no further conditions (part 9 of its texts: words, walks of the functions, the plain law, the row). -/
import Derived.Test.YtljdcinpjnijcaaRows
import Derived.WalkKit
import Derived.ProofKit
import Derived.OpenShut
import Derived.ShutString
import Derived.ChangeOld
import Derived.Below
import Derived.SizedLaws
import Derived.WideShapes
import Derived.Test.YtljdcinpjnijcaaKFnExactRingBest7
section
namespace Go.Proofs.Ytljdcinpjnijcaa.fnExactRingBest
open Go.ChangeShapes Go.WideShapes Go.ChangeAt Go.RowKit Go.Proofs.YtljdcinpjnijcaaW.PrintWords Go.Proofs.Ytljdcinpjnijcaa.Pr
open Go.ChangeMaps (open_string shut_string)
set_option linter.unusedVariables false
set_option linter.unusedSimpArgs false
theorem own : ownKnob Try.prog.godebug = none := by kernel_rfl
theorem laidOut : laidOutB Try.prog = true := by kernel_rfl
instance inh112 : Inhabited S112 := ⟨z112⟩
theorem opens0 : Opens Try.prog (Kd.pair (Kd.int .i64) (Kd.slice 112 k112)) 38 (fun x => I64 x.1 ∧ (fun l => l.length ≤ maxLen ∧ ∀ x ∈ l, (fun b : S112 => (fun x => I64 x.1 ∧ (fun x => I64 x.1 ∧ (fun x => I64 x.1 ∧ (fun x => I64 x.1 ∧ I64 x.2) x.2) x.2) x.2) (b.f0, b.f1, b.f2, b.f3, b.f4)) x) x.2) := (opens_struct (P := Try.prog) Try.underlying38 (opensF_cons (P := Try.prog) (by kernel_rfl) (opens_i64 (P := Try.prog) Try.underlying3) (opensF_last (P := Try.prog) (by kernel_rfl) (by kernel_rfl) (opens_slice (P := Try.prog) Try.underlying36 (by kernel_rfl) (opens_iso (P := Try.prog) (fun x : S112 => (x.f0, x.f1, x.f2, x.f3, x.f4)) (fun x => (⟨x.1, x.2.1, x.2.2.1, x.2.2.2.1, x.2.2.2.2⟩ : S112)) (fun _ => rfl) (opens_struct (P := Try.prog) Try.underlying112 (opensF_cons (P := Try.prog) (by kernel_rfl) (opens_i64 (P := Try.prog) Try.underlying3) (opensF_cons (P := Try.prog) (by kernel_rfl) (opens_i64 (P := Try.prog) Try.underlying3) (opensF_cons (P := Try.prog) (by kernel_rfl) (opens_i64 (P := Try.prog) Try.underlying3) (opensF_cons (P := Try.prog) (by kernel_rfl) (opens_i64 (P := Try.prog) Try.underlying3) (opensF_last (P := Try.prog) (by kernel_rfl) (by kernel_rfl) (opens_i64 (P := Try.prog) Try.underlying3))))))))))))
set_option maxRecDepth 100000 in
set_option maxHeartbeats 2000000 in
theorem lifted (os : Os) (started : os.Started) (H : Type) (enc : TypeId × Value → H) :
  ReturnsInHanded {} Try.checked os 11 .any (Rows.fnExactRingBestSpec.pre6 enc Try.prog Try.f11 Rows.fnExactRingBestRow.domain false) (Rows.fnExactRingBestSpec.post enc Try.prog Try.f11 false true false false) := by
 refine returnsInHanded_of_change_sized (C := Try.checked) own started (by kernel_rfl) Try.func11
  (ChangeSpec.witness6 (enc := enc) (C := Try.checked) false ⟨#[], #[(.agg #[(.int .i64 0), (.slice none 0 0)])], []⟩ 8 (by kernel_rfl) (by kernel_rfl) (by kernel_rfl) (by kernel_rfl)) ?_
 intro W base args ds gs before hval0 hW hcnd hsz0 _
 have hval : ∀ (j : Nat) t v, Try.f11.params[j]? = some t → args[j]? = some v → Value.okWide Try.prog W .any base t v := hval0
 have hW' := hW
 obtain ⟨p, q, hA0, hV, rfl, hfz, hnd⟩ := hW
 have hA : DataW.TrodAll enc Try.prog W 0 (fun _ => true) true Try.f11.params.toList args.toList ds p := hA0
 rw [Try.params11] at hA hval
 obtain ⟨v0, vs0, d0, ds0, p0, q0, hargs, rfl, rfl, h0, r0⟩ := trodAll_cons hA
 obtain ⟨rfl, rfl, rfl⟩ := trodAll_nil r0
 obtain rfl : args = #[v0] := by cases args; simp_all
 obtain ⟨rfl, rfl⟩ := trodVars_none hV
 have k0 := h0
 have lt0 : ∀ x ∈ p0, x.block < W.heap.size := by obtain ⟨m, hm⟩ := k0; exact DataW.trod_lt m _ _ _ hm
 obtain ⟨cs0, rfl, hsz0⟩ := okWide_struct Try.underlying38 (hval 0 38 v0 rfl rfl)
 obtain ⟨fuel0, hf0⟩ := h0
 obtain ⟨x0, hK0, w0⟩ := opens0 hf0
 obtain ⟨u0_0, v0_0, e0_0, ha0_0, hb0_0⟩ := hK0
 have e0_1 : u0_0 = [.int .i64 x0.1] := ha0_0
 obtain ⟨A0_2, c0_2, e0_2, hc0_2, hr0_2⟩ := hb0_0
 have z0 : cs0 = #[.int .i64 x0.1, .slice A0_2 x0.2.length c0_2] := by
  apply Array.toList_inj.1
  have ee : (Value.agg cs0).cells.toList = cs0.toList := rfl
  rw [← ee]
  rw [e0_0]
  subst e0_1
  subst e0_2
  rfl
 subst z0
 clear e0_2 e0_1 e0_0
 obtain ⟨k, hh⟩ := Pure.FnExactRingBest (x0.1) x0.2 w0.1 w0.2
 refine (laws_FnExactRingBest.calls k (x0.1) A0_2 c0_2 x0.2 true W hr0_2 hc0_2 hh).mono fun e W' ⟨he, bel0⟩ => ?_
 have bel : Below W.heap.size W W' := bel0
 subst he
 exact ⟨_, rfl, _, _, _, [], _, [], hW', trodAll_mk1 (shut_bool Try.underlying4 _), (trodAll_cons_mk (Below.trod laidOut (by kernel_rfl) (of_decide_eq_true (by kernel_rfl)) k0 bel lt0) trodAll_mk0), rfl, bel.frame _, fun h => by cases h⟩
theorem over : Rows.fnExactRingBestRow.holds Try.pinned (OpenSpec.ofChange Rows.fnExactRingBestSpec) :=
 OpenClaim.holds_of_wide 11 Try.f11 rfl rfl rfl rfl rfl rfl rfl ⟨rfl, rfl, rfl, rfl, rfl⟩ rfl rfl rfl rfl rfl (by kernel_rfl) Try.func11 (by kernel_rfl)
  (of_decide_eq_true (by kernel_rfl)) (by unfold Func.isWrapper; first | (rw [if_pos (by decide +kernel)]; kernel_rfl) | (rw [if_neg (by decide +kernel)]; exact ⟨rfl, rfl⟩))
  (fun os started H enc _ => lifted os started H enc)
theorem proved : Rows.FnExactRingBestSaid := over
#print axioms proved
end Go.Proofs.Ytljdcinpjnijcaa.fnExactRingBest
namespace Go.Proofs.Ytljdcinpjnijcaa
theorem fnExactRingBest_holds : Rows.FnExactRingBestSaid := fnExactRingBest.proved
end Go.Proofs.Ytljdcinpjnijcaa
end
