/- For the statement FnExactJobBest of this seat: it is proved here, with no further conditions (part 8 of its texts: words, walks of the functions, the plain law, the row). -/
import Derived.Test.YtmioaahiflfcdaaRows
import Derived.WalkKit
import Derived.ProofKit
import Derived.OpenShut
import Derived.ShutString
import Derived.ChangeOld
import Derived.Below
import Derived.SizedLaws
import Derived.WideShapes
import Derived.Test.YtmioaahiflfcdaaKFnExactJobBest6
section
namespace Go.Proofs.Ytmioaahiflfcdaa.fnExactJobBest
open Go.ChangeShapes Go.WideShapes Go.ChangeAt Go.RowKit Go.Proofs.YtmioaahiflfcdaaW.PrintWords Go.Proofs.Ytmioaahiflfcdaa.Pr
open Go.ChangeMaps (open_string shut_string)
set_option linter.unusedVariables false
set_option linter.unusedSimpArgs false
theorem own : ownKnob Try.prog.godebug = none:=by kernel_rfl
theorem laidOut : laidOutB Try.prog = true:=by kernel_rfl
instance inh89 : Inhabited S89:=⟨z89⟩
theorem opens0 : Opens Try.prog (Kd.pair (Kd.int .i64) (Kd.slice 89 k89)) 36 (fun x => I64 x.1 ∧ (fun l => l.length ≤ maxLen ∧ ∀ x ∈ l,(fun b : S89 => (fun x => I64 x.1 ∧ (fun x => I64 x.1 ∧ (fun x => I64 x.1 ∧ (fun x => I64 x.1 ∧ I64 x.2) x.2) x.2) x.2) (b.f0,b.f1,b.f2,b.f3,b.f4)) x) x.2):=(opens_struct (P:=Try.prog) Try.underlying36 (opensF_cons (P:=Try.prog) (by kernel_rfl) (opens_i64 (P:=Try.prog) Try.underlying3) (opensF_last (P:=Try.prog) (by kernel_rfl) (by kernel_rfl) (opens_slice (P:=Try.prog) Try.underlying34 (by kernel_rfl) (opens_iso (P:=Try.prog) (fun x : S89 => (x.f0,x.f1,x.f2,x.f3,x.f4)) (fun x => (⟨x.1,x.2.1,x.2.2.1,x.2.2.2.1,x.2.2.2.2⟩ : S89)) (fun _ => rfl) (opens_struct (P:=Try.prog) Try.underlying89 (opensF_cons (P:=Try.prog) (by kernel_rfl) (opens_i64 (P:=Try.prog) Try.underlying3) (opensF_cons (P:=Try.prog) (by kernel_rfl) (opens_i64 (P:=Try.prog) Try.underlying3) (opensF_cons (P:=Try.prog) (by kernel_rfl) (opens_i64 (P:=Try.prog) Try.underlying3) (opensF_cons (P:=Try.prog) (by kernel_rfl) (opens_i64 (P:=Try.prog) Try.underlying3) (opensF_last (P:=Try.prog) (by kernel_rfl) (by kernel_rfl) (opens_i64 (P:=Try.prog) Try.underlying3))))))))))))
theorem opens1 : Opens Try.prog (Kd.slice 3 (Kd.int .i64)) 26 (fun l => l.length ≤ maxLen ∧ ∀ x ∈ l,I64 x):=(opens_slice (P:=Try.prog) Try.underlying26 (by kernel_rfl) (opens_i64 (P:=Try.prog) Try.underlying3))
theorem opens2 : Opens Try.prog (Kd.slice 3 (Kd.int .i64)) 26 (fun l => l.length ≤ maxLen ∧ ∀ x ∈ l,I64 x):=(opens_slice (P:=Try.prog) Try.underlying26 (by kernel_rfl) (opens_i64 (P:=Try.prog) Try.underlying3))
set_option maxRecDepth 100000 in
set_option maxHeartbeats 2000000 in
theorem lifted (os : Os) (started : os.Started) (H : Type) (enc : TypeId × Value → H) :
  ReturnsInHanded {} Try.checked os 4 .any (Rows.fnExactJobBestSpec.pre6 enc Try.prog Try.f4 Rows.fnExactJobBestRow.domain false) (Rows.fnExactJobBestSpec.post enc Try.prog Try.f4 false true false false):=by
 refine returnsInHanded_of_change_sized (C:=Try.checked) own started (by kernel_rfl) Try.func4
  (ChangeSpec.witness6 (enc:=enc) (C:=Try.checked) false ⟨#[],#[(.agg #[(.int .i64 0),(.slice none 0 0)]),(.slice none 0 0),(.slice none 0 0)],[]⟩ 8 (by kernel_rfl) (by kernel_rfl) (by kernel_rfl) (by kernel_rfl)) ?_
 intro W base args ds gs before hval0 hW hcnd hsz0 _;have hval : ∀ (j : Nat) t v,Try.f4.params[j]? = some t → args[j]? = some v → Value.okWide Try.prog W .any base t v:=hval0
 have hW':=hW;obtain ⟨p,q,hA0,hV,rfl,hfz,hnd⟩:=hW;have hA : DataW.TrodAll enc Try.prog W 0 (fun _ => true) true Try.f4.params.toList args.toList ds p:=hA0;rw [Try.params4] at hA hval;obtain ⟨v0,vs0,d0,ds0,p0,q0,hargs,rfl,rfl,h0,r0⟩:=trodAll_cons hA;obtain ⟨v1,vs1,d1,ds1,p1,q1,rfl,rfl,rfl,h1,r1⟩:=trodAll_cons r0;obtain ⟨v2,vs2,d2,ds2,p2,q2,rfl,rfl,rfl,h2,r2⟩:=trodAll_cons r1;obtain ⟨rfl,rfl,rfl⟩:=trodAll_nil r2;obtain rfl : args = #[v0,v1,v2]:=by cases args; simp_all
 obtain ⟨rfl,rfl⟩:=trodVars_none hV;have k0:=h0;have lt0 : ∀ x ∈ p0,x.block < W.heap.size:=by obtain ⟨m,hm⟩:=k0; exact DataW.trod_lt m _ _ _ hm
 obtain ⟨cs0,rfl,hsz0⟩:=okWide_struct Try.underlying36 (hval 0 36 v0 rfl rfl);obtain ⟨fuel0,hf0⟩:=h0;obtain ⟨x0,hK0,w0⟩:=opens0 hf0;obtain ⟨u0_0,v0_0,e0_0,ha0_0,hb0_0⟩:=hK0;have e0_1 : u0_0 = [.int .i64 x0.1]:=ha0_0;obtain ⟨A0_2,c0_2,e0_2,hc0_2,hr0_2⟩:=hb0_0;have z0 : cs0 = #[.int .i64 x0.1,.slice A0_2 x0.2.length c0_2]:=by
  apply Array.toList_inj.1
  have ee : (Value.agg cs0).cells.toList = cs0.toList:=rfl;rw [← ee];rw [e0_0];subst e0_1;subst e0_2;rfl
 subst z0;clear e0_2 e0_1 e0_0;have k1:=h1;have lt1 : ∀ x ∈ p1,x.block < W.heap.size:=by obtain ⟨m,hm⟩:=k1; exact DataW.trod_lt m _ _ _ hm
 obtain ⟨a1,len1,cap1,rfl⟩:=okWide_slice Try.underlying26 (hval 1 26 v1 rfl rfl);obtain ⟨fuel1,hf1⟩:=h1;obtain ⟨l1,⟨A1,c1,e1,hc1,hr1⟩,w1⟩:=opens1 hf1;have e1' : (Value.slice a1 len1 cap1) = .slice A1 l1.length c1:=(List.cons.inj e1).1;injection e1' with e1a e1b e1c
 subst e1a e1b e1c;have k2:=h2;have lt2 : ∀ x ∈ p2,x.block < W.heap.size:=by obtain ⟨m,hm⟩:=k2; exact DataW.trod_lt m _ _ _ hm
 obtain ⟨a2,len2,cap2,rfl⟩:=okWide_slice Try.underlying26 (hval 2 26 v2 rfl rfl);obtain ⟨fuel2,hf2⟩:=h2;obtain ⟨l2,⟨A2,c2,e2,hc2,hr2⟩,w2⟩:=opens2 hf2;have e2' : (Value.slice a2 len2 cap2) = .slice A2 l2.length c2:=(List.cons.inj e2).1;injection e2' with e2a e2b e2c
 subst e2a e2b e2c;obtain ⟨k,hh⟩:=Pure.FnExactJobBest (x0.1) x0.2 l1 l2 w0.1 w0.2 w1 w2;refine (laws_FnExactJobBest.calls k (x0.1) A0_2 c0_2 x0.2 _ _ l1 _ _ l2 true W hr0_2 hc0_2 hr1 hc1 hr2 hc2 hh).mono fun e W' ⟨he,bel0⟩ => ?_
 have bel : Below W.heap.size W W':=bel0;subst he;exact ⟨_,rfl,_,_,_,[],_,[],hW',trodAll_mk1 (shut_bool Try.underlying4 _),(trodAll_cons_mk (Below.trod laidOut (by kernel_rfl) (of_decide_eq_true (by kernel_rfl)) k0 bel lt0) (trodAll_cons_mk (Below.trod laidOut (by kernel_rfl) (of_decide_eq_true (by kernel_rfl)) k1 bel lt1) (trodAll_cons_mk (Below.trod laidOut (by kernel_rfl) (of_decide_eq_true (by kernel_rfl)) k2 bel lt2) trodAll_mk0))),rfl,bel.frame _,fun h => by cases h⟩
theorem over : Rows.fnExactJobBestRow.holds Try.pinned (OpenSpec.ofChange Rows.fnExactJobBestSpec) :=
 OpenClaim.holds_of_wide 4 Try.f4 rfl rfl rfl rfl rfl rfl rfl ⟨rfl,rfl,rfl,rfl,rfl⟩ rfl rfl rfl rfl rfl (by kernel_rfl) Try.func4 (by kernel_rfl)
  (of_decide_eq_true (by kernel_rfl)) (by unfold Func.isWrapper; first | (rw [if_pos (by decide +kernel)]; kernel_rfl) | (rw [if_neg (by decide +kernel)]; exact ⟨rfl,rfl⟩))
  (fun os started H enc _ => lifted os started H enc)
theorem proved : Rows.FnExactJobBestSaid:=over
#print axioms proved
end Go.Proofs.Ytmioaahiflfcdaa.fnExactJobBest
namespace Go.Proofs.Ytmioaahiflfcdaa
theorem fnExactJobBest_holds : Rows.FnExactJobBestSaid:=fnExactJobBest.proved
end Go.Proofs.Ytmioaahiflfcdaa
end
