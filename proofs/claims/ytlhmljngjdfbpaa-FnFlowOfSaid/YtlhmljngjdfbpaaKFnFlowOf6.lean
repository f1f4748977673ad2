/- For the statement FnFlowOf of this seat: it is proved here, with no further conditions (part 7 of its texts: words, walks of the functions, the plain law, the row). -/
import Derived.Maps.OwnSet
import Derived.ChangeArms
import Derived.ChangeSlices
import Derived.Deep.Slices
import Derived.WideShapes
import Derived.DataReads
import Derived.Test.YtlhmljngjdfbpaaKFnFlowOf5
section
namespace Go.Proofs.Ytlhmljngjdfbpaa.Pr
open Go.RowKit Go.Proofs.YtlhmljngjdfbpaaW.PrintWords Go.Proofs.YtlhmljngjdfbpaaW.PrintLast Go.Proofs.YtlhmljngjdfbpaaW.PrintMore
attribute [local go_sem] max2_int min2_int max_two min_two max_three min_three max_four min_four
set_option linter.unusedVariables false
set_option linter.unusedSimpArgs false
open List renaming setIfInBounds_toArray → U,set_cons_zero → V,set_cons_succ → Z
open Go.Proofs.YtlhmljngjdfbpaaW.PrintWords.Aside0 renaming mk → zx
theorem index_at (x : List Int) (v : Int) (hm : x.length ≤ 100000) : ∀ d i : Nat,x.length - i = d → i ≤ x.length → ∃ r,slices_Index_int_int.l0 (d + 1) x v (x.length : Int) (i : Int) = some r ∧ decide (r ≥ 0) = decide (v ∈ x.drop i):=by
 intro d
 induction d with
 | zero =>
  intro i hd hi;refine ⟨-1,?_,?_⟩
  ·rw [slices_Index_int_int.l0,if_neg (by omega)]
  ·rw [List.drop_of_length_le (by omega)]; simp
 | succ d ih =>
  intro i hd hi;have hlt : i < x.length:=by omega
  have hr : rd x (i : Int) = x[i]:=by simp [rd,hlt]
  have hw : wrap64 ((i : Int) + 1) = ((i + 1 : Nat) : Int):=by unfold wrap64; omega
  by_cases c : v = x[i]
  case pos =>
   refine ⟨(i : Int),?_,?_⟩
   ·rw [slices_Index_int_int.l0,if_pos (by omega),if_pos (by omega),if_pos (by omega),if_pos (by rw [hr]; exact c)]
   ·rw [List.drop_eq_getElem_cons hlt,decide_eq_decide];exact ⟨fun _ => List.mem_cons.2 (.inl c),fun _ => by omega⟩
  obtain ⟨r,h1,h2⟩:=ih (i + 1) (by omega) (by omega);refine ⟨r,?_,?_⟩
  ·rw [slices_Index_int_int.l0,if_pos (by omega),if_pos (by omega),if_pos (by omega),if_neg (by rw [hr]; exact c),hw];exact h1
  ·rw [h2,List.drop_eq_getElem_cons hlt,decide_eq_decide];simp only [List.mem_cons];exact ⟨.inr,fun h => h.resolve_left c⟩
theorem contains_at (x : List Int) (v : Int) (hm : x.length ≤ 100000) : slices_Contains_int_int.f (x.length + 1) x v = some (decide (v ∈ x)):=by
 obtain ⟨r,h1,h2⟩:=index_at x v hm _ 0 rfl (Nat.zero_le _);rw [List.drop_zero] at h2
 unfold slices_Contains_int_int.f slices_Index_int_int.f
 rw [show x.length + 1 = x.length - 0 + 1 by omega];have h1 : slices_Index_int_int.l0 (x.length - 0 + 1) x v (x.length : Int) 0 = some r:=h1;rw [h1,Option.bind_some,h2]
abbrev StA:=(Int → Int × Bool) × List Int
def putA (st : StA) (v : Int) (s : Int × Bool) : Option StA:=if st.2.length ≤ 1000 then if v ∈ st.2 then some st else if 0 ≤ v ∧ v ≤ 1000 then some ((fun x => if x = v then s else st.1 x),st.2 ++ [v]) else none else none
def arcA (l : List S58) (f : List Int) (u : Int) (i : Nat) (st : StA) : Option StA :=
 (if (rd_T58 l (i : Int)).f0 = u then (if i < f.length then (if rd f (i : Int) < (rd_T58 l (i : Int)).f4 then putA st (rd_T58 l (i : Int)).f1 ((i : Int),true) else some st) else none) else some st).bind fun st1 =>
 (if (rd_T58 l (i : Int)).f1 = u then (if i < f.length then (if rd f (i : Int) > 0 then putA st1 (rd_T58 l (i : Int)).f0 ((i : Int),false) else some st1) else none) else some st1)
def rowA (l : List S58) (f : List Int) (u : Int) : Nat → StA → Option StA
 | 0,st => some st
 | d + 1,st => (arcA l f u (l.length - (d + 1)) st).bind fun st' => rowA l f u d st'
def bfsA (l : List S58) (f : List Int) : Nat → Nat → StA → Option StA
 | 0,_,_ => none
 | k + 1,h,st => if h < st.2.length then (rowA l f (rd st.2 (h : Int)) l.length st).bind fun st' => bfsA l f k (h + 1) st' else some st
def pathA (l : List S58) (b : Int → Int × Bool) (from_ : Int) : Nat → Int → List S103 → Option (List S103)
 | 0,_,_ => none
 | k + 1,v,out => if v = from_ then some out else if 0 ≤ v ∧ v ≤ 1000 then if out.length ≤ 1000 then if 0 ≤ (b v).1 ∧ (b v).1 < (l.length : Int) then pathA l b from_ k (if (b v).2 = true then (rd_T58 l (b v).1).f0 else (rd_T58 l (b v).1).f1) (out ++ [⟨(b v).1,(b v).2⟩]) else none else none else none
def impl_Net_augment.f (k : Nat) (a0_0 : Int) (l0_1 : List S58) (l1 : List Int) (a2 : Int) (a3 : Int) : Option (List S103 × Bool) :=
 (bfsA l0_1 l1 k 0 ((fun _ => (0,false)),[a2])).bind fun st => if a3 ∈ st.2 then (pathA l0_1 st.1 a2 k a3 []).bind fun p => some (p,true) else some ([],false)
def encD (s : Int × Bool) : DataW Unit:=.agg [.lit (.int .i64 s.1),.lit (.bool s.2)]
def stepR (v : Value) : Option (DataW Unit × List MemPlace):=match v with
 | .agg cs => match cs.toList with
  | [.int .i64 a,.bool b] => some (encD (a,b),[])
  | _ => none
 | _ => none
theorem stepR_mk (a : Int) (b : Bool) : stepR (.agg #[.int .i64 a,.bool b]) = some (encD (a,b),[]):=rfl
theorem stepR_inv {v : Value} {s : Int × Bool} {ps : List MemPlace} (h : stepR v = some (encD s,ps)) : v = .agg #[.int .i64 s.1,.bool s.2]:=by
 unfold stepR at h
 split at h
 ·rename_i cs
  split at h
  ·rename_i a b e;simp only [Option.some.injEq,Prod.mk.injEq,encD,DataW.agg.injEq,List.cons.injEq,DataW.lit.injEq,Lit.int.injEq,Lit.bool.injEq,and_true,true_and] at h;obtain ⟨⟨h1,h2⟩,_⟩:=h;have : cs = #[.int .i64 a,.bool b]:=by
    apply Array.toList_inj.1; rw [e]
   rw [this,h1,h2]
  ·cases h
 ·cases h
theorem key_lit {v : Int} (h : 0 ≤ v ∧ v ≤ 1000) : keyOf Try.prog 3 (.int .i64 v) = some (.int .i64 v):=Go.Maps.keyOf_int_mk Try.underlying3 (by
 simp only [Lit.wf,Bool.and_eq_true,decide_eq_true_eq];have h1 : IntKind.i64.min = -9223372036854775808:=rfl;have h2 : IntKind.i64.max = 9223372036854775807:=rfl;omega)
def AuS (w : World) (gF gB gM : Nat) (P : Nat → Prop) (st : StA) (W : World) : Prop :=
 Below w.heap.size w W ∧ (∃ A c,W.heap[gF]? = some (.cells #[.slice A st.2.length c] 23 (0,0)) ∧ Kd.R (Kd.int .i64) 3 W w.heap.size P (.slice A st.2.length c) st.2) ∧ W.heap[gB]? = some (.cells #[.map (some gM)] 129 (0,0)) ∧ ∃ n D,W.ownsMap Try.prog 3 stepR gM n D ∧ n ≤ st.2.length ∧ ∀ v,0 ≤ v → v ≤ 1000 → D.atKey (.int .i64 v) (encD (0,false)) = encD (st.1 v)
theorem map_below {w w1 : World} {g n : Nat} {D : DataW Unit} (h : w.ownsMap Try.prog 3 stepR g n D) (hb : Below w.heap.size w w1) : w1.ownsMap Try.prog 3 stepR g n D:=by
 obtain ⟨es,clock,h1,h2⟩:=h;exact ⟨es,clock,blk_below h1 hb,h2⟩
theorem AuS.below {w : World} {gF gB gM : Nat} {P : Nat → Prop} {st : StA} {W W1 : World} (h : AuS w gF gB gM P st W) (hb : Below W.heap.size W W1) : AuS w gF gB gM P st W1:=by
 obtain ⟨h1,⟨A,c,h2,h3⟩,h4,n,D,h5,h6⟩:=h;exact ⟨below_step h1 hb,⟨A,c,blk_below h2 hb,Kd.R_below h3 hb⟩,blk_below h4 hb,n,D,map_below h5 hb,h6⟩
theorem AuS.only {w : World} {gF gB gM : Nat} {P : Nat → Prop} {st : StA} {W : World} (h : AuS w gF gB gM P st W) {g : Nat} (hg : W.heap.size ≤ g) : AuS w gF gB gM (fun q => P q ∧ q ≠ g) st W:=by
 obtain ⟨h1,⟨A,c,h2,h3⟩,h4⟩:=h;exact ⟨h1,⟨A,c,h2,Kd.R_mono (Kd.R_bound h3) (fun q hq => ⟨hq.1,by have:=hq.2.2.1; omega⟩)⟩,h4⟩
theorem AuS.mono {w : World} {gF gB gM : Nat} {P P' : Nat → Prop} {st : StA} {W : World} (h : AuS w gF gB gM P st W) (hp : ∀ q,P q → P' q) : AuS w gF gB gM P' st W:=by
 obtain ⟨h1,⟨A,c,h2,h3⟩,h4⟩:=h;exact ⟨h1,⟨A,c,h2,Kd.R_mono h3 hp⟩,h4⟩
theorem AuS.grown {w : World} {gF gB gM : Nat} {P : Nat → Prop} {st : StA} {W W1 : World} (h : AuS w gF gB gM P st W) {g : Nat} (hg : W.grownBy W1 (some g)) (h1 : gF ≠ g) (h2 : gB ≠ g) (h3 : gM ≠ g) (hP : ∀ q,P q → q ≠ g) (hw : w.heap.size ≤ g) : AuS w gF gB gM P st W1:=by
 obtain ⟨a1,⟨A,c,a2,a3⟩,a4,n,D,a5,a6⟩:=h;exact ⟨pw_below_grown a1 _ (below_size a1) hg (fun q hq => by obtain rfl:=Option.some.inj hq; exact hw),⟨A,c,blk_grown a2 hg (fun e => h1 (Option.some.inj e)),Kd.R_grown a3 hg (fun q hq e => hP q hq (Option.some.inj e))⟩,blk_grown a4 hg (fun e => h2 (Option.some.inj e)),n,D,World.ownsMap.kept a5 hg (fun e => h3 (Option.some.inj e)),a6⟩
set_option maxHeartbeats 4000000 in
set_option maxRecDepth 100000 in
theorem put_closure (w : World) (gF gB gM : Nat) (P : Nat → Prop) (hPn : ∀ q,P q → q ≠ gF ∧ q ≠ gB ∧ q ≠ gM) (hFB : gF ≠ gB) (hFM : gF ≠ gM) (hBM : gB ≠ gM) (gw : w.heap.size ≤ gF ∧ w.heap.size ≤ gM) (st st' : StA) (v : Int) (s : Int × Bool) (W : World) (hPf : ∀ q,W.heap.size ≤ q → P q) (h : AuS w gF gB gM P st W) (hst : putA st v s = some st') :
  Calls Try.prog 129 #[.int .i64 v,.agg #[.int .i64 s.1,.bool s.2],.pointer (some ⟨gF,0,none⟩),.pointer (some ⟨gB,0,none⟩)] W fun e w' => e = .returned (.tuple #[]) ∧ AuS w gF gB gM P st' w' ∧ Kept W w' (fun q => q = gF ∨ q = gM ∨ P q):=by
 unfold putA at hst
 have hlen : st.2.length ≤ 1000:=by
  by_cases c : st.2.length ≤ 1000
  case pos => exact c
  rw [if_neg c] at hst; cases hst
 rw [if_pos hlen] at hst;have hct:=contains_at st.2 v (by omega);have h0:=h.only (Nat.le_refl W.heap.size);obtain ⟨I1,⟨A,c,I2,I3⟩,I4,n,D,I5,I6,I7⟩:=h0;have hc2:=(Kd.R_reads' I3).2.1;have HP:=zx hPn;have HPF:=zx hPf;have X1:=zx hFB;have X2:=zx hFM;have X3:=zx hBM;have GW:=zx gw;have HL:=zx hlen;have J1:=zx I1;have J2:=zx I2;have J3:=zx I3;have J4:=zx I4;have J5:=zx I5;have J6:=zx I6;have J7:=zx I7;have HC2:=zx hc2;have H0:=zx h;clear hPn hPf hFB hFM hBM gw hlen I1 I2 I3 I4 I5 I6 I7 hc2 h
 by_cases hin : v ∈ st.2
 case pos =>
  rw [if_pos hin] at hst;obtain rfl:=Option.some.inj hst;rw [decide_eq_true hin] at hct;have HCT:=zx hct;clear hst hct hin
  go_enter Try.func129,Try.ntmps129
  go_wp2_with (first
   | ((with_reducible refine gate_dst (N:=5) rfl ?_); refine box_event ?hg (N:=5) ?hd (cs:=#[.int .i64 s.1,.bool s.2]) (t:=103) ?hr ?_; (case hd => rfl); (case hg => rfl); (case hr => first | (go_simp; done) | (go_simp; rfl)); intro g5 hg5 w1 hbox hb; have B1:=zx hb; have q1 : w1.cell? ⟨gF,0,none⟩ = some (.slice A st.2.length c):=(blk_cell (blk_below J2.out hb) 0).trans rfl; clear hbox hb hg5)
   | (go_at_call 130; refine (slices_Contains_int_int.calls (st.2.length + 1) A c st.2 v true w1 (Kd.C_below (Kd.R_reads' J3.out).2.2 B1.out) HC2.out HCT.out).mono ?_; rintro e w2 ⟨rfl,⟨nd,rfl⟩⟩; clear q1))
  go_end0
  exact ⟨rfl,H0.out.below (by (with_reducible repeat (first | exact B1.out | apply pw_below_drewN | apply below_drew))),Kept.of_below (by (with_reducible repeat (first | exact B1.out | apply pw_below_drewN | apply below_drew))) _⟩
 rw [if_neg hin] at hst;have hv : 0 ≤ v ∧ v ≤ 1000:=by
  by_cases c : 0 ≤ v ∧ v ≤ 1000
  case pos => exact c
  rw [if_neg c] at hst; cases hst
 rw [if_pos hv] at hst;obtain rfl:=Option.some.inj hst;rw [decide_eq_false hin] at hct;have HCT:=zx hct;have HV:=zx hv;have HKEY:=zx (key_lit hv);clear hst hct hin hv
 go_enter Try.func129,Try.ntmps129
 go_wp2_with (first
  | ((with_reducible refine gate_dst (N:=5) rfl ?_); refine box_event ?hg (N:=5) ?hd (cs:=#[.int .i64 s.1,.bool s.2]) (t:=103) ?hr ?_; (case hd => rfl); (case hg => rfl); (case hr => first | (go_simp; done) | (go_simp; rfl)); intro g5 hg5 w1 hbox hb; have M1:=zx hbox; have B1:=zx hb; have F1:=zx (blk_below J2.out hb); have E1:=zx (blk_below J4.out hb); have D1:=zx (map_below J5.out hb); have R1:=zx (show Kd.R (Kd.int .i64) 3 w1 w.heap.size (fun q => P q ∧ q ≠ g5) (.slice A st.2.length c) st.2 by rw [hg5]; exact Kd.R_below J3.out hb); have BL:=zx (blk_lt J2.out); have N1:=zx (show W.heap.size ≤ g5 by rw [hg5]; exact Nat.le_refl _); have q1 : w1.cell? ⟨gF,0,none⟩ = some (.slice A st.2.length c):=(blk_cell F1.out 0).trans rfl; clear hbox hb hg5 J2 J3 J4 J5)
  | (go_at_call 130; refine (slices_Contains_int_int.calls (st.2.length + 1) A c st.2 v false w1 (Kd.R_reads' R1.out).2.2 HC2.out HCT.out).mono ?_; rintro e w2_ ⟨rfl,⟨nd,rfl⟩⟩; have hbn : Below w1.heap.size w1 (w1.drewN nd):=pw_below_drewN (Below.refl _ _) nd; have F2:=zx (blk_below F1.out hbn); have E2:=zx (blk_below E1.out hbn); have M2:=zx (blk_below M1.out hbn); have D2:=zx (map_below D1.out hbn); have R2:=zx (Kd.R_below R1.out hbn); have B2:=zx (below_step B1.out hbn); have q2 : (w1.drewN nd).cell? ⟨gF,0,none⟩ = some (.slice A st.2.length c):=(blk_cell F2.out 0).trans rfl; clear hbn F1 E1 M1 D1 R1 B1 q1; generalize w1.drewN nd = w2 at F2 E2 M2 D2 R2 B2 q2 ⊢)
  | ((with_reducible refine gate_builtin (b:=.append) (xs:=#[.tmp 10,.tmp 12]) rfl ?_); at_builtin; refine Kd.R_append (Kd.int .i64) (w0:=w) w.heap.size rfl (.tmp 10) (.tmp 12) 23 3 (.int .i64 0) 8 rfl Try.underlying23 info3 rfl (by decide) (by omega) (.slice A st.2.length c) st.2 v [.int .i64 v] (fun q => P q ∧ q ≠ g5) (fun _ => False) rfl rfl ?aP (fun _ hk => hk.elim) ?aF ?aO ?aB ?aS ?aL ?_; (case aP => exact rfl); (case aB => exact (by (with_reducible repeat (first | exact below_step J1.out B2.out | apply below_alloc | apply pw_below_drewN | apply below_drew)))); (case aF => exact fun k_ hk => ⟨HPF.out k_ (Nat.le_trans (below_size B2.out) hk),by have h1:=blk_lt M2.out; (try simp at hk); omega⟩); (case aO => exact (by (with_reducible repeat (first | exact R2.out | apply Kd.R_alloc | apply Kd.R_drewN | apply Kd.R_drew)))); (case aS => exact below_size (by (with_reducible repeat (first | exact below_step J1.out B2.out | apply below_alloc | apply pw_below_drewN | apply below_drew)))); (case aL => have:=HL.out; omega); intro v4 w4 ho hb hg hat; obtain ⟨A4,c4,rfl⟩:=Kd.R_slice ho; have R4:=zx ho; have B4:=zx hb; have rb:=fun q (e : some q = (Value.slice A st.2.length c).ownBlock) => R2.out.1 q e.symm; have F4:=zx (show w4.heap[gF]? = _ from blk_grown F2.out hg (fun e => (HP.out _ (rb _ e).1).1 rfl)); have E4:=zx (show w4.heap[gB]? = _ from blk_grown E2.out hg (fun e => (HP.out _ (rb _ e).1).2.1 rfl)); have D4:=zx (show w4.ownsMap Try.prog 3 stepR gM n D from World.ownsMap.kept D2.out hg (fun e => (HP.out _ (rb _ e).1).2.2 rfl)); have M4:=zx (show w4.heap[g5]? = _ from blk_grown M2.out hg (fun e => (rb _ e).2 rfl)); have K4:=zx (show Kept W w4 (fun q => q = gF ∨ q = gM ∨ P q) from Kept.of_grown hg (Kept.of_below B2.out _) (fun k e => .inl (.inr (.inr (R2.out.1 k e).1)))); clear rb ho hb hg hat q2 F2 E2 D2 R2 M2)
  | ((with_reducible refine gate_store (t:=23) (p:=2) (v:=.tmp 13) rfl ?_); refine put_event rfl rfl rfl F4.out 0 #[.slice A4 (st.2 ++ [v]).length c4] (.slice A4 (st.2 ++ [v]).length c4) [.slice A4 (st.2 ++ [v]).length c4] (by first | rfl | (go_simp; done) | (go_simp; rfl)) (by first | rfl | (go_simp; done) | (go_simp; rfl)) rfl (by kernel_rfl) (by simp) (by simp [Value.oneCell']) rfl ?_; intro w5 hc5 hg5; have F5:=zx hc5; have E5:=zx (show w5.heap[gB]? = _ from blk_grown E4.out hg5 (fun e => X1.out (Option.some.inj e).symm)); have D5:=zx (show w5.ownsMap Try.prog 3 stepR gM n D from World.ownsMap.kept D4.out hg5 (fun e => X2.out (Option.some.inj e).symm)); have M5:=zx (show w5.heap[g5]? = _ from blk_grown M4.out hg5 (fun e => by have h1:=N1.out; have h2:=blk_lt F4.out; have h3:=Option.some.inj e; have h4:=BL.out; omega)); have G5:=zx hg5; have q5 : w5.cell? ⟨gB,0,none⟩ = some (.map (some gM)):=(blk_cell E5.out 0).trans rfl; have q6 : w5.cell? ⟨g5,0,none⟩ = some (.int .i64 s.1):=(blk_cell M5.out 0).trans rfl; have q7 : w5.cell? ⟨g5,1,none⟩ = some (.bool s.2):=(blk_cell M5.out 1).trans rfl; clear hc5 hg5)
  | (at_mapUpdate; refine wpList_mapUpdate_own _ rfl _ _ _ 129 rfl 3 103 (Go.Maps.int_keyed Try.underlying3) Try.underlying129 stepR gM n D rfl D5.out (by have h1:=J6.out; have h2:=HL.out; unfold maxLen; omega) _ _ _ rfl rfl HKEY.out _ [] (stepR_mk s.1 s.2) ?_; intro w6 hown6 hg6; have D6:=zx hown6; have G6:=zx hg6; clear hown6 hg6))
 go_end0
 refine ⟨rfl,⟨?_,⟨A4,c4,?_,?_⟩,?_,n + 1,_,D6.out,?_,fun u h1 h2 => ?_⟩,?_⟩
 ·exact pw_below_grown (pw_below_grown B4.out _ (below_size B4.out) G5.out (fun q hq => by obtain rfl:=Option.some.inj hq; exact GW.out.1)) _ (Nat.le_trans (below_size B4.out) G5.out.size) G6.out (fun q hq => by obtain rfl:=Option.some.inj hq; exact GW.out.2)
 ·exact blk_grown F5.out G6.out (fun e => X2.out (Option.some.inj e))
 ·exact Kd.R_mono (Kd.R_grown (Kd.R_grown R4.out G5.out (fun q hq e => (HP.out q hq.1).1 (Option.some.inj e))) G6.out (fun q hq e => (HP.out q hq.1).2.2 (Option.some.inj e))) (fun q hq => hq.1)
 ·exact blk_grown E5.out G6.out (fun e => X3.out (Option.some.inj e))
 ·rw [List.length_append,List.length_singleton]; have:=J6.out; omega
 ·have hm:=World.ownsMap.isMap D5.out
  by_cases e : u = v
  case neg =>
   rw [Go.Maps.atKey_put_other (fun h => e (by injection h))]
   show _ = encD (if u = v then s else st.1 u)
   rw [if_neg e];exact J7.out u h1 h2
  subst e;rw [Go.Maps.atKey_put_same hm (show WideAt.IsKeyLit (.int .i64 u) from trivial)]
  show encD (s.1,s.2) = encD (if u = u then s else st.1 u)
  rw [if_pos rfl]
 ·exact Kept.of_grown G6.out (Kept.of_grown G5.out K4.out (fun q hq => by obtain rfl:=Option.some.inj hq; exact .inl (.inl rfl))) (fun q hq => by obtain rfl:=Option.some.inj hq; exact .inl (.inr (.inl rfl)))
theorem map_born {P : Program} {ops : Array Oper} {rest : List Oper} {o : Oper} {a : Act} {Q : Exit → Act → World → Prop} {W : World} (kt : TypeId) (R : Value → Option (DataW Unit × List MemPlace)) (hgd : o.guard = none) (hrun : (execOp a.eval o).run P W = .ok (.value (.map (some W.heap.size))) (W.alloc (.map #[] 0)))
  (h : ∀ g,g = W.heap.size → ∀ w1,w1.ownsMap P kt R g 0 (.map []) → Below W.heap.size W w1 → wpList P ops Q rest (a.put o.dst (.map (some g))) w1) : wpList P ops Q (o :: rest) a W :=
 Kd.event_run hgd hrun (h _ rfl _ (World.ownsMap_made W P kt R) (below_alloc (Below.refl _ _) _))
theorem putA_keep {st st' : StA} {v : Int} {s : Int × Bool} (h : putA st v s = some st') {i : Nat} (hi : i < st.2.length) : rd st'.2 (i : Int) = rd st.2 (i : Int) ∧ i < st'.2.length ∧ (st.2.length ≤ 1001 → st'.2.length ≤ 1001):=by
 unfold putA at h
 by_cases c : st.2.length ≤ 1000
 case neg => rw [if_neg c] at h; cases h
 rw [if_pos c] at h
 by_cases hin : v ∈ st.2
 case pos =>
  rw [if_pos hin] at h;obtain rfl:=Option.some.inj h;exact ⟨rfl,hi,id⟩
 rw [if_neg hin] at h
 by_cases hv : 0 ≤ v ∧ v ≤ 1000
 case neg => rw [if_neg hv] at h; cases h
 rw [if_pos hv] at h;obtain rfl:=Option.some.inj h;refine ⟨?_,by simp; omega,fun _ => by simp; omega⟩;simp [rd,List.getElem?_append_left hi,hi,List.getD_eq_getElem?_getD]
theorem zero_step (w : World) : (zeroValue 103).run Try.prog w = .ok (.agg #[.int .i64 0,.bool false]) w:=by kernel_rfl
set_option maxHeartbeats 40000000 in
set_option maxRecDepth 100000 in
theorem impl_Net_augment.calls (k : Nat) (a0_0 : Int) (A0_1 : Option Addr) (c0_1 : Nat) (l0_1 : List S58) (A1 : Option Addr) (c1 : Nat) (l1 : List Int) (a2 : Int) (a3 : Int) (r1 : List S103) (r2 : Bool) (w : World) (p8 : Kd.C k58 w A0_1 l0_1.length l0_1) (hc0_1 : l0_1.length ≤ c0_1) (hr1 : Kd.C (Kd.int .i64) w A1 l1.length l1) (hc1 : l1.length ≤ c1) (h : impl_Net_augment.f k a0_0 l0_1 l1 a2 a3 = some (r1,r2)) :
  Calls Try.prog 94 #[.agg #[.int .i64 a0_0,.slice A0_1 l0_1.length c0_1],.slice A1 l1.length c1,.int .i64 a2,.int .i64 a3] w fun e w' => ∃ v0_ : Value,e = .returned (.tuple #[v0_,.bool r2]) ∧ Kd.R k103 103 w' w.heap.size (fun _ => True) v0_ r1 ∧ Below w.heap.size w w':=by
 have hu:=Try.underlying34;have hu2:=Try.underlying58;have hu3:=Try.underlying103;have hmm:=@run_makeMap Try.prog
 unfold impl_Net_augment.f at h
 obtain ⟨stE,hbf,hrest⟩:=Option.bind_eq_some_iff.1 h;have hm0:=Kd.C_max p8;have HR0:=zx p8;have HC0:=zx hc0_1;have HR1:=zx hr1;have HC1:=zx hc1;have HBF:=zx hbf;have HRE:=zx hrest;have HM0:=zx hm0;clear p8 hc0_1 hr1 hc1 h hbf hrest hm0
 go_enter Try.func94,Try.ntmps94
 go_wp2_with (first
  | ((with_reducible refine gate_dst (N:=4) rfl ?_); refine box_event ?hg (N:=4) ?hd (cs:=#[.int .i64 a0_0,.slice A0_1 l0_1.length c0_1]) (t:=34) ?hr ?_; (case hd => rfl); (case hg => rfl); (case hr => first | (go_simp; done) | (go_simp; rfl)); intro gN hgN w1 hbox hb; have M1:=zx hbox; have B1:=zx hb; have G1:=zx (show w.heap.size ≤ gN by rw [hgN]; exact Nat.le_refl _); clear hbox hb hgN)
  | ((with_reducible refine gate_dst (N:=18) rfl ?_); refine map_born 3 stepR ?hg ?hr ?_; (case hg => rfl); (case hr => first | (go_simp; done) | (go_simp; rfl)); intro gM hgM w2 hmap hb; have M2:=zx (blk_below M1.out hb); have B2:=zx (below_step B1.out hb); have D2:=zx hmap; have G2:=zx (show w.heap.size ≤ gM by rw [hgM]; exact below_size B1.out); have L2:=zx (show gN < gM by rw [hgM]; exact blk_lt M1.out); clear hmap hb hgM M1 B1)
  | ((with_reducible refine gate_dst (N:=10) rfl ?_); refine box_event ?hg (N:=10) ?hd (cs:=#[.map none]) (t:=129) ?hr ?_; (case hd => rfl); (case hg => rfl); (case hr => first | (go_simp; done) | (go_simp; rfl)); intro gB hgB w3 hbox hb; have M3:=zx (blk_below M2.out hb); have B3:=zx (below_step B2.out hb); have D3:=zx (map_below D2.out hb); have E3:=zx hbox; have G3:=zx (show w.heap.size ≤ gB by rw [hgB]; exact below_size B2.out); have L3:=zx (show gM < gB by rw [hgB]; exact World.ownsMap.lt D2.out); clear hbox hb hgB M2 B2 D2)
  | ((with_reducible refine gate_store (t:=129) (p:=10) (v:=.tmp 18) rfl ?_); refine put_event rfl rfl rfl E3.out 0 #[.map (some gM)] (.map (some gM)) [.map (some gM)] (by first | rfl | (go_simp; done) | (go_simp; rfl)) (by first | rfl | (go_simp; done) | (go_simp; rfl)) rfl (by kernel_rfl) (by simp) (by simp [Value.oneCell']) rfl ?_; intro w4 hc4 hg4; have E4:=zx hc4; have M4:=zx (show w4.heap[gN]? = _ from blk_grown M3.out hg4 (fun e => by have h1:=Option.some.inj e; have h2:=L2.out; have h3:=L3.out; omega)); have D4:=zx (show w4.ownsMap Try.prog 3 stepR gM 0 (.map []) from World.ownsMap.kept D3.out hg4 (fun e => by have h1:=Option.some.inj e; have h3:=L3.out; omega)); have B4:=zx (pw_below_grown B3.out _ (below_size B3.out) hg4 (fun q hq => by obtain rfl:=Option.some.inj hq; exact G3.out)); clear hc4 hg4 E3 M3 D3 B3)
  | ((with_reducible refine gate_dst (N:=20) rfl ?_); refine Kd.R_lit (Kd.int .i64) _ 3 ?hg (N:=20) ?hd (xs:=([a2] : List Int)) (inner:=[.int .i64 a2]) (ok:=fun _ => True) (okp:=fun _ => True) ?hr ?hp (fun _ hk => hk) trivial (Below.refl _ _) (Nat.le_refl _) (by simp) ?_; (case hd => rfl); (case hg => rfl); (case hr => first | (go_simp; done) | (go_simp; rfl)); (case hp => exact (Reps.one (show Kd.M (Kd.int .i64) _ _ _ a2 [.int .i64 a2] from rfl) (Reps.none _ _))); intro v20 w5 ho hb hg_ hnew_; clear hg_ hnew_; obtain ⟨A20,c20,rfl⟩:=Kd.R_slice ho; have R5:=zx (show Kd.R (Kd.int .i64) 3 w5 w.heap.size (fun q => w4.heap.size ≤ q) (.slice A20 ([a2] : List Int).length c20) [a2] from Kd.R_lower (Kd.R_mono (Kd.R_bound ho) (fun q hq => hq.2.1)) (below_size B4.out)); have B5:=zx (below_step B4.out hb); have M5:=zx (blk_below M4.out hb); have E5:=zx (blk_below E4.out hb); have D5:=zx (map_below D4.out hb); have L5:=zx (show gB < w4.heap.size from blk_lt E4.out); clear ho hb M4 E4 D4 B4)
  | ((with_reducible refine gate_dst (N:=11) rfl ?_); refine box_event ?hg (N:=11) ?hd (cs:=#[.slice none 0 0]) (t:=23) ?hr ?_; (case hd => rfl); (case hg => rfl); (case hr => first | (go_simp; done) | (go_simp; rfl)); intro gF hgF w6 hbox hb; have F6:=zx hbox; have B6:=zx (below_step B5.out hb); have M6:=zx (blk_below M5.out hb); have E6:=zx (blk_below E5.out hb); have D6:=zx (map_below D5.out hb); have R6:=zx (show Kd.R (Kd.int .i64) 3 w6 w.heap.size (fun q => q ≠ gN ∧ q ≠ gF ∧ q ≠ gB ∧ q ≠ gM) (.slice A20 ([a2] : List Int).length c20) [a2] from Kd.R_mono (Kd.R_below (Kd.R_bound R5.out) hb) (fun q hq => by have h1:=hq.1; have h2:=L2.out; have h3:=L3.out; have h4:=L5.out; have h5:=hq.2.2.1; refine ⟨?_,?_,?_,?_⟩ <;> omega)); have L6:=zx (show gB < gF by have h1:=blk_lt E5.out; omega); have G6:=zx (show w.heap.size ≤ gF by have h1:=below_size B5.out; omega); clear hbox hb hgF R5 B5 M5 E5 D5)
  | ((with_reducible refine gate_store (t:=23) (p:=11) (v:=.tmp 20) rfl ?_); refine put_event rfl rfl rfl F6.out 0 #[.slice A20 ([a2] : List Int).length c20] (.slice A20 ([a2] : List Int).length c20) [.slice A20 ([a2] : List Int).length c20] (by first | rfl | (go_simp; done) | (go_simp; rfl)) (by first | rfl | (go_simp; done) | (go_simp; rfl)) rfl (by kernel_rfl) (by simp) (by simp [Value.oneCell']) rfl ?_; intro w7 hc7 hg7; have A7:=zx (show AuS w gF gB gM (fun q => q ≠ gN ∧ q ≠ gF ∧ q ≠ gB ∧ q ≠ gM) ((fun _ => (0,false)),[a2]) w7 from ⟨pw_below_grown B6.out _ (below_size B6.out) hg7 (fun q hq => by obtain rfl:=Option.some.inj hq; exact G6.out),⟨A20,c20,hc7,Kd.R_grown R6.out hg7 (fun q hq e => hq.2.1 (Option.some.inj e))⟩,blk_grown E6.out hg7 (fun e => by have h1:=Option.some.inj e; have h2:=L6.out; omega),0,_,World.ownsMap.kept D6.out hg7 (fun e => by have h1:=Option.some.inj e; have h2:=L6.out; have h3:=L3.out; omega),by simp,fun u _ _ => rfl⟩); have M7:=zx (show w7.heap[gN]? = _ from blk_grown M6.out hg7 (fun e => by have h1:=Option.some.inj e; have h2:=L6.out; have h3:=L3.out; have h4:=L2.out; omega)); clear hc7 hg7 F6 B6 M6 E6 D6 R6))
 have HPn : ∀ q,(fun q => q ≠ gN ∧ q ≠ gF ∧ q ≠ gB ∧ q ≠ gM) q → q ≠ gF ∧ q ≠ gB ∧ q ≠ gM:=fun q h => h.2
 go_loopg [12] k (fun gg s12 wr => ∃ (hh kk : Nat) (st : StA),s12 = .int .i64 (hh : Int) ∧ Aside0 (kk ≤ gg) ∧ Aside0 (bfsA l0_1 l1 kk hh st = some stE) ∧ Aside0 (AuS w gF gB gM (fun q => q ≠ gN ∧ q ≠ gF ∧ q ≠ gB ∧ q ≠ gM) st wr) ∧ Aside0 (wr.heap[gN]? = some (.cells #[.int .i64 a0_0,.slice A0_1 l0_1.length c0_1] 34 (0,0))) ∧ Aside0 (st.2.length ≤ 1001) ∧ Aside0 (hh ≤ 1001))
 case atStart => exact ⟨0,k,_,rfl,⟨Nat.le_refl _⟩,HBF,A7,M7,⟨by simp⟩,⟨by omega⟩⟩
 case round =>
  clear A7 M7 HBF;obtain ⟨hh,kk,st,rfl,J0,J1,J2,J3,J4,J5⟩:=hrel;obtain ⟨kq,rfl⟩ : ∃ q,kk = q + 1:=by
   cases kk with
   | zero => have:=J1.out; simp [bfsA] at this
   | succ q => exact ⟨q,rfl⟩
  obtain ⟨hJB,⟨Af,cf,F0,R0⟩,E0,nD,D,D0,D1,D2⟩:=J2.out;have JB:=zx hJB;have JE:=zx E0;have JD:=zx D0;have JV:=zx D2;clear hJB D0 D1 D2;have q1 : wr.cell? ⟨gF,0,none⟩ = some (.slice Af st.2.length cf):=(blk_cell F0 0).trans rfl;have q2 : wr.cell? ⟨gN,1,none⟩ = some (.slice A0_1 l0_1.length c0_1):=(blk_cell J3.out 1).trans rfl;have h5:=J1.out
  unfold bfsA at h5
  by_cases hlt : hh < st.2.length
  case neg =>
   rw [if_neg hlt] at h5;obtain rfl : st = stE:=Option.some.inj h5;have c1 : decide ((hh : Int) < (st.2.length : Int)) = false:=decide_eq_false (by omega);have c2 : decide (hh < st.2.length) = false:=decide_eq_false hlt;have hct:=contains_at st.2 a3 (by have:=J4.out; omega);have hcf:=(Kd.R_reads' R0).2.1;have HCF:=zx hcf;clear h5 hlt F0 E0 hcf
   by_cases hin : a3 ∈ st.2
   case neg =>
    have hre:=HRE.out;rw [if_neg hin] at hre;simp only [Option.some.injEq,Prod.mk.injEq] at hre;obtain ⟨rfl,rfl⟩:=hre;rw [decide_eq_false hin] at hct;have HCT:=zx hct;clear hct hin HRE J1
    go_wp2_with (first
     | (go_at_call 130; refine (slices_Contains_int_int.calls (st.2.length + 1) Af cf st.2 a3 false _ (by (with_reducible repeat (first | exact (Kd.R_reads' R0).2.2 | apply Kd.C_drewN | apply Kd.C_drew))) HCF.out HCT.out).mono ?_; rintro e w2 ⟨rfl,⟨nd,rfl⟩⟩))
    go_ret2;exact ⟨_,rfl,Kd.R_nil _ _ _ _ _,by (with_reducible repeat (first | exact JB.out | apply pw_below_drewN | apply below_drew))⟩
   have hre:=HRE.out;rw [if_pos hin] at hre;obtain ⟨p,hp,hre⟩:=Option.bind_eq_some_iff.1 hre;simp only [Option.some.injEq,Prod.mk.injEq] at hre;obtain ⟨rfl,rfl⟩:=hre;rw [decide_eq_true hin] at hct;have HCT:=zx hct;have HP:=zx hp;clear hct hin hp HRE J1
   go_wp2_with (first
    | (go_at_call 130; refine (slices_Contains_int_int.calls (st.2.length + 1) Af cf st.2 a3 true _ (by (with_reducible repeat (first | exact (Kd.R_reads' R0).2.2 | apply Kd.C_drewN | apply Kd.C_drew))) HCF.out HCT.out).mono ?_; rintro e w2 ⟨rfl,⟨nd,rfl⟩⟩)
    | ((with_reducible refine gate_dst (N:=83) rfl ?_); refine Kd.R_lit k103 _ 103 ?hg (N:=83) ?hd (xs:=([] : List S103)) (inner:=[]) (ok:=fun _ => True) (okp:=fun _ => True) ?hr ?hp (fun _ hk => hk) trivial (Below.refl _ _) (Nat.le_refl _) (by simp) ?_; (case hd => rfl); (case hg => rfl); (case hr => first | (go_simp; done) | (go_simp; rfl)); (case hp => exact (Reps.none _ _)); intro v83 w3 ho hb hg_ hnew_; clear hg_ hnew_; obtain ⟨A83,c83,rfl⟩:=Kd.R_slice ho; have hbr : Below wr.heap.size wr w3:=below_step (by (with_reducible repeat (first | exact Below.refl _ _ | apply pw_below_drewN | apply below_drew))) hb; have B3:=zx (below_step JB.out hbr); have M3:=zx (blk_below J3.out hbr); have E3:=zx (blk_below JE.out hbr); have D3:=zx (map_below JD.out hbr); have R3:=zx (show Kd.R k103 103 w3 w.heap.size (fun q => q ≠ gN ∧ q ≠ gB ∧ q ≠ gM) (.slice A83 ([] : List S103).length c83) [] from Kd.R_lower (Kd.R_mono (Kd.R_bound ho) (fun q hq => by have h1:=hq.2.1; have h2:=blk_lt J3.out; have h3:=blk_lt JE.out; have h4:=World.ownsMap.lt JD.out; (try simp at h1); refine ⟨?_,?_,?_⟩ <;> omega)) (by exact (below_size JB.out : w.heap.size ≤ wr.heap.size))); clear ho hb hbr))
   clear J2 J3 JE JD R0 q1 q2 c1 c2
   go_loopg [3,16] k (fun gg s3 s16 wr => ∃ (kk : Nat) (v : Int) (out : List S103) (A : Option Addr) (c : Nat),s3 = .int .i64 v ∧ s16 = .slice A out.length c ∧ Aside0 (kk ≤ gg) ∧ Aside0 (pathA l0_1 st.1 a2 kk v out = some p) ∧ Aside0 (Kd.R k103 103 wr w.heap.size (fun q => q ≠ gN ∧ q ≠ gB ∧ q ≠ gM) (.slice A out.length c) out) ∧ Aside0 (Below w.heap.size w wr) ∧ Aside0 (wr.heap[gN]? = some (.cells #[.int .i64 a0_0,.slice A0_1 l0_1.length c0_1] 34 (0,0))) ∧ Aside0 (wr.heap[gB]? = some (.cells #[.map (some gM)] 129 (0,0))) ∧ Aside0 (wr.ownsMap Try.prog 3 stepR gM nD D))
   case atStart => exact ⟨k,a3,[],A83,c83,rfl,rfl,⟨Nat.le_refl _⟩,HP,R3,B3,M3,E3,D3⟩
   case round =>
    clear HP R3 B3 M3 E3 D3;obtain ⟨kk,v,out,A,c,rfl,rfl,K0,K1,K2,K3,K4,K5,K6⟩:=hrel;obtain ⟨kq,rfl⟩ : ∃ q,kk = q + 1:=by
     cases kk with
     | zero => have:=K1.out; simp [pathA] at this
     | succ q => exact ⟨q,rfl⟩
    have h6:=K1.out
    unfold pathA at h6
    by_cases hv : v = a2
    case pos =>
     rw [if_pos hv] at h6;obtain rfl : out = p:=Option.some.inj h6;subst hv;clear h6 K1
     go_wp2
     go_ret2;exact ⟨_,rfl,Kd.R_mono K2.out (fun _ _ => trivial),K3.out⟩
    rw [if_neg hv] at h6;have hv2 : 0 ≤ v ∧ v ≤ 1000:=by
     by_cases c : 0 ≤ v ∧ v ≤ 1000
     case pos => exact c
     rw [if_neg c] at h6; cases h6
    rw [if_pos hv2] at h6;have hol : out.length ≤ 1000:=by
     by_cases c : out.length ≤ 1000
     case pos => exact c
     rw [if_neg c] at h6; cases h6
    rw [if_pos hol] at h6;have hsl : 0 ≤ (st.1 v).1 ∧ (st.1 v).1 < (l0_1.length : Int):=by
     by_cases c : 0 ≤ (st.1 v).1 ∧ (st.1 v).1 < (l0_1.length : Int)
     case pos => exact c
     rw [if_neg c] at h6; cases h6
    rw [if_pos hsl] at h6;obtain ⟨vv,ps,hrun,hvv⟩:=World.ownsMap.lookup K6.out (Go.Maps.int_keyed Try.underlying3) Try.underlying129 (zero_step wr) (zd:=encD (0,false)) (zp:=[]) rfl (key_lit hv2);rw [JV.out v hv2.1 hv2.2] at hvv;obtain rfl:=stepR_inv hvv;generalize st.1 v = sv at h6 hsl hrun;obtain ⟨sa,sb⟩:=sv;dsimp only at h6 hsl hrun;have e1 : (v == a2) = false:=beq_eq_false_iff_ne.2 hv;have e2 : (v != a2) = true:=bne_iff_ne.2 hv;have q1 : wr.cell? ⟨gB,0,none⟩ = some (.map (some gM)):=(blk_cell K5.out 0).trans rfl;have H6:=zx h6;have HOL:=zx hol;have HSL:=zx hsl;obtain ⟨ad,e,_⟩:=at_T58 (Kd.C_below HR0.out K3.out) sa hsl.1 hsl.2;cases e;have p0 : ((0 : Int) ≤ sa) = True:=eq_true hsl.1;have p1 : (sa < (l0_1.length : Int)) = True:=eq_true hsl.2;clear h6 hol hsl hv hv2 hvv K1;cases sb with
    | false =>
     go_wp2_with (first
      | ((with_reducible refine gate_dst (N:=17) rfl ?_); refine box_event ?hg (N:=17) ?hd (cs:=#[.int .i64 0,.bool false]) (t:=103) ?hr ?_; (case hd => rfl); (case hg => rfl); (case hr => first | (go_simp; done) | (go_simp; rfl)); intro gs hgs w2 hbox hb; have X2:=zx hbox; have B2:=zx (below_step K3.out hb); have M2:=zx (blk_below K4.out hb); have E2:=zx (blk_below K5.out hb); have D2:=zx (map_below K6.out hb); have R2:=zx (show Kd.R k103 103 w2 w.heap.size (fun q => (q ≠ gN ∧ q ≠ gB ∧ q ≠ gM) ∧ q ≠ gs) (.slice A out.length c) out from Kd.R_mono (Kd.R_below (Kd.R_bound K2.out) hb) (fun q hq => ⟨hq.1,by have:=hq.2.2.1; omega⟩)); have L2s:=zx (show w.heap.size ≤ gs ∧ gN ≠ gs ∧ gB ≠ gs ∧ gM ≠ gs by have h1:=below_size K3.out; have h2:=blk_lt K4.out; have h3:=blk_lt K5.out; have h4:=World.ownsMap.lt K6.out; refine ⟨?_,?_,?_,?_⟩ <;> omega); clear hbox hb hgs q1 K2 K3 K4 K5 K6)
      | ((with_reducible refine gate_store (t:=103) (p:=17) (v:=.tmp 89) rfl ?_); refine put_event rfl rfl rfl X2.out 0 #[.int .i64 sa,.bool false] (.agg #[.int .i64 sa,.bool false]) [.int .i64 sa,.bool false] (by first | rfl | (go_simp; done) | (go_simp; rfl)) (by first | rfl | (go_simp; done) | (go_simp; rfl)) rfl (by kernel_rfl) (by simp) (by simp [Value.oneCell']) rfl ?_; intro w3 hc3 hg3; have X3:=zx hc3; have B3:=zx (pw_below_grown B2.out _ (below_size B2.out) hg3 (fun q hq => by obtain rfl:=Option.some.inj hq; exact L2s.out.1)); have M3:=zx (show w3.heap[gN]? = _ from blk_grown M2.out hg3 (fun e => L2s.out.2.1 (Option.some.inj e))); have E3:=zx (show w3.heap[gB]? = _ from blk_grown E2.out hg3 (fun e => L2s.out.2.2.1 (Option.some.inj e))); have D3:=zx (show w3.ownsMap Try.prog 3 stepR gM nD D from World.ownsMap.kept D2.out hg3 (fun e => L2s.out.2.2.2 (Option.some.inj e))); have R3:=zx (Kd.R_grown R2.out hg3 (fun q hq e => hq.2 (Option.some.inj e))); have z0 : w3.cell? ⟨gs,0,none⟩ = some (.int .i64 sa):=(blk_cell X3.out 0).trans rfl; have z1 : w3.cell? ⟨gs,1,none⟩ = some (.bool false):=(blk_cell X3.out 1).trans rfl; clear hc3 hg3 X2 B2 M2 E2 D2 R2)
      | ((with_reducible refine gate_builtin (b:=.append) (xs:=#[.tmp 90,.tmp 92]) rfl ?_); at_builtin; refine Kd.R_append k103 (w0:=w) w.heap.size rfl (.tmp 90) (.tmp 92) 99 103 (.agg #[.int .i64 0,.bool false]) 16 rfl Try.underlying99 (by kernel_rfl) rfl (by decide) (by omega) (.slice A out.length c) out (⟨sa,false⟩ : S103) [.int .i64 sa,.bool false] (fun q => (q ≠ gN ∧ q ≠ gB ∧ q ≠ gM) ∧ q ≠ gs) (fun _ => False) rfl (by first | (go_simp; done) | (go_simp; rfl)) ?aP (fun _ hk => hk.elim) ?aF ?aO ?aB ?aS ?aL ?_; (case aP => exact k103_mkM _ _ _ (⟨sa,false⟩ : S103)); (case aB => exact B3.out); (case aF => exact fun q hq => by have h1:=blk_lt X3.out; have h2:=blk_lt M3.out; have h3:=blk_lt E3.out; have h4:=World.ownsMap.lt D3.out; refine ⟨⟨?_,?_,?_⟩,?_⟩ <;> omega); (case aO => exact R3.out); (case aS => exact below_size B3.out); (case aL => have:=HOL.out; omega); intro v4 w4 ho hb hg hat; obtain ⟨A4,c4,rfl⟩:=Kd.R_slice ho; have R4:=zx ho; have B4:=zx hb; have rb:=fun q (e : some q = (Value.slice A out.length c).ownBlock) => R3.out.1 q e.symm; have M4:=zx (show w4.heap[gN]? = _ from blk_grown M3.out hg (fun e => (rb _ e).1.1 rfl)); have E4:=zx (show w4.heap[gB]? = _ from blk_grown E3.out hg (fun e => (rb _ e).1.2.1 rfl)); have D4:=zx (show w4.ownsMap Try.prog 3 stepR gM nD D from World.ownsMap.kept D3.out hg (fun e => (rb _ e).1.2.2 rfl)); have X4:=zx (show w4.heap[gs]? = _ from blk_grown X3.out hg (fun e => (rb _ e).2 rfl)); clear rb ho hb hg hat z0 z1 X3 B3 M3 E3 D3 R3; have z0 : w4.cell? ⟨gs,0,none⟩ = some (.int .i64 sa):=(blk_cell X4.out 0).trans rfl; have z1 : w4.cell? ⟨gs,1,none⟩ = some (.bool false):=(blk_cell X4.out 1).trans rfl; have z2 : w4.cell? ⟨gN,1,none⟩ = some (.slice (some ad) l0_1.length c0_1):=(blk_cell M4.out 1).trans rfl; obtain ⟨ad',e',y0,y1,_,_,_⟩:=at_T58 (Kd.C_below HR0.out B4.out) sa HSL.out.1 HSL.out.2; obtain rfl : ad = ad':=by injection e'))
     go_roundg kq
     case measure => have:=K0.out; omega
     case rel => exact ⟨kq,_,out ++ [⟨sa,false⟩],A4,c4,rfl,by first | rfl | simp,⟨Nat.le_refl _⟩,⟨by have h:=H6.out; first | exact h | simpa using h⟩,⟨Kd.R_mono R4.out (fun q hq => hq.1)⟩,B4,M4,E4,D4⟩
    | true =>
     go_wp2_with (first
      | ((with_reducible refine gate_dst (N:=17) rfl ?_); refine box_event ?hg (N:=17) ?hd (cs:=#[.int .i64 0,.bool false]) (t:=103) ?hr ?_; (case hd => rfl); (case hg => rfl); (case hr => first | (go_simp; done) | (go_simp; rfl)); intro gs hgs w2 hbox hb; have X2:=zx hbox; have B2:=zx (below_step K3.out hb); have M2:=zx (blk_below K4.out hb); have E2:=zx (blk_below K5.out hb); have D2:=zx (map_below K6.out hb); have R2:=zx (show Kd.R k103 103 w2 w.heap.size (fun q => (q ≠ gN ∧ q ≠ gB ∧ q ≠ gM) ∧ q ≠ gs) (.slice A out.length c) out from Kd.R_mono (Kd.R_below (Kd.R_bound K2.out) hb) (fun q hq => ⟨hq.1,by have:=hq.2.2.1; omega⟩)); have L2s:=zx (show w.heap.size ≤ gs ∧ gN ≠ gs ∧ gB ≠ gs ∧ gM ≠ gs by have h1:=below_size K3.out; have h2:=blk_lt K4.out; have h3:=blk_lt K5.out; have h4:=World.ownsMap.lt K6.out; refine ⟨?_,?_,?_,?_⟩ <;> omega); clear hbox hb hgs q1 K2 K3 K4 K5 K6)
      | ((with_reducible refine gate_store (t:=103) (p:=17) (v:=.tmp 89) rfl ?_); refine put_event rfl rfl rfl X2.out 0 #[.int .i64 sa,.bool true] (.agg #[.int .i64 sa,.bool true]) [.int .i64 sa,.bool true] (by first | rfl | (go_simp; done) | (go_simp; rfl)) (by first | rfl | (go_simp; done) | (go_simp; rfl)) rfl (by kernel_rfl) (by simp) (by simp [Value.oneCell']) rfl ?_; intro w3 hc3 hg3; have X3:=zx hc3; have B3:=zx (pw_below_grown B2.out _ (below_size B2.out) hg3 (fun q hq => by obtain rfl:=Option.some.inj hq; exact L2s.out.1)); have M3:=zx (show w3.heap[gN]? = _ from blk_grown M2.out hg3 (fun e => L2s.out.2.1 (Option.some.inj e))); have E3:=zx (show w3.heap[gB]? = _ from blk_grown E2.out hg3 (fun e => L2s.out.2.2.1 (Option.some.inj e))); have D3:=zx (show w3.ownsMap Try.prog 3 stepR gM nD D from World.ownsMap.kept D2.out hg3 (fun e => L2s.out.2.2.2 (Option.some.inj e))); have R3:=zx (Kd.R_grown R2.out hg3 (fun q hq e => hq.2 (Option.some.inj e))); have z0 : w3.cell? ⟨gs,0,none⟩ = some (.int .i64 sa):=(blk_cell X3.out 0).trans rfl; have z1 : w3.cell? ⟨gs,1,none⟩ = some (.bool true):=(blk_cell X3.out 1).trans rfl; clear hc3 hg3 X2 B2 M2 E2 D2 R2)
      | ((with_reducible refine gate_builtin (b:=.append) (xs:=#[.tmp 90,.tmp 92]) rfl ?_); at_builtin; refine Kd.R_append k103 (w0:=w) w.heap.size rfl (.tmp 90) (.tmp 92) 99 103 (.agg #[.int .i64 0,.bool false]) 16 rfl Try.underlying99 (by kernel_rfl) rfl (by decide) (by omega) (.slice A out.length c) out (⟨sa,true⟩ : S103) [.int .i64 sa,.bool true] (fun q => (q ≠ gN ∧ q ≠ gB ∧ q ≠ gM) ∧ q ≠ gs) (fun _ => False) rfl (by first | (go_simp; done) | (go_simp; rfl)) ?aP (fun _ hk => hk.elim) ?aF ?aO ?aB ?aS ?aL ?_; (case aP => exact k103_mkM _ _ _ (⟨sa,true⟩ : S103)); (case aB => exact B3.out); (case aF => exact fun q hq => by have h1:=blk_lt X3.out; have h2:=blk_lt M3.out; have h3:=blk_lt E3.out; have h4:=World.ownsMap.lt D3.out; refine ⟨⟨?_,?_,?_⟩,?_⟩ <;> omega); (case aO => exact R3.out); (case aS => exact below_size B3.out); (case aL => have:=HOL.out; omega); intro v4 w4 ho hb hg hat; obtain ⟨A4,c4,rfl⟩:=Kd.R_slice ho; have R4:=zx ho; have B4:=zx hb; have rb:=fun q (e : some q = (Value.slice A out.length c).ownBlock) => R3.out.1 q e.symm; have M4:=zx (show w4.heap[gN]? = _ from blk_grown M3.out hg (fun e => (rb _ e).1.1 rfl)); have E4:=zx (show w4.heap[gB]? = _ from blk_grown E3.out hg (fun e => (rb _ e).1.2.1 rfl)); have D4:=zx (show w4.ownsMap Try.prog 3 stepR gM nD D from World.ownsMap.kept D3.out hg (fun e => (rb _ e).1.2.2 rfl)); have X4:=zx (show w4.heap[gs]? = _ from blk_grown X3.out hg (fun e => (rb _ e).2 rfl)); clear rb ho hb hg hat z0 z1 X3 B3 M3 E3 D3 R3; have z0 : w4.cell? ⟨gs,0,none⟩ = some (.int .i64 sa):=(blk_cell X4.out 0).trans rfl; have z1 : w4.cell? ⟨gs,1,none⟩ = some (.bool true):=(blk_cell X4.out 1).trans rfl; have z2 : w4.cell? ⟨gN,1,none⟩ = some (.slice (some ad) l0_1.length c0_1):=(blk_cell M4.out 1).trans rfl; obtain ⟨ad',e',y0,y1,_,_,_⟩:=at_T58 (Kd.C_below HR0.out B4.out) sa HSL.out.1 HSL.out.2; obtain rfl : ad = ad':=by injection e'))
     go_roundg kq
     case measure => have:=K0.out; omega
     case rel => exact ⟨kq,_,out ++ [⟨sa,true⟩],A4,c4,rfl,by first | rfl | simp,⟨Nat.le_refl _⟩,⟨by have h:=H6.out; first | exact h | simpa using h⟩,⟨Kd.R_mono R4.out (fun q hq => hq.1)⟩,B4,M4,E4,D4⟩
  rw [if_pos hlt] at h5;obtain ⟨st2,hrow,hnext⟩:=Option.bind_eq_some_iff.1 h5;have c1 : decide ((hh : Int) < (st.2.length : Int)) = true:=decide_eq_true (by omega);have c2 : decide (hh < st.2.length) = true:=decide_eq_true hlt;have HROW:=zx hrow;have HNX:=zx hnext;have HLT:=zx hlt;obtain ⟨u,hu0⟩ : ∃ u,rd st.2 (hh : Int) = u:=⟨_,rfl⟩
  rw [hu0] at HROW;have HU0:=zx hu0;clear h5 hrow hnext hlt hu0 J1
  go_wp2
  clear q1 q2 c1 c2
  go_loopg [31] l0_1.length (fun gg s31 wr => ∃ (j : Nat) (st1 : StA),s31 = .int .i64 (j : Int) ∧ Aside0 (j ≤ l0_1.length ∧ l0_1.length - j ≤ gg) ∧ Aside0 (rowA l0_1 l1 u (l0_1.length - j) st1 = some st2) ∧ Aside0 (AuS w gF gB gM (fun q => q ≠ gN ∧ q ≠ gF ∧ q ≠ gB ∧ q ≠ gM) st1 wr) ∧ Aside0 (wr.heap[gN]? = some (.cells #[.int .i64 a0_0,.slice A0_1 l0_1.length c0_1] 34 (0,0))) ∧ Aside0 (st1.2.length ≤ 1001) ∧ Aside0 (rd st1.2 (hh : Int) = u ∧ hh < st1.2.length))
  case atStart => exact ⟨0,st,rfl,⟨by omega⟩,HROW,J2,J3,J4,⟨HU0.out,HLT.out⟩⟩
  case round =>
   clear J2 J3 J4 HROW HU0 HLT;obtain ⟨j,st1,rfl,K0,K1,K2,K3,K4,K5⟩:=hrel
   by_cases hj : j < l0_1.length
   case neg =>
    have c1 : decide ((j : Int) < (l0_1.length : Int)) = false:=decide_eq_false (by omega);have c2 : decide (j < l0_1.length) = false:=decide_eq_false hj;have h6:=K1.out;rw [show l0_1.length - j = 0 by omega] at h6;obtain rfl : st1 = st2:=Option.some.inj h6;have hw : wrap64 ((hh : Int) + 1) = ((hh + 1 : Nat) : Int):=by have h1:=J5.out; unfold wrap64; omega
    have HW:=zx hw;clear h6 hj hw
    go_wp2
    go_roundg kq
    case measure => have:=J0.out; omega
    case rel => exact ⟨hh + 1,kq,st1,by first | rfl | (rw [HW.out]; done) | (simp [HW.out]; done),⟨Nat.le_refl _⟩,HNX,K2,K3,K4,⟨by have h1:=K5.out.2; have h2:=K4.out; omega⟩⟩
   have c1 : decide ((j : Int) < (l0_1.length : Int)) = true:=decide_eq_true (by omega);have c2 : decide (j < l0_1.length) = true:=decide_eq_true hj;obtain ⟨m,hm⟩ : ∃ m,l0_1.length - j = m + 1:=⟨l0_1.length - j - 1,by omega⟩
   have h6:=K1.out;rw [hm] at h6
   unfold rowA at h6
   rw [show l0_1.length - (m + 1) = j by omega] at h6;obtain ⟨st3,harc,hrow⟩:=Option.bind_eq_some_iff.1 h6
   unfold arcA at harc
   obtain ⟨stM,hM,hS⟩:=Option.bind_eq_some_iff.1 harc;obtain ⟨ad,e,x0,x1,x2,x3,x4⟩:=at_T58 (Kd.C_below HR0.out K2.out.1) (j : Int) (by omega) (by omega);cases e;rw [Int.toNat_natCast] at x0 x1 x2 x3 x4;have p2 : ((0 : Int) ≤ (j : Int)) = True:=eq_true (by omega);have p3 : ((j : Int) < (l0_1.length : Int)) = True:=eq_true (by omega);have hw : wrap64 ((j : Int) + 1) = ((j + 1 : Nat) : Int):=by have h1:=HM0.out; unfold wrap64; omega
   have HMM:=zx hM;have HSS:=zx hS;have HRR:=zx hrow;have HW:=zx hw;have HJ:=zx hj;have HMQ:=zx hm;generalize hfa : rd_T58 l0_1 (j : Int) = fa at x0 x1 x2 x3 x4 HMM HSS;clear h6 harc hM hS hrow hw hj hm hfa K1
   go_wp2_with (first
    | ((with_reducible refine gate_dst (N:=15) rfl ?_); refine box_event ?hg (N:=15) ?hd (cs:=#[.int .i64 0,.int .i64 0,.int .i64 0,.int .i64 0,.int .i64 0]) (t:=58) ?hr ?_; (case hd => rfl); (case hg => rfl); (case hr => first | (go_simp; done) | (go_simp; rfl)); intro ga hga w2 hbox hb; have B2:=zx hb; have S2:=zx (show AuS w gF gB gM (fun q => (fun q => q ≠ gN ∧ q ≠ gF ∧ q ≠ gB ∧ q ≠ gM) q ∧ q ≠ ga) st1 w2 from (K2.out.only (by rw [hga]; exact Nat.le_refl _)).below hb); have M2:=zx (blk_below K3.out hb); have X2:=zx hbox; have L2a:=zx (show gN < ga by rw [hga]; exact blk_lt K3.out); have L2b:=zx (show gF < ga by rw [hga]; obtain ⟨_,⟨_,_,hz,_⟩,_⟩:=K2.out; exact blk_lt hz); clear hbox hb hga)
    | ((with_reducible refine gate_store (t:=58) (p:=15) (v:=.tmp 35) rfl ?_); refine put_event rfl rfl rfl X2.out 0 #[.int .i64 fa.f0,.int .i64 fa.f1,.int .i64 fa.f2,.int .i64 fa.f3,.int .i64 fa.f4] (.agg #[.int .i64 fa.f0,.int .i64 fa.f1,.int .i64 fa.f2,.int .i64 fa.f3,.int .i64 fa.f4]) [.int .i64 fa.f0,.int .i64 fa.f1,.int .i64 fa.f2,.int .i64 fa.f3,.int .i64 fa.f4] (by first | rfl | (go_simp; done) | (go_simp; rfl)) (by first | rfl | (go_simp; done) | (go_simp; rfl)) rfl (by kernel_rfl) (by simp) (by simp [Value.oneCell']) rfl ?_; intro w3 hc3 hg3; have X3:=zx hc3; have M3:=zx (show w3.heap[gN]? = _ from blk_grown M2.out hg3 (fun e => by have h1:=Option.some.inj e; have h2:=L2a.out; omega)); have S3:=zx (S2.out.grown hg3 (by have h1:=L2b.out; omega) (by have h1:=L2b.out; have h2:=L6.out; omega) (by have h1:=L2b.out; have h2:=L6.out; have h3:=L3.out; omega) (fun q hq => hq.2) (by have h1:=L2b.out; have h2:=G6.out; omega)); clear hc3 hg3 S2 M2 X2 B2))
   clear x0 x1 x2 x3 x4 p2 p3 c1 c2 K2 K3;obtain ⟨_,⟨Ab,cb,Fb,Rb⟩,_⟩:=S3.out;have y1 : w3.cell? ⟨gF,0,none⟩ = some (.slice Ab st1.2.length cb):=(blk_cell Fb 0).trans rfl;obtain ⟨adb,e,y2⟩:=Kd.at_int (Kd.R_reads' Rb).2.2 (hh : Int) (by omega) (by have:=K5.out.2; omega);cases e;rw [K5.out.1,Int.toNat_natCast] at y2;have z0 : w3.cell? ⟨ga,0,none⟩ = some (.int .i64 fa.f0):=(blk_cell X3.out 0).trans rfl;have z1 : w3.cell? ⟨ga,1,none⟩ = some (.int .i64 fa.f1):=(blk_cell X3.out 1).trans rfl;have z4 : w3.cell? ⟨ga,4,none⟩ = some (.int .i64 fa.f4):=(blk_cell X3.out 4).trans rfl;have p2 : ((0 : Int) ≤ (hh : Int)) = True:=eq_true (by omega);have p3 : ((hh : Int) < (st1.2.length : Int)) = True:=eq_true (by have:=K5.out.2; omega);have p4 : ((0 : Int) ≤ (j : Int)) = True:=eq_true (by omega);have hMM:=HMM.out;clear HMM Fb Rb;have key : (fa.f0 = u ∧ j < l1.length ∧ rd l1 (j : Int) < fa.f4 ∧ putA st1 fa.f1 ((j : Int),true) = some stM) ∨ (fa.f0 = u ∧ j < l1.length ∧ ¬ rd l1 (j : Int) < fa.f4 ∧ st1 = stM) ∨ (¬ fa.f0 = u ∧ st1 = stM):=by
    by_cases d1 : fa.f0 = u
    case neg => rw [if_neg d1] at hMM; exact .inr (.inr ⟨d1,Option.some.inj hMM⟩)
    rw [if_pos d1] at hMM
    by_cases d2 : j < l1.length
    case neg => rw [if_neg d2] at hMM; cases hMM
    rw [if_pos d2] at hMM
    by_cases d3 : rd l1 (j : Int) < fa.f4
    case pos => rw [if_pos d3] at hMM; exact .inl ⟨d1,d2,d3,hMM⟩
    rw [if_neg d3] at hMM; exact .inr (.inl ⟨d1,d2,d3,Option.some.inj hMM⟩)
   clear hMM
   rcases key with ⟨d1,d2,d3,hMM⟩ | ⟨d1,d2,d3,hMM⟩ | ⟨d1,hMM⟩
   focus
    obtain ⟨adf,e,y3⟩:=Kd.at_int (Kd.C_below HR1.out S3.out.1) (j : Int) (by omega) (by omega);cases e;rw [Int.toNat_natCast] at y3;have p5 : ((j : Int) < (l1.length : Int)) = True:=eq_true (by omega);have e1 : (fa.f0 == u) = true:=beq_iff_eq.2 d1;have e2 : decide (rd l1 (j : Int) < fa.f4) = true:=decide_eq_true d3;have HMM:=zx hMM;clear hMM d1 d2 d3
    go_quiet (first | done)
    generalize hq_ : World.drewN w3 _ = w4;have hbq : Below w3.heap.size w3 w4:=hq_ ▸ pw_below_drewN (Below.refl _ _) _;have S4:=zx (AuS.below S3.out hbq);have M4:=zx (blk_below M3.out hbq);have X4:=zx (blk_below X3.out hbq);have H5:=zx HMM.out;have z5 : w4.cell? ⟨ga,1,none⟩ = some (.int .i64 fa.f1):=(blk_cell X4.out 1).trans rfl;clear hq_ hbq y1 y2 y3 z0 z1 z4 S3 M3 X3 e1 e2 HMM
    go_wp2_with (first
     | (go_at_call 129; refine (put_closure w gF gB gM (fun q => (q ≠ gN ∧ q ≠ gF ∧ q ≠ gB ∧ q ≠ gM) ∧ q ≠ ga) (fun q h => h.1.2) (by have:=L6.out; omega) (by have h1:=L6.out; have h2:=L3.out; omega) (by have h2:=L3.out; omega) ⟨G6.out,G2.out⟩ st1 stM fa.f1 ((j : Int),true) w4 (fun q hq => by have h1:=blk_lt X4.out; have h2:=L2a.out; have h3:=L2b.out; have h4:=L6.out; have h5:=L3.out; refine ⟨⟨?_,?_,?_,?_⟩,?_⟩ <;> omega) S4.out H5.out).mono ?_; rintro e w5 ⟨rfl,hA,hK⟩; have S5:=zx hA; have M5:=zx (show w5.heap[gN]? = _ from blk_kept M4.out hK (fun h => by have h1:=L2.out; have h2:=L3.out; have h3:=L6.out; rcases h with h | h | h; omega; omega; exact h.1.1 rfl)); have X5:=zx (show w5.heap[ga]? = _ from blk_kept X4.out hK (fun h => by have h1:=L2b.out; have h2:=L6.out; have h3:=L3.out; rcases h with h | h | h; omega; omega; exact h.2 rfl)); clear hA hK))
    have KU : Aside0 (rd stM.2 (hh : Int) = u ∧ hh < stM.2.length ∧ stM.2.length ≤ 1001):=⟨by obtain ⟨k1,k2,k3⟩:=putA_keep H5.out K5.out.2; exact ⟨k1.trans K5.out.1,k2,k3 K4.out⟩⟩
    clear z5 H5 S4 M4 X4 K4 K5
   rotate_left
   focus
    obtain ⟨adf,e,y3⟩:=Kd.at_int (Kd.C_below HR1.out S3.out.1) (j : Int) (by omega) (by omega);cases e;rw [Int.toNat_natCast] at y3;have p5 : ((j : Int) < (l1.length : Int)) = True:=eq_true (by omega);have e1 : (fa.f0 == u) = true:=beq_iff_eq.2 d1;have e2 : decide (rd l1 (j : Int) < fa.f4) = false:=decide_eq_false d3;have hMM2:=hMM.symm;subst hMM2;clear d1 d2 d3
    go_quiet (first | done)
    generalize hq_ : World.drewN w3 _ = w5;have hbq : Below w3.heap.size w3 w5:=hq_ ▸ pw_below_drewN (Below.refl _ _) _;have S5:=zx (AuS.below S3.out hbq);have M5:=zx (blk_below M3.out hbq);have X5:=zx (blk_below X3.out hbq);have KU : Aside0 (rd stM.2 (hh : Int) = u ∧ hh < stM.2.length ∧ stM.2.length ≤ 1001):=⟨⟨K5.out.1,K5.out.2,K4.out⟩⟩
    clear hq_ hbq y1 y2 z0 z1 z4 S3 M3 X3 K4 K5
    go_wp2
    clear y3 e1 e2 p5
   rotate_left
   focus
    have e1 : (fa.f0 == u) = false:=beq_eq_false_iff_ne.2 d1;have hMM2:=hMM.symm;subst hMM2;clear d1
    go_quiet (first | done)
    generalize hq_ : World.drewN w3 _ = w5;have hbq : Below w3.heap.size w3 w5:=hq_ ▸ pw_below_drewN (Below.refl _ _) _;have S5:=zx (AuS.below S3.out hbq);have M5:=zx (blk_below M3.out hbq);have X5:=zx (blk_below X3.out hbq);have KU : Aside0 (rd stM.2 (hh : Int) = u ∧ hh < stM.2.length ∧ stM.2.length ≤ 1001):=⟨⟨K5.out.1,K5.out.2,K4.out⟩⟩
    clear hq_ hbq y1 y2 z0 z1 z4 S3 M3 X3 K4 K5
    go_wp2
    clear e1
   rotate_left
   all_goals
    obtain ⟨_,⟨Ab2,cb2,Fb2,Rb2⟩,_⟩:=S5.out;have y1 : w5.cell? ⟨gF,0,none⟩ = some (.slice Ab2 stM.2.length cb2):=(blk_cell Fb2 0).trans rfl;obtain ⟨adc,e,y2⟩:=Kd.at_int (Kd.R_reads' Rb2).2.2 (hh : Int) (by omega) (by have:=KU.out.2.1; omega);cases e;rw [KU.out.1,Int.toNat_natCast] at y2;have z0 : w5.cell? ⟨ga,0,none⟩ = some (.int .i64 fa.f0):=(blk_cell X5.out 0).trans rfl;have z1 : w5.cell? ⟨ga,1,none⟩ = some (.int .i64 fa.f1):=(blk_cell X5.out 1).trans rfl;have p6 : ((hh : Int) < (stM.2.length : Int)) = True:=eq_true (by have:=KU.out.2.1; omega);have hSS:=HSS.out;have key : (fa.f1 = u ∧ j < l1.length ∧ rd l1 (j : Int) > 0 ∧ putA stM fa.f0 ((j : Int),false) = some st3) ∨ (fa.f1 = u ∧ j < l1.length ∧ ¬ rd l1 (j : Int) > 0 ∧ stM = st3) ∨ (¬ fa.f1 = u ∧ stM = st3):=by
     by_cases d1 : fa.f1 = u
     case neg => rw [if_neg d1] at hSS; exact .inr (.inr ⟨d1,Option.some.inj hSS⟩)
     rw [if_pos d1] at hSS
     by_cases d2 : j < l1.length
     case neg => rw [if_neg d2] at hSS; cases hSS
     rw [if_pos d2] at hSS
     by_cases d3 : rd l1 (j : Int) > 0
     case pos => rw [if_pos d3] at hSS; exact .inl ⟨d1,d2,d3,hSS⟩
     rw [if_neg d3] at hSS; exact .inr (.inl ⟨d1,d2,d3,Option.some.inj hSS⟩)
    clear hSS HSS Fb2 Rb2
    rcases key with ⟨d1,d2,d3,hSS⟩ | ⟨d1,d2,d3,hSS⟩ | ⟨d1,hSS⟩
    ·obtain ⟨adg,e,y3⟩:=Kd.at_int (Kd.C_below HR1.out S5.out.1) (j : Int) (by omega) (by omega);cases e;rw [Int.toNat_natCast] at y3;have p7 : ((j : Int) < (l1.length : Int)) = True:=eq_true (by omega);have e1 : (fa.f1 == u) = true:=beq_iff_eq.2 d1;have e2 : decide (rd l1 (j : Int) > 0) = true:=decide_eq_true d3;have e3 : decide (0 < rd l1 (j : Int)) = true:=decide_eq_true d3;have H6:=zx hSS;clear hSS d1 d2 d3
     go_quiet (first | done)
     generalize hq_ : World.drewN w5 _ = w6;have hbq : Below w5.heap.size w5 w6:=hq_ ▸ pw_below_drewN (Below.refl _ _) _;have S6:=zx (AuS.below S5.out hbq);have M6:=zx (blk_below M5.out hbq);have X6:=zx (blk_below X5.out hbq);have z6 : w6.cell? ⟨ga,0,none⟩ = some (.int .i64 fa.f0):=(blk_cell X6.out 0).trans rfl;clear hq_ hbq y1 y2 y3 z0 z1 S5 M5 X5 e1 e2 e3
     go_wp2_with (first
      | (go_at_call 129; refine (put_closure w gF gB gM (fun q => (q ≠ gN ∧ q ≠ gF ∧ q ≠ gB ∧ q ≠ gM) ∧ q ≠ ga) (fun q h => h.1.2) (by have:=L6.out; omega) (by have h1:=L6.out; have h2:=L3.out; omega) (by have h2:=L3.out; omega) ⟨G6.out,G2.out⟩ stM st3 fa.f0 ((j : Int),false) w6 (fun q hq => by have h1:=blk_lt X6.out; have h2:=L2a.out; have h3:=L2b.out; have h4:=L6.out; have h5:=L3.out; refine ⟨⟨?_,?_,?_,?_⟩,?_⟩ <;> omega) S6.out H6.out).mono ?_; rintro e w7 ⟨rfl,hA,hK⟩; have S7:=zx hA; have M7:=zx (show w7.heap[gN]? = _ from blk_kept M6.out hK (fun h => by have h1:=L2.out; have h2:=L3.out; have h3:=L6.out; rcases h with h | h | h; omega; omega; exact h.1.1 rfl)); clear hA hK))
     have KV : Aside0 (rd st3.2 (hh : Int) = u ∧ hh < st3.2.length ∧ st3.2.length ≤ 1001):=⟨by obtain ⟨k1,k2,k3⟩:=putA_keep H6.out KU.out.2.1; exact ⟨k1.trans KU.out.1,k2,k3 KU.out.2.2⟩⟩
     clear z6 H6 S6 M6 X6;go_roundg (l0_1.length - (j + 1))
     case measure => have:=K0.out; have:=HJ.out; omega
     case rel => exact ⟨j + 1,st3,by first | rfl | (rw [HW.out]; done) | (simp [HW.out]; done),⟨by have:=HJ.out; omega⟩,⟨by have h1:=HMQ.out; rw [show l0_1.length - (j + 1) = m by omega]; exact HRR.out⟩,⟨S7.out.mono (fun q hq => hq.1)⟩,M7,⟨KV.out.2.2⟩,⟨KV.out.1,KV.out.2.1⟩⟩
    ·obtain ⟨adg,e,y3⟩:=Kd.at_int (Kd.C_below HR1.out S5.out.1) (j : Int) (by omega) (by omega);cases e;rw [Int.toNat_natCast] at y3;have p7 : ((j : Int) < (l1.length : Int)) = True:=eq_true (by omega);have e1 : (fa.f1 == u) = true:=beq_iff_eq.2 d1;have e2 : decide (rd l1 (j : Int) > 0) = false:=decide_eq_false d3;have e3 : decide (0 < rd l1 (j : Int)) = false:=decide_eq_false d3;have hSS2:=hSS;subst hSS2;have KV:=KU;clear d1 d2 d3
     go_quiet (first | done)
     generalize hq_ : World.drewN w5 _ = w6;have hbq : Below w5.heap.size w5 w6:=hq_ ▸ pw_below_drewN (Below.refl _ _) _;have S6:=zx (AuS.below S5.out hbq);have M6:=zx (blk_below M5.out hbq);have X6:=zx (blk_below X5.out hbq);clear hq_ hbq y1 y2 z0 z1 S5 M5 X5 y3 e1 e2 e3 p7
     go_wp2
     go_roundg (l0_1.length - (j + 1))
     case measure => have:=K0.out; have:=HJ.out; omega
     case rel => exact ⟨j + 1,stM,by first | rfl | (rw [HW.out]; done) | (simp [HW.out]; done),⟨by have:=HJ.out; omega⟩,⟨by have h1:=HMQ.out; rw [show l0_1.length - (j + 1) = m by omega]; exact HRR.out⟩,⟨S6.out.mono (fun q hq => hq.1)⟩,M6,⟨KV.out.2.2⟩,⟨KV.out.1,KV.out.2.1⟩⟩
    ·have e1 : (fa.f1 == u) = false:=beq_eq_false_iff_ne.2 d1;have hSS2:=hSS;subst hSS2;have KV:=KU;clear d1
     go_quiet (first | done)
     generalize hq_ : World.drewN w5 _ = w6;have hbq : Below w5.heap.size w5 w6:=hq_ ▸ pw_below_drewN (Below.refl _ _) _;have S6:=zx (AuS.below S5.out hbq);have M6:=zx (blk_below M5.out hbq);have X6:=zx (blk_below X5.out hbq);clear hq_ hbq y1 y2 z0 z1 S5 M5 X5 e1
     go_wp2
     go_roundg (l0_1.length - (j + 1))
     case measure => have:=K0.out; have:=HJ.out; omega
     case rel => exact ⟨j + 1,stM,by first | rfl | (rw [HW.out]; done) | (simp [HW.out]; done),⟨by have:=HJ.out; omega⟩,⟨by have h1:=HMQ.out; rw [show l0_1.length - (j + 1) = m by omega]; exact HRR.out⟩,⟨S6.out.mono (fun q hq => hq.1)⟩,M6,⟨KV.out.2.2⟩,⟨KV.out.1,KV.out.2.1⟩⟩
mutual
def impl_FlowOf.l0 : Nat → Int → Int → List Int → Int → List (S58) → Option (List Int)
 | 0,_,_,_,_,_ => none
 | k + 1,x1,x2,x7,p7,p8 => (impl_Net_augment.f k p7 p8 x7 x1 x2).bind fun bt831 => (if bt831.2 = true then (impl_FlowOf.l1 k x1 x2 x7 bt831.1 (bt831.1.length : Int) 0 p7 p8) else (some x7))
def impl_FlowOf.l1 : Nat → Int → Int → List Int → List (S103) → Int → Int → Int → List (S58) → Option (List Int)
 | 0,_,_,_,_,_,_,_,_ => none
 | k + 1,x1,x2,x7,x8,x33,x34,p7,p8 => if x34 < x33 then (if 0 ≤ x34 then (if x34 < (x8.length : Int) then (if (rd_T103 x8 x34).f1 = true then (if 0 ≤ ((rd_T103 x8 x34).f0) then (if ((rd_T103 x8 x34).f0) < (x7.length : Int) then (impl_FlowOf.l1 k x1 x2 (x7.set (((rd_T103 x8 x34).f0) : Int).toNat (wrap64 ((rd x7 ((rd_T103 x8 x34).f0)) + 1))) x8 x33 (wrap64 (x34 + 1)) p7 p8) else (none)) else (none)) else (if 0 ≤ ((rd_T103 x8 x34).f0) then (if ((rd_T103 x8 x34).f0) < (x7.length : Int) then (impl_FlowOf.l1 k x1 x2 (x7.set (((rd_T103 x8 x34).f0) : Int).toNat (wrap64 ((rd x7 ((rd_T103 x8 x34).f0)) - 1))) x8 x33 (wrap64 (x34 + 1)) p7 p8) else (none)) else (none))) else (none)) else (none)) else (impl_FlowOf.l0 k x1 x2 x7 p7 p8)
end
def impl_FlowOf.f (k : Nat) (a0_0 : Int) (l0_1 : List (S58)) (a1 : Int) (a2 : Int) : Option (List Int):=(impl_apart.f a0_0 l0_1 a1 a2).bind fun t827 => (if t827 = true then (if 0 ≤ (l0_1.length : Int) then (if ((l0_1.length : Int) : Int).toNat ≤ 35184372088832 then (impl_FlowOf.l0 k a1 a2 (List.replicate ((l0_1.length : Int) : Int).toNat 0) a0_0 l0_1) else (none)) else (none)) else (some ([] : List Int)))
set_option maxHeartbeats 8000000 in
set_option maxRecDepth 100000 in
theorem impl_FlowOf.calls (k : Nat) (a0_0 : Int) (A0_1 : Option Addr) (c0_1 : Nat) (l0_1 : List (S58)) (a1 : Int) (a2 : Int) (r : List Int) (w : World) (hr0_1 : Kd.C k58 w A0_1 l0_1.length l0_1) (hc0_1 : l0_1.length ≤ c0_1) (h : impl_FlowOf.f k a0_0 l0_1 a1 a2 = some r) :
  Calls Try.prog 38 #[.agg #[.int .i64 a0_0,.slice A0_1 l0_1.length c0_1],.int .i64 a1,.int .i64 a2] w fun e w' => ∃ v0_ : Value,e = .returned (v0_) ∧ Kd.R (Kd.int .i64) 3 w' w.heap.size (fun _ => True) v0_ r ∧ Below w.heap.size w w':=by
 have hu34:=Try.underlying34;have hu103:=Try.underlying103;have q3:=zx hr0_1;have q4:=zx hc0_1;clear hr0_1 hc0_1;have HB:=zx (Below.refl w.heap.size w);have H : ((impl_apart.f a0_0 l0_1 a1 a2).bind fun t827 => (if t827 = true then (if 0 ≤ (l0_1.length : Int) then (if ((l0_1.length : Int) : Int).toNat ≤ 35184372088832 then (impl_FlowOf.l0 k a1 a2 (List.replicate ((l0_1.length : Int) : Int).toNat 0) a0_0 l0_1) else (none)) else (none)) else (some ([] : List Int)))) = some r:=h;clear h;replace H:=Option.bind_eq_some_iff.mp H;obtain ⟨t827,A40,H⟩:=H;replace H : (if t827 = true then (if 0 ≤ (l0_1.length : Int) then (if ((l0_1.length : Int) : Int).toNat ≤ 35184372088832 then (impl_FlowOf.l0 k a1 a2 (List.replicate ((l0_1.length : Int) : Int).toNat 0) a0_0 l0_1) else (none)) else (none)) else (some ([] : List Int))) = some r:=H;have A4:=zx A40;clear A40
 by_cases c5 : t827 = true
 case neg =>
  replace c5:=Bool.eq_false_iff.mpr c5;subst c5;have H1 : (some ([] : List Int)) = some r:=by rw [if_neg (show ¬ (false = true) by decide)] at H; exact H
  clear H;have H:=H1;clear H1;obtain rfl:=Option.some.inj H
  go_enter Try.func38,Try.ntmps38
  go_wp2_with (first | ((with_reducible refine gate_dst (N:=3) rfl ?_); refine box_event ?hg (N:=3) ?hd (cs:=#[.int .i64 a0_0,.slice A0_1 l0_1.length c0_1]) (t:=34) ?hr ?_; (case hd => rfl); (case hg => rfl); (case hr => first | (go_simp; done) | (go_simp; rfl)); intro p4 hg w48 hbox hb; have n0_:=zx (below_step HB.out hb); have n1_:=zx (hbox); have n2_:=zx ((by rw [hg]; exact (below_size HB.out) : w.heap.size ≤ p4)); have n3_:=zx ((by rw [hg]; exact (below_size HB.out) : w.heap.size ≤ p4)); clear HB; have HB:=n0_; have p1:=n1_; have GW826:=n2_; have p9:=n3_; clear n0_ n1_ n2_ n3_; clear hb hbox hg; have hcz49_0 : w48.cell? ⟨p4,0,none⟩ = some (.int .i64 a0_0):=(blk_cell p1.out 0).trans rfl; have hcz49_1 : w48.cell? ⟨p4,1,none⟩ = some (.slice A0_1 l0_1.length c0_1):=(blk_cell p1.out 1).trans rfl; have hfz49_0:=blk_frozen p1.out 0; have hfz49_1:=blk_frozen p1.out 1) | ((with_reducible refine gate_callee (f:=89) rfl ?_); refine goesL_ (some 15) rfl rfl Try.func89 (by kernel_rfl) rfl #[.agg #[.int .i64 a0_0,.slice A0_1 l0_1.length c0_1],.int .i64 a1,.int .i64 a2] rfl (by (try simp only [List.map_toArray,List.map_cons,List.map_nil]); first | done | rfl | (simp only [List.length_drop,List.length_take]; rfl)) ?_; (with_reducible refine (impl_apart.calls a0_0 _ _ l0_1 a1 a2 false _ ?side1 ?side2 A4.out).mono ?_); (case side1 => repeat (first | exact (Kd.C_below q3.out HB.out) | (with_reducible refine Kd.C_alloc ?_ _) | (with_reducible refine Kd.C_drewN ?_ _) | (with_reducible refine Kd.C_drew ?_))); (case side2 => exact q4.out); rintro e w50 ⟨rfl,hb⟩; refine ⟨_,rfl,?_⟩; have n0_:=zx (blk_below (g:=p4) (o:=.cells #[.int .i64 a0_0,.slice A0_1 l0_1.length c0_1] 34 (0,0)) p1.out hb); have n1_:=zx (below_step HB.out hb); clear p1; clear HB; have p1:=n0_; have HB:=n1_; clear n0_ n1_; (try clear hb); (try clear hb2); (try clear hk); (try clear hi)))
  go_ret;exact ⟨_,by first | rfl | (simp [errW_none,errW_some] <;> rfl) | (simp [*,errW_none,errW_some] <;> rfl),by first | exact Kd.R_nil _ _ _ _ _ | exact Kd.N_nil _ _ _ _ _ | exact Kd.V_nil _ _ _ _ _ | exact Kd.Q_nil _ _ _ _ _ | exact Kd.S_nil _ _ _ _ _,by repeat (first | (with_reducible first | exact HB.out | apply below_alloc | apply pw_below_drewN | apply below_drew1 | refine below_set ?_ p9.out) | exact HB.out)⟩
 subst c5;have H1 : (if 0 ≤ (l0_1.length : Int) then (if ((l0_1.length : Int) : Int).toNat ≤ 35184372088832 then (impl_FlowOf.l0 k a1 a2 (List.replicate ((l0_1.length : Int) : Int).toNat 0) a0_0 l0_1) else (none)) else (none)) = some r:=by rw [if_pos rfl] at H; exact H
 clear H;have H:=H1;clear H1
 by_cases c6 : 0 ≤ (l0_1.length : Int)
 case neg =>
  rw [if_neg c6] at H;exact absurd H (by simp)
 rw [if_pos c6] at H;have c6b0:=eq_true c6;have c6b1 : decide (0 ≤ (l0_1.length : Int)) = true:=decide_eq_true c6;clear c6
 by_cases c7 : ((l0_1.length : Int) : Int).toNat ≤ 35184372088832
 case neg =>
  rw [if_neg c7] at H;exact absurd H (by simp)
 rw [if_pos c7] at H;have c7b0:=eq_true c7;have c7b1 : decide (((l0_1.length : Int) : Int).toNat ≤ 35184372088832) = true:=decide_eq_true c7;clear c7;obtain ⟨y828,hy828⟩ : ∃ y_ : List Int,y_ = (List.replicate ((l0_1.length : Int) : Int).toNat 0):=⟨_,rfl⟩
 replace H : (impl_FlowOf.l0 k a1 a2 y828 a0_0 l0_1) = some r:=by first | (rw [hy828]; with_reducible exact H) | (have H2_:=(Option.bind_some _ _).symm.trans H; rw [hy828]; with_reducible exact H2_) | (have H2_:=(Option.bind_some _ _).symm.trans H; with_reducible exact H2_) | with_reducible exact H | (rw [hy828]; exact H) | exact H
 have Ny828:=zx hy828;clear hy828;have H':=zx H;clear H
 go_enter Try.func38,Try.ntmps38
 go_wp2_with (first | ((with_reducible refine gate_dst (N:=3) rfl ?_); refine box_event ?hg (N:=3) ?hd (cs:=#[.int .i64 a0_0,.slice A0_1 l0_1.length c0_1]) (t:=34) ?hr ?_; (case hd => rfl); (case hg => rfl); (case hr => first | (go_simp; done) | (go_simp; rfl)); intro p4 hg w8 hbox hb; have n0_:=zx (below_step HB.out hb); have n1_:=zx (hbox); have n2_:=zx ((by rw [hg]; exact (below_size HB.out) : w.heap.size ≤ p4)); have n3_:=zx ((by rw [hg]; exact (below_size HB.out) : w.heap.size ≤ p4)); clear HB; have HB:=n0_; have p1:=n1_; have GW826:=n2_; have p9:=n3_; clear n0_ n1_ n2_ n3_; clear hb hbox hg; have q9 : w8.cell? ⟨p4,0,none⟩ = some (.int .i64 a0_0):=(blk_cell p1.out 0).trans rfl; have r0 : w8.cell? ⟨p4,1,none⟩ = some (.slice A0_1 l0_1.length c0_1):=(blk_cell p1.out 1).trans rfl; have r1:=blk_frozen p1.out 0; have r2:=blk_frozen p1.out 1) | ((with_reducible refine gate_callee (f:=89) rfl ?_); refine goesL_ (some 15) rfl rfl Try.func89 (by kernel_rfl) rfl #[.agg #[.int .i64 a0_0,.slice A0_1 l0_1.length c0_1],.int .i64 a1,.int .i64 a2] rfl (by (try simp only [List.map_toArray,List.map_cons,List.map_nil]); first | done | rfl | (simp only [List.length_drop,List.length_take]; rfl)) ?_; (with_reducible refine (impl_apart.calls a0_0 _ _ l0_1 a1 a2 true _ ?side1 ?side2 A4.out).mono ?_); (case side1 => repeat (first | exact (Kd.C_below q3.out HB.out) | (with_reducible refine Kd.C_alloc ?_ _) | (with_reducible refine Kd.C_drewN ?_ _) | (with_reducible refine Kd.C_drew ?_))); (case side2 => exact q4.out); rintro e w10 ⟨rfl,hb⟩; refine ⟨_,rfl,?_⟩; have n0_:=zx (blk_below (g:=p4) (o:=.cells #[.int .i64 a0_0,.slice A0_1 l0_1.length c0_1] 34 (0,0)) p1.out hb); have n1_:=zx (below_step HB.out hb); clear p1; clear HB; have p1:=n0_; have HB:=n1_; clear n0_ n1_; (try clear hb); (try clear hb2); (try clear hk); (try clear hi); have q5 : w10.cell? ⟨p4,0,none⟩ = some (.int .i64 a0_0):=(blk_cell p1.out 0).trans rfl; have q6 : w10.cell? ⟨p4,1,none⟩ = some (.slice A0_1 l0_1.length c0_1):=(blk_cell p1.out 1).trans rfl; have q7:=blk_frozen p1.out 0; have q8:=blk_frozen p1.out 1) | ((with_reducible refine gate_dst (N:=20) rfl ?_); refine Kd.R_make (Kd.int .i64) _ 3 rfl (N:=20) rfl 23 _ _ rfl (l0_1.length : Int) (by first | rfl | (go_simp; done) | (go_simp; rfl)) (by first | rfl | (go_simp; done) | (go_simp; rfl)) Try.underlying23 (.int .i64 0) 8 info3 rfl (by decide) (by omega) 0 (ok:=fun _ => True) (okp:=fun _ => True) rfl (fun _ hk => hk) trivial (of_decide_eq_true (by first | (with_reducible assumption) | assumption)) (Nat.le_trans (Nat.mul_le_mul_right _ (of_decide_eq_true (by first | (with_reducible assumption) | assumption) : (l0_1.length : Int).toNat ≤ 35184372088832)) (by omega)) (Below.refl _ _) (Nat.le_refl _) ?_; intro v829 w12 ho13 hb hg_ hnew_; clear hg_ hnew_; (first | rw [← Ny828.out] at ho13 | (simp only [Int.reduceToNat] at ho13; rw [← Ny828.out] at ho13)); have n0_:=zx (Kd.R_lower ho13 (below_size HB.out)); have n1_:=zx (blk_below (g:=p4) (o:=.cells #[.int .i64 a0_0,.slice A0_1 l0_1.length c0_1] 34 (0,0)) p1.out hb); have n2_:=zx (below_step HB.out hb); clear p1; clear HB; have HO830:=n0_; have p1:=n1_; have HB:=n2_; clear n0_ n1_ n2_; clear hb ho13))
 go_loopg [] k (fun kq w' => ∃ (x7_1 : List Int),Aside0 (impl_FlowOf.l0 kq a1 a2 x7_1 a0_0 l0_1 = some r) ∧ Aside0 (kq ≤ k) ∧ Aside0 (Kd.R (Kd.int .i64) 3 w' w.heap.size (fun _ => True) v829 x7_1) ∧ Aside0 (w'.heap[p4]? = some (.cells #[.int .i64 a0_0,(.slice A0_1 l0_1.length c0_1)] 34 (0,0))) ∧ Aside0 (Below w.heap.size w w'))
 case atStart => exact ⟨(y828),H',⟨Nat.le_refl _⟩,⟨by (with_reducible repeat (first | apply Kd.R_alloc | apply Kd.R_drewN | apply Kd.R_drew)); exact HO830.out⟩,⟨by (with_reducible repeat (first | refine blk_drewN ?_ _ | refine blk_drew ?_ | refine blk_alloc ?_ _)); exact p1.out⟩,⟨by repeat (first | (with_reducible first | exact HB.out | apply below_alloc | apply pw_below_drewN | apply below_drew1 | refine below_set ?_ p9.out) | exact HB.out)⟩⟩
 case round =>
  clear H'
  try clear p2
  try clear c3
  try clear c5
  try clear c6
  try clear c6b0
  try clear c6b1
  try clear c7
  try clear c7b0
  try clear c7b1
  try clear c8
  try clear q5
  try clear q6
  try clear q9
  try clear r0
  try clear q7
  try clear q8
  try clear r1
  try clear r2
  obtain ⟨x7_1,HA,HK1,HO_7,p1,HB⟩:=hrel;cases gk with
  | zero => exact absurd HA.out (by simp [impl_FlowOf.l0])
  | succ k1 =>
   have H:=HA.out;clear HA;simp only [impl_FlowOf.l0] at H;replace H:=Option.bind_eq_some_iff.mp H;obtain ⟨⟨t831,t834⟩,A140,H⟩:=H;replace H : (if t834 = true then (impl_FlowOf.l1 k1 a1 a2 x7_1 t831 (t831.length : Int) 0 a0_0 l0_1) else (some x7_1)) = some r:=H;have A14:=zx A140;clear A140
   by_cases c15 : t834 = true
   case neg =>
    replace c15:=Bool.eq_false_iff.mpr c15;subst c15;have H1 : (some x7_1) = some r:=by rw [if_neg (show ¬ (false = true) by decide)] at H; exact H
    clear H;have H:=H1;clear H1;obtain rfl:=Option.some.inj H;have hcz45_0 : wr.cell? ⟨p4,0,none⟩ = some (.int .i64 a0_0):=(blk_cell p1.out 0).trans rfl;have hcz45_1 : wr.cell? ⟨p4,1,none⟩ = some (.slice A0_1 l0_1.length c0_1):=(blk_cell p1.out 1).trans rfl;have hfz45_0:=blk_frozen p1.out 0;have hfz45_1:=blk_frozen p1.out 1;obtain ⟨Ao46,co46,eo46⟩:=Kd.R_slice HO_7.out;subst eo46
    go_wp2_with (first | ((with_reducible refine gate_callee (f:=94) rfl ?_); refine goesL_ (some 26) rfl rfl Try.func94 (by kernel_rfl) rfl #[.agg #[.int .i64 a0_0,.slice A0_1 l0_1.length c0_1],.slice Ao46 x7_1.length co46,.int .i64 a1,.int .i64 a2] rfl (by (try simp only [List.map_toArray,List.map_cons,List.map_nil]); first | done | rfl | (simp only [List.length_drop,List.length_take]; rfl)) ?_; (with_reducible refine (impl_Net_augment.calls k1 a0_0 _ _ l0_1 _ _ x7_1 a1 a2 t831 false _ ?side1 ?side2 ?side3 ?side4 A14.out).mono ?_); (case side1 => repeat (first | exact (Kd.C_below q3.out HB.out) | (with_reducible refine Kd.C_alloc ?_ _) | (with_reducible refine Kd.C_drewN ?_ _) | (with_reducible refine Kd.C_drew ?_))); (case side2 => exact q4.out); (case side3 => repeat (first | exact (Kd.R_reads' HO_7.out).2.2 | (with_reducible refine Kd.C_alloc ?_ _) | (with_reducible refine Kd.C_drewN ?_ _) | (with_reducible refine Kd.C_drew ?_))); (case side4 => exact (Kd.R_reads' HO_7.out).2.1); rintro e w47 ⟨v832,rfl,ho0,hb⟩; refine ⟨_,rfl,?_⟩; have n0_:=zx (Kd.R_below HO_7.out hb); have n1_:=zx (Kd.R_lower ho0 (below_size HB.out)); have n2_:=zx (blk_below (g:=p4) (o:=.cells #[.int .i64 a0_0,.slice A0_1 l0_1.length c0_1] 34 (0,0)) p1.out hb); have n3_:=zx (below_step HB.out hb); clear HO_7; clear p1; clear HB; have HO_7:=n0_; have HO833:=n1_; have p1:=n2_; have HB:=n3_; clear n0_ n1_ n2_ n3_; (try clear hb); (try clear hb2); (try clear hk); (try clear hi); (try clear ho0)))
    go_ret;exact ⟨_,by first | rfl | (simp [errW_none,errW_some] <;> rfl) | (simp [*,errW_none,errW_some] <;> rfl),by (with_reducible repeat (first | apply Kd.R_alloc | apply Kd.R_drewN | apply Kd.R_drew)); exact HO_7.out,by repeat (first | (with_reducible first | exact HB.out | apply below_alloc | apply pw_below_drewN | apply below_drew1 | refine below_set ?_ p9.out) | exact HB.out)⟩
   subst c15;have H1 : (impl_FlowOf.l1 k1 a1 a2 x7_1 t831 (t831.length : Int) 0 a0_0 l0_1) = some r:=by rw [if_pos rfl] at H; exact H
   clear H;have H:=H1;clear H1;have H':=zx H;clear H;have r4 : wr.cell? ⟨p4,0,none⟩ = some (.int .i64 a0_0):=(blk_cell p1.out 0).trans rfl;have r5 : wr.cell? ⟨p4,1,none⟩ = some (.slice A0_1 l0_1.length c0_1):=(blk_cell p1.out 1).trans rfl;have r6:=blk_frozen p1.out 0;have r7:=blk_frozen p1.out 1;obtain ⟨Ao17,co17,eo17⟩:=Kd.R_slice HO_7.out;subst eo17
   go_wp2_with (first | ((with_reducible refine gate_callee (f:=94) rfl ?_); refine goesL_ (some 26) rfl rfl Try.func94 (by kernel_rfl) rfl #[.agg #[.int .i64 a0_0,.slice A0_1 l0_1.length c0_1],.slice Ao17 x7_1.length co17,.int .i64 a1,.int .i64 a2] rfl (by (try simp only [List.map_toArray,List.map_cons,List.map_nil]); first | done | rfl | (simp only [List.length_drop,List.length_take]; rfl)) ?_; (with_reducible refine (impl_Net_augment.calls k1 a0_0 _ _ l0_1 _ _ x7_1 a1 a2 t831 true _ ?side1 ?side2 ?side3 ?side4 A14.out).mono ?_); (case side1 => repeat (first | exact (Kd.C_below q3.out HB.out) | (with_reducible refine Kd.C_alloc ?_ _) | (with_reducible refine Kd.C_drewN ?_ _) | (with_reducible refine Kd.C_drew ?_))); (case side2 => exact q4.out); (case side3 => repeat (first | exact (Kd.R_reads' HO_7.out).2.2 | (with_reducible refine Kd.C_alloc ?_ _) | (with_reducible refine Kd.C_drewN ?_ _) | (with_reducible refine Kd.C_drew ?_))); (case side4 => exact (Kd.R_reads' HO_7.out).2.1); rintro e w18 ⟨v832,rfl,ho0,hb⟩; refine ⟨_,rfl,?_⟩; have n0_:=zx (Kd.R_below HO_7.out hb); have n1_:=zx (Kd.R_lower ho0 (below_size HB.out)); have n2_:=zx (blk_below (g:=p4) (o:=.cells #[.int .i64 a0_0,.slice A0_1 l0_1.length c0_1] 34 (0,0)) p1.out hb); have n3_:=zx (below_step HB.out hb); clear HO_7; clear p1; clear HB; have HO_7:=n0_; have HO833:=n1_; have p1:=n2_; have HB:=n3_; clear n0_ n1_ n2_ n3_; (try clear hb); (try clear hb2); (try clear hk); (try clear hi); (try clear ho0); obtain ⟨Ao19,co19,eo19⟩:=Kd.R_slice HO833.out; subst eo19))
   go_loopg [34] k1 (fun kq v34 w' => ∃ (x7_2 : List Int) (p0 : Int),v34 = .int .i64 p0 ∧ Aside0 (impl_FlowOf.l1 kq a1 a2 x7_2 t831 (t831.length : Int) p0 a0_0 l0_1 = some r) ∧ Aside0 (kq ≤ k1) ∧ Aside0 (Kd.R (Kd.int .i64) 3 w' w.heap.size (fun _ => True) (.slice Ao17 x7_1.length co17) x7_2) ∧ Aside0 (Kd.R k103 103 w' w.heap.size (fun _ => True) (.slice Ao19 t831.length co19) t831) ∧ Aside0 (w'.heap[p4]? = some (.cells #[.int .i64 a0_0,(.slice A0_1 l0_1.length c0_1)] 34 (0,0))) ∧ Aside0 (Below w.heap.size w w'))
   case atStart => exact ⟨(x7_1),(0),(by first | rfl | (simp; done) | (simp [*]; done)),H',⟨Nat.le_refl _⟩,⟨by (with_reducible repeat (first | apply Kd.R_alloc | apply Kd.R_drewN | apply Kd.R_drew)); exact HO_7.out⟩,⟨by (with_reducible repeat (first | apply Kd.R_alloc | apply Kd.R_drewN | apply Kd.R_drew)); exact HO833.out⟩,⟨by (with_reducible repeat (first | refine blk_drewN ?_ _ | refine blk_drew ?_ | refine blk_alloc ?_ _)); exact p1.out⟩,⟨by repeat (first | (with_reducible first | exact HB.out | apply below_alloc | apply pw_below_drewN | apply below_drew1 | refine below_set ?_ p9.out) | exact HB.out)⟩⟩
   case round =>
    clear H'
    try clear c1
    try clear p2
    try clear c3
    try clear c5
    try clear c6
    try clear c6b0
    try clear c6b1
    try clear c7
    try clear c7b0
    try clear c7b1
    try clear c8
    try clear c9
    try clear c15
    try clear q5
    try clear q6
    try clear r4
    try clear r5
    try clear q9
    try clear r0
    try clear q7
    try clear q8
    try clear r6
    try clear r7
    try clear r1
    try clear r2
    try clear p2
    obtain ⟨x7_2,p0,rfl,HA,HK2,HO_7,HO_8,p1,HB⟩:=hrel;have hl7_2:=(Kd.R_reads' HO_7.out).1;rw [hl7_2] at HO_7
    (try simp only [hl7_2])
    (try simp only [hl7_2] at p1)
    (try simp only [hl7_2] at HO_8)
    cases gk with
    | zero => exact absurd HA.out (by simp [impl_FlowOf.l1])
    | succ k2 =>
     have H:=HA.out;clear HA;simp only [impl_FlowOf.l1] at H
     by_cases c20 : p0 < (t831.length : Int)
     case neg =>
      rw [if_neg c20] at H;have c20b0 : decide (p0 < (t831.length : Int)) = false:=decide_eq_false c20;clear c20;have H':=zx H;clear H
      go_wp2
      (try simp only [← hl7_2])
      go_roundg k2
      case measure => have:=HK1.out; have:=HK2.out; omega
      case rel => exact ⟨(x7_2),H',⟨by have:=HK1.out; have:=HK2.out; omega⟩,⟨by (try simp only [hl7_2]); (with_reducible repeat (first | apply Kd.R_alloc | apply Kd.R_drewN | apply Kd.R_drew)); exact HO_7.out⟩,⟨by (try simp only [hl7_2]); (with_reducible repeat (first | refine blk_drewN ?_ _ | refine blk_drew ?_ | refine blk_alloc ?_ _)); exact p1.out⟩,⟨by repeat (first | (with_reducible first | exact HB.out | apply below_alloc | apply pw_below_drewN | apply below_drew1 | refine below_set ?_ p9.out) | exact HB.out)⟩⟩
     rw [if_pos c20] at H;have c20b0 : decide (p0 < (t831.length : Int)) = true:=decide_eq_true c20;clear c20
     by_cases c21 : 0 ≤ p0
     case neg =>
      rw [if_neg c21] at H;exact absurd H (by simp)
     rw [if_pos c21] at H;have c21b0 : decide (0 ≤ p0) = true:=decide_eq_true c21;clear c21
     by_cases c22 : p0 < (t831.length : Int)
     case neg =>
      rw [if_neg c22] at H;exact absurd H (by simp)
     rw [if_pos c22] at H;have c22b0 : decide (p0 < (t831.length : Int)) = true:=decide_eq_true c22;clear c22;obtain ⟨bq23,hbq23⟩ : ∃ b_ : Bool,b_ = ((rd_T103 t831 p0).f1):=⟨_,rfl⟩
     replace H : (if bq23 = true then (if 0 ≤ ((rd_T103 t831 p0).f0) then (if ((rd_T103 t831 p0).f0) < (x7_2.length : Int) then (impl_FlowOf.l1 k2 a1 a2 (x7_2.set (((rd_T103 t831 p0).f0) : Int).toNat (wrap64 ((rd x7_2 ((rd_T103 t831 p0).f0)) + 1))) t831 (t831.length : Int) (wrap64 (p0 + 1)) a0_0 l0_1) else (none)) else (none)) else (if 0 ≤ ((rd_T103 t831 p0).f0) then (if ((rd_T103 t831 p0).f0) < (x7_2.length : Int) then (impl_FlowOf.l1 k2 a1 a2 (x7_2.set (((rd_T103 t831 p0).f0) : Int).toNat (wrap64 ((rd x7_2 ((rd_T103 t831 p0).f0)) - 1))) t831 (t831.length : Int) (wrap64 (p0 + 1)) a0_0 l0_1) else (none)) else (none))) = some r:=by rw [← hbq23] at H; exact H
     have Nbq23:=zx hbq23;clear hbq23
     by_cases c24 : bq23 = true
     case pos =>
      subst c24;have H1 : (if 0 ≤ ((rd_T103 t831 p0).f0) then (if ((rd_T103 t831 p0).f0) < (x7_2.length : Int) then (impl_FlowOf.l1 k2 a1 a2 (x7_2.set (((rd_T103 t831 p0).f0) : Int).toNat (wrap64 ((rd x7_2 ((rd_T103 t831 p0).f0)) + 1))) t831 (t831.length : Int) (wrap64 (p0 + 1)) a0_0 l0_1) else (none)) else (none)) = some r:=by rw [if_pos rfl] at H; exact H
      clear H;have H:=H1;clear H1
      by_cases c25 : 0 ≤ ((rd_T103 t831 p0).f0)
      case neg =>
       rw [if_neg c25] at H;exact absurd H (by simp)
      rw [if_pos c25] at H;have c25b0 : decide (0 ≤ ((rd_T103 t831 p0).f0)) = true:=decide_eq_true c25;clear c25
      by_cases c26 : ((rd_T103 t831 p0).f0) < (x7_2.length : Int)
      case neg =>
       rw [if_neg c26] at H;exact absurd H (by simp)
      rw [if_pos c26] at H;have c26b0 : decide (((rd_T103 t831 p0).f0) < (x7_2.length : Int)) = true:=decide_eq_true c26;clear c26;obtain ⟨y838,hy838⟩ : ∃ y_ : List Int,y_ = (x7_2.set (((rd_T103 t831 p0).f0) : Int).toNat (wrap64 ((rd x7_2 ((rd_T103 t831 p0).f0)) + 1))):=⟨_,rfl⟩
      replace H : (impl_FlowOf.l1 k2 a1 a2 y838 t831 (t831.length : Int) (wrap64 (p0 + 1)) a0_0 l0_1) = some r:=by first | (rw [hy838]; with_reducible exact H) | (have H2_:=(Option.bind_some _ _).symm.trans H; rw [hy838]; with_reducible exact H2_) | (have H2_:=(Option.bind_some _ _).symm.trans H; with_reducible exact H2_) | with_reducible exact H | (rw [hy838]; exact H) | exact H
      have Ny838:=zx hy838;clear hy838;have H':=zx H;clear H;have p835 : 0 ≤ (p0 : Int):=of_decide_eq_true (by first | (with_reducible assumption) | assumption);have q835 : p0 < (t831.length : Int):=of_decide_eq_true (by first | (with_reducible assumption) | assumption);obtain ⟨r3,e835,r8,q1⟩:=at_T103 (Kd.R_reads' HO_8.out).2.2 p0 p835 q835
      (try rw [← Nbq23.out] at q1)
      cases e835;replace p835:=eq_true p835;replace q835:=eq_true q835
      go_wp2_with (first | ((with_reducible refine gate_dst (N:=11) rfl ?_); refine box_event ?hg (N:=11) ?hd (cs:=#[.int .i64 0,.bool false]) (t:=103) ?hr ?_; (case hd => rfl); (case hg => rfl); (case hr => first | (go_simp; done) | (go_simp; rfl)); intro p3 hg w28 hbox hb; have n0_:=zx (Kd.R_below HO_7.out hb); have n1_:=zx (Kd.R_below (Kd.R_elderB HO_8.out p3 (Nat.le_of_eq hg.symm)) hb); have n2_:=zx (blk_below (g:=p4) (o:=.cells #[.int .i64 a0_0,.slice A0_1 l0_1.length c0_1] 34 (0,0)) p1.out hb); have n3_:=zx (below_step HB.out hb); have n4_:=zx (hbox); have n5_:=zx ((by rw [hg]; exact (below_size HB.out) : w.heap.size ≤ p3)); have n6_:=zx ((by rw [hg]; exact (below_size HB.out) : w.heap.size ≤ p3)); have n7_:=zx ((by rw [hg]; exact Nat.ne_of_lt (blk_lt (g:=p4) (o:=.cells #[.int .i64 a0_0,.slice A0_1 l0_1.length c0_1] 34 (0,0)) p1.out) : p4 ≠ p3)); have n8_:=zx ((by rw [hg]; exact Nat.ne_of_gt (blk_lt (g:=p4) (o:=.cells #[.int .i64 a0_0,.slice A0_1 l0_1.length c0_1] 34 (0,0)) p1.out) : p3 ≠ p4)); clear HO_7; clear HO_8; clear p1; clear HB; have HO_7:=n0_; have HO_8:=n1_; have p1:=n2_; have HB:=n3_; have p5:=n4_; have GW836:=n5_; have q2:=n6_; have p6:=n7_; have q0:=n8_; clear n0_ n1_ n2_ n3_ n4_ n5_ n6_ n7_ n8_; clear hb hbox hg; have hnb29:=q0.out; have hnc29:=p6.out; have hcz30_0 : w28.cell? ⟨p3,0,none⟩ = some (.int .i64 0):=(blk_cell p5.out 0).trans rfl; have hcz30_1 : w28.cell? ⟨p3,1,none⟩ = some (.bool false):=(blk_cell p5.out 1).trans rfl; have hfz30_0:=blk_frozen p5.out 0; have hfz30_1:=blk_frozen p5.out 1) | ((with_reducible refine gate_store (t:=103) (p:=11) rfl ?_); refine store_event (t:=103) (p:=11) (v:=?vo_w31) (w1:=((w28.setCell ⟨p3,0,none⟩ (.int .i64 ((rd_T103 t831 p0).f0))).setCell ⟨p3,1,none⟩ (.bool true))) ?hg ?ho ?hn ?hr ?_; (case ho => rfl); (case hg => rfl); (case hn => rfl); (case hr => first | (go_simp; done) | (go_simp; rfl)); intro w31 hw; have n0_ : Aside0 (Kd.R (Kd.int .i64) 3 w31 w.heap.size (fun _ => True) (.slice Ao17 x7_2.length co17) x7_2):=⟨(by rw [hw]; exact (Kd.R_mono (Kd.R_far (p:=⟨p3,1,none⟩) (Kd.R_far (p:=⟨p3,0,none⟩) (Kd.R_types HO_7.out p5.out (by decide)) (fun _ hk => hk.2) (.int .i64 ((rd_T103 t831 p0).f0))) (fun _ hk => hk.2) (.bool true)) (fun _ hk => trivial)))⟩; have n1_ : Aside0 (Kd.R k103 103 w31 w.heap.size (fun k_ => k_ ≠ p3) (.slice (some r3) t831.length co19) t831):=⟨(by rw [hw]; exact (Kd.R_mono (Kd.R_far (p:=⟨p3,1,none⟩) (Kd.R_far (p:=⟨p3,0,none⟩) (Kd.R_mono HO_8.out (fun k_ hk => (⟨hk,hk.2⟩ : _ ∧ k_ ≠ p3))) (fun _ hk => hk.2) (.int .i64 ((rd_T103 t831 p0).f0))) (fun _ hk => hk.2) (.bool true)) (fun _ hk => hk.1.2)))⟩; have n2_ : Aside0 (w31.heap[p4]? = some (.cells #[.int .i64 a0_0,.slice A0_1 l0_1.length c0_1] 34 (0,0))):=⟨(by rw [hw]; exact (by (with_reducible repeat (first | refine blk_drewN ?_ _ | refine blk_drew ?_ | refine blk_alloc ?_ _)); refine blk_far ?_ p6.out _; (with_reducible repeat (first | refine blk_drewN ?_ _ | refine blk_drew ?_ | refine blk_alloc ?_ _)); refine blk_far ?_ p6.out _; (with_reducible repeat (first | refine blk_drewN ?_ _ | refine blk_drew ?_ | refine blk_alloc ?_ _)); exact p1.out))⟩; have n3_ : Aside0 (w31.heap[p3]? = some (.cells #[.int .i64 ((rd_T103 t831 p0).f0),.bool true] 103 (0,0))):=⟨(by rw [hw]; exact (by (with_reducible repeat (first | refine blk_drewN ?_ _ | refine blk_drew ?_ | refine blk_alloc ?_ _)); refine blk_put (cs:=#[.int .i64 ((rd_T103 t831 p0).f0),.bool false]) ?_ 1 _ rfl; (with_reducible repeat (first | refine blk_drewN ?_ _ | refine blk_drew ?_ | refine blk_alloc ?_ _)); refine blk_put (cs:=#[.int .i64 0,.bool false]) ?_ 0 _ rfl; (with_reducible repeat (first | refine blk_drewN ?_ _ | refine blk_drew ?_ | refine blk_alloc ?_ _)); exact p5.out))⟩; have n4_ : Aside0 (Below w.heap.size w w31):=⟨(by rw [hw]; exact (by repeat (first | (with_reducible first | exact HB.out | apply below_alloc | apply pw_below_drewN | apply below_drew1 | refine below_set ?_ p9.out | refine below_set ?_ q2.out) | exact HB.out)))⟩; clear hw; clear HO_7; clear HO_8; clear p1; clear p5; clear HB; have HO_7:=n0_; have HO_8:=n1_; have p1:=n2_; have p5:=n3_; have HB:=n4_; clear n0_ n1_ n2_ n3_ n4_; have hcz32_0 : w31.cell? ⟨p3,0,none⟩ = some (.int .i64 ((rd_T103 t831 p0).f0)):=(blk_cell p5.out 0).trans rfl; have hcz32_1 : w31.cell? ⟨p3,1,none⟩ = some (.bool true):=(blk_cell p5.out 1).trans rfl; have hfz32_0:=blk_frozen p5.out 0; have hfz32_1:=blk_frozen p5.out 1; have p837 : 0 ≤ (((rd_T103 t831 p0).f0) : Int):=of_decide_eq_true (by first | (with_reducible assumption) | assumption); have q837 : ((rd_T103 t831 p0).f0) < (x7_2.length : Int):=of_decide_eq_true (by first | (with_reducible assumption) | assumption); obtain ⟨ad837,e837,r9⟩:=Kd.at_int (Kd.R_reads' HO_7.out).2.2 ((rd_T103 t831 p0).f0) p837 q837; cases e837; replace p837:=eq_true p837; replace q837:=eq_true q837; have p27 : 0 ≤ (((rd_T103 t831 p0).f0) : Int):=of_decide_eq_true (by first | (with_reducible assumption) | assumption); have q27 : (((rd_T103 t831 p0).f0) : Int) < ((x7_2.length : Int) : Int):=of_decide_eq_true (by first | (with_reducible assumption) | assumption); obtain ⟨go27,co27,eo27,gb27,gl27,cl27,HG27⟩:=Kd.R_form HO_7.out (by omega); (first | cases eo27 | (injection eo27 with ea_ en_ ec_; (first | subst ea_ | (injection ea_ with ea_; subst ea_)); subst ec_; clear en_)); have GB27:=zx gb27; have GG27:=zx HG27; clear gb27 gl27 HG27; (first | simp only [add_plain] at r9 | skip); obtain ⟨hx27_0,hf27_0⟩:=Kd.R_celln 0 HO_7.out (((rd_T103 t831 p0).f0) : Int) p27 q27; replace p27:=eq_true p27; replace q27:=eq_true q27; obtain ⟨hy33_,hz33_⟩:=Kd.R_celln 0 HO_7.out (((rd_T103 t831 p0).f0) : Int) (of_decide_eq_true (by first | (with_reducible assumption) | assumption)) (of_decide_eq_true (by first | (with_reducible assumption) | assumption)); have HP33:=Kd.R_putg HO_7.out (((rd_T103 t831 p0).f0) : Int) (wrap64 ((rd x7_2 ((rd_T103 t831 p0).f0)) + 1))) | ((with_reducible refine gate_store (t:=3) (p:=46) rfl ?_); refine store_event (t:=3) (p:=46) (v:=?vo_w34) (w1:=(w31.setCell ⟨go27,(((rd_T103 t831 p0).f0) : Int).toNat,none⟩ (.int .i64 (wrap64 ((rd x7_2 ((rd_T103 t831 p0).f0)) + 1))))) ?hg ?ho ?hn ?hr ?_; (case ho => rfl); (case hg => rfl); (case hn => rfl); (case hr => first | (go_simp; done) | (go_simp; rfl)); intro w34 hw; have hg : w31.grownBy w34 (some go27):=(by rw [hw]; exact HP33.2); have hp_ : Kd.R (Kd.int .i64) 3 w34 w.heap.size (fun _ => True) (.slice (some ⟨go27,0,none⟩) x7_2.length co17) y838:=(by rw [hw,Ny838.out]; exact HP33.1); clear HP33; have n0_:=zx (hp_); have n1_:=zx (Kd.R_over' (v:=(.slice (some ⟨go27,0,none⟩) x7_2.length co17)) HO_8.out (Kd.R_typed HO_7.out) (by decide) hg); have n2_:=zx (blk_grown (g:=p4) (o:=.cells #[.int .i64 a0_0,.slice A0_1 l0_1.length c0_1] 34 (0,0)) p1.out hg (Kd.R_ne HO_7.out p1.out (by decide))); have n3_:=zx (blk_grown (g:=p3) (o:=.cells #[.int .i64 ((rd_T103 t831 p0).f0),.bool true] 103 (0,0)) p5.out hg (Kd.R_ne HO_7.out p5.out (by decide))); have n4_:=zx ((by rw [hw]; exact below_set (HB.out) GB27.out : Below w.heap.size w w34)); clear HO_7; clear HO_8; clear p1; clear p5; clear HB; have HO_7:=n0_; have HO_8:=n1_; have p1:=n2_; have p5:=n3_; have HB:=n4_; clear n0_ n1_ n2_ n3_ n4_; clear hg hw hp_))
      (try simp only [← hl7_2])
      go_roundg k2
      case measure => have:=HK1.out; have:=HK2.out; omega
      case rel => exact ⟨(y838),(wrap64 (p0 + 1)),(by first | rfl | (simp; done) | (simp [*]; done)),H',⟨by have:=HK1.out; have:=HK2.out; omega⟩,⟨by (try simp only [hl7_2]); (with_reducible repeat (first | apply Kd.R_alloc | apply Kd.R_drewN | apply Kd.R_drew)); exact HO_7.out⟩,⟨by (try simp only [hl7_2]); (with_reducible repeat (first | apply Kd.R_alloc | apply Kd.R_drewN | apply Kd.R_drew)); exact Kd.R_mono HO_8.out (fun _ hk => trivial)⟩,⟨by (try simp only [hl7_2]); (with_reducible repeat (first | refine blk_drewN ?_ _ | refine blk_drew ?_ | refine blk_alloc ?_ _)); exact p1.out⟩,⟨by repeat (first | (with_reducible first | exact HB.out | apply below_alloc | apply pw_below_drewN | apply below_drew1 | refine below_set ?_ p9.out | refine below_set ?_ q2.out) | exact HB.out)⟩⟩
     replace c24:=Bool.eq_false_iff.mpr c24;subst c24;have H1 : (if 0 ≤ ((rd_T103 t831 p0).f0) then (if ((rd_T103 t831 p0).f0) < (x7_2.length : Int) then (impl_FlowOf.l1 k2 a1 a2 (x7_2.set (((rd_T103 t831 p0).f0) : Int).toNat (wrap64 ((rd x7_2 ((rd_T103 t831 p0).f0)) - 1))) t831 (t831.length : Int) (wrap64 (p0 + 1)) a0_0 l0_1) else (none)) else (none)) = some r:=by rw [if_neg (show ¬ (false = true) by decide)] at H; exact H
     clear H;have H:=H1;clear H1
     by_cases c35 : 0 ≤ ((rd_T103 t831 p0).f0)
     case neg =>
      rw [if_neg c35] at H;exact absurd H (by simp)
     rw [if_pos c35] at H;have c35b0 : decide (0 ≤ ((rd_T103 t831 p0).f0)) = true:=decide_eq_true c35;clear c35
     by_cases c36 : ((rd_T103 t831 p0).f0) < (x7_2.length : Int)
     case neg =>
      rw [if_neg c36] at H;exact absurd H (by simp)
     rw [if_pos c36] at H;have c36b0 : decide (((rd_T103 t831 p0).f0) < (x7_2.length : Int)) = true:=decide_eq_true c36;clear c36;obtain ⟨y840,hy840⟩ : ∃ y_ : List Int,y_ = (x7_2.set (((rd_T103 t831 p0).f0) : Int).toNat (wrap64 ((rd x7_2 ((rd_T103 t831 p0).f0)) - 1))):=⟨_,rfl⟩
     replace H : (impl_FlowOf.l1 k2 a1 a2 y840 t831 (t831.length : Int) (wrap64 (p0 + 1)) a0_0 l0_1) = some r:=by first | (rw [hy840]; with_reducible exact H) | (have H2_:=(Option.bind_some _ _).symm.trans H; rw [hy840]; with_reducible exact H2_) | (have H2_:=(Option.bind_some _ _).symm.trans H; with_reducible exact H2_) | with_reducible exact H | (rw [hy840]; exact H) | exact H
     have Ny840:=zx hy840;clear hy840;have H':=zx H;clear H;have p835 : 0 ≤ (p0 : Int):=of_decide_eq_true (by first | (with_reducible assumption) | assumption);have q835 : p0 < (t831.length : Int):=of_decide_eq_true (by first | (with_reducible assumption) | assumption);obtain ⟨r3,e835,r8,q1⟩:=at_T103 (Kd.R_reads' HO_8.out).2.2 p0 p835 q835
     (try rw [← Nbq23.out] at q1)
     cases e835;replace p835:=eq_true p835;replace q835:=eq_true q835
     go_wp2_with (first | ((with_reducible refine gate_dst (N:=11) rfl ?_); refine box_event ?hg (N:=11) ?hd (cs:=#[.int .i64 0,.bool false]) (t:=103) ?hr ?_; (case hd => rfl); (case hg => rfl); (case hr => first | (go_simp; done) | (go_simp; rfl)); intro p3 hg w38 hbox hb; have n0_:=zx (Kd.R_below HO_7.out hb); have n1_:=zx (Kd.R_below (Kd.R_elderB HO_8.out p3 (Nat.le_of_eq hg.symm)) hb); have n2_:=zx (blk_below (g:=p4) (o:=.cells #[.int .i64 a0_0,.slice A0_1 l0_1.length c0_1] 34 (0,0)) p1.out hb); have n3_:=zx (below_step HB.out hb); have n4_:=zx (hbox); have n5_:=zx ((by rw [hg]; exact (below_size HB.out) : w.heap.size ≤ p3)); have n6_:=zx ((by rw [hg]; exact (below_size HB.out) : w.heap.size ≤ p3)); have n7_:=zx ((by rw [hg]; exact Nat.ne_of_lt (blk_lt (g:=p4) (o:=.cells #[.int .i64 a0_0,.slice A0_1 l0_1.length c0_1] 34 (0,0)) p1.out) : p4 ≠ p3)); have n8_:=zx ((by rw [hg]; exact Nat.ne_of_gt (blk_lt (g:=p4) (o:=.cells #[.int .i64 a0_0,.slice A0_1 l0_1.length c0_1] 34 (0,0)) p1.out) : p3 ≠ p4)); clear HO_7; clear HO_8; clear p1; clear HB; have HO_7:=n0_; have HO_8:=n1_; have p1:=n2_; have HB:=n3_; have p5:=n4_; have GW836:=n5_; have q2:=n6_; have p6:=n7_; have q0:=n8_; clear n0_ n1_ n2_ n3_ n4_ n5_ n6_ n7_ n8_; clear hb hbox hg; have hnb39:=q0.out; have hnc39:=p6.out; have hcz40_0 : w38.cell? ⟨p3,0,none⟩ = some (.int .i64 0):=(blk_cell p5.out 0).trans rfl; have hcz40_1 : w38.cell? ⟨p3,1,none⟩ = some (.bool false):=(blk_cell p5.out 1).trans rfl; have hfz40_0:=blk_frozen p5.out 0; have hfz40_1:=blk_frozen p5.out 1) | ((with_reducible refine gate_store (t:=103) (p:=11) rfl ?_); refine store_event (t:=103) (p:=11) (v:=?vo_w41) (w1:=((w38.setCell ⟨p3,0,none⟩ (.int .i64 ((rd_T103 t831 p0).f0))).setCell ⟨p3,1,none⟩ (.bool false))) ?hg ?ho ?hn ?hr ?_; (case ho => rfl); (case hg => rfl); (case hn => rfl); (case hr => first | (go_simp; done) | (go_simp; rfl)); intro w41 hw; have n0_ : Aside0 (Kd.R (Kd.int .i64) 3 w41 w.heap.size (fun _ => True) (.slice Ao17 x7_2.length co17) x7_2):=⟨(by rw [hw]; exact (Kd.R_mono (Kd.R_far (p:=⟨p3,1,none⟩) (Kd.R_far (p:=⟨p3,0,none⟩) (Kd.R_types HO_7.out p5.out (by decide)) (fun _ hk => hk.2) (.int .i64 ((rd_T103 t831 p0).f0))) (fun _ hk => hk.2) (.bool false)) (fun _ hk => trivial)))⟩; have n1_ : Aside0 (Kd.R k103 103 w41 w.heap.size (fun k_ => k_ ≠ p3) (.slice (some r3) t831.length co19) t831):=⟨(by rw [hw]; exact (Kd.R_mono (Kd.R_far (p:=⟨p3,1,none⟩) (Kd.R_far (p:=⟨p3,0,none⟩) (Kd.R_mono HO_8.out (fun k_ hk => (⟨hk,hk.2⟩ : _ ∧ k_ ≠ p3))) (fun _ hk => hk.2) (.int .i64 ((rd_T103 t831 p0).f0))) (fun _ hk => hk.2) (.bool false)) (fun _ hk => hk.1.2)))⟩; have n2_ : Aside0 (w41.heap[p4]? = some (.cells #[.int .i64 a0_0,.slice A0_1 l0_1.length c0_1] 34 (0,0))):=⟨(by rw [hw]; exact (by (with_reducible repeat (first | refine blk_drewN ?_ _ | refine blk_drew ?_ | refine blk_alloc ?_ _)); refine blk_far ?_ p6.out _; (with_reducible repeat (first | refine blk_drewN ?_ _ | refine blk_drew ?_ | refine blk_alloc ?_ _)); refine blk_far ?_ p6.out _; (with_reducible repeat (first | refine blk_drewN ?_ _ | refine blk_drew ?_ | refine blk_alloc ?_ _)); exact p1.out))⟩; have n3_ : Aside0 (w41.heap[p3]? = some (.cells #[.int .i64 ((rd_T103 t831 p0).f0),.bool false] 103 (0,0))):=⟨(by rw [hw]; exact (by (with_reducible repeat (first | refine blk_drewN ?_ _ | refine blk_drew ?_ | refine blk_alloc ?_ _)); refine blk_put (cs:=#[.int .i64 ((rd_T103 t831 p0).f0),.bool false]) ?_ 1 _ rfl; (with_reducible repeat (first | refine blk_drewN ?_ _ | refine blk_drew ?_ | refine blk_alloc ?_ _)); refine blk_put (cs:=#[.int .i64 0,.bool false]) ?_ 0 _ rfl; (with_reducible repeat (first | refine blk_drewN ?_ _ | refine blk_drew ?_ | refine blk_alloc ?_ _)); exact p5.out))⟩; have n4_ : Aside0 (Below w.heap.size w w41):=⟨(by rw [hw]; exact (by repeat (first | (with_reducible first | exact HB.out | apply below_alloc | apply pw_below_drewN | apply below_drew1 | refine below_set ?_ p9.out | refine below_set ?_ q2.out) | exact HB.out)))⟩; clear hw; clear HO_7; clear HO_8; clear p1; clear p5; clear HB; have HO_7:=n0_; have HO_8:=n1_; have p1:=n2_; have p5:=n3_; have HB:=n4_; clear n0_ n1_ n2_ n3_ n4_; have hcz42_0 : w41.cell? ⟨p3,0,none⟩ = some (.int .i64 ((rd_T103 t831 p0).f0)):=(blk_cell p5.out 0).trans rfl; have hcz42_1 : w41.cell? ⟨p3,1,none⟩ = some (.bool false):=(blk_cell p5.out 1).trans rfl; have hfz42_0:=blk_frozen p5.out 0; have hfz42_1:=blk_frozen p5.out 1; have p839 : 0 ≤ (((rd_T103 t831 p0).f0) : Int):=of_decide_eq_true (by first | (with_reducible assumption) | assumption); have q839 : ((rd_T103 t831 p0).f0) < (x7_2.length : Int):=of_decide_eq_true (by first | (with_reducible assumption) | assumption); obtain ⟨ad839,e839,s0⟩:=Kd.at_int (Kd.R_reads' HO_7.out).2.2 ((rd_T103 t831 p0).f0) p839 q839; cases e839; replace p839:=eq_true p839; replace q839:=eq_true q839; have p37 : 0 ≤ (((rd_T103 t831 p0).f0) : Int):=of_decide_eq_true (by first | (with_reducible assumption) | assumption); have q37 : (((rd_T103 t831 p0).f0) : Int) < ((x7_2.length : Int) : Int):=of_decide_eq_true (by first | (with_reducible assumption) | assumption); obtain ⟨go37,co37,eo37,gb37,gl37,cl37,HG37⟩:=Kd.R_form HO_7.out (by omega); (first | cases eo37 | (injection eo37 with ea_ en_ ec_; (first | subst ea_ | (injection ea_ with ea_; subst ea_)); subst ec_; clear en_)); have GB37:=zx gb37; have GG37:=zx HG37; clear gb37 gl37 HG37; (first | simp only [add_plain] at s0 | skip); obtain ⟨hx37_0,hf37_0⟩:=Kd.R_celln 0 HO_7.out (((rd_T103 t831 p0).f0) : Int) p37 q37; replace p37:=eq_true p37; replace q37:=eq_true q37; obtain ⟨hy43_,hz43_⟩:=Kd.R_celln 0 HO_7.out (((rd_T103 t831 p0).f0) : Int) (of_decide_eq_true (by first | (with_reducible assumption) | assumption)) (of_decide_eq_true (by first | (with_reducible assumption) | assumption)); have HP43:=Kd.R_putg HO_7.out (((rd_T103 t831 p0).f0) : Int) (wrap64 ((rd x7_2 ((rd_T103 t831 p0).f0)) - 1))) | ((with_reducible refine gate_store (t:=3) (p:=53) rfl ?_); refine store_event (t:=3) (p:=53) (v:=?vo_w44) (w1:=(w41.setCell ⟨go37,(((rd_T103 t831 p0).f0) : Int).toNat,none⟩ (.int .i64 (wrap64 ((rd x7_2 ((rd_T103 t831 p0).f0)) - 1))))) ?hg ?ho ?hn ?hr ?_; (case ho => rfl); (case hg => rfl); (case hn => rfl); (case hr => first | (go_simp; done) | (go_simp; rfl)); intro w44 hw; have hg : w41.grownBy w44 (some go37):=(by rw [hw]; exact HP43.2); have hp_ : Kd.R (Kd.int .i64) 3 w44 w.heap.size (fun _ => True) (.slice (some ⟨go37,0,none⟩) x7_2.length co17) y840:=(by rw [hw,Ny840.out]; exact HP43.1); clear HP43; have n0_:=zx (hp_); have n1_:=zx (Kd.R_over' (v:=(.slice (some ⟨go37,0,none⟩) x7_2.length co17)) HO_8.out (Kd.R_typed HO_7.out) (by decide) hg); have n2_:=zx (blk_grown (g:=p4) (o:=.cells #[.int .i64 a0_0,.slice A0_1 l0_1.length c0_1] 34 (0,0)) p1.out hg (Kd.R_ne HO_7.out p1.out (by decide))); have n3_:=zx (blk_grown (g:=p3) (o:=.cells #[.int .i64 ((rd_T103 t831 p0).f0),.bool false] 103 (0,0)) p5.out hg (Kd.R_ne HO_7.out p5.out (by decide))); have n4_:=zx ((by rw [hw]; exact below_set (HB.out) GB37.out : Below w.heap.size w w44)); clear HO_7; clear HO_8; clear p1; clear p5; clear HB; have HO_7:=n0_; have HO_8:=n1_; have p1:=n2_; have p5:=n3_; have HB:=n4_; clear n0_ n1_ n2_ n3_ n4_; clear hg hw hp_))
     (try simp only [← hl7_2])
     go_roundg k2
     case measure => have:=HK1.out; have:=HK2.out; omega
     case rel => exact ⟨(y840),(wrap64 (p0 + 1)),(by first | rfl | (simp; done) | (simp [*]; done)),H',⟨by have:=HK1.out; have:=HK2.out; omega⟩,⟨by (try simp only [hl7_2]); (with_reducible repeat (first | apply Kd.R_alloc | apply Kd.R_drewN | apply Kd.R_drew)); exact HO_7.out⟩,⟨by (try simp only [hl7_2]); (with_reducible repeat (first | apply Kd.R_alloc | apply Kd.R_drewN | apply Kd.R_drew)); exact Kd.R_mono HO_8.out (fun _ hk => trivial)⟩,⟨by (try simp only [hl7_2]); (with_reducible repeat (first | refine blk_drewN ?_ _ | refine blk_drew ?_ | refine blk_alloc ?_ _)); exact p1.out⟩,⟨by repeat (first | (with_reducible first | exact HB.out | apply below_alloc | apply pw_below_drewN | apply below_drew1 | refine below_set ?_ p9.out | refine below_set ?_ q2.out) | exact HB.out)⟩⟩
def laws_wkInts.l0 : Nat → List Int → List Int → Int → Option (Bool)
 | 0,_,_,_ => none
 | k + 1,x0,x1,x5 => if x5 < (x0.length : Int) then (if 0 ≤ x5 then (if x5 < (x1.length : Int) then (if (rd x0 x5) = (rd x1 x5) then (laws_wkInts.l0 k x0 x1 (wrap64 (x5 + 1))) else (some false)) else (none)) else (none)) else (some true)
def laws_wkInts.f (k : Nat) (l0 : List Int) (l1 : List Int) : Option (Bool):=if (l0.length : Int) = (l1.length : Int) then (laws_wkInts.l0 k l0 l1 0) else (some false)
set_option maxHeartbeats 8000000 in
set_option maxRecDepth 100000 in
theorem laws_wkInts.calls (k : Nat) (A0 : Option Addr) (c0 : Nat) (l0 : List Int) (A1 : Option Addr) (c1 : Nat) (l1 : List Int) (r : Bool) (w : World) (hr0 : Kd.C (Kd.int .i64) w A0 l0.length l0) (hc0 : l0.length ≤ c0) (hr1 : Kd.C (Kd.int .i64) w A1 l1.length l1) (hc1 : l1.length ≤ c1) (h : laws_wkInts.f k l0 l1 = some r) :
  Calls Try.prog 39 #[.slice A0 l0.length c0,.slice A1 l1.length c1] w fun e w' => e = .returned (.bool r) ∧ Drawn0 w w':=by
 have HR0:=zx hr0;have HC0:=zx hc0;clear hr0 hc0;have HR1:=zx hr1;have HC1:=zx hc1;clear hr1 hc1;have H : (if (l0.length : Int) = (l1.length : Int) then (laws_wkInts.l0 k l0 l1 0) else (some false)) = some r:=h;clear h
 by_cases c3 : (l0.length : Int) = (l1.length : Int)
 case neg =>
  rw [if_neg c3] at H;have c3b0 : ((l0.length : Int) == (l1.length : Int)) = false:=beq_eq_false_iff_ne.mpr c3;have c3b1 : ((l0.length : Int) != (l1.length : Int)) = true:=bne_iff_ne.mpr c3;have c3b2 : (l0.length == l1.length) = false:=by first | simpa using c3 | (simp at c3 ⊢; omega)
  obtain rfl:=Option.some.inj H
  go_enter Try.func39,Try.ntmps39
  go_wp2
  repeat (go_quiet (fail); try go_wp2)
  go_ret;exact ⟨by first | rfl | (simp; done) | (simp [*]; done),by repeat (first | exact Drawn0.refl _ | apply Drawn0.step)⟩
 rw [if_pos c3] at H;have c3b0 : ((l0.length : Int) == (l1.length : Int)) = true:=beq_iff_eq.mpr c3;have c3b1 : ((l0.length : Int) != (l1.length : Int)) = false:=bne_eq_false_iff_eq.mpr c3;have c3b2 : (l0.length == l1.length) = true:=by first | simpa using c3 | (simp at c3 ⊢; omega)
 clear c3;have H':=zx H;clear H
 go_enter Try.func39,Try.ntmps39
 go_wp2
 repeat (go_quiet (fail); try go_wp2)
 go_loopg [5] k (fun kq v5 w' => ∃ (x5_1 : Int),v5 = .int .i64 x5_1 ∧ Aside0 (laws_wkInts.l0 kq l0 l1 x5_1 = some r) ∧ Aside0 (kq ≤ k) ∧ Drawn0 w w')
 case atStart => exact ⟨(0),(by first | rfl | (simp; done) | (simp [*]; done)),H',⟨Nat.le_refl _⟩,by repeat (first | exact Drawn0.refl _ | apply Drawn0.step)⟩
 case round =>
  clear H'
  try clear c1
  try clear p2
  try clear c3
  try clear c3b0
  try clear c3b1
  try clear c3b2
  obtain ⟨x5_1,rfl,HA,HK1,⟨m1,rfl⟩⟩:=hrel;cases gk with
  | zero => exact absurd HA.out (by simp [laws_wkInts.l0])
  | succ k1 =>
   have H:=HA.out;clear HA;simp only [laws_wkInts.l0] at H
   by_cases c4 : x5_1 < (l0.length : Int)
   case neg =>
    rw [if_neg c4] at H;have c4b0 : decide (x5_1 < (l0.length : Int)) = false:=decide_eq_false c4;clear c4;obtain rfl:=Option.some.inj H
    go_wp2
    repeat (go_quiet (fail); try go_wp2)
    go_ret;exact ⟨by first | rfl | (simp; done) | (simp [*]; done),by repeat (first | exact Drawn0.refl _ | apply Drawn0.step)⟩
   rw [if_pos c4] at H;have c4b0 : decide (x5_1 < (l0.length : Int)) = true:=decide_eq_true c4;clear c4
   by_cases c5 : 0 ≤ x5_1
   case neg =>
    rw [if_neg c5] at H;exact absurd H (by simp)
   rw [if_pos c5] at H;have c5b0 : decide (0 ≤ x5_1) = true:=decide_eq_true c5;clear c5
   by_cases c6 : x5_1 < (l1.length : Int)
   case neg =>
    rw [if_neg c6] at H;exact absurd H (by simp)
   rw [if_pos c6] at H;have c6b0 : decide (x5_1 < (l1.length : Int)) = true:=decide_eq_true c6;clear c6
   by_cases c7 : (rd l0 x5_1) = (rd l1 x5_1)
   case neg =>
    rw [if_neg c7] at H;have c7b0 : ((rd l0 x5_1) == (rd l1 x5_1)) = false:=beq_eq_false_iff_ne.mpr c7;have c7b1 : ((rd l0 x5_1) != (rd l1 x5_1)) = true:=bne_iff_ne.mpr c7;obtain rfl:=Option.some.inj H;have p841 : 0 ≤ (x5_1 : Int):=of_decide_eq_true (by first | (with_reducible assumption) | assumption);have q841 : x5_1 < (l0.length : Int):=of_decide_eq_true (by first | (with_reducible assumption) | assumption);obtain ⟨ad841,e841,hx841_0⟩:=Kd.at_int HR0.out x5_1 p841 q841;cases e841;replace p841:=eq_true p841;replace q841:=eq_true q841;have p842 : 0 ≤ (x5_1 : Int):=of_decide_eq_true (by first | (with_reducible assumption) | assumption);have q842 : x5_1 < (l1.length : Int):=of_decide_eq_true (by first | (with_reducible assumption) | assumption);obtain ⟨ad842,e842,hx842_0⟩:=Kd.at_int HR1.out x5_1 p842 q842;cases e842;replace p842:=eq_true p842;replace q842:=eq_true q842
    go_wp2
    repeat (go_quiet (fail); try go_wp2)
    go_ret;exact ⟨by first | rfl | (simp; done) | (simp [*]; done),by repeat (first | exact Drawn0.refl _ | apply Drawn0.step)⟩
   rw [if_pos c7] at H;have c7b0 : ((rd l0 x5_1) == (rd l1 x5_1)) = true:=beq_iff_eq.mpr c7;have c7b1 : ((rd l0 x5_1) != (rd l1 x5_1)) = false:=bne_eq_false_iff_eq.mpr c7;clear c7;have H':=zx H;clear H;have p841 : 0 ≤ (x5_1 : Int):=of_decide_eq_true (by first | (with_reducible assumption) | assumption);have q841 : x5_1 < (l0.length : Int):=of_decide_eq_true (by first | (with_reducible assumption) | assumption);obtain ⟨ad841,e841,hx841_0⟩:=Kd.at_int HR0.out x5_1 p841 q841;cases e841;replace p841:=eq_true p841;replace q841:=eq_true q841;have p842 : 0 ≤ (x5_1 : Int):=of_decide_eq_true (by first | (with_reducible assumption) | assumption);have q842 : x5_1 < (l1.length : Int):=of_decide_eq_true (by first | (with_reducible assumption) | assumption);obtain ⟨ad842,e842,hx842_0⟩:=Kd.at_int HR1.out x5_1 p842 q842;cases e842;replace p842:=eq_true p842;replace q842:=eq_true q842
   go_wp2
   repeat (go_quiet (fail); try go_wp2)
   go_roundg k1
   case measure => have:=HK1.out; omega
   case rel => exact ⟨(wrap64 (x5_1 + 1)),(by first | rfl | (simp; done) | (simp [*]; done)),H',⟨by have:=HK1.out; omega⟩,by repeat (first | exact Drawn0.refl _ | apply Drawn0.step)⟩
mutual
def laws_FnFlowOf.j0 : Nat → Int → Int → List Int → Bool → Int → List (S58) → Option (Bool)
 | 0,_,_,_,_,_,_ => none
 | k + 1,x4,x5,x6,x34,x850000,x850001 => if x34 = true then ((spec_FlowOf.f k x850000 x850001 x4 x5).bind fun t857 => ((laws_wkInts.f k x6 t857).bind fun t860 => (some t860))) else (laws_FnFlowOf.l0 k x4 x5 x6 0 x850000 x850001)
def laws_FnFlowOf.l0 : Nat → Int → Int → List Int → Int → Int → List (S58) → Option (Bool)
 | 0,_,_,_,_,_,_ => none
 | k + 1,x4,x5,x6,x7,x850000,x850001 => if x7 < (x6.length : Int) then (if 0 ≤ x7 then (if (rd x6 x7) < 0 then (some false) else (if x7 < (x850001.length : Int) then (if (rd x6 x7) > ((rd_T58 x850001 x7).f4) then (some false) else (laws_FnFlowOf.l0 k x4 x5 x6 (wrap64 (x7 + 1)) x850000 x850001)) else (none))) else (none)) else ((impl_FlowValue.f k x850000 x850001 x6 x4 x5).bind fun bt864 => (if bt864.2 = true then ((impl_FlowMost.f k x850000 x850001 x4 x5).bind fun t866 => (some (bt864.1 == t866))) else (some false)))
end
def laws_FnFlowOf.f (k : Nat) (l0 : List Int) : Option (Bool):=if (l0.length : Int) > 1048576 then (some true) else ((spec_DrawFlowOf.f k l0).bind fun bt843 => ((impl_FlowOf.f k bt843.1 bt843.2.1 bt843.2.2.1 bt843.2.2.2).bind fun t850 => ((spec_FlowOf.f k bt843.1 bt843.2.1 bt843.2.2.1 bt843.2.2.2).bind fun t853 => ((laws_wkInts.f k t850 t853).bind fun t856 => (if t856 = true then (laws_FnFlowOf.j0 k bt843.2.2.1 bt843.2.2.2 t850 ((t850.length : Int) == 0) bt843.1 bt843.2.1) else (laws_FnFlowOf.j0 k bt843.2.2.1 bt843.2.2.2 t850 true bt843.1 bt843.2.1))))))
set_option maxHeartbeats 8000000 in
set_option maxRecDepth 100000 in
theorem laws_FnFlowOf.calls (k : Nat) (A0 : Option Addr) (c0 : Nat) (l0 : List Int) (r : Bool) (w : World) (hr0 : Kd.C (Kd.int .u8) w A0 l0.length l0) (hc0 : l0.length ≤ c0) (h : laws_FnFlowOf.f k l0 = some r) (hrT_ : r = true:=by rfl) :
  Calls Try.prog 7 #[.slice A0 l0.length c0] w fun e w' => e = .returned (.bool r) ∧ Below w.heap.size w w':=by
 have HRT_:=zx hrT_;clear hrT_;have hu34:=Try.underlying34;have HR0:=zx hr0;have HC0:=zx hc0;clear hr0 hc0;have HB:=zx (Below.refl w.heap.size w);have H : (if (l0.length : Int) > 1048576 then (some true) else ((spec_DrawFlowOf.f k l0).bind fun bt843 => ((impl_FlowOf.f k bt843.1 bt843.2.1 bt843.2.2.1 bt843.2.2.2).bind fun t850 => ((spec_FlowOf.f k bt843.1 bt843.2.1 bt843.2.2.1 bt843.2.2.2).bind fun t853 => ((laws_wkInts.f k t850 t853).bind fun t856 => (if t856 = true then (laws_FnFlowOf.j0 k bt843.2.2.1 bt843.2.2.2 t850 ((t850.length : Int) == 0) bt843.1 bt843.2.1) else (laws_FnFlowOf.j0 k bt843.2.2.1 bt843.2.2.2 t850 true bt843.1 bt843.2.1))))))) = some r:=h;clear h
 by_cases c2 : (l0.length : Int) > 1048576
 case pos =>
  rw [if_pos c2] at H;have c2b0 : decide (1048576 < (l0.length : Int)) = true:=decide_eq_true c2;have c2b1 : decide (1048576 < l0.length) = true:=decide_eq_true (by omega);clear c2;obtain rfl:=Option.some.inj H
  go_enter Try.func7,Try.ntmps7
  go_wp2
  repeat (go_quiet (fail); try go_wp2)
  go_ret;exact ⟨by first | rfl | (simp [errW_none,errW_some] <;> rfl) | (simp [*,errW_none,errW_some] <;> rfl),by repeat (first | (with_reducible first | exact HB.out | apply below_alloc | apply pw_below_drewN | apply below_drew1) | exact HB.out)⟩
 rw [if_neg c2] at H;have c2b0 : decide (1048576 < (l0.length : Int)) = false:=decide_eq_false c2;have c2b1 : decide (1048576 < l0.length) = false:=decide_eq_false (by omega);clear c2;replace H:=Option.bind_eq_some_iff.mp H;obtain ⟨⟨t843,t844,t847,t848⟩,A30,H⟩:=H;replace H : ((impl_FlowOf.f k t843 t844 t847 t848).bind fun t850 => ((spec_FlowOf.f k t843 t844 t847 t848).bind fun t853 => ((laws_wkInts.f k t850 t853).bind fun t856 => (if t856 = true then (laws_FnFlowOf.j0 k t847 t848 t850 ((t850.length : Int) == 0) t843 t844) else (laws_FnFlowOf.j0 k t847 t848 t850 true t843 t844))))) = some r:=H;have A3:=zx A30;clear A30;replace H:=Option.bind_eq_some_iff.mp H;obtain ⟨t850,A40,H⟩:=H;replace H : ((spec_FlowOf.f k t843 t844 t847 t848).bind fun t853 => ((laws_wkInts.f k t850 t853).bind fun t856 => (if t856 = true then (laws_FnFlowOf.j0 k t847 t848 t850 ((t850.length : Int) == 0) t843 t844) else (laws_FnFlowOf.j0 k t847 t848 t850 true t843 t844)))) = some r:=H;have A4:=zx A40;clear A40;have HC5:=zx H;clear H
 go_enter Try.func7,Try.ntmps7
 go_upto_region 5 with (first | (go_at_call 37; (with_reducible refine (spec_DrawFlowOf.calls k _ _ l0 t843 t844 t847 t848 _ ?side1 ?side2 A3.out).mono ?_); (case side1 => repeat (first | exact HR0.out | (with_reducible refine Kd.C_alloc ?_ _) | (with_reducible refine Kd.C_drewN ?_ _) | (with_reducible refine Kd.C_drew ?_))); (case side2 => exact HC0.out); rintro e w6 ⟨v845,rfl,ho0,hb⟩; have n0_:=zx (Kd.R_lower ho0 (below_size (by repeat (first | (with_reducible first | exact HB.out | apply below_alloc | apply pw_below_drewN | apply below_drew1) | exact HB.out)))); have n1_:=zx (below_step (by repeat (first | (with_reducible first | exact HB.out | apply below_alloc | apply pw_below_drewN | apply below_drew1) | exact HB.out)) hb); clear HB; have HO846:=n0_; have HB:=n1_; clear n0_ n1_; (try clear hb); (try clear hb2); (try clear hk); (try clear hi); (try clear ho0)) | ((with_reducible refine gate_dst (N:=3) rfl ?_); (try (refine gate_guard (by rfl) ?_; dsimp only)); refine box_event ?hg (N:=3) ?hd (cs:=#[.int .i64 0,.slice none 0 0]) (t:=34) ?hr ?_; (case hd => rfl); (case hg => rfl); (case hr => first | (go_simp; done) | (go_simp; rfl)); intro gb849 hg w7 hbox hb; have n0_:=zx (Kd.R_below (by (with_reducible repeat (first | apply Kd.R_alloc | apply Kd.R_drewN | apply Kd.R_drew)); exact HO846.out) hb); have n1_:=zx (below_step (by repeat (first | (with_reducible first | exact HB.out | apply below_alloc | apply pw_below_drewN | apply below_drew1) | exact HB.out)) hb); have n2_:=zx (hbox); have n3_:=zx ((by rw [hg]; exact (below_size (by repeat (first | (with_reducible first | exact HB.out | apply below_alloc | apply pw_below_drewN | apply below_drew1) | exact HB.out))) : w.heap.size ≤ gb849)); have n4_:=zx ((by rw [hg]; exact (below_size (by repeat (first | (with_reducible first | exact HB.out | apply below_alloc | apply pw_below_drewN | apply below_drew1) | exact HB.out))) : w.heap.size ≤ gb849)); clear HO846; clear HB; have HO846:=n0_; have HB:=n1_; have BK849:=n2_; have GW849:=n3_; have GE849:=n4_; clear n0_ n1_ n2_ n3_ n4_; clear hb hbox hg; have hcz8_0 : w7.cell? ⟨gb849,0,none⟩ = some (.int .i64 0):=(blk_cell BK849.out 0).trans rfl; have hcz8_1 : w7.cell? ⟨gb849,1,none⟩ = some (.slice none 0 0):=(blk_cell BK849.out 1).trans rfl; have hfz8_0:=blk_frozen BK849.out 0; have hfz8_1:=blk_frozen BK849.out 1; obtain ⟨Ao9,co9,eo9⟩:=Kd.R_slice HO846.out; subst eo9) | (go_at_call 38; (with_reducible refine (impl_FlowOf.calls k t843 _ _ t844 t847 t848 t850 _ ?side1 ?side2 A4.out).mono ?_); (case side1 => refine (Kd.R_reads' (e:=58) (base:=w.heap.size) (ok:=fun k_ => True) (n:=t844.length) (c:=co9) ?_).2.2; exact (by (with_reducible repeat (first | apply Kd.R_alloc | apply Kd.R_drewN | apply Kd.R_drew)); exact (Kd.R_mono (Kd.R_far (p:=⟨gb849,1,none⟩) (Kd.R_far (p:=⟨gb849,0,none⟩) (Kd.R_types HO846.out BK849.out (by decide)) (fun _ hk => hk.2) (.int .i64 t843)) (fun _ hk => hk.2) (.slice Ao9 t844.length co9)) (fun _ h_ => h_.1)))); (case side2 => exact (Kd.R_reads' HO846.out).2.1); rintro e w10 ⟨v851,rfl,ho0,hb⟩; have n0_:=zx (Kd.R_below (by (with_reducible repeat (first | apply Kd.R_alloc | apply Kd.R_drewN | apply Kd.R_drew)); exact (Kd.R_mono (Kd.R_far (p:=⟨gb849,1,none⟩) (Kd.R_far (p:=⟨gb849,0,none⟩) (Kd.R_types HO846.out BK849.out (by decide)) (fun _ hk => hk.2) (.int .i64 t843)) (fun _ hk => hk.2) (.slice Ao9 t844.length co9)) (fun _ h_ => h_.1))) hb); have n1_:=zx (Kd.R_lower ho0 (below_size (by repeat (first | (with_reducible first | exact HB.out | apply below_alloc | apply pw_below_drewN | apply below_drew1 | refine below_set ?_ GE849.out) | exact HB.out)))); have n2_:=zx (blk_below (g:=gb849) (o:=.cells #[.int .i64 t843,.slice Ao9 t844.length co9] 34 (0,0)) (by (with_reducible repeat (first | refine blk_drewN ?_ _ | refine blk_drew ?_ | refine blk_alloc ?_ _)); refine blk_put (cs:=#[.int .i64 t843,.slice none 0 0]) ?_ 1 _ rfl; (with_reducible repeat (first | refine blk_drewN ?_ _ | refine blk_drew ?_ | refine blk_alloc ?_ _)); refine blk_put (cs:=#[.int .i64 0,.slice none 0 0]) ?_ 0 _ rfl; (with_reducible repeat (first | refine blk_drewN ?_ _ | refine blk_drew ?_ | refine blk_alloc ?_ _)); exact BK849.out) hb); have n3_:=zx (below_step (by repeat (first | (with_reducible first | exact HB.out | apply below_alloc | apply pw_below_drewN | apply below_drew1 | refine below_set ?_ GE849.out) | exact HB.out)) hb); clear HO846; clear BK849; clear HB; have HO846:=n0_; have HO852:=n1_; have BK849:=n2_; have HB:=n3_; clear n0_ n1_ n2_ n3_; (try clear hb); (try clear hb2); (try clear hk); (try clear hi); (try clear ho0)))
 repeat (go_quiet (first | (go_at_call 37; (with_reducible refine (spec_DrawFlowOf.calls k _ _ l0 t843 t844 t847 t848 _ ?side1 ?side2 A3.out).mono ?_); (case side1 => repeat (first | exact HR0.out | (with_reducible refine Kd.C_alloc ?_ _) | (with_reducible refine Kd.C_drewN ?_ _) | (with_reducible refine Kd.C_drew ?_))); (case side2 => exact HC0.out); rintro e w6 ⟨v845,rfl,ho0,hb⟩; have n0_:=zx (Kd.R_lower ho0 (below_size (by repeat (first | (with_reducible first | exact HB.out | apply below_alloc | apply pw_below_drewN | apply below_drew1) | exact HB.out)))); have n1_:=zx (below_step (by repeat (first | (with_reducible first | exact HB.out | apply below_alloc | apply pw_below_drewN | apply below_drew1) | exact HB.out)) hb); clear HB; have HO846:=n0_; have HB:=n1_; clear n0_ n1_; (try clear hb); (try clear hb2); (try clear hk); (try clear hi); (try clear ho0)) | ((with_reducible refine gate_dst (N:=3) rfl ?_); (try (refine gate_guard (by rfl) ?_; dsimp only)); refine box_event ?hg (N:=3) ?hd (cs:=#[.int .i64 0,.slice none 0 0]) (t:=34) ?hr ?_; (case hd => rfl); (case hg => rfl); (case hr => first | (go_simp; done) | (go_simp; rfl)); intro gb849 hg w7 hbox hb; have n0_:=zx (Kd.R_below (by (with_reducible repeat (first | apply Kd.R_alloc | apply Kd.R_drewN | apply Kd.R_drew)); exact HO846.out) hb); have n1_:=zx (below_step (by repeat (first | (with_reducible first | exact HB.out | apply below_alloc | apply pw_below_drewN | apply below_drew1) | exact HB.out)) hb); have n2_:=zx (hbox); have n3_:=zx ((by rw [hg]; exact (below_size (by repeat (first | (with_reducible first | exact HB.out | apply below_alloc | apply pw_below_drewN | apply below_drew1) | exact HB.out))) : w.heap.size ≤ gb849)); have n4_:=zx ((by rw [hg]; exact (below_size (by repeat (first | (with_reducible first | exact HB.out | apply below_alloc | apply pw_below_drewN | apply below_drew1) | exact HB.out))) : w.heap.size ≤ gb849)); clear HO846; clear HB; have HO846:=n0_; have HB:=n1_; have BK849:=n2_; have GW849:=n3_; have GE849:=n4_; clear n0_ n1_ n2_ n3_ n4_; clear hb hbox hg; have hcz8_0 : w7.cell? ⟨gb849,0,none⟩ = some (.int .i64 0):=(blk_cell BK849.out 0).trans rfl; have hcz8_1 : w7.cell? ⟨gb849,1,none⟩ = some (.slice none 0 0):=(blk_cell BK849.out 1).trans rfl; have hfz8_0:=blk_frozen BK849.out 0; have hfz8_1:=blk_frozen BK849.out 1; obtain ⟨Ao9,co9,eo9⟩:=Kd.R_slice HO846.out; subst eo9) | (go_at_call 38; (with_reducible refine (impl_FlowOf.calls k t843 _ _ t844 t847 t848 t850 _ ?side1 ?side2 A4.out).mono ?_); (case side1 => refine (Kd.R_reads' (e:=58) (base:=w.heap.size) (ok:=fun k_ => True) (n:=t844.length) (c:=co9) ?_).2.2; exact (by (with_reducible repeat (first | apply Kd.R_alloc | apply Kd.R_drewN | apply Kd.R_drew)); exact (Kd.R_mono (Kd.R_far (p:=⟨gb849,1,none⟩) (Kd.R_far (p:=⟨gb849,0,none⟩) (Kd.R_types HO846.out BK849.out (by decide)) (fun _ hk => hk.2) (.int .i64 t843)) (fun _ hk => hk.2) (.slice Ao9 t844.length co9)) (fun _ h_ => h_.1)))); (case side2 => exact (Kd.R_reads' HO846.out).2.1); rintro e w10 ⟨v851,rfl,ho0,hb⟩; have n0_:=zx (Kd.R_below (by (with_reducible repeat (first | apply Kd.R_alloc | apply Kd.R_drewN | apply Kd.R_drew)); exact (Kd.R_mono (Kd.R_far (p:=⟨gb849,1,none⟩) (Kd.R_far (p:=⟨gb849,0,none⟩) (Kd.R_types HO846.out BK849.out (by decide)) (fun _ hk => hk.2) (.int .i64 t843)) (fun _ hk => hk.2) (.slice Ao9 t844.length co9)) (fun _ h_ => h_.1))) hb); have n1_:=zx (Kd.R_lower ho0 (below_size (by repeat (first | (with_reducible first | exact HB.out | apply below_alloc | apply pw_below_drewN | apply below_drew1 | refine below_set ?_ GE849.out) | exact HB.out)))); have n2_:=zx (blk_below (g:=gb849) (o:=.cells #[.int .i64 t843,.slice Ao9 t844.length co9] 34 (0,0)) (by (with_reducible repeat (first | refine blk_drewN ?_ _ | refine blk_drew ?_ | refine blk_alloc ?_ _)); refine blk_put (cs:=#[.int .i64 t843,.slice none 0 0]) ?_ 1 _ rfl; (with_reducible repeat (first | refine blk_drewN ?_ _ | refine blk_drew ?_ | refine blk_alloc ?_ _)); refine blk_put (cs:=#[.int .i64 0,.slice none 0 0]) ?_ 0 _ rfl; (with_reducible repeat (first | refine blk_drewN ?_ _ | refine blk_drew ?_ | refine blk_alloc ?_ _)); exact BK849.out) hb); have n3_:=zx (below_step (by repeat (first | (with_reducible first | exact HB.out | apply below_alloc | apply pw_below_drewN | apply below_drew1 | refine below_set ?_ GE849.out) | exact HB.out)) hb); clear HO846; clear BK849; clear HB; have HO846:=n0_; have HO852:=n1_; have BK849:=n2_; have HB:=n3_; clear n0_ n1_ n2_ n3_; (try clear hb); (try clear hb2); (try clear hk); (try clear hi); (try clear ho0))); go_upto_region 5 with (first | (go_at_call 37; (with_reducible refine (spec_DrawFlowOf.calls k _ _ l0 t843 t844 t847 t848 _ ?side1 ?side2 A3.out).mono ?_); (case side1 => repeat (first | exact HR0.out | (with_reducible refine Kd.C_alloc ?_ _) | (with_reducible refine Kd.C_drewN ?_ _) | (with_reducible refine Kd.C_drew ?_))); (case side2 => exact HC0.out); rintro e w6 ⟨v845,rfl,ho0,hb⟩; have n0_:=zx (Kd.R_lower ho0 (below_size (by repeat (first | (with_reducible first | exact HB.out | apply below_alloc | apply pw_below_drewN | apply below_drew1) | exact HB.out)))); have n1_:=zx (below_step (by repeat (first | (with_reducible first | exact HB.out | apply below_alloc | apply pw_below_drewN | apply below_drew1) | exact HB.out)) hb); clear HB; have HO846:=n0_; have HB:=n1_; clear n0_ n1_; (try clear hb); (try clear hb2); (try clear hk); (try clear hi); (try clear ho0)) | ((with_reducible refine gate_dst (N:=3) rfl ?_); (try (refine gate_guard (by rfl) ?_; dsimp only)); refine box_event ?hg (N:=3) ?hd (cs:=#[.int .i64 0,.slice none 0 0]) (t:=34) ?hr ?_; (case hd => rfl); (case hg => rfl); (case hr => first | (go_simp; done) | (go_simp; rfl)); intro gb849 hg w7 hbox hb; have n0_:=zx (Kd.R_below (by (with_reducible repeat (first | apply Kd.R_alloc | apply Kd.R_drewN | apply Kd.R_drew)); exact HO846.out) hb); have n1_:=zx (below_step (by repeat (first | (with_reducible first | exact HB.out | apply below_alloc | apply pw_below_drewN | apply below_drew1) | exact HB.out)) hb); have n2_:=zx (hbox); have n3_:=zx ((by rw [hg]; exact (below_size (by repeat (first | (with_reducible first | exact HB.out | apply below_alloc | apply pw_below_drewN | apply below_drew1) | exact HB.out))) : w.heap.size ≤ gb849)); have n4_:=zx ((by rw [hg]; exact (below_size (by repeat (first | (with_reducible first | exact HB.out | apply below_alloc | apply pw_below_drewN | apply below_drew1) | exact HB.out))) : w.heap.size ≤ gb849)); clear HO846; clear HB; have HO846:=n0_; have HB:=n1_; have BK849:=n2_; have GW849:=n3_; have GE849:=n4_; clear n0_ n1_ n2_ n3_ n4_; clear hb hbox hg; have hcz8_0 : w7.cell? ⟨gb849,0,none⟩ = some (.int .i64 0):=(blk_cell BK849.out 0).trans rfl; have hcz8_1 : w7.cell? ⟨gb849,1,none⟩ = some (.slice none 0 0):=(blk_cell BK849.out 1).trans rfl; have hfz8_0:=blk_frozen BK849.out 0; have hfz8_1:=blk_frozen BK849.out 1; obtain ⟨Ao9,co9,eo9⟩:=Kd.R_slice HO846.out; subst eo9) | (go_at_call 38; (with_reducible refine (impl_FlowOf.calls k t843 _ _ t844 t847 t848 t850 _ ?side1 ?side2 A4.out).mono ?_); (case side1 => refine (Kd.R_reads' (e:=58) (base:=w.heap.size) (ok:=fun k_ => True) (n:=t844.length) (c:=co9) ?_).2.2; exact (by (with_reducible repeat (first | apply Kd.R_alloc | apply Kd.R_drewN | apply Kd.R_drew)); exact (Kd.R_mono (Kd.R_far (p:=⟨gb849,1,none⟩) (Kd.R_far (p:=⟨gb849,0,none⟩) (Kd.R_types HO846.out BK849.out (by decide)) (fun _ hk => hk.2) (.int .i64 t843)) (fun _ hk => hk.2) (.slice Ao9 t844.length co9)) (fun _ h_ => h_.1)))); (case side2 => exact (Kd.R_reads' HO846.out).2.1); rintro e w10 ⟨v851,rfl,ho0,hb⟩; have n0_:=zx (Kd.R_below (by (with_reducible repeat (first | apply Kd.R_alloc | apply Kd.R_drewN | apply Kd.R_drew)); exact (Kd.R_mono (Kd.R_far (p:=⟨gb849,1,none⟩) (Kd.R_far (p:=⟨gb849,0,none⟩) (Kd.R_types HO846.out BK849.out (by decide)) (fun _ hk => hk.2) (.int .i64 t843)) (fun _ hk => hk.2) (.slice Ao9 t844.length co9)) (fun _ h_ => h_.1))) hb); have n1_:=zx (Kd.R_lower ho0 (below_size (by repeat (first | (with_reducible first | exact HB.out | apply below_alloc | apply pw_below_drewN | apply below_drew1 | refine below_set ?_ GE849.out) | exact HB.out)))); have n2_:=zx (blk_below (g:=gb849) (o:=.cells #[.int .i64 t843,.slice Ao9 t844.length co9] 34 (0,0)) (by (with_reducible repeat (first | refine blk_drewN ?_ _ | refine blk_drew ?_ | refine blk_alloc ?_ _)); refine blk_put (cs:=#[.int .i64 t843,.slice none 0 0]) ?_ 1 _ rfl; (with_reducible repeat (first | refine blk_drewN ?_ _ | refine blk_drew ?_ | refine blk_alloc ?_ _)); refine blk_put (cs:=#[.int .i64 0,.slice none 0 0]) ?_ 0 _ rfl; (with_reducible repeat (first | refine blk_drewN ?_ _ | refine blk_drew ?_ | refine blk_alloc ?_ _)); exact BK849.out) hb); have n3_:=zx (below_step (by repeat (first | (with_reducible first | exact HB.out | apply below_alloc | apply pw_below_drewN | apply below_drew1 | refine below_set ?_ GE849.out) | exact HB.out)) hb); clear HO846; clear BK849; clear HB; have HO846:=n0_; have HO852:=n1_; have BK849:=n2_; have HB:=n3_; clear n0_ n1_ n2_ n3_; (try clear hb); (try clear hb2); (try clear hk); (try clear hi); (try clear ho0))))
 (try simp only [Act.put,U,V,Z])
 go_cut [34] (fun v34 wc => ∃ (kq : Nat) (x34_4 : Bool),v34 = .bool x34_4 ∧ Aside0 (laws_FnFlowOf.j0 kq t847 t848 t850 x34_4 t843 t844 = some r) ∧ Aside0 (kq ≤ k) ∧ Aside0 (Kd.R (Kd.int .i64) 3 wc w.heap.size (fun _ => True) v851 t850) ∧ Aside0 (Kd.R k58 58 wc w.heap.size (fun _ => True) (.slice Ao9 t844.length co9) t844) ∧ Aside0 (wc.heap[gb849]? = some (.cells #[.int .i64 t843,(.slice Ao9 t844.length co9)] 34 (0,0))) ∧ Aside0 (Below w.heap.size w wc))
 case first =>
  have H:=HC5.out;clear HC5;replace H:=Option.bind_eq_some_iff.mp H;obtain ⟨t853,A110,H⟩:=H;replace H : ((laws_wkInts.f k t850 t853).bind fun t856 => (if t856 = true then (laws_FnFlowOf.j0 k t847 t848 t850 ((t850.length : Int) == 0) t843 t844) else (laws_FnFlowOf.j0 k t847 t848 t850 true t843 t844))) = some r:=H;have A11:=zx A110;clear A110;replace H:=Option.bind_eq_some_iff.mp H;obtain ⟨t856,A120,H⟩:=H;replace H : (if t856 = true then (laws_FnFlowOf.j0 k t847 t848 t850 ((t850.length : Int) == 0) t843 t844) else (laws_FnFlowOf.j0 k t847 t848 t850 true t843 t844)) = some r:=H;have A12:=zx A120;clear A120
  by_cases c13 : t856 = true
  case pos =>
   subst c13;have H1 : (laws_FnFlowOf.j0 k t847 t848 t850 ((t850.length : Int) == 0) t843 t844) = some r:=by rw [if_pos rfl] at H; exact H
   clear H;have H:=H1;clear H1;have H':=zx H;clear H;have hcz14_0 : w10.cell? ⟨gb849,0,none⟩ = some (.int .i64 t843):=(blk_cell BK849.out 0).trans rfl;have hcz14_1 : w10.cell? ⟨gb849,1,none⟩ = some (.slice Ao9 t844.length co9):=(blk_cell BK849.out 1).trans rfl;have hfz14_0:=blk_frozen BK849.out 0;have hfz14_1:=blk_frozen BK849.out 1
   go_wp2_with (first | (go_at_call 40; (with_reducible refine (spec_FlowOf.calls k t843 _ _ t844 t847 t848 t853 _ ?side1 ?side2 A11.out).mono ?_); (case side1 => repeat (first | exact (Kd.R_reads' HO846.out).2.2 | (with_reducible refine Kd.C_alloc ?_ _) | (with_reducible refine Kd.C_drewN ?_ _) | (with_reducible refine Kd.C_drew ?_))); (case side2 => exact (Kd.R_reads' HO846.out).2.1); rintro e w15 ⟨v854,rfl,ho0,hb⟩; have n0_:=zx (Kd.R_below (by (with_reducible repeat (first | apply Kd.R_alloc | apply Kd.R_drewN | apply Kd.R_drew)); exact HO846.out) hb); have n1_:=zx (Kd.R_elder' (by (with_reducible repeat (first | apply Kd.R_alloc | apply Kd.R_drewN | apply Kd.R_drew)); exact HO852.out) (Kd.R_base ho0) hb); have n2_:=zx (Kd.R_lower (Kd.R_new' ho0 (Kd.R_lt (by (with_reducible repeat (first | apply Kd.R_alloc | apply Kd.R_drewN | apply Kd.R_drew)); exact HO852.out))) (below_size (by repeat (first | (with_reducible first | exact HB.out | apply below_alloc | apply pw_below_drewN | apply below_drew1 | refine below_set ?_ GE849.out) | exact HB.out)))); have n3_:=zx (blk_below (g:=gb849) (o:=.cells #[.int .i64 t843,.slice Ao9 t844.length co9] 34 (0,0)) (by (with_reducible repeat (first | refine blk_drewN ?_ _ | refine blk_drew ?_ | refine blk_alloc ?_ _)); exact BK849.out) hb); have n4_:=zx (below_step (by repeat (first | (with_reducible first | exact HB.out | apply below_alloc | apply pw_below_drewN | apply below_drew1 | refine below_set ?_ GE849.out) | exact HB.out)) hb); clear HO846; clear HO852; clear BK849; clear HB; have HO846:=n0_; have HO852:=n1_; have HO855:=n2_; have BK849:=n3_; have HB:=n4_; clear n0_ n1_ n2_ n3_ n4_; (try clear hb); (try clear hb2); (try clear hk); (try clear hi); (try clear ho0); obtain ⟨Ao16,co16,eo16⟩:=Kd.R_slice HO852.out; subst eo16; obtain ⟨Ao17,co17,eo17⟩:=Kd.R_slice HO855.out; subst eo17) | (go_at_call 39; (with_reducible refine (laws_wkInts.calls k _ _ t850 _ _ t853 true _ ?side1 ?side2 ?side3 ?side4 A12.out).mono ?_); (case side1 => repeat (first | exact (Kd.R_reads' HO852.out).2.2 | (with_reducible refine Kd.C_alloc ?_ _) | (with_reducible refine Kd.C_drewN ?_ _) | (with_reducible refine Kd.C_drew ?_))); (case side2 => exact (Kd.R_reads' HO852.out).2.1); (case side3 => repeat (first | exact (Kd.R_reads' HO855.out).2.2 | (with_reducible refine Kd.C_alloc ?_ _) | (with_reducible refine Kd.C_drewN ?_ _) | (with_reducible refine Kd.C_drew ?_))); (case side4 => exact (Kd.R_reads' HO855.out).2.1); rintro e w' ⟨rfl,⟨nd,rfl⟩⟩; (try first | exact ⟨rfl,_,World.drewN_drewN _ _ _⟩ | exact ⟨rfl,_,Eq.trans (World.drewN_drewN _ _ _) (congrArg (World.drewN _) (Nat.add_assoc _ _ _))⟩)))
   repeat (go_quiet (first | (go_at_call 40; (with_reducible refine (spec_FlowOf.calls k t843 _ _ t844 t847 t848 t853 _ ?side1 ?side2 A11.out).mono ?_); (case side1 => repeat (first | exact (Kd.R_reads' HO846.out).2.2 | (with_reducible refine Kd.C_alloc ?_ _) | (with_reducible refine Kd.C_drewN ?_ _) | (with_reducible refine Kd.C_drew ?_))); (case side2 => exact (Kd.R_reads' HO846.out).2.1); rintro e w15 ⟨v854,rfl,ho0,hb⟩; have n0_:=zx (Kd.R_below (by (with_reducible repeat (first | apply Kd.R_alloc | apply Kd.R_drewN | apply Kd.R_drew)); exact HO846.out) hb); have n1_:=zx (Kd.R_elder' (by (with_reducible repeat (first | apply Kd.R_alloc | apply Kd.R_drewN | apply Kd.R_drew)); exact HO852.out) (Kd.R_base ho0) hb); have n2_:=zx (Kd.R_lower (Kd.R_new' ho0 (Kd.R_lt (by (with_reducible repeat (first | apply Kd.R_alloc | apply Kd.R_drewN | apply Kd.R_drew)); exact HO852.out))) (below_size (by repeat (first | (with_reducible first | exact HB.out | apply below_alloc | apply pw_below_drewN | apply below_drew1 | refine below_set ?_ GE849.out) | exact HB.out)))); have n3_:=zx (blk_below (g:=gb849) (o:=.cells #[.int .i64 t843,.slice Ao9 t844.length co9] 34 (0,0)) (by (with_reducible repeat (first | refine blk_drewN ?_ _ | refine blk_drew ?_ | refine blk_alloc ?_ _)); exact BK849.out) hb); have n4_:=zx (below_step (by repeat (first | (with_reducible first | exact HB.out | apply below_alloc | apply pw_below_drewN | apply below_drew1 | refine below_set ?_ GE849.out) | exact HB.out)) hb); clear HO846; clear HO852; clear BK849; clear HB; have HO846:=n0_; have HO852:=n1_; have HO855:=n2_; have BK849:=n3_; have HB:=n4_; clear n0_ n1_ n2_ n3_ n4_; (try clear hb); (try clear hb2); (try clear hk); (try clear hi); (try clear ho0); obtain ⟨Ao16,co16,eo16⟩:=Kd.R_slice HO852.out; subst eo16; obtain ⟨Ao17,co17,eo17⟩:=Kd.R_slice HO855.out; subst eo17) | (go_at_call 39; (with_reducible refine (laws_wkInts.calls k _ _ t850 _ _ t853 true _ ?side1 ?side2 ?side3 ?side4 A12.out).mono ?_); (case side1 => repeat (first | exact (Kd.R_reads' HO852.out).2.2 | (with_reducible refine Kd.C_alloc ?_ _) | (with_reducible refine Kd.C_drewN ?_ _) | (with_reducible refine Kd.C_drew ?_))); (case side2 => exact (Kd.R_reads' HO852.out).2.1); (case side3 => repeat (first | exact (Kd.R_reads' HO855.out).2.2 | (with_reducible refine Kd.C_alloc ?_ _) | (with_reducible refine Kd.C_drewN ?_ _) | (with_reducible refine Kd.C_drew ?_))); (case side4 => exact (Kd.R_reads' HO855.out).2.1); rintro e w' ⟨rfl,⟨nd,rfl⟩⟩; (try first | exact ⟨rfl,_,World.drewN_drewN _ _ _⟩ | exact ⟨rfl,_,Eq.trans (World.drewN_drewN _ _ _) (congrArg (World.drewN _) (Nat.add_assoc _ _ _))⟩))); try go_wp2_with (first | (go_at_call 40; (with_reducible refine (spec_FlowOf.calls k t843 _ _ t844 t847 t848 t853 _ ?side1 ?side2 A11.out).mono ?_); (case side1 => repeat (first | exact (Kd.R_reads' HO846.out).2.2 | (with_reducible refine Kd.C_alloc ?_ _) | (with_reducible refine Kd.C_drewN ?_ _) | (with_reducible refine Kd.C_drew ?_))); (case side2 => exact (Kd.R_reads' HO846.out).2.1); rintro e w15 ⟨v854,rfl,ho0,hb⟩; have n0_:=zx (Kd.R_below (by (with_reducible repeat (first | apply Kd.R_alloc | apply Kd.R_drewN | apply Kd.R_drew)); exact HO846.out) hb); have n1_:=zx (Kd.R_elder' (by (with_reducible repeat (first | apply Kd.R_alloc | apply Kd.R_drewN | apply Kd.R_drew)); exact HO852.out) (Kd.R_base ho0) hb); have n2_:=zx (Kd.R_lower (Kd.R_new' ho0 (Kd.R_lt (by (with_reducible repeat (first | apply Kd.R_alloc | apply Kd.R_drewN | apply Kd.R_drew)); exact HO852.out))) (below_size (by repeat (first | (with_reducible first | exact HB.out | apply below_alloc | apply pw_below_drewN | apply below_drew1 | refine below_set ?_ GE849.out) | exact HB.out)))); have n3_:=zx (blk_below (g:=gb849) (o:=.cells #[.int .i64 t843,.slice Ao9 t844.length co9] 34 (0,0)) (by (with_reducible repeat (first | refine blk_drewN ?_ _ | refine blk_drew ?_ | refine blk_alloc ?_ _)); exact BK849.out) hb); have n4_:=zx (below_step (by repeat (first | (with_reducible first | exact HB.out | apply below_alloc | apply pw_below_drewN | apply below_drew1 | refine below_set ?_ GE849.out) | exact HB.out)) hb); clear HO846; clear HO852; clear BK849; clear HB; have HO846:=n0_; have HO852:=n1_; have HO855:=n2_; have BK849:=n3_; have HB:=n4_; clear n0_ n1_ n2_ n3_ n4_; (try clear hb); (try clear hb2); (try clear hk); (try clear hi); (try clear ho0); obtain ⟨Ao16,co16,eo16⟩:=Kd.R_slice HO852.out; subst eo16; obtain ⟨Ao17,co17,eo17⟩:=Kd.R_slice HO855.out; subst eo17) | (go_at_call 39; (with_reducible refine (laws_wkInts.calls k _ _ t850 _ _ t853 true _ ?side1 ?side2 ?side3 ?side4 A12.out).mono ?_); (case side1 => repeat (first | exact (Kd.R_reads' HO852.out).2.2 | (with_reducible refine Kd.C_alloc ?_ _) | (with_reducible refine Kd.C_drewN ?_ _) | (with_reducible refine Kd.C_drew ?_))); (case side2 => exact (Kd.R_reads' HO852.out).2.1); (case side3 => repeat (first | exact (Kd.R_reads' HO855.out).2.2 | (with_reducible refine Kd.C_alloc ?_ _) | (with_reducible refine Kd.C_drewN ?_ _) | (with_reducible refine Kd.C_drew ?_))); (case side4 => exact (Kd.R_reads' HO855.out).2.1); rintro e w' ⟨rfl,⟨nd,rfl⟩⟩; (try first | exact ⟨rfl,_,World.drewN_drewN _ _ _⟩ | exact ⟨rfl,_,Eq.trans (World.drewN_drewN _ _ _) (congrArg (World.drewN _) (Nat.add_assoc _ _ _))⟩))))
   go_meet
   case rel => exact ⟨_,(((t850.length : Int) == 0)),(by first | rfl | (simp; done) | (simp [*]; done)),H',⟨by first | omega | exact Nat.le_refl _⟩,⟨by (with_reducible repeat (first | apply Kd.R_alloc | apply Kd.R_drewN | apply Kd.R_drew)); exact Kd.R_mono HO852.out (fun _ hk => trivial)⟩,⟨by (with_reducible repeat (first | apply Kd.R_alloc | apply Kd.R_drewN | apply Kd.R_drew)); exact HO846.out⟩,⟨by (with_reducible repeat (first | refine blk_drewN ?_ _ | refine blk_drew ?_ | refine blk_alloc ?_ _)); exact BK849.out⟩,⟨by repeat (first | (with_reducible first | exact HB.out | apply below_alloc | apply pw_below_drewN | apply below_drew1 | refine below_set ?_ GE849.out) | exact HB.out)⟩⟩
  replace c13:=Bool.eq_false_iff.mpr c13;subst c13;have H1 : (laws_FnFlowOf.j0 k t847 t848 t850 true t843 t844) = some r:=by rw [if_neg (show ¬ (false = true) by decide)] at H; exact H
  clear H;have H:=H1;clear H1;have H':=zx H;clear H;have hcz18_0 : w10.cell? ⟨gb849,0,none⟩ = some (.int .i64 t843):=(blk_cell BK849.out 0).trans rfl;have hcz18_1 : w10.cell? ⟨gb849,1,none⟩ = some (.slice Ao9 t844.length co9):=(blk_cell BK849.out 1).trans rfl;have hfz18_0:=blk_frozen BK849.out 0;have hfz18_1:=blk_frozen BK849.out 1
  go_wp2_with (first | (go_at_call 40; (with_reducible refine (spec_FlowOf.calls k t843 _ _ t844 t847 t848 t853 _ ?side1 ?side2 A11.out).mono ?_); (case side1 => repeat (first | exact (Kd.R_reads' HO846.out).2.2 | (with_reducible refine Kd.C_alloc ?_ _) | (with_reducible refine Kd.C_drewN ?_ _) | (with_reducible refine Kd.C_drew ?_))); (case side2 => exact (Kd.R_reads' HO846.out).2.1); rintro e w19 ⟨v854,rfl,ho0,hb⟩; have n0_:=zx (Kd.R_below (by (with_reducible repeat (first | apply Kd.R_alloc | apply Kd.R_drewN | apply Kd.R_drew)); exact HO846.out) hb); have n1_:=zx (Kd.R_elder' (by (with_reducible repeat (first | apply Kd.R_alloc | apply Kd.R_drewN | apply Kd.R_drew)); exact HO852.out) (Kd.R_base ho0) hb); have n2_:=zx (Kd.R_lower (Kd.R_new' ho0 (Kd.R_lt (by (with_reducible repeat (first | apply Kd.R_alloc | apply Kd.R_drewN | apply Kd.R_drew)); exact HO852.out))) (below_size (by repeat (first | (with_reducible first | exact HB.out | apply below_alloc | apply pw_below_drewN | apply below_drew1 | refine below_set ?_ GE849.out) | exact HB.out)))); have n3_:=zx (blk_below (g:=gb849) (o:=.cells #[.int .i64 t843,.slice Ao9 t844.length co9] 34 (0,0)) (by (with_reducible repeat (first | refine blk_drewN ?_ _ | refine blk_drew ?_ | refine blk_alloc ?_ _)); exact BK849.out) hb); have n4_:=zx (below_step (by repeat (first | (with_reducible first | exact HB.out | apply below_alloc | apply pw_below_drewN | apply below_drew1 | refine below_set ?_ GE849.out) | exact HB.out)) hb); clear HO846; clear HO852; clear BK849; clear HB; have HO846:=n0_; have HO852:=n1_; have HO855:=n2_; have BK849:=n3_; have HB:=n4_; clear n0_ n1_ n2_ n3_ n4_; (try clear hb); (try clear hb2); (try clear hk); (try clear hi); (try clear ho0); obtain ⟨Ao20,co20,eo20⟩:=Kd.R_slice HO852.out; subst eo20; obtain ⟨Ao21,co21,eo21⟩:=Kd.R_slice HO855.out; subst eo21) | (go_at_call 39; (with_reducible refine (laws_wkInts.calls k _ _ t850 _ _ t853 false _ ?side1 ?side2 ?side3 ?side4 A12.out).mono ?_); (case side1 => repeat (first | exact (Kd.R_reads' HO852.out).2.2 | (with_reducible refine Kd.C_alloc ?_ _) | (with_reducible refine Kd.C_drewN ?_ _) | (with_reducible refine Kd.C_drew ?_))); (case side2 => exact (Kd.R_reads' HO852.out).2.1); (case side3 => repeat (first | exact (Kd.R_reads' HO855.out).2.2 | (with_reducible refine Kd.C_alloc ?_ _) | (with_reducible refine Kd.C_drewN ?_ _) | (with_reducible refine Kd.C_drew ?_))); (case side4 => exact (Kd.R_reads' HO855.out).2.1); rintro e w' ⟨rfl,⟨nd,rfl⟩⟩; (try first | exact ⟨rfl,_,World.drewN_drewN _ _ _⟩ | exact ⟨rfl,_,Eq.trans (World.drewN_drewN _ _ _) (congrArg (World.drewN _) (Nat.add_assoc _ _ _))⟩)))
  repeat (go_quiet (first | (go_at_call 40; (with_reducible refine (spec_FlowOf.calls k t843 _ _ t844 t847 t848 t853 _ ?side1 ?side2 A11.out).mono ?_); (case side1 => repeat (first | exact (Kd.R_reads' HO846.out).2.2 | (with_reducible refine Kd.C_alloc ?_ _) | (with_reducible refine Kd.C_drewN ?_ _) | (with_reducible refine Kd.C_drew ?_))); (case side2 => exact (Kd.R_reads' HO846.out).2.1); rintro e w19 ⟨v854,rfl,ho0,hb⟩; have n0_:=zx (Kd.R_below (by (with_reducible repeat (first | apply Kd.R_alloc | apply Kd.R_drewN | apply Kd.R_drew)); exact HO846.out) hb); have n1_:=zx (Kd.R_elder' (by (with_reducible repeat (first | apply Kd.R_alloc | apply Kd.R_drewN | apply Kd.R_drew)); exact HO852.out) (Kd.R_base ho0) hb); have n2_:=zx (Kd.R_lower (Kd.R_new' ho0 (Kd.R_lt (by (with_reducible repeat (first | apply Kd.R_alloc | apply Kd.R_drewN | apply Kd.R_drew)); exact HO852.out))) (below_size (by repeat (first | (with_reducible first | exact HB.out | apply below_alloc | apply pw_below_drewN | apply below_drew1 | refine below_set ?_ GE849.out) | exact HB.out)))); have n3_:=zx (blk_below (g:=gb849) (o:=.cells #[.int .i64 t843,.slice Ao9 t844.length co9] 34 (0,0)) (by (with_reducible repeat (first | refine blk_drewN ?_ _ | refine blk_drew ?_ | refine blk_alloc ?_ _)); exact BK849.out) hb); have n4_:=zx (below_step (by repeat (first | (with_reducible first | exact HB.out | apply below_alloc | apply pw_below_drewN | apply below_drew1 | refine below_set ?_ GE849.out) | exact HB.out)) hb); clear HO846; clear HO852; clear BK849; clear HB; have HO846:=n0_; have HO852:=n1_; have HO855:=n2_; have BK849:=n3_; have HB:=n4_; clear n0_ n1_ n2_ n3_ n4_; (try clear hb); (try clear hb2); (try clear hk); (try clear hi); (try clear ho0); obtain ⟨Ao20,co20,eo20⟩:=Kd.R_slice HO852.out; subst eo20; obtain ⟨Ao21,co21,eo21⟩:=Kd.R_slice HO855.out; subst eo21) | (go_at_call 39; (with_reducible refine (laws_wkInts.calls k _ _ t850 _ _ t853 false _ ?side1 ?side2 ?side3 ?side4 A12.out).mono ?_); (case side1 => repeat (first | exact (Kd.R_reads' HO852.out).2.2 | (with_reducible refine Kd.C_alloc ?_ _) | (with_reducible refine Kd.C_drewN ?_ _) | (with_reducible refine Kd.C_drew ?_))); (case side2 => exact (Kd.R_reads' HO852.out).2.1); (case side3 => repeat (first | exact (Kd.R_reads' HO855.out).2.2 | (with_reducible refine Kd.C_alloc ?_ _) | (with_reducible refine Kd.C_drewN ?_ _) | (with_reducible refine Kd.C_drew ?_))); (case side4 => exact (Kd.R_reads' HO855.out).2.1); rintro e w' ⟨rfl,⟨nd,rfl⟩⟩; (try first | exact ⟨rfl,_,World.drewN_drewN _ _ _⟩ | exact ⟨rfl,_,Eq.trans (World.drewN_drewN _ _ _) (congrArg (World.drewN _) (Nat.add_assoc _ _ _))⟩))); try go_wp2_with (first | (go_at_call 40; (with_reducible refine (spec_FlowOf.calls k t843 _ _ t844 t847 t848 t853 _ ?side1 ?side2 A11.out).mono ?_); (case side1 => repeat (first | exact (Kd.R_reads' HO846.out).2.2 | (with_reducible refine Kd.C_alloc ?_ _) | (with_reducible refine Kd.C_drewN ?_ _) | (with_reducible refine Kd.C_drew ?_))); (case side2 => exact (Kd.R_reads' HO846.out).2.1); rintro e w19 ⟨v854,rfl,ho0,hb⟩; have n0_:=zx (Kd.R_below (by (with_reducible repeat (first | apply Kd.R_alloc | apply Kd.R_drewN | apply Kd.R_drew)); exact HO846.out) hb); have n1_:=zx (Kd.R_elder' (by (with_reducible repeat (first | apply Kd.R_alloc | apply Kd.R_drewN | apply Kd.R_drew)); exact HO852.out) (Kd.R_base ho0) hb); have n2_:=zx (Kd.R_lower (Kd.R_new' ho0 (Kd.R_lt (by (with_reducible repeat (first | apply Kd.R_alloc | apply Kd.R_drewN | apply Kd.R_drew)); exact HO852.out))) (below_size (by repeat (first | (with_reducible first | exact HB.out | apply below_alloc | apply pw_below_drewN | apply below_drew1 | refine below_set ?_ GE849.out) | exact HB.out)))); have n3_:=zx (blk_below (g:=gb849) (o:=.cells #[.int .i64 t843,.slice Ao9 t844.length co9] 34 (0,0)) (by (with_reducible repeat (first | refine blk_drewN ?_ _ | refine blk_drew ?_ | refine blk_alloc ?_ _)); exact BK849.out) hb); have n4_:=zx (below_step (by repeat (first | (with_reducible first | exact HB.out | apply below_alloc | apply pw_below_drewN | apply below_drew1 | refine below_set ?_ GE849.out) | exact HB.out)) hb); clear HO846; clear HO852; clear BK849; clear HB; have HO846:=n0_; have HO852:=n1_; have HO855:=n2_; have BK849:=n3_; have HB:=n4_; clear n0_ n1_ n2_ n3_ n4_; (try clear hb); (try clear hb2); (try clear hk); (try clear hi); (try clear ho0); obtain ⟨Ao20,co20,eo20⟩:=Kd.R_slice HO852.out; subst eo20; obtain ⟨Ao21,co21,eo21⟩:=Kd.R_slice HO855.out; subst eo21) | (go_at_call 39; (with_reducible refine (laws_wkInts.calls k _ _ t850 _ _ t853 false _ ?side1 ?side2 ?side3 ?side4 A12.out).mono ?_); (case side1 => repeat (first | exact (Kd.R_reads' HO852.out).2.2 | (with_reducible refine Kd.C_alloc ?_ _) | (with_reducible refine Kd.C_drewN ?_ _) | (with_reducible refine Kd.C_drew ?_))); (case side2 => exact (Kd.R_reads' HO852.out).2.1); (case side3 => repeat (first | exact (Kd.R_reads' HO855.out).2.2 | (with_reducible refine Kd.C_alloc ?_ _) | (with_reducible refine Kd.C_drewN ?_ _) | (with_reducible refine Kd.C_drew ?_))); (case side4 => exact (Kd.R_reads' HO855.out).2.1); rintro e w' ⟨rfl,⟨nd,rfl⟩⟩; (try first | exact ⟨rfl,_,World.drewN_drewN _ _ _⟩ | exact ⟨rfl,_,Eq.trans (World.drewN_drewN _ _ _) (congrArg (World.drewN _) (Nat.add_assoc _ _ _))⟩))))
  go_meet
  case rel => exact ⟨_,(true),(by first | rfl | (simp; done) | (simp [*]; done)),H',⟨by first | omega | exact Nat.le_refl _⟩,⟨by (with_reducible repeat (first | apply Kd.R_alloc | apply Kd.R_drewN | apply Kd.R_drew)); exact Kd.R_mono HO852.out (fun _ hk => trivial)⟩,⟨by (with_reducible repeat (first | apply Kd.R_alloc | apply Kd.R_drewN | apply Kd.R_drew)); exact HO846.out⟩,⟨by (with_reducible repeat (first | refine blk_drewN ?_ _ | refine blk_drew ?_ | refine blk_alloc ?_ _)); exact BK849.out⟩,⟨by repeat (first | (with_reducible first | exact HB.out | apply below_alloc | apply pw_below_drewN | apply below_drew1 | refine below_set ?_ GE849.out) | exact HB.out)⟩⟩
 case rest =>
  clear HC5
  try clear c1
  try clear c2
  try clear c2b0
  try clear c2b1
  try clear p2
  try clear c7
  try clear c13
  try clear hcz14_0
  try clear hcz14_1
  try clear hcz18_0
  try clear hcz18_1
  try clear hcz8_0
  try clear hcz8_1
  try clear hfz14_0
  try clear hfz14_1
  try clear hfz18_0
  try clear hfz18_1
  try clear hfz8_0
  try clear hfz8_1
  obtain ⟨kq,x34_4,rfl,HA,HJ4,HO_6,HO_850001,BK849,HB⟩:=hcut;cases kq with
  | zero => exact absurd HA.out (by simp [laws_FnFlowOf.j0])
  | succ kj4 =>
   have H:=HA.out;clear HA;simp only [laws_FnFlowOf.j0] at H
   by_cases c22 : x34_4 = true
   case pos =>
    subst c22;have H1 : ((spec_FlowOf.f kj4 t843 t844 t847 t848).bind fun t857 => ((laws_wkInts.f kj4 t850 t857).bind fun t860 => (some t860))) = some r:=by rw [if_pos rfl] at H; exact H
    clear H;have H:=H1;clear H1;replace H:=Option.bind_eq_some_iff.mp H;obtain ⟨t857,A230,H⟩:=H;replace H : ((laws_wkInts.f kj4 t850 t857).bind fun t860 => (some t860)) = some r:=H;have A23:=zx A230;clear A230;replace H:=Option.bind_eq_some_iff.mp H;obtain ⟨t860,A240,H⟩:=H;replace H : (some t860) = some r:=H;have A24:=zx A240;clear A240;obtain rfl:=Option.some.inj H;have hcz25_0 : wc.cell? ⟨gb849,0,none⟩ = some (.int .i64 t843):=(blk_cell BK849.out 0).trans rfl;have hcz25_1 : wc.cell? ⟨gb849,1,none⟩ = some (.slice Ao9 t844.length co9):=(blk_cell BK849.out 1).trans rfl;have hfz25_0:=blk_frozen BK849.out 0;have hfz25_1:=blk_frozen BK849.out 1
    go_wp2_with (first | (go_at_call 40; (with_reducible refine (spec_FlowOf.calls kj4 t843 _ _ t844 t847 t848 t857 _ ?side1 ?side2 A23.out).mono ?_); (case side1 => repeat (first | exact (Kd.R_reads' HO_850001.out).2.2 | (with_reducible refine Kd.C_alloc ?_ _) | (with_reducible refine Kd.C_drewN ?_ _) | (with_reducible refine Kd.C_drew ?_))); (case side2 => exact (Kd.R_reads' HO_850001.out).2.1); rintro e w26 ⟨v858,rfl,ho0,hb⟩; have n0_:=zx (Kd.R_elder' (by (with_reducible repeat (first | apply Kd.R_alloc | apply Kd.R_drewN | apply Kd.R_drew)); exact HO_6.out) (Kd.R_base ho0) hb); have n1_:=zx (Kd.R_below (by (with_reducible repeat (first | apply Kd.R_alloc | apply Kd.R_drewN | apply Kd.R_drew)); exact HO_850001.out) hb); have n2_:=zx (Kd.R_lower (Kd.R_new' ho0 (Kd.R_lt (by (with_reducible repeat (first | apply Kd.R_alloc | apply Kd.R_drewN | apply Kd.R_drew)); exact HO_6.out))) (below_size (by repeat (first | (with_reducible first | exact HB.out | apply below_alloc | apply pw_below_drewN | apply below_drew1 | refine below_set ?_ GE849.out) | exact HB.out)))); have n3_:=zx (blk_below (g:=gb849) (o:=.cells #[.int .i64 t843,.slice Ao9 t844.length co9] 34 (0,0)) (by (with_reducible repeat (first | refine blk_drewN ?_ _ | refine blk_drew ?_ | refine blk_alloc ?_ _)); exact BK849.out) hb); have n4_:=zx (below_step (by repeat (first | (with_reducible first | exact HB.out | apply below_alloc | apply pw_below_drewN | apply below_drew1 | refine below_set ?_ GE849.out) | exact HB.out)) hb); clear HO_6; clear HO_850001; clear BK849; clear HB; have HO_6:=n0_; have HO_850001:=n1_; have HO859:=n2_; have BK849:=n3_; have HB:=n4_; clear n0_ n1_ n2_ n3_ n4_; (try clear hb); (try clear hb2); (try clear hk); (try clear hi); (try clear ho0); obtain ⟨Ao27,co27,eo27⟩:=Kd.R_slice HO_6.out; subst eo27; obtain ⟨Ao28,co28,eo28⟩:=Kd.R_slice HO859.out; subst eo28) | (go_at_call 39; (with_reducible refine (laws_wkInts.calls kj4 _ _ t850 _ _ t857 t860 _ ?side1 ?side2 ?side3 ?side4 A24.out).mono ?_); (case side1 => repeat (first | exact (Kd.R_reads' HO_6.out).2.2 | (with_reducible refine Kd.C_alloc ?_ _) | (with_reducible refine Kd.C_drewN ?_ _) | (with_reducible refine Kd.C_drew ?_))); (case side2 => exact (Kd.R_reads' HO_6.out).2.1); (case side3 => repeat (first | exact (Kd.R_reads' HO859.out).2.2 | (with_reducible refine Kd.C_alloc ?_ _) | (with_reducible refine Kd.C_drewN ?_ _) | (with_reducible refine Kd.C_drew ?_))); (case side4 => exact (Kd.R_reads' HO859.out).2.1); rintro e w' ⟨rfl,⟨nd,rfl⟩⟩; (try first | exact ⟨rfl,_,World.drewN_drewN _ _ _⟩ | exact ⟨rfl,_,Eq.trans (World.drewN_drewN _ _ _) (congrArg (World.drewN _) (Nat.add_assoc _ _ _))⟩)))
    repeat (go_quiet (first | (go_at_call 40; (with_reducible refine (spec_FlowOf.calls kj4 t843 _ _ t844 t847 t848 t857 _ ?side1 ?side2 A23.out).mono ?_); (case side1 => repeat (first | exact (Kd.R_reads' HO_850001.out).2.2 | (with_reducible refine Kd.C_alloc ?_ _) | (with_reducible refine Kd.C_drewN ?_ _) | (with_reducible refine Kd.C_drew ?_))); (case side2 => exact (Kd.R_reads' HO_850001.out).2.1); rintro e w26 ⟨v858,rfl,ho0,hb⟩; have n0_:=zx (Kd.R_elder' (by (with_reducible repeat (first | apply Kd.R_alloc | apply Kd.R_drewN | apply Kd.R_drew)); exact HO_6.out) (Kd.R_base ho0) hb); have n1_:=zx (Kd.R_below (by (with_reducible repeat (first | apply Kd.R_alloc | apply Kd.R_drewN | apply Kd.R_drew)); exact HO_850001.out) hb); have n2_:=zx (Kd.R_lower (Kd.R_new' ho0 (Kd.R_lt (by (with_reducible repeat (first | apply Kd.R_alloc | apply Kd.R_drewN | apply Kd.R_drew)); exact HO_6.out))) (below_size (by repeat (first | (with_reducible first | exact HB.out | apply below_alloc | apply pw_below_drewN | apply below_drew1 | refine below_set ?_ GE849.out) | exact HB.out)))); have n3_:=zx (blk_below (g:=gb849) (o:=.cells #[.int .i64 t843,.slice Ao9 t844.length co9] 34 (0,0)) (by (with_reducible repeat (first | refine blk_drewN ?_ _ | refine blk_drew ?_ | refine blk_alloc ?_ _)); exact BK849.out) hb); have n4_:=zx (below_step (by repeat (first | (with_reducible first | exact HB.out | apply below_alloc | apply pw_below_drewN | apply below_drew1 | refine below_set ?_ GE849.out) | exact HB.out)) hb); clear HO_6; clear HO_850001; clear BK849; clear HB; have HO_6:=n0_; have HO_850001:=n1_; have HO859:=n2_; have BK849:=n3_; have HB:=n4_; clear n0_ n1_ n2_ n3_ n4_; (try clear hb); (try clear hb2); (try clear hk); (try clear hi); (try clear ho0); obtain ⟨Ao27,co27,eo27⟩:=Kd.R_slice HO_6.out; subst eo27; obtain ⟨Ao28,co28,eo28⟩:=Kd.R_slice HO859.out; subst eo28) | (go_at_call 39; (with_reducible refine (laws_wkInts.calls kj4 _ _ t850 _ _ t857 t860 _ ?side1 ?side2 ?side3 ?side4 A24.out).mono ?_); (case side1 => repeat (first | exact (Kd.R_reads' HO_6.out).2.2 | (with_reducible refine Kd.C_alloc ?_ _) | (with_reducible refine Kd.C_drewN ?_ _) | (with_reducible refine Kd.C_drew ?_))); (case side2 => exact (Kd.R_reads' HO_6.out).2.1); (case side3 => repeat (first | exact (Kd.R_reads' HO859.out).2.2 | (with_reducible refine Kd.C_alloc ?_ _) | (with_reducible refine Kd.C_drewN ?_ _) | (with_reducible refine Kd.C_drew ?_))); (case side4 => exact (Kd.R_reads' HO859.out).2.1); rintro e w' ⟨rfl,⟨nd,rfl⟩⟩; (try first | exact ⟨rfl,_,World.drewN_drewN _ _ _⟩ | exact ⟨rfl,_,Eq.trans (World.drewN_drewN _ _ _) (congrArg (World.drewN _) (Nat.add_assoc _ _ _))⟩))); try go_wp2_with (first | (go_at_call 40; (with_reducible refine (spec_FlowOf.calls kj4 t843 _ _ t844 t847 t848 t857 _ ?side1 ?side2 A23.out).mono ?_); (case side1 => repeat (first | exact (Kd.R_reads' HO_850001.out).2.2 | (with_reducible refine Kd.C_alloc ?_ _) | (with_reducible refine Kd.C_drewN ?_ _) | (with_reducible refine Kd.C_drew ?_))); (case side2 => exact (Kd.R_reads' HO_850001.out).2.1); rintro e w26 ⟨v858,rfl,ho0,hb⟩; have n0_:=zx (Kd.R_elder' (by (with_reducible repeat (first | apply Kd.R_alloc | apply Kd.R_drewN | apply Kd.R_drew)); exact HO_6.out) (Kd.R_base ho0) hb); have n1_:=zx (Kd.R_below (by (with_reducible repeat (first | apply Kd.R_alloc | apply Kd.R_drewN | apply Kd.R_drew)); exact HO_850001.out) hb); have n2_:=zx (Kd.R_lower (Kd.R_new' ho0 (Kd.R_lt (by (with_reducible repeat (first | apply Kd.R_alloc | apply Kd.R_drewN | apply Kd.R_drew)); exact HO_6.out))) (below_size (by repeat (first | (with_reducible first | exact HB.out | apply below_alloc | apply pw_below_drewN | apply below_drew1 | refine below_set ?_ GE849.out) | exact HB.out)))); have n3_:=zx (blk_below (g:=gb849) (o:=.cells #[.int .i64 t843,.slice Ao9 t844.length co9] 34 (0,0)) (by (with_reducible repeat (first | refine blk_drewN ?_ _ | refine blk_drew ?_ | refine blk_alloc ?_ _)); exact BK849.out) hb); have n4_:=zx (below_step (by repeat (first | (with_reducible first | exact HB.out | apply below_alloc | apply pw_below_drewN | apply below_drew1 | refine below_set ?_ GE849.out) | exact HB.out)) hb); clear HO_6; clear HO_850001; clear BK849; clear HB; have HO_6:=n0_; have HO_850001:=n1_; have HO859:=n2_; have BK849:=n3_; have HB:=n4_; clear n0_ n1_ n2_ n3_ n4_; (try clear hb); (try clear hb2); (try clear hk); (try clear hi); (try clear ho0); obtain ⟨Ao27,co27,eo27⟩:=Kd.R_slice HO_6.out; subst eo27; obtain ⟨Ao28,co28,eo28⟩:=Kd.R_slice HO859.out; subst eo28) | (go_at_call 39; (with_reducible refine (laws_wkInts.calls kj4 _ _ t850 _ _ t857 t860 _ ?side1 ?side2 ?side3 ?side4 A24.out).mono ?_); (case side1 => repeat (first | exact (Kd.R_reads' HO_6.out).2.2 | (with_reducible refine Kd.C_alloc ?_ _) | (with_reducible refine Kd.C_drewN ?_ _) | (with_reducible refine Kd.C_drew ?_))); (case side2 => exact (Kd.R_reads' HO_6.out).2.1); (case side3 => repeat (first | exact (Kd.R_reads' HO859.out).2.2 | (with_reducible refine Kd.C_alloc ?_ _) | (with_reducible refine Kd.C_drewN ?_ _) | (with_reducible refine Kd.C_drew ?_))); (case side4 => exact (Kd.R_reads' HO859.out).2.1); rintro e w' ⟨rfl,⟨nd,rfl⟩⟩; (try first | exact ⟨rfl,_,World.drewN_drewN _ _ _⟩ | exact ⟨rfl,_,Eq.trans (World.drewN_drewN _ _ _) (congrArg (World.drewN _) (Nat.add_assoc _ _ _))⟩))))
    go_ret;exact ⟨by first | rfl | (simp [errW_none,errW_some] <;> rfl) | (simp [*,errW_none,errW_some] <;> rfl),by repeat (first | (with_reducible first | exact HB.out | apply below_alloc | apply pw_below_drewN | apply below_drew1 | refine below_set ?_ GE849.out) | exact HB.out)⟩
   replace c22:=Bool.eq_false_iff.mpr c22;subst c22;have H1 : (laws_FnFlowOf.l0 kj4 t847 t848 t850 0 t843 t844) = some r:=by rw [if_neg (show ¬ (false = true) by decide)] at H; exact H
   clear H;have H:=H1;clear H1;have H':=zx H;clear H
   go_wp2
   repeat (go_quiet (fail); try go_wp2)
   go_loopg [7] kj4 (fun kq v7 w' => ∃ (x7_2 : Int),v7 = .int .i64 x7_2 ∧ Aside0 (laws_FnFlowOf.l0 kq t847 t848 t850 x7_2 t843 t844 = some r) ∧ Aside0 (kq ≤ kj4) ∧ Aside0 (Kd.R (Kd.int .i64) 3 w' w.heap.size (fun _ => True) v851 t850) ∧ Aside0 (Kd.R k58 58 w' w.heap.size (fun _ => True) (.slice Ao9 t844.length co9) t844) ∧ Aside0 (w'.heap[gb849]? = some (.cells #[.int .i64 t843,(.slice Ao9 t844.length co9)] 34 (0,0))) ∧ Aside0 (Below w.heap.size w w'))
   case atStart => exact ⟨(0),(by first | rfl | (simp; done) | (simp [*]; done)),H',⟨Nat.le_refl _⟩,⟨by (with_reducible repeat (first | apply Kd.R_alloc | apply Kd.R_drewN | apply Kd.R_drew)); exact HO_6.out⟩,⟨by (with_reducible repeat (first | apply Kd.R_alloc | apply Kd.R_drewN | apply Kd.R_drew)); exact HO_850001.out⟩,⟨by (with_reducible repeat (first | refine blk_drewN ?_ _ | refine blk_drew ?_ | refine blk_alloc ?_ _)); exact BK849.out⟩,⟨by repeat (first | (with_reducible first | exact HB.out | apply below_alloc | apply pw_below_drewN | apply below_drew1 | refine below_set ?_ GE849.out) | exact HB.out)⟩⟩
   case round =>
    clear H'
    try clear c1
    try clear c2
    try clear c2b0
    try clear c2b1
    try clear p2
    try clear c7
    try clear c13
    try clear c22
    try clear hcz14_0
    try clear hcz14_1
    try clear hcz18_0
    try clear hcz18_1
    try clear hcz25_0
    try clear hcz25_1
    try clear hcz8_0
    try clear hcz8_1
    try clear hfz14_0
    try clear hfz14_1
    try clear hfz18_0
    try clear hfz18_1
    try clear hfz25_0
    try clear hfz25_1
    try clear hfz8_0
    try clear hfz8_1
    try clear p2
    obtain ⟨x7_2,rfl,HA,HK2,HO_6,HO_850001,BK849,HB⟩:=hrel;cases gk with
    | zero => exact absurd HA.out (by simp [laws_FnFlowOf.l0])
    | succ k2 =>
     have H:=HA.out;clear HA;simp only [laws_FnFlowOf.l0] at H
     by_cases c29 : x7_2 < (t850.length : Int)
     case pos =>
      rw [if_pos c29] at H;have c29b0 : decide (x7_2 < (t850.length : Int)) = true:=decide_eq_true c29;clear c29
      by_cases c30 : 0 ≤ x7_2
      case neg =>
       rw [if_neg c30] at H;exact absurd H (by simp)
      rw [if_pos c30] at H;have c30b0 : decide (0 ≤ x7_2) = true:=decide_eq_true c30;clear c30
      by_cases c31 : (rd t850 x7_2) < 0
      case pos =>
       rw [if_pos c31] at H;have c31b0 : decide ((rd t850 x7_2) < 0) = true:=decide_eq_true c31;clear c31;obtain rfl:=Option.some.inj H;obtain ⟨Ao32,co32,eo32⟩:=Kd.R_slice HO_6.out;subst eo32;have p861 : 0 ≤ (x7_2 : Int):=of_decide_eq_true (by first | (with_reducible assumption) | assumption);have q861 : x7_2 < (t850.length : Int):=of_decide_eq_true (by first | (with_reducible assumption) | assumption);obtain ⟨ad861,e861,hx861_0⟩:=Kd.at_int (Kd.R_reads' HO_6.out).2.2 x7_2 p861 q861;cases e861;replace p861:=eq_true p861;replace q861:=eq_true q861
       go_wp2
       repeat (go_quiet (fail); try go_wp2)
       go_ret;exact ⟨by first | rfl | (simp [errW_none,errW_some] <;> rfl) | (simp [*,errW_none,errW_some] <;> rfl),by repeat (first | (with_reducible first | exact HB.out | apply below_alloc | apply pw_below_drewN | apply below_drew1 | refine below_set ?_ GE849.out) | exact HB.out)⟩
      rw [if_neg c31] at H;have c31b0 : decide ((rd t850 x7_2) < 0) = false:=decide_eq_false c31;clear c31
      by_cases c33 : x7_2 < (t844.length : Int)
      case neg =>
       rw [if_neg c33] at H;exact absurd H (by simp)
      rw [if_pos c33] at H;have c33b0 : decide (x7_2 < (t844.length : Int)) = true:=decide_eq_true c33;clear c33
      by_cases c34 : (rd t850 x7_2) > ((rd_T58 t844 x7_2).f4)
      case pos =>
       rw [if_pos c34] at H;have c34b0 : decide (((rd_T58 t844 x7_2).f4) < (rd t850 x7_2)) = true:=decide_eq_true c34;clear c34;obtain rfl:=Option.some.inj H;obtain ⟨Ao35,co35,eo35⟩:=Kd.R_slice HO_6.out;subst eo35;have p861 : 0 ≤ (x7_2 : Int):=of_decide_eq_true (by first | (with_reducible assumption) | assumption);have q861 : x7_2 < (t850.length : Int):=of_decide_eq_true (by first | (with_reducible assumption) | assumption);obtain ⟨ad861,e861,hx861_0⟩:=Kd.at_int (Kd.R_reads' HO_6.out).2.2 x7_2 p861 q861;cases e861;replace p861:=eq_true p861;replace q861:=eq_true q861;have p862 : 0 ≤ (x7_2 : Int):=of_decide_eq_true (by first | (with_reducible assumption) | assumption);have q862 : x7_2 < (t850.length : Int):=of_decide_eq_true (by first | (with_reducible assumption) | assumption);obtain ⟨ad862,e862,hx862_0⟩:=Kd.at_int (Kd.R_reads' HO_6.out).2.2 x7_2 p862 q862;obtain rfl : ad861 = ad862:=(by injection e862)
       replace p862:=eq_true p862;replace q862:=eq_true q862;have hcz36_0 : wr.cell? ⟨gb849,0,none⟩ = some (.int .i64 t843):=(blk_cell BK849.out 0).trans rfl;have hcz36_1 : wr.cell? ⟨gb849,1,none⟩ = some (.slice Ao9 t844.length co9):=(blk_cell BK849.out 1).trans rfl;have hfz36_0:=blk_frozen BK849.out 0;have hfz36_1:=blk_frozen BK849.out 1;have p863 : 0 ≤ (x7_2 : Int):=of_decide_eq_true (by first | (with_reducible assumption) | assumption);have q863 : x7_2 < (t844.length : Int):=of_decide_eq_true (by first | (with_reducible assumption) | assumption);obtain ⟨ad863,e863,hx863_0,hx863_1,hx863_2,hx863_3,hx863_4⟩:=at_T58 (Kd.R_reads' HO_850001.out).2.2 x7_2 p863 q863;cases e863;replace p863:=eq_true p863;replace q863:=eq_true q863
       go_wp2
       repeat (go_quiet (fail); try go_wp2)
       go_ret;exact ⟨by first | rfl | (simp [errW_none,errW_some] <;> rfl) | (simp [*,errW_none,errW_some] <;> rfl),by repeat (first | (with_reducible first | exact HB.out | apply below_alloc | apply pw_below_drewN | apply below_drew1 | refine below_set ?_ GE849.out) | exact HB.out)⟩
      rw [if_neg c34] at H;have c34b0 : decide (((rd_T58 t844 x7_2).f4) < (rd t850 x7_2)) = false:=decide_eq_false c34;clear c34;have H':=zx H;clear H;obtain ⟨Ao37,co37,eo37⟩:=Kd.R_slice HO_6.out;subst eo37;have p861 : 0 ≤ (x7_2 : Int):=of_decide_eq_true (by first | (with_reducible assumption) | assumption);have q861 : x7_2 < (t850.length : Int):=of_decide_eq_true (by first | (with_reducible assumption) | assumption);obtain ⟨ad861,e861,hx861_0⟩:=Kd.at_int (Kd.R_reads' HO_6.out).2.2 x7_2 p861 q861;cases e861;replace p861:=eq_true p861;replace q861:=eq_true q861;have p862 : 0 ≤ (x7_2 : Int):=of_decide_eq_true (by first | (with_reducible assumption) | assumption);have q862 : x7_2 < (t850.length : Int):=of_decide_eq_true (by first | (with_reducible assumption) | assumption);obtain ⟨ad862,e862,hx862_0⟩:=Kd.at_int (Kd.R_reads' HO_6.out).2.2 x7_2 p862 q862;obtain rfl : ad861 = ad862:=(by injection e862)
      replace p862:=eq_true p862;replace q862:=eq_true q862;have hcz38_0 : wr.cell? ⟨gb849,0,none⟩ = some (.int .i64 t843):=(blk_cell BK849.out 0).trans rfl;have hcz38_1 : wr.cell? ⟨gb849,1,none⟩ = some (.slice Ao9 t844.length co9):=(blk_cell BK849.out 1).trans rfl;have hfz38_0:=blk_frozen BK849.out 0;have hfz38_1:=blk_frozen BK849.out 1;have p863 : 0 ≤ (x7_2 : Int):=of_decide_eq_true (by first | (with_reducible assumption) | assumption);have q863 : x7_2 < (t844.length : Int):=of_decide_eq_true (by first | (with_reducible assumption) | assumption);obtain ⟨ad863,e863,hx863_0,hx863_1,hx863_2,hx863_3,hx863_4⟩:=at_T58 (Kd.R_reads' HO_850001.out).2.2 x7_2 p863 q863;cases e863;replace p863:=eq_true p863;replace q863:=eq_true q863
      go_wp2
      repeat (go_quiet (fail); try go_wp2)
      go_roundg k2
      case measure => have:=HJ4.out; have:=HK2.out; omega
      case rel => exact ⟨(wrap64 (x7_2 + 1)),(by first | rfl | (simp; done) | (simp [*]; done)),H',⟨by have:=HJ4.out; have:=HK2.out; omega⟩,⟨by (with_reducible repeat (first | apply Kd.R_alloc | apply Kd.R_drewN | apply Kd.R_drew)); exact HO_6.out⟩,⟨by (with_reducible repeat (first | apply Kd.R_alloc | apply Kd.R_drewN | apply Kd.R_drew)); exact HO_850001.out⟩,⟨by (with_reducible repeat (first | refine blk_drewN ?_ _ | refine blk_drew ?_ | refine blk_alloc ?_ _)); exact BK849.out⟩,⟨by repeat (first | (with_reducible first | exact HB.out | apply below_alloc | apply pw_below_drewN | apply below_drew1 | refine below_set ?_ GE849.out) | exact HB.out)⟩⟩
     rw [if_neg c29] at H;have c29b0 : decide (x7_2 < (t850.length : Int)) = false:=decide_eq_false c29;clear c29;replace H:=Option.bind_eq_some_iff.mp H;obtain ⟨⟨t864,t865⟩,A390,H⟩:=H;replace H : (if t865 = true then ((impl_FlowMost.f k2 t843 t844 t847 t848).bind fun t866 => (some (t864 == t866))) else (some false)) = some r:=H;have A39:=zx A390;clear A390
     by_cases c40 : t865 = true
     case neg =>
      replace c40:=Bool.eq_false_iff.mpr c40;subst c40;have H1 : (some false) = some r:=by rw [if_neg (show ¬ (false = true) by decide)] at H; exact H
      exact absurd ((Option.some.inj H1).trans HRT_.out) (by decide)
     subst c40;have H1 : ((impl_FlowMost.f k2 t843 t844 t847 t848).bind fun t866 => (some (t864 == t866))) = some r:=by rw [if_pos rfl] at H; exact H
     clear H;have H:=H1;clear H1;replace H:=Option.bind_eq_some_iff.mp H;obtain ⟨t866,A410,H⟩:=H;replace H : (some (t864 == t866)) = some r:=H;have A41:=zx A410;clear A410;obtain rfl:=Option.some.inj H;obtain ⟨Ao42,co42,eo42⟩:=Kd.R_slice HO_6.out;subst eo42;have hcz43_0 : wr.cell? ⟨gb849,0,none⟩ = some (.int .i64 t843):=(blk_cell BK849.out 0).trans rfl;have hcz43_1 : wr.cell? ⟨gb849,1,none⟩ = some (.slice Ao9 t844.length co9):=(blk_cell BK849.out 1).trans rfl;have hfz43_0:=blk_frozen BK849.out 0;have hfz43_1:=blk_frozen BK849.out 1
     go_wp2_with (first | (go_at_call 34; (with_reducible refine (impl_FlowValue.calls k2 t843 _ _ t844 _ _ t850 t847 t848 t864 true _ ?side1 ?side2 ?side3 ?side4 A39.out).mono ?_); (case side1 => repeat (first | exact (Kd.R_reads' HO_850001.out).2.2 | (with_reducible refine Kd.C_alloc ?_ _) | (with_reducible refine Kd.C_drewN ?_ _) | (with_reducible refine Kd.C_drew ?_))); (case side2 => exact (Kd.R_reads' HO_850001.out).2.1); (case side3 => repeat (first | exact (Kd.R_reads' HO_6.out).2.2 | (with_reducible refine Kd.C_alloc ?_ _) | (with_reducible refine Kd.C_drewN ?_ _) | (with_reducible refine Kd.C_drew ?_))); (case side4 => exact (Kd.R_reads' HO_6.out).2.1); rintro e w44 ⟨rfl,hb⟩; have n0_:=zx (Kd.R_below (by (with_reducible repeat (first | apply Kd.R_alloc | apply Kd.R_drewN | apply Kd.R_drew)); exact HO_6.out) hb); have n1_:=zx (Kd.R_below (by (with_reducible repeat (first | apply Kd.R_alloc | apply Kd.R_drewN | apply Kd.R_drew)); exact HO_850001.out) hb); have n2_:=zx (blk_below (g:=gb849) (o:=.cells #[.int .i64 t843,.slice Ao9 t844.length co9] 34 (0,0)) (by (with_reducible repeat (first | refine blk_drewN ?_ _ | refine blk_drew ?_ | refine blk_alloc ?_ _)); exact BK849.out) hb); have n3_:=zx (below_step (by repeat (first | (with_reducible first | exact HB.out | apply below_alloc | apply pw_below_drewN | apply below_drew1 | refine below_set ?_ GE849.out) | exact HB.out)) hb); clear HO_6; clear HO_850001; clear BK849; clear HB; have HO_6:=n0_; have HO_850001:=n1_; have BK849:=n2_; have HB:=n3_; clear n0_ n1_ n2_ n3_; (try clear hb); (try clear hb2); (try clear hk); (try clear hi); have hcz45_0 : w44.cell? ⟨gb849,0,none⟩ = some (.int .i64 t843):=(blk_cell BK849.out 0).trans rfl; have hcz45_1 : w44.cell? ⟨gb849,1,none⟩ = some (.slice Ao9 t844.length co9):=(blk_cell BK849.out 1).trans rfl; have hfz45_0:=blk_frozen BK849.out 0; have hfz45_1:=blk_frozen BK849.out 1) | (go_at_call 36; (with_reducible refine (impl_FlowMost.calls k2 t843 _ _ t844 t847 t848 t866 _ ?side1 ?side2 A41.out).mono ?_); (case side1 => repeat (first | exact (Kd.R_reads' HO_850001.out).2.2 | (with_reducible refine Kd.C_alloc ?_ _) | (with_reducible refine Kd.C_drewN ?_ _) | (with_reducible refine Kd.C_drew ?_))); (case side2 => exact (Kd.R_reads' HO_850001.out).2.1); rintro e w46 ⟨rfl,hb⟩; have n0_:=zx (Kd.R_below (by (with_reducible repeat (first | apply Kd.R_alloc | apply Kd.R_drewN | apply Kd.R_drew)); exact HO_6.out) hb); have n1_:=zx (Kd.R_below (by (with_reducible repeat (first | apply Kd.R_alloc | apply Kd.R_drewN | apply Kd.R_drew)); exact HO_850001.out) hb); have n2_:=zx (blk_below (g:=gb849) (o:=.cells #[.int .i64 t843,.slice Ao9 t844.length co9] 34 (0,0)) (by (with_reducible repeat (first | refine blk_drewN ?_ _ | refine blk_drew ?_ | refine blk_alloc ?_ _)); exact BK849.out) hb); have n3_:=zx (below_step (by repeat (first | (with_reducible first | exact HB.out | apply below_alloc | apply pw_below_drewN | apply below_drew1 | refine below_set ?_ GE849.out) | exact HB.out)) hb); clear HO_6; clear HO_850001; clear BK849; clear HB; have HO_6:=n0_; have HO_850001:=n1_; have BK849:=n2_; have HB:=n3_; clear n0_ n1_ n2_ n3_; (try clear hb); (try clear hb2); (try clear hk); (try clear hi)))
     repeat (go_quiet (first | (go_at_call 34; (with_reducible refine (impl_FlowValue.calls k2 t843 _ _ t844 _ _ t850 t847 t848 t864 true _ ?side1 ?side2 ?side3 ?side4 A39.out).mono ?_); (case side1 => repeat (first | exact (Kd.R_reads' HO_850001.out).2.2 | (with_reducible refine Kd.C_alloc ?_ _) | (with_reducible refine Kd.C_drewN ?_ _) | (with_reducible refine Kd.C_drew ?_))); (case side2 => exact (Kd.R_reads' HO_850001.out).2.1); (case side3 => repeat (first | exact (Kd.R_reads' HO_6.out).2.2 | (with_reducible refine Kd.C_alloc ?_ _) | (with_reducible refine Kd.C_drewN ?_ _) | (with_reducible refine Kd.C_drew ?_))); (case side4 => exact (Kd.R_reads' HO_6.out).2.1); rintro e w44 ⟨rfl,hb⟩; have n0_:=zx (Kd.R_below (by (with_reducible repeat (first | apply Kd.R_alloc | apply Kd.R_drewN | apply Kd.R_drew)); exact HO_6.out) hb); have n1_:=zx (Kd.R_below (by (with_reducible repeat (first | apply Kd.R_alloc | apply Kd.R_drewN | apply Kd.R_drew)); exact HO_850001.out) hb); have n2_:=zx (blk_below (g:=gb849) (o:=.cells #[.int .i64 t843,.slice Ao9 t844.length co9] 34 (0,0)) (by (with_reducible repeat (first | refine blk_drewN ?_ _ | refine blk_drew ?_ | refine blk_alloc ?_ _)); exact BK849.out) hb); have n3_:=zx (below_step (by repeat (first | (with_reducible first | exact HB.out | apply below_alloc | apply pw_below_drewN | apply below_drew1 | refine below_set ?_ GE849.out) | exact HB.out)) hb); clear HO_6; clear HO_850001; clear BK849; clear HB; have HO_6:=n0_; have HO_850001:=n1_; have BK849:=n2_; have HB:=n3_; clear n0_ n1_ n2_ n3_; (try clear hb); (try clear hb2); (try clear hk); (try clear hi); have hcz45_0 : w44.cell? ⟨gb849,0,none⟩ = some (.int .i64 t843):=(blk_cell BK849.out 0).trans rfl; have hcz45_1 : w44.cell? ⟨gb849,1,none⟩ = some (.slice Ao9 t844.length co9):=(blk_cell BK849.out 1).trans rfl; have hfz45_0:=blk_frozen BK849.out 0; have hfz45_1:=blk_frozen BK849.out 1) | (go_at_call 36; (with_reducible refine (impl_FlowMost.calls k2 t843 _ _ t844 t847 t848 t866 _ ?side1 ?side2 A41.out).mono ?_); (case side1 => repeat (first | exact (Kd.R_reads' HO_850001.out).2.2 | (with_reducible refine Kd.C_alloc ?_ _) | (with_reducible refine Kd.C_drewN ?_ _) | (with_reducible refine Kd.C_drew ?_))); (case side2 => exact (Kd.R_reads' HO_850001.out).2.1); rintro e w46 ⟨rfl,hb⟩; have n0_:=zx (Kd.R_below (by (with_reducible repeat (first | apply Kd.R_alloc | apply Kd.R_drewN | apply Kd.R_drew)); exact HO_6.out) hb); have n1_:=zx (Kd.R_below (by (with_reducible repeat (first | apply Kd.R_alloc | apply Kd.R_drewN | apply Kd.R_drew)); exact HO_850001.out) hb); have n2_:=zx (blk_below (g:=gb849) (o:=.cells #[.int .i64 t843,.slice Ao9 t844.length co9] 34 (0,0)) (by (with_reducible repeat (first | refine blk_drewN ?_ _ | refine blk_drew ?_ | refine blk_alloc ?_ _)); exact BK849.out) hb); have n3_:=zx (below_step (by repeat (first | (with_reducible first | exact HB.out | apply below_alloc | apply pw_below_drewN | apply below_drew1 | refine below_set ?_ GE849.out) | exact HB.out)) hb); clear HO_6; clear HO_850001; clear BK849; clear HB; have HO_6:=n0_; have HO_850001:=n1_; have BK849:=n2_; have HB:=n3_; clear n0_ n1_ n2_ n3_; (try clear hb); (try clear hb2); (try clear hk); (try clear hi))); try go_wp2_with (first | (go_at_call 34; (with_reducible refine (impl_FlowValue.calls k2 t843 _ _ t844 _ _ t850 t847 t848 t864 true _ ?side1 ?side2 ?side3 ?side4 A39.out).mono ?_); (case side1 => repeat (first | exact (Kd.R_reads' HO_850001.out).2.2 | (with_reducible refine Kd.C_alloc ?_ _) | (with_reducible refine Kd.C_drewN ?_ _) | (with_reducible refine Kd.C_drew ?_))); (case side2 => exact (Kd.R_reads' HO_850001.out).2.1); (case side3 => repeat (first | exact (Kd.R_reads' HO_6.out).2.2 | (with_reducible refine Kd.C_alloc ?_ _) | (with_reducible refine Kd.C_drewN ?_ _) | (with_reducible refine Kd.C_drew ?_))); (case side4 => exact (Kd.R_reads' HO_6.out).2.1); rintro e w44 ⟨rfl,hb⟩; have n0_:=zx (Kd.R_below (by (with_reducible repeat (first | apply Kd.R_alloc | apply Kd.R_drewN | apply Kd.R_drew)); exact HO_6.out) hb); have n1_:=zx (Kd.R_below (by (with_reducible repeat (first | apply Kd.R_alloc | apply Kd.R_drewN | apply Kd.R_drew)); exact HO_850001.out) hb); have n2_:=zx (blk_below (g:=gb849) (o:=.cells #[.int .i64 t843,.slice Ao9 t844.length co9] 34 (0,0)) (by (with_reducible repeat (first | refine blk_drewN ?_ _ | refine blk_drew ?_ | refine blk_alloc ?_ _)); exact BK849.out) hb); have n3_:=zx (below_step (by repeat (first | (with_reducible first | exact HB.out | apply below_alloc | apply pw_below_drewN | apply below_drew1 | refine below_set ?_ GE849.out) | exact HB.out)) hb); clear HO_6; clear HO_850001; clear BK849; clear HB; have HO_6:=n0_; have HO_850001:=n1_; have BK849:=n2_; have HB:=n3_; clear n0_ n1_ n2_ n3_; (try clear hb); (try clear hb2); (try clear hk); (try clear hi); have hcz45_0 : w44.cell? ⟨gb849,0,none⟩ = some (.int .i64 t843):=(blk_cell BK849.out 0).trans rfl; have hcz45_1 : w44.cell? ⟨gb849,1,none⟩ = some (.slice Ao9 t844.length co9):=(blk_cell BK849.out 1).trans rfl; have hfz45_0:=blk_frozen BK849.out 0; have hfz45_1:=blk_frozen BK849.out 1) | (go_at_call 36; (with_reducible refine (impl_FlowMost.calls k2 t843 _ _ t844 t847 t848 t866 _ ?side1 ?side2 A41.out).mono ?_); (case side1 => repeat (first | exact (Kd.R_reads' HO_850001.out).2.2 | (with_reducible refine Kd.C_alloc ?_ _) | (with_reducible refine Kd.C_drewN ?_ _) | (with_reducible refine Kd.C_drew ?_))); (case side2 => exact (Kd.R_reads' HO_850001.out).2.1); rintro e w46 ⟨rfl,hb⟩; have n0_:=zx (Kd.R_below (by (with_reducible repeat (first | apply Kd.R_alloc | apply Kd.R_drewN | apply Kd.R_drew)); exact HO_6.out) hb); have n1_:=zx (Kd.R_below (by (with_reducible repeat (first | apply Kd.R_alloc | apply Kd.R_drewN | apply Kd.R_drew)); exact HO_850001.out) hb); have n2_:=zx (blk_below (g:=gb849) (o:=.cells #[.int .i64 t843,.slice Ao9 t844.length co9] 34 (0,0)) (by (with_reducible repeat (first | refine blk_drewN ?_ _ | refine blk_drew ?_ | refine blk_alloc ?_ _)); exact BK849.out) hb); have n3_:=zx (below_step (by repeat (first | (with_reducible first | exact HB.out | apply below_alloc | apply pw_below_drewN | apply below_drew1 | refine below_set ?_ GE849.out) | exact HB.out)) hb); clear HO_6; clear HO_850001; clear BK849; clear HB; have HO_6:=n0_; have HO_850001:=n1_; have BK849:=n2_; have HB:=n3_; clear n0_ n1_ n2_ n3_; (try clear hb); (try clear hb2); (try clear hk); (try clear hi))))
     go_ret;exact ⟨by first | rfl | (simp [errW_none,errW_some] <;> rfl) | (simp [*,errW_none,errW_some] <;> rfl),by repeat (first | (with_reducible first | exact HB.out | apply below_alloc | apply pw_below_drewN | apply below_drew1 | refine below_set ?_ GE849.out) | exact HB.out)⟩
end Go.Proofs.Ytlhmljngjdfbpaa.Pr
end
section
set_option linter.unusedVariables false
namespace Go.Proofs.YtlhmljngjdfbpaaW.PrintWords
open Go.RowKit Go.ChangeShapes Go.WideShapes
def Opens (P : Program) {α : Type} (d : Kd α) (t : TypeId) (wf : α → Prop) : Prop :=
 ∀ {H : Type} {enc : TypeId × Value → H} {w : World} {sp : Nat → Bool} {held : Bool} {fuel : Nat} {cs : List Value} {x : DataW H × List MemPlace},DataW.trod enc P w 0 sp held fuel t cs = some x → ∃ a,d.K w a cs ∧ wf a
section
variable {P : Program} {α β : Type}
theorem opens_int {t : TypeId} {k : IntKind} (ht : P.underlying t = some (.int k)) : Opens P (Kd.int k) t (fun n => (Lit.int k n).wf = true):=by
 intro H enc w sp held fuel cs x h;obtain ⟨n,rfl,_,hw⟩:=DataW.trod_int ht h;exact ⟨n,rfl,hw⟩
theorem addr_add_add (a : Addr) (i j : Nat) : (a.add i).add j = a.add (i + j):=by
 unfold Addr.add
 by_cases hi : i = 0 <;> by_cases hj : j = 0 <;> simp [hi,hj,Nat.add_assoc]
theorem opens_slice [Inhabited α] {d : Kd α} {t e : TypeId} {wf : α → Prop} (ht : P.underlying t = some (.slice e)) (hc : P.cellsOf e = d.sz) (he : Opens P d e wf) : Opens P (Kd.slice e d) t (fun l => l.length ≤ maxLen ∧ ∀ x ∈ l,wf x):=by
 intro H enc w sp held fuel cs x h
 rcases Deep.open_slice ht h with ⟨rfl,_⟩ | ⟨a,len,cap,m,n,D,Pl,rfl,_,hl,hm,hmm,_,hel⟩
 ·exact ⟨[],⟨none,0,rfl,Nat.le_refl _,Kd.C_nil d w⟩,by simp,by simp⟩
 ·have hlm : len ≤ m:=by rw [hmm]; split <;> omega
  have hx : ∀ i,i < len → ∃ y : α,(∃ c,c.length = d.sz ∧ d.K w y c ∧ ∀ j u,c[j]? = some u → w.cell? (a.add (i * d.sz + j)) = some u) ∧ wf y:=by
   intro i hi;obtain ⟨cs',hcs,htr⟩:=hel i (by omega);obtain ⟨y,hk,hw⟩:=he htr;obtain ⟨_,hlen,hcell⟩:=World.cells?_some hcs;refine ⟨y,⟨cs',d.K_len hk,hk,fun j u hu => ?_⟩,hw⟩;have hj : j < P.cellsOf e:=by
    have:=(List.getElem?_eq_some_iff.1 hu).1;omega
   have:=hcell j hj;rw [addr_add_add,hc,hu] at this;exact this
  obtain ⟨f,hf⟩:=Deep.choose_lt hx;refine ⟨(List.range len).map f,⟨some a,cap,by simp,by simpa using hl,by simp,by simp only [maxLen] at hm; simp; omega,fun _ => ⟨a,rfl,fun j p hj => ?_⟩⟩,by simp; omega,fun y hy => ?_⟩
  ·obtain ⟨hj1,hj2⟩:=List.getElem?_eq_some_iff.1 hj;simp at hj1 hj2;subst hj2;exact (hf j hj1).1
  ·simp only [List.mem_map,List.mem_range] at hy;obtain ⟨i,hi,rfl⟩:=hy;exact (hf i hi).2
end
end Go.Proofs.YtlhmljngjdfbpaaW.PrintWords
end
section
namespace Go.Proofs.Ytlhmljngjdfbpaa.Pr
open Go.RowKit Go.Proofs.YtlhmljngjdfbpaaW.PrintWords Go.Proofs.YtlhmljngjdfbpaaW.PrintLast Go.Proofs.YtlhmljngjdfbpaaW.PrintMore
open List renaming setIfInBounds_toArray → U,set_cons_zero → V,set_cons_succ → Z
open Go.Proofs.YtlhmljngjdfbpaaW.PrintWords.Aside0 renaming mk → zx
def laws_FnFlowOf.Asked : Prop:=∀ (l0 : List Int),(l0.length ≤ maxLen ∧ ∀ x_ ∈ l0,(Lit.int .u8 x_).wf = true) → ∃ k,laws_FnFlowOf.f k l0 = some true
end Go.Proofs.Ytlhmljngjdfbpaa.Pr
end
section
set_option linter.unusedVariables false
namespace Go.Proofs.YtlhmljngjdfbpaaW.PrintWords
open Go.RowKit
section
variable {α β : Type}
theorem Ev.pos {c : Prop} [Decidable c] {t e : Nat → Option α} {r : α} (h : c) (k : Ev t r) : Ev (fun n => if c then t n else e n) r:=by
 simp only [if_pos h]; exact k
theorem Ev.neg {c : Prop} [Decidable c] {t e : Nat → Option α} {r : α} (h : ¬ c) (k : Ev e r) : Ev (fun n => if c then t n else e n) r:=by
 simp only [if_neg h]; exact k
theorem Ev.bind0 {g : Option α} {f : Nat → α → Option β} {a : α} {r : β} (h : g = some a) (k : Ev (fun n => f n a) r) : Ev (fun n => g.bind (f n)) r:=by
 subst h; exact k
theorem Ev.is {a r : α} (h : a = r) : Ev (fun _ => some a) r:=by subst h; exact Ev.now _
theorem Ev.cast {g : Nat → Option α} {a r : α} (k : Ev g a) (h : a = r) : Ev g r:=h ▸ k
theorem Ev.go {g f : Nat → Option α} {r : α} (k : Ev f r) (h : ∀ k,g (k + 1) = f k) : Ev g r:=Ev.step h k
end
theorem w64 {n : Int} (h : -9223372036854775808 ≤ n) (h' : n ≤ 9223372036854775807) : wrap64 n = n:=by unfold wrap64; omega
theorem rd_nat {l : List Int} {i : Nat} (h : i < l.length) : rd l (i : Int) = l[i]:=by simp [rd,h]
theorem some_ite (b x : Bool) : (if b = true then some x else some false) = some (b && x):=by cases b <;> rfl
end Go.Proofs.YtlhmljngjdfbpaaW.PrintWords
end
section
set_option linter.unusedSimpArgs false
set_option linter.unusedVariables false
namespace Go.Proofs.Ytlhmljngjdfbpaa.Pure
open Go.RowKit Go.Proofs.Ytlhmljngjdfbpaa.Pr Go.Proofs.YtlhmljngjdfbpaaW.PrintWords Go.Proofs.YtlhmljngjdfbpaaW.PrintLast Go.Proofs.YtlhmljngjdfbpaaW.PrintMore
def inB (x a b : Int) : Bool:=decide (a ≤ x) && decide (x ≤ b)
theorem inB_iff {x a b : Int} : inB x a b = true ↔ a ≤ x ∧ x ≤ b:=by simp [inB]
theorem in1 (x a b : Int) : spec_l1In.f x a b = some (inB x a b):=by
 unfold spec_l1In.f inB
 by_cases h : x ≥ a
 case pos => rw [if_pos h]; simp [show a ≤ x from h]
 rw [if_neg h]; simp [show ¬ a ≤ x from h]
theorem within1 (x a b : Int) : impl_within.f x a b = some (inB x a b):=by
 unfold impl_within.f inB
 by_cases h : x ≥ a
 case pos => rw [if_pos h]; simp [show a ≤ x from h]
 rw [if_neg h]; simp [show ¬ a ≤ x from h]
theorem up1 {i n : Nat} (h : i < n) (hn : n ≤ maxLen) : wrap64 ((i : Int) + 1) = ((i + 1 : Nat) : Int):=by
 simp only [maxLen] at hn;rw [w64 (by omega) (by omega)]; omega
theorem rdn {l : List Int} {i : Nat} (h : i < l.length) : rd l (i : Int) = l[i]:=rd_nat h
def nth (l : List Int) (i : Nat) : Int:=l.getD i 0
theorem rdg {l : List Int} (i : Nat) : rd l (i : Int) = nth l i:=by simp [rd,nth]
theorem nth_get {l : List Int} {i : Nat} (h : i < l.length) : nth l i = l[i]:=by simp [nth,h]
theorem getD_mem {l : List Int} {i : Nat} (h : i < l.length) : nth l i ∈ l:=by
 rw [nth_get h];exact List.getElem_mem h
theorem drop_cons {α : Type} {l : List α} {i : Nat} (h : i < l.length) : l.drop i = l[i] :: l.drop (i + 1):=List.drop_eq_getElem_cons h
def Pv {α : Type} (g : Nat → Option α) (P : α → Prop) : Prop:=∃ r,Ev g r ∧ P r
section
variable {α β : Type} {P : α → Prop}
theorem Pv.of {g : Nat → Option α} {r : α} (h : Ev g r) (hp : P r) : Pv g P:=⟨r,h,hp⟩
theorem Pv.now {a : α} (h : P a) : Pv (fun _ => some a) P:=⟨a,Ev.now a,h⟩
theorem Pv.pos {c : Prop} [Decidable c] {t e : Nat → Option α} (h : c) (k : Pv t P) : Pv (fun n => if c then t n else e n) P:=by
 obtain ⟨r,k,hp⟩:=k;exact ⟨r,Ev.pos h k,hp⟩
theorem Pv.neg {c : Prop} [Decidable c] {t e : Nat → Option α} (h : ¬ c) (k : Pv e P) : Pv (fun n => if c then t n else e n) P:=by
 obtain ⟨r,k,hp⟩:=k;exact ⟨r,Ev.neg h k,hp⟩
theorem Pv.ite {c : Prop} [Decidable c] {t e : Nat → Option α} (h : c → Pv t P) (k : ¬ c → Pv e P) : Pv (fun n => if c then t n else e n) P:=by
 by_cases hc : c
 case neg => exact Pv.neg hc (k hc)
 exact Pv.pos hc (h hc)
theorem Pv.bind {g : Nat → Option β} {f : Nat → β → Option α} {R : β → Prop} (h : Pv g R) (k : ∀ b,R b → Pv (fun n => f n b) P) : Pv (fun n => (g n).bind (f n)) P:=by
 obtain ⟨b,h,hb⟩:=h;obtain ⟨r,k,hp⟩:=k b hb;exact ⟨r,Ev.bind h k,hp⟩
theorem Pv.bind0 {g : Option β} {f : Nat → β → Option α} {b : β} (h : g = some b) (k : Pv (fun n => f n b) P) : Pv (fun n => g.bind (f n)) P:=by
 obtain ⟨r,k,hp⟩:=k;exact ⟨r,Ev.bind0 h k,hp⟩
theorem Pv.go {g f : Nat → Option α} (k : Pv f P) (h : ∀ k,g (k + 1) = f k) : Pv g P:=by
 obtain ⟨r,k,hp⟩:=k;exact ⟨r,Ev.go k h,hp⟩
theorem Pv.mono {g : Nat → Option α} {R : α → Prop} (h : Pv g R) (k : ∀ a,R a → P a) : Pv g P:=by
 obtain ⟨r,h,hr⟩:=h;exact ⟨r,h,k r hr⟩
end
theorem Pv.rounds {g : Nat → Option Bool} (h : Pv g (· = true)) : ∃ k,g k = some true:=by
 obtain ⟨r,h,rfl⟩:=h;exact Ev.rounds h
end Go.Proofs.Ytlhmljngjdfbpaa.Pure
end
section
set_option linter.unusedSimpArgs false
set_option linter.unusedVariables false
namespace Go.Proofs.Ytlhmljngjdfbpaa.Pure
open Go.RowKit Go.Proofs.Ytlhmljngjdfbpaa.Pr Go.Proofs.YtlhmljngjdfbpaaW.PrintWords Go.Proofs.YtlhmljngjdfbpaaW.PrintLast Go.Proofs.YtlhmljngjdfbpaaW.PrintMore
section
variable {t e : Nat → Option Bool} {r : Bool}
theorem Ev.and {b : Bool} (k : Ev t r) : Ev (fun n => if b = true then t n else some false) (b && r):=by
 cases b with
 | false => exact Ev.neg (by simp) (Ev.now _)
 | true => exact Ev.pos rfl k
theorem Ev.nand {c : Prop} [Decidable c] (k : Ev t r) : Ev (fun n => if c then some false else t n) (!decide c && r):=by
 by_cases h : c
 case pos => exact Ev.pos h (Ev.is (by simp [h]))
 exact Ev.neg h (k.cast (by simp [h]))
end
abbrev Arc:=S58
def arc (l : List Arc) (i : Nat) : Arc:=rd_T58 l (i : Int)
theorem rda (l : List Arc) (i : Nat) : rd_T58 l (i : Int) = arc l i:=rfl
theorem arc_get {l : List Arc} {i : Nat} (h : i < l.length) : arc l i = l[i]:=by simp [arc,rd_T58,h]
theorem arc_mem {l : List Arc} {i : Nat} (h : i < l.length) : arc l i ∈ l:=by
 rw [arc_get h];exact List.getElem_mem h
attribute [irreducible] arc
def okArcW (n : Int) (a : Arc) : Bool:=inB a.f0 0 (wrap64 (n - 1)) && (inB a.f1 0 (wrap64 (n - 1)) && (!decide (a.f0 = a.f1) && (inB a.f2 0 99 && (inB a.f3 0 99 && inB a.f4 0 9))))
theorem l1Ok_l (n : Int) (l : List Arc) (hm : l.length ≤ maxLen) : ∀ (m i : Nat),l.length - i = m → i ≤ l.length → Ev (fun k => spec_l1Ok.l0 k (i : Int) n l) ((l.drop i).all (okArcW n) && (inB n 1 8 && decide ((l.length : Int) ≤ 16))):=by
 intro m
 induction m with
 | zero =>
  intro i hd hi;refine Ev.go ?_ (fun k => by rw [spec_l1Ok.l0]);refine Ev.neg (by omega) (Ev.bind0 (in1 _ _ _) ?_);rw [List.drop_of_length_le (by omega)];exact (Ev.and (Ev.now _)).cast (by simp)
 | succ m ih =>
  intro i hd hi;have hlt : i < l.length:=by omega
  refine Ev.go ?_ (fun k => by rw [spec_l1Ok.l0]);rw [drop_cons hlt,← arc_get hlt,List.all_cons,rda,up1 hlt hm];refine Ev.pos (by omega) (Ev.pos (by omega) ?_);refine Ev.cast (Ev.bind0 (in1 _ _ _) (Ev.and (Ev.bind0 (in1 _ _ _) (Ev.and (Ev.nand (Ev.bind0 (in1 _ _ _) (Ev.and (Ev.bind0 (in1 _ _ _) (Ev.and (Ev.bind0 (in1 _ _ _) (Ev.and (ih (i + 1) (by omega) (by omega))))))))))))) ?_;simp only [okArcW,Bool.and_assoc]
theorem okArcW_okArc {n : Int} (h : 1 ≤ n) (h8 : n ≤ 8) (a : Arc) : okArcW n a = okArc n a:=by
 unfold okArcW okArc inB okN okC
 rw [w64 (by omega) (by omega)];have e : (a.f4 ≤ 9) ↔ (a.f4 ≤ 10 - 1):=by omega
 have e2 : (a.f0 == a.f1) = decide (a.f0 = a.f1):=by
  by_cases c : a.f0 = a.f1 <;> simp [c]
 rw [e2];simp only [Bool.and_assoc,e]
theorem l1Ok_ev (n : Int) (l : List Arc) (hm : l.length ≤ maxLen) : Ev (fun k => spec_l1Ok.f k n l) (netOkB n l):=by
 unfold spec_l1Ok.f
 refine (l1Ok_l n l hm _ 0 rfl (by omega)).cast ?_
 unfold netOkB
 rw [List.drop_zero]
 by_cases h : 1 ≤ n ∧ n ≤ 8
 case pos =>
  have e : l.all (okArcW n) = l.all (okArc n):=by
   congr 1
   funext a
   exact okArcW_okArc h.1 h.2 a
  rw [e,show inB n 1 8 = true from inB_iff.2 h];simp [h.1,h.2,Bool.and_comm]
 have e : inB n 1 8 = false:=by
  cases c : inB n 1 8 with
  | false => rfl
  | true => exact absurd (inB_iff.1 c) h
 rw [e];have e2 : (decide (1 ≤ n) && decide (n ≤ 8)) = false:=e;simp only [e2,Bool.false_and,Bool.and_false]
structure NetGood (n : Int) (l : List Arc) : Prop where
 n1 : 1 ≤ n
 n8 : n ≤ 8
 len : l.length ≤ 16
 ok : ∀ i,i < l.length → (0 ≤ (arc l i).f0 ∧ (arc l i).f0 < n) ∧ (0 ≤ (arc l i).f1 ∧ (arc l i).f1 < n) ∧ (arc l i).f0 ≠ (arc l i).f1 ∧ (0 ≤ (arc l i).f2 ∧ (arc l i).f2 ≤ 99) ∧ (0 ≤ (arc l i).f3 ∧ (arc l i).f3 ≤ 99) ∧ (0 ≤ (arc l i).f4 ∧ (arc l i).f4 ≤ 9)
theorem okArc_iff (n : Int) (a : Arc) : okArc n a = true ↔ (0 ≤ a.f0 ∧ a.f0 < n) ∧ (0 ≤ a.f1 ∧ a.f1 < n) ∧ a.f0 ≠ a.f1 ∧ (0 ≤ a.f2 ∧ a.f2 ≤ 99) ∧ (0 ≤ a.f3 ∧ a.f3 ≤ 99) ∧ (0 ≤ a.f4 ∧ a.f4 ≤ 9):=by
 simp only [okArc,okN,okC,Bool.and_eq_true,decide_eq_true_eq,Bool.not_eq_true',beq_eq_false_iff_ne];constructor
 ·rintro ⟨⟨⟨⟨⟨⟨a1,a2⟩,a3,a4⟩,a5⟩,a6⟩,a7⟩,a8,a9⟩;exact ⟨⟨a1,by omega⟩,⟨a3,by omega⟩,a5,a6,a7,a8,by omega⟩
 ·rintro ⟨⟨a1,a2⟩,⟨a3,a4⟩,a5,a6,a7,a8,a9⟩;exact ⟨⟨⟨⟨⟨⟨a1,by omega⟩,a3,by omega⟩,a5⟩,a6⟩,a7⟩,a8,by omega⟩
theorem netOkB_iff (n : Int) (l : List Arc) : netOkB n l = true ↔ NetGood n l:=by
 simp only [netOkB,Bool.and_eq_true,decide_eq_true_eq,List.all_eq_true];constructor
 ·rintro ⟨⟨⟨h1,h2⟩,h3⟩,h4⟩;exact ⟨h1,h2,by omega,fun i hi => (okArc_iff n _).1 (h4 _ (arc_mem hi))⟩
 ·rintro ⟨h1,h2,h3,h4⟩;refine ⟨⟨⟨h1,h2⟩,by omega⟩,fun a ha => ?_⟩;obtain ⟨i,hi,rfl⟩:=List.getElem_of_mem ha;rw [← arc_get hi];exact (okArc_iff n _).2 (h4 i hi)
theorem hasOf {n : Int} {l : List Arc} (h : NetGood n l) (v : List Int) : impl_Net_has.f n l v = some (v.all (okN n)):=by
 have:=h.n1;have:=h.n8
 unfold impl_Net_has.f
 rw [if_pos (by omega),if_pos (by omega)]
theorem nodesIn_eq (n : Int) (l : List Arc) (v : List Int) : impl_nodesIn.f n l v = some (netOkB n l && v.all (okN n)):=by
 unfold impl_nodesIn.f
 rw [show impl_NetOk.f n l = some (netOkB n l) from rfl,Option.bind_some];cases h : netOkB n l with
 | false => rfl
 | true => rw [if_pos rfl,hasOf ((netOkB_iff n l).1 h),Option.bind_some,Bool.true_and]
theorem apart_eq (n : Int) (l : List Arc) (a b : Int) : impl_apart.f n l a b = some (netOkB n l && (okN n a && (okN n b && (a != b)))):=by
 unfold impl_apart.f
 rw [nodesIn_eq,Option.bind_some];simp only [List.all_cons,List.all_nil,Bool.and_true,some_ite,Bool.and_assoc]
end Go.Proofs.Ytlhmljngjdfbpaa.Pure
end
section
namespace Go.Proofs.Ytlhmljngjdfbpaa.Pr
open Go.RowKit Go.Proofs.YtlhmljngjdfbpaaW.PrintWords Go.Proofs.YtlhmljngjdfbpaaW.PrintLast Go.Proofs.YtlhmljngjdfbpaaW.PrintMore
attribute [local go_sem] max2_int min2_int max_two min_two max_three min_three max_four min_four
set_option linter.unusedVariables false
set_option linter.unusedSimpArgs false
open List renaming setIfInBounds_toArray → U,set_cons_zero → V,set_cons_succ → Z
open Go.Proofs.YtlhmljngjdfbpaaW.PrintWords.Aside0 renaming mk → zx
def spec_l25Side.f (a0 : Int) (a1 : Int) : Option (Bool):=if 0 ≤ a1 then (some ((Int.tmod (shr .i64 a0 a1) 2) == 1)) else (none)
def spec_l25Cut.l0 : Nat → Int → Int → Int → Int → List (S58) → Option (Int)
 | 0,_,_,_,_,_ => none
 | k + 1,x1,x5,x6,q5,p7 => if x6 < (p7.length : Int) then (if 0 ≤ x6 then ((spec_l25Side.f x1 ((rd_T58 p7 x6).f0)).bind fun t924 => (if t924 = true then ((spec_l25Side.f x1 ((rd_T58 p7 x6).f1)).bind fun t926 => (if t926 = true then (spec_l25Cut.l0 k x1 x5 (wrap64 (x6 + 1)) q5 p7) else (spec_l25Cut.l0 k x1 (wrap64 (x5 + ((rd_T58 p7 x6).f4))) (wrap64 (x6 + 1)) q5 p7))) else (spec_l25Cut.l0 k x1 x5 (wrap64 (x6 + 1)) q5 p7))) else (none)) else (some x5)
def spec_l25Cut.f (k : Nat) (a0_0 : Int) (l0_1 : List (S58)) (a1 : Int) : Option (Int):=spec_l25Cut.l0 k a1 0 0 a0_0 l0_1
mutual
def spec_FlowMost.j0 : Nat → Int → Int → Int → Bool → Int → List (S58) → Option (Int)
 | 0,_,_,_,_,_,_ => none
 | k + 1,x1,x2,x7,x33,p3,p4 => if x33 = true then (some (-1)) else (spec_FlowMost.l0 k x1 x2 x7 0 p3 p4)
def spec_FlowMost.l0 : Nat → Int → Int → Int → Int → Int → List (S58) → Option (Int)
 | 0,_,_,_,_,_,_ => none
 | k + 1,x1,x2,x7,x8,p3,p4 => if 0 ≤ p3 then (if x8 < (shl .i64 1 p3) then ((spec_l25Side.f x8 x1).bind fun t932 => (if t932 = true then ((spec_l25Side.f x8 x2).bind fun t933 => (spec_FlowMost.j2 k x1 x2 x7 x8 (!t933) p3 p4)) else (spec_FlowMost.j2 k x1 x2 x7 x8 false p3 p4))) else (some x7)) else (none)
def spec_FlowMost.j2 : Nat → Int → Int → Int → Int → Bool → Int → List (S58) → Option (Int)
 | 0,_,_,_,_,_,_,_ => none
 | k + 1,x1,x2,x7,x8,x49,p3,p4 => if x49 = true then ((spec_l25Cut.f k p3 p4 x8).bind fun t934 => (if x7 < 0 then (spec_FlowMost.l0 k x1 x2 t934 (wrap64 (x8 + 1)) p3 p4) else (if t934 < x7 then (spec_FlowMost.l0 k x1 x2 t934 (wrap64 (x8 + 1)) p3 p4) else (spec_FlowMost.l0 k x1 x2 x7 (wrap64 (x8 + 1)) p3 p4)))) else (spec_FlowMost.l0 k x1 x2 x7 (wrap64 (x8 + 1)) p3 p4)
end
end Go.Proofs.Ytlhmljngjdfbpaa.Pr
end
section
set_option linter.unusedSimpArgs false
set_option linter.unusedVariables false
namespace Go.Proofs.Ytlhmljngjdfbpaa.Pure
open Go.RowKit Go.Proofs.Ytlhmljngjdfbpaa.Pr Go.Proofs.YtlhmljngjdfbpaaW.PrintWords Go.Proofs.YtlhmljngjdfbpaaW.PrintLast Go.Proofs.YtlhmljngjdfbpaaW.PrintMore
def side (s v : Nat) : Bool:=s.testBit v
theorem shr_fin : ∀ (s : Fin 256) (v : Fin 8),((Int.tmod (shr .i64 ((s.val : Nat) : Int) ((v.val : Nat) : Int)) 2) == 1) = s.val.testBit v.val ∧ Go.bits .and .i64 (shr .i64 ((s.val : Nat) : Int) ((v.val : Nat) : Int)) 1 = (if s.val.testBit v.val then 1 else 0):=by decide +kernel
theorem shl_fin : ∀ (v : Fin 9),shl .i64 1 ((v.val : Nat) : Int) = ((2 ^ v.val : Nat) : Int):=by decide +kernel
theorem two8 {v : Nat} (h : v ≤ 8) : 2 ^ v ≤ 256:=by
 have : (2:Nat) ^ v ≤ 2 ^ 8:=Nat.pow_le_pow_right (by omega) h;omega
theorem side_spec {s v : Nat} (hs : s < 256) (hv : v < 8) : spec_l25Side.f (s : Int) (v : Int) = some (side s v):=by
 unfold spec_l25Side.f side
 rw [if_pos (by omega),(shr_fin ⟨s,hs⟩ ⟨v,hv⟩).1]
theorem side_bits {s v : Nat} (hs : s < 256) (hv : v < 8) : Go.bits .and .i64 (shr .i64 (s : Int) (v : Int)) 1 = if side s v = true then 1 else 0:=(shr_fin ⟨s,hs⟩ ⟨v,hv⟩).2
def outB (s : Nat) (a : Arc) : Bool:=side s a.f0.toNat && !side s a.f1.toNat
def cutTo (l : List Arc) (s : Nat) : Nat → Int
 | 0 => 0
 | i + 1 => cutTo l s i + if outB s (arc l i) = true then (arc l i).f4 else 0
theorem cutTo_bd {n : Int} {l : List Arc} (h : NetGood n l) (s : Nat) : ∀ i,i ≤ l.length → 0 ≤ cutTo l s i ∧ cutTo l s i ≤ 9 * (i : Int):=by
 intro i
 induction i with
 | zero => intro _; simp [cutTo]
 | succ i ih =>
  intro hi;have h1:=ih (by omega);have h2:=(h.ok i (by omega)).2.2.2.2.2;simp only [cutTo]
  split <;> omega
def cutOf (l : List Arc) (s : Nat) : Int:=cutTo l s l.length
theorem cutOf_bd {n : Int} {l : List Arc} (h : NetGood n l) (s : Nat) : 0 ≤ cutOf l s ∧ cutOf l s ≤ 144:=by
 have:=cutTo_bd h s l.length (by omega);have:=h.len
 unfold cutOf
 omega
theorem node8 {n : Int} {l : List Arc} (h : NetGood n l) {i : Nat} (hi : i < l.length) : (∃ v : Nat,(arc l i).f0 = (v : Int) ∧ v < 8) ∧ ∃ v : Nat,(arc l i).f1 = (v : Int) ∧ v < 8:=by
 have h1:=h.ok i hi;have:=h.n8;exact ⟨⟨(arc l i).f0.toNat,by omega,by omega⟩,⟨(arc l i).f1.toNat,by omega,by omega⟩⟩
theorem specCut_l {n : Int} {l : List Arc} (hg : NetGood n l) {s : Nat} (hs : s < 256) : ∀ (m i : Nat),l.length - i = m → i ≤ l.length → Ev (fun k => spec_l25Cut.l0 k (s : Int) (cutTo l s i) (i : Int) n l) (cutOf l s):=by
 have h16:=hg.len;intro m
 induction m with
 | zero =>
  intro i hd hi;refine Ev.go ?_ (fun k => by rw [spec_l25Cut.l0]);have e : i = l.length:=by omega
  subst e;exact Ev.neg (by omega) (Ev.now _)
 | succ m ih =>
  intro i hd hi;have hlt : i < l.length:=by omega
  have hn:=ih (i + 1) (by omega) (by omega);refine Ev.go ?_ (fun k => by rw [spec_l25Cut.l0]);refine Ev.pos (by omega) (Ev.pos (by omega) ?_);obtain ⟨⟨v0,e0,h0⟩,v1,e1,h1⟩:=node8 hg hlt;have hw : wrap64 (cutTo l s i + (arc l i).f4) = cutTo l s i + (arc l i).f4:=by
   have hb:=cutTo_bd hg s i (by omega);have hf:=(hg.ok i hlt).2.2.2.2.2;clear hn e0 e1;generalize cutTo l s i = c at *;generalize (arc l i).f4 = f at *;exact w64 (by omega) (by omega)
  have hu:=up1 hlt (by simp only [maxLen]; omega);rw [rda,e0,e1,hu,hw];simp only [cutTo,outB,e0,e1,Int.toNat_natCast] at hn;refine Ev.bind0 (side_spec hs h0) ?_;cases c0 : side s v0 with
  | false =>
   rw [c0] at hn;exact Ev.neg (by simp) (by simpa using hn)
  | true =>
   refine Ev.pos rfl (Ev.bind0 (side_spec hs h1) ?_);rw [c0] at hn;cases c1 : side s v1 with
   | true =>
    rw [c1] at hn;exact Ev.pos rfl (by simpa using hn)
   | false =>
    rw [c1] at hn;exact Ev.neg (by simp) (by simpa using hn)
theorem specCut_ev {n : Int} {l : List Arc} (hg : NetGood n l) {s : Nat} (hs : s < 256) : Ev (fun k => spec_l25Cut.f k n l (s : Int)) (cutOf l s):=specCut_l hg hs _ 0 rfl (by omega)
theorem implCut_l {n : Int} {l : List Arc} (hg : NetGood n l) {s : Nat} (hs : s < 256) : ∀ (m i : Nat),l.length - i = m → i ≤ l.length → Ev (fun k => impl_Net_cut.l0 k (s : Int) (cutTo l s i) l (l.length : Int) (i : Int)) (cutOf l s):=by
 have h16:=hg.len;intro m
 induction m with
 | zero =>
  intro i hd hi;refine Ev.go ?_ (fun k => by rw [impl_Net_cut.l0]);have e : i = l.length:=by omega
  subst e;exact Ev.neg (by omega) (Ev.now _)
 | succ m ih =>
  intro i hd hi;have hlt : i < l.length:=by omega
  have hn:=ih (i + 1) (by omega) (by omega);refine Ev.go ?_ (fun k => by rw [impl_Net_cut.l0]);refine Ev.pos (by omega) (Ev.pos (by omega) (Ev.pos (by omega) ?_));obtain ⟨⟨v0,e0,h0⟩,v1,e1,h1⟩:=node8 hg hlt;have hw : wrap64 (cutTo l s i + (arc l i).f4) = cutTo l s i + (arc l i).f4:=by
   have hb:=cutTo_bd hg s i (by omega);have hf:=(hg.ok i hlt).2.2.2.2.2;clear hn e0 e1;generalize cutTo l s i = c at *;generalize (arc l i).f4 = f at *;exact w64 (by omega) (by omega)
  have hu:=up1 hlt (by simp only [maxLen]; omega);rw [rda,e0,e1,hu,hw,side_bits hs h0,side_bits hs h1];simp only [cutTo,outB,e0,e1,Int.toNat_natCast] at hn;refine Ev.pos (by omega) ?_;cases c0 : side s v0 with
  | false =>
   rw [c0] at hn;exact Ev.neg (by simp) (by simpa using hn)
  | true =>
   refine Ev.pos rfl (Ev.pos (by omega) ?_);rw [c0] at hn;cases c1 : side s v1 with
   | true =>
    rw [c1] at hn;exact Ev.neg (by simp) (by simpa using hn)
   | false =>
    rw [c1] at hn;exact Ev.pos (by simp) (by simpa using hn)
theorem implCut_ev {n : Int} {l : List Arc} (hg : NetGood n l) {s : Nat} (hs : s < 256) : Ev (fun k => impl_Net_cut.f k n l (s : Int)) (cutOf l s):=implCut_l hg hs _ 0 rfl (by omega)
def mostTo (l : List Arc) (a b : Nat) : Nat → Int
 | 0 => -1
 | s + 1 => if side s a = true then (if side s b = true then mostTo l a b s else if mostTo l a b s < 0 then cutOf l s else if cutOf l s < mostTo l a b s then cutOf l s else mostTo l a b s) else mostTo l a b s
theorem specMost_l {n : Int} {l : List Arc} (hg : NetGood n l) {a b : Nat} (ha : a < 8) (hb : b < 8) {N : Nat} (hN : n = (N : Int)) : ∀ (m s : Nat),2 ^ N - s = m → s ≤ 2 ^ N → Ev (fun k => spec_FlowMost.l0 k (a : Int) (b : Int) (mostTo l a b s) (s : Int) n l) (mostTo l a b (2 ^ N)):=by
 have hN8 : N ≤ 8:=by have:=hg.n8; omega
 have h256:=two8 hN8;have hsh : shl .i64 1 n = ((2 ^ N : Nat) : Int):=by rw [hN]; exact shl_fin ⟨N,by omega⟩
 intro m
 induction m with
 | zero =>
  intro s hd hi;refine Ev.go ?_ (fun k => by rw [spec_FlowMost.l0]);have e : s = 2 ^ N:=by omega
  refine Ev.pos (by have:=hg.n1; omega) ?_;rw [hsh];subst e;exact Ev.neg (by omega) (Ev.now _)
 | succ m ih =>
  intro s hd hi;have hlt : s < 2 ^ N:=by omega
  have hn:=ih (s + 1) (by omega) (by omega);have hu : wrap64 ((s : Int) + 1) = ((s + 1 : Nat) : Int):=up1 hlt (by simp only [maxLen]; omega);rw [← hu] at hn;refine Ev.go ?_ (fun k => by rw [spec_FlowMost.l0]);refine Ev.pos (by have:=hg.n1; omega) ?_;rw [hsh];refine Ev.pos (by omega) (Ev.bind0 (side_spec (by omega) ha) ?_);simp only [mostTo] at hn;cases c0 : side s a with
  | false =>
   rw [c0] at hn;refine Ev.neg (by simp) (Ev.go ?_ (fun k => by rw [spec_FlowMost.j2]));exact Ev.neg (by simp) (by simpa using hn)
  | true =>
   rw [c0] at hn;refine Ev.pos rfl (Ev.bind0 (side_spec (by omega) hb) (Ev.go ?_ (fun k => by rw [spec_FlowMost.j2])));cases c1 : side s b with
   | true =>
    rw [c1] at hn;exact Ev.neg (by simp) (by simpa using hn)
   | false =>
    rw [c1] at hn;refine Ev.pos (by simp) (Ev.bind (specCut_ev hg (by omega)) ?_);simp only [Bool.false_eq_true,if_false,if_true] at hn
    by_cases c2 : mostTo l a b s < 0
    case pos =>
     rw [if_pos c2] at hn;exact Ev.pos c2 hn
    rw [if_neg c2] at hn;refine Ev.neg c2 ?_
    by_cases c3 : cutOf l s < mostTo l a b s
    case neg =>
     rw [if_neg c3] at hn;exact Ev.neg c3 hn
    rw [if_pos c3] at hn;exact Ev.pos c3 hn
theorem implMost_l {n : Int} {l : List Arc} (hg : NetGood n l) {a b : Nat} (ha : a < 8) (hb : b < 8) {N : Nat} (hN : n = (N : Int)) : ∀ (m s : Nat),2 ^ N - s = m → s ≤ 2 ^ N → Ev (fun k => impl_FlowMost.l0 k (a : Int) (b : Int) (mostTo l a b s) ((2 ^ N : Nat) : Int) (s : Int) n l) (mostTo l a b (2 ^ N)):=by
 have hN8 : N ≤ 8:=by have:=hg.n8; omega
 have h256:=two8 hN8;intro m
 induction m with
 | zero =>
  intro s hd hi;refine Ev.go ?_ (fun k => by rw [impl_FlowMost.l0]);have e : s = 2 ^ N:=by omega
  subst e;exact Ev.neg (by omega) (Ev.now _)
 | succ m ih =>
  intro s hd hi;have hlt : s < 2 ^ N:=by omega
  have hn:=ih (s + 1) (by omega) (by omega);have hu : wrap64 ((s : Int) + 1) = ((s + 1 : Nat) : Int):=up1 hlt (by simp only [maxLen]; omega);rw [← hu] at hn;refine Ev.go ?_ (fun k => by rw [impl_FlowMost.l0]);rw [side_bits (by omega) ha,side_bits (by omega) hb];refine Ev.pos (by omega) (Ev.pos (by omega) ?_);simp only [mostTo] at hn;cases c0 : side s a with
  | false =>
   rw [c0] at hn;exact Ev.neg (by simp) (by simpa using hn)
  | true =>
   rw [c0] at hn;refine Ev.pos rfl (Ev.pos (by omega) ?_);cases c1 : side s b with
   | true =>
    rw [c1] at hn;exact Ev.neg (by simp) (by simpa using hn)
   | false =>
    rw [c1] at hn;refine Ev.pos (by simp) ?_;simp only [Bool.false_eq_true,if_false,if_true] at hn
    by_cases c2 : mostTo l a b s < 0
    case pos =>
     rw [if_pos c2] at hn;exact Ev.pos c2 (Ev.bind (implCut_ev hg (by omega)) hn)
    rw [if_neg c2] at hn;refine Ev.neg c2 (Ev.bind (implCut_ev hg (by omega)) ?_)
    by_cases c3 : cutOf l s < mostTo l a b s
    case neg =>
     rw [if_neg c3] at hn;exact Ev.neg c3 hn
    rw [if_pos c3] at hn;exact Ev.pos c3 (Ev.bind (implCut_ev hg (by omega)) hn)
def mostB (n : Int) (l : List Arc) (a b : Int) : Bool:=netOkB n l && (okN n a && (okN n b && (a != b)))
def mostV (n : Int) (l : List Arc) (a b : Int) : Int:=if mostB n l a b = true then mostTo l a.toNat b.toNat (2 ^ n.toNat) else -1
theorem mostB_iff (n : Int) (l : List Arc) (a b : Int) : mostB n l a b = true ↔ NetGood n l ∧ (0 ≤ a ∧ a < n) ∧ (0 ≤ b ∧ b < n) ∧ a ≠ b:=by
 simp only [mostB,Bool.and_eq_true,netOkB_iff,okN,decide_eq_true_eq,bne_iff_ne];constructor
 ·rintro ⟨h1,⟨h2,h3⟩,⟨h4,h5⟩,h6⟩;exact ⟨h1,⟨h2,by omega⟩,⟨h4,by omega⟩,h6⟩
 ·rintro ⟨h1,⟨h2,h3⟩,⟨h4,h5⟩,h6⟩;exact ⟨h1,⟨h2,by omega⟩,⟨h4,by omega⟩,h6⟩
theorem inB_okN {n : Int} {l : List Arc} (h : NetGood n l) (a : Int) : inB a 0 (wrap64 (n - 1)) = okN n a:=by
 have:=h.n1;have:=h.n8;rw [w64 (by omega) (by omega)];rfl
theorem implMost_ev (n : Int) (l : List Arc) (a b : Int) : Ev (fun k => impl_FlowMost.f k n l a b) (mostV n l a b):=by
 unfold impl_FlowMost.f
 refine Ev.bind0 (apart_eq n l a b) ?_
 unfold mostV
 change Ev (fun k => if mostB n l a b = true then _ else _) _
 cases hx : mostB n l a b with
 | false => exact Ev.neg (by simp) (Ev.now _)
 | true =>
  obtain ⟨hg,ha,hb,hne⟩:=(mostB_iff n l a b).1 hx;have h1:=hg.n1;have h8:=hg.n8;refine Ev.pos rfl (Ev.pos (by omega) ?_);rw [if_pos rfl];have:=implMost_l hg (a:=a.toNat) (b:=b.toNat) (by omega) (by omega) (N:=n.toNat) (by omega) _ 0 rfl (Nat.zero_le _);rw [show ((a.toNat : Nat) : Int) = a by omega,show ((b.toNat : Nat) : Int) = b by omega] at this;have hsh : shl .i64 1 n = ((2 ^ n.toNat : Nat) : Int):=by
   have:=shl_fin ⟨n.toNat,by omega⟩
   rwa [show ((n.toNat : Nat) : Int) = n by omega] at this
  rw [hsh];exact this
end Go.Proofs.Ytlhmljngjdfbpaa.Pure
end
section
set_option linter.unusedSimpArgs false
set_option linter.unusedVariables false
set_option linter.unusedVariables false
end
section
namespace Go.Proofs.Ytlhmljngjdfbpaa.Pr
open Go.RowKit Go.Proofs.YtlhmljngjdfbpaaW.PrintWords Go.Proofs.YtlhmljngjdfbpaaW.PrintLast Go.Proofs.YtlhmljngjdfbpaaW.PrintMore
attribute [local go_sem] max2_int min2_int max_two min_two max_three min_three max_four min_four
set_option linter.unusedVariables false
set_option linter.unusedSimpArgs false
open List renaming setIfInBounds_toArray → U,set_cons_zero → V,set_cons_succ → Z
open Go.Proofs.YtlhmljngjdfbpaaW.PrintWords.Aside0 renaming mk → zx
mutual
def spec_l25Ok.l0 : Nat → List Int → Int → Int → List Int → Int → Int → List (S58) → Option (Int × Bool)
 | 0,_,_,_,_,_,_,_ => none
 | k + 1,x1,x2,x3,x10,x11,r7,q0 => if x11 < (q0.length : Int) then (if 0 ≤ x11 then (if x11 < (x1.length : Int) then ((spec_l1In.f (rd x1 x11) 0 ((rd_T58 q0 x11).f4)).bind fun t755 => (if t755 = true then (if 0 ≤ ((rd_T58 q0 x11).f0) then (if ((rd_T58 q0 x11).f0) < (x10.length : Int) then ((some (x10.set (((rd_T58 q0 x11).f0) : Int).toNat (wrap64 ((rd x10 ((rd_T58 q0 x11).f0)) + (rd x1 x11))) : List Int)).bind fun y760 => (if 0 ≤ ((rd_T58 q0 x11).f1) then (if ((rd_T58 q0 x11).f1) < (x10.length : Int) then (spec_l25Ok.l0 k x1 x2 x3 (y760.set (((rd_T58 q0 x11).f1) : Int).toNat (wrap64 ((rd y760 ((rd_T58 q0 x11).f1)) - (rd x1 x11)))) (wrap64 (x11 + 1)) r7 q0) else (none)) else (none))) else (none)) else (none)) else (some (0,false)))) else (none)) else (none)) else (spec_l25Ok.l1 k x2 x3 x10 0 r7 q0)
def spec_l25Ok.l1 : Nat → Int → Int → List Int → Int → Int → List (S58) → Option (Int × Bool)
 | 0,_,_,_,_,_,_ => none
 | k + 1,x2,x3,x10,x12,r7,q0 => if x12 < r7 then (if 0 ≤ x12 then (if x12 < (x10.length : Int) then (if (rd x10 x12) = 0 then (spec_l25Ok.l1 k x2 x3 x10 (wrap64 (x12 + 1)) r7 q0) else (if x12 = x2 then (spec_l25Ok.l1 k x2 x3 x10 (wrap64 (x12 + 1)) r7 q0) else (if x12 = x3 then (spec_l25Ok.l1 k x2 x3 x10 (wrap64 (x12 + 1)) r7 q0) else (some (0,false))))) else (none)) else (none)) else (if 0 ≤ x2 then (if x2 < (x10.length : Int) then (some (rd x10 x2,true)) else (none)) else (none))
end
def spec_l25Ok.f (k : Nat) (a0_0 : Int) (l0_1 : List (S58)) (l1 : List Int) (a2 : Int) (a3 : Int) : Option (Int × Bool):=if 0 ≤ a0_0 then (if (a0_0 : Int).toNat ≤ 35184372088832 then (spec_l25Ok.l0 k l1 a2 a3 (List.replicate (a0_0 : Int).toNat 0) 0 a0_0 l0_1) else (none)) else (none)
def spec_FlowValue.f (k : Nat) (a0_0 : Int) (l0_1 : List (S58)) (l1 : List Int) (a2 : Int) (a3 : Int) : Option (Int × Bool):=(spec_l1Ok.f k a0_0 l0_1).bind fun t769 => (if t769 = true then ((spec_l1In.f a2 0 (wrap64 (a0_0 - 1))).bind fun t770 => (if t770 = true then ((spec_l1In.f a3 0 (wrap64 (a0_0 - 1))).bind fun t771 => (if t771 = true then (if a2 = a3 then (some (0,false)) else (if (l1.length : Int) = (l0_1.length : Int) then ((spec_l25Ok.f k a0_0 l0_1 l1 a2 a3).bind fun bt772 => (some (bt772.1,bt772.2))) else (some (0,false)))) else (some (0,false)))) else (some (0,false)))) else (some (0,false)))
end Go.Proofs.Ytlhmljngjdfbpaa.Pr
end
section
set_option linter.unusedSimpArgs false
set_option linter.unusedVariables false
namespace Go.Proofs.Ytlhmljngjdfbpaa.Pure
open Go.RowKit Go.Proofs.Ytlhmljngjdfbpaa.Pr Go.Proofs.YtlhmljngjdfbpaaW.PrintWords Go.Proofs.YtlhmljngjdfbpaaW.PrintLast Go.Proofs.YtlhmljngjdfbpaaW.PrintMore
def netTo (n : Int) (l : List Arc) (x : List Int) : Nat → List Int
 | 0 => List.replicate n.toNat 0
 | i + 1 =>
  let y:=(netTo n l x i).set (arc l i).f0.toNat (wrap64 (rd (netTo n l x i) (arc l i).f0 + nth x i))
  y.set (arc l i).f1.toNat (wrap64 (rd y (arc l i).f1 - nth x i))
theorem netTo_len (n : Int) (l : List Arc) (x : List Int) (i : Nat) : (netTo n l x i).length = n.toNat:=by
 induction i with
 | zero => simp [netTo]
 | succ i ih => simp [netTo,ih]
def EvenFrom (y : List Int) (a b : Int) (v : Nat) : Prop:=∀ j,j < y.length → v ≤ j → nth y j = 0 ∨ (j : Int) = a ∨ (j : Int) = b
def FitsFrom (l : List Arc) (x : List Int) (i : Nat) : Prop:=∀ j,j < l.length → i ≤ j → 0 ≤ nth x j ∧ nth x j ≤ (arc l j).f4
def ValueOk (n : Int) (l : List Arc) (x : List Int) (a b : Int) : Prop:=FitsFrom l x 0 ∧ EvenFrom (netTo n l x l.length) a b 0
open Classical in
noncomputable def valueV (n : Int) (l : List Arc) (x : List Int) (a b : Int) : Int × Bool:=if mostB n l a b = true ∧ x.length = l.length ∧ ValueOk n l x a b then (rd (netTo n l x l.length) a,true) else (0,false)
open Classical in
theorem specEven_l {n : Int} {l : List Arc} (hg : NetGood n l) {a b : Int} (ha : 0 ≤ a ∧ a < n) (y : List Int) (hy : y.length = n.toNat) : ∀ (m v : Nat),y.length - v = m → v ≤ y.length → Ev (fun k => spec_l25Ok.l1 k a b y (v : Int) n l) (if EvenFrom y a b v then (rd y a,true) else (0,false)):=by
 have h8:=hg.n8;have h1:=hg.n1;intro m
 induction m with
 | zero =>
  intro v hd hi;refine Ev.go ?_ (fun k => by rw [spec_l25Ok.l1]);refine Ev.neg (by omega) (Ev.pos (by omega) (Ev.pos (by omega) ?_));rw [if_pos (show EvenFrom y a b v from fun j h1 h2 => absurd h1 (by omega))];exact Ev.now _
 | succ m ih =>
  intro v hd hi;have hlt : v < y.length:=by omega
  have hn:=ih (v + 1) (by omega) (by omega);have step : EvenFrom y a b v ↔ (nth y v = 0 ∨ (v : Int) = a ∨ (v : Int) = b) ∧ EvenFrom y a b (v + 1):=by
   constructor
   ·exact fun h => ⟨h v hlt (Nat.le_refl _),fun j hj hij => h j hj (by omega)⟩
   ·intro h j hj hij
    by_cases e : j = v
    case pos => subst e; exact h.1
    exact h.2 j hj (by omega)
  rw [← up1 hlt (by simp only [maxLen]; omega)] at hn;refine Ev.go ?_ (fun k => by rw [spec_l25Ok.l1]);refine Ev.pos (by omega) (Ev.pos (by omega) (Ev.pos (by omega) ?_));rw [rdg v]
  by_cases c0 : nth y v = 0
  case pos => exact Ev.pos c0 (hn.cast (by rw [step]; simp [c0]))
  refine Ev.neg c0 ?_
  by_cases c1 : (v : Int) = a
  case pos => exact Ev.pos c1 (hn.cast (by rw [step]; simp [c1]))
  refine Ev.neg c1 ?_
  by_cases c2 : (v : Int) = b
  case pos => exact Ev.pos c2 (hn.cast (by rw [step]; simp [c2]))
  exact Ev.neg c2 (Ev.is (by rw [step]; simp [c0,c1,c2]))
open Classical in
theorem specVal_l {n : Int} {l : List Arc} (hg : NetGood n l) {a b : Int} (ha : 0 ≤ a ∧ a < n) (x : List Int) (hx : x.length = l.length) : ∀ (m i : Nat),l.length - i = m → i ≤ l.length → Ev (fun k => spec_l25Ok.l0 k x a b (netTo n l x i) (i : Int) n l) (if FitsFrom l x i ∧ EvenFrom (netTo n l x l.length) a b 0 then (rd (netTo n l x l.length) a,true) else (0,false)):=by
 have h16:=hg.len;intro m
 induction m with
 | zero =>
  intro i hd hi;have e : i = l.length:=by omega
  subst e;refine Ev.go ?_ (fun k => by rw [spec_l25Ok.l0]);refine Ev.neg (by omega) ((specEven_l hg ha _ (netTo_len n l x _) _ 0 rfl (Nat.zero_le _)).cast ?_);have : FitsFrom l x l.length:=fun j h1 h2 => absurd h1 (by omega)
  simp [this]
 | succ m ih =>
  intro i hd hi;have hlt : i < l.length:=by omega
  have hn:=ih (i + 1) (by omega) (by omega);have hlen:=netTo_len n l x i;have step : FitsFrom l x i ↔ (0 ≤ nth x i ∧ nth x i ≤ (arc l i).f4) ∧ FitsFrom l x (i + 1):=by
   constructor
   ·exact fun h => ⟨h i hlt (Nat.le_refl _),fun j hj hij => h j hj (by omega)⟩
   ·intro h j hj hij
    by_cases e : j = i
    case pos => subst e; exact h.1
    exact h.2 j hj (by omega)
  have h1:=hg.n1;refine Ev.go ?_ (fun k => by rw [spec_l25Ok.l0]);refine Ev.pos (by omega) (Ev.pos (by omega) (Ev.pos (by omega) (Ev.bind0 (in1 _ _ _) ?_)));rw [rda,rdg i];cases c0 : inB (nth x i) 0 (arc l i).f4 with
  | false =>
   refine Ev.neg (by simp) (Ev.is ?_);rw [if_neg];intro h;have:=inB_iff.2 (step.1 h.1).1;rw [c0] at this;simp at this
  | true =>
   have hf:=inB_iff.1 c0;have ho:=hg.ok i hlt;have hu:=up1 hlt (by simp only [maxLen]; omega);refine Ev.pos rfl ?_;have hl0 : (arc l i).f0 < ((netTo n l x i).length : Int):=by rw [hlen]; omega
   have hl1 : (arc l i).f1 < ((netTo n l x i).length : Int):=by rw [hlen]; omega
   refine Ev.pos ho.1.1 (Ev.pos hl0 (Ev.bind0 rfl (Ev.pos ho.2.1.1 (Ev.pos (by exact hl1) ?_))));rw [hu];refine hn.cast ?_;rw [step];simp [hf]
open Classical in
theorem implEven_l {n : Int} {l : List Arc} (hg : NetGood n l) {a b : Int} (ha : 0 ≤ a ∧ a < n) (y : List Int) (hy : y.length = n.toNat) : ∀ (m v : Nat),y.length - v = m → v ≤ y.length → Ev (fun k => impl_FlowValue.l1 k a b y (y.length : Int) (v : Int)) (if EvenFrom y a b v then (rd y a,true) else (0,false)):=by
 have h8:=hg.n8;have h1:=hg.n1;intro m
 induction m with
 | zero =>
  intro v hd hi;refine Ev.go ?_ (fun k => by rw [impl_FlowValue.l1]);refine Ev.neg (by omega) (Ev.pos (by omega) (Ev.pos (by omega) ?_));rw [if_pos (show EvenFrom y a b v from fun j h1 h2 => absurd h1 (by omega))];exact Ev.now _
 | succ m ih =>
  intro v hd hi;have hlt : v < y.length:=by omega
  have hn:=ih (v + 1) (by omega) (by omega);have step : EvenFrom y a b v ↔ (nth y v = 0 ∨ (v : Int) = a ∨ (v : Int) = b) ∧ EvenFrom y a b (v + 1):=by
   constructor
   ·exact fun h => ⟨h v hlt (Nat.le_refl _),fun j hj hij => h j hj (by omega)⟩
   ·intro h j hj hij
    by_cases e : j = v
    case pos => subst e; exact h.1
    exact h.2 j hj (by omega)
  rw [← up1 hlt (by simp only [maxLen]; omega)] at hn;refine Ev.go ?_ (fun k => by rw [impl_FlowValue.l1]);refine Ev.pos (by omega) (Ev.pos (by omega) (Ev.pos (by omega) ?_));rw [rdg v]
  by_cases c0 : nth y v = 0
  case pos => exact Ev.pos c0 (hn.cast (by rw [step]; simp [c0]))
  refine Ev.neg c0 ?_
  by_cases c1 : (v : Int) = a
  case pos => exact Ev.pos c1 (hn.cast (by rw [step]; simp [c1]))
  refine Ev.neg c1 ?_
  by_cases c2 : (v : Int) = b
  case pos => exact Ev.pos c2 (hn.cast (by rw [step]; simp [c2]))
  exact Ev.neg c2 (Ev.is (by rw [step]; simp [c0,c1,c2]))
open Classical in
theorem implVal_l {n : Int} {l : List Arc} (hg : NetGood n l) {a b : Int} (ha : 0 ≤ a ∧ a < n) (x : List Int) (hx : x.length = l.length) : ∀ (m i : Nat),l.length - i = m → i ≤ l.length → Ev (fun k => impl_FlowValue.l0 k x a b (netTo n l x i) l (l.length : Int) (i : Int)) (if FitsFrom l x i ∧ EvenFrom (netTo n l x l.length) a b 0 then (rd (netTo n l x l.length) a,true) else (0,false)):=by
 have h16:=hg.len;intro m
 induction m with
 | zero =>
  intro i hd hi;have e : i = l.length:=by omega
  subst e;refine Ev.go ?_ (fun k => by rw [impl_FlowValue.l0]);refine Ev.neg (by omega) ((implEven_l hg ha _ (netTo_len n l x _) _ 0 rfl (Nat.zero_le _)).cast ?_);have : FitsFrom l x l.length:=fun j h1 h2 => absurd h1 (by omega)
  simp [this]
 | succ m ih =>
  intro i hd hi;have hlt : i < l.length:=by omega
  have hn:=ih (i + 1) (by omega) (by omega);have hlen:=netTo_len n l x i;have step : FitsFrom l x i ↔ (0 ≤ nth x i ∧ nth x i ≤ (arc l i).f4) ∧ FitsFrom l x (i + 1):=by
   constructor
   ·exact fun h => ⟨h i hlt (Nat.le_refl _),fun j hj hij => h j hj (by omega)⟩
   ·intro h j hj hij
    by_cases e : j = i
    case pos => subst e; exact h.1
    exact h.2 j hj (by omega)
  have h1:=hg.n1;refine Ev.go ?_ (fun k => by rw [impl_FlowValue.l0]);refine Ev.pos (by omega) (Ev.pos (by omega) (Ev.pos (by omega) (Ev.pos (by omega) (Ev.bind0 (within1 _ _ _) ?_))));rw [rda,rdg i];cases c0 : inB (nth x i) 0 (arc l i).f4 with
  | false =>
   refine Ev.neg (by simp) (Ev.is ?_);rw [if_neg];intro h;have:=inB_iff.2 (step.1 h.1).1;rw [c0] at this;simp at this
  | true =>
   have hf:=inB_iff.1 c0;have ho:=hg.ok i hlt;have hu:=up1 hlt (by simp only [maxLen]; omega);refine Ev.pos rfl ?_;have hl0 : (arc l i).f0 < ((netTo n l x i).length : Int):=by rw [hlen]; omega
   have hl1 : (arc l i).f1 < ((netTo n l x i).length : Int):=by rw [hlen]; omega
   refine Ev.pos ho.1.1 (Ev.pos hl0 (Ev.bind0 rfl (Ev.pos ho.2.1.1 (Ev.pos (by exact hl1) ?_))));rw [hu];refine hn.cast ?_;rw [step];simp [hf]
theorem specValue_ev (n : Int) (l : List Arc) (x : List Int) (a b : Int) (hm : l.length ≤ maxLen) : Ev (fun k => spec_FlowValue.f k n l x a b) (valueV n l x a b):=by
 unfold spec_FlowValue.f
 have bad : mostB n l a b = false → valueV n l x a b = (0,false):=by
  intro h
  unfold valueV
  rw [if_neg (by simp [h])]
 refine Ev.bind (l1Ok_ev n l hm) ?_;cases c0 : netOkB n l with
 | false => exact Ev.neg (by simp) (Ev.is (bad (by simp [mostB,c0])).symm)
 | true =>
  have hg:=(netOkB_iff n l).1 c0;refine Ev.pos rfl (Ev.bind0 (in1 _ _ _) ?_);rw [inB_okN hg];cases c1 : okN n a with
  | false => exact Ev.neg (by simp) (Ev.is (bad (by simp [mostB,c1])).symm)
  | true =>
   refine Ev.pos rfl (Ev.bind0 (in1 _ _ _) ?_);rw [inB_okN hg];cases c2 : okN n b with
   | false => exact Ev.neg (by simp) (Ev.is (bad (by simp [mostB,c2])).symm)
   | true =>
    refine Ev.pos rfl ?_
    by_cases c3 : a = b
    case pos => exact Ev.pos c3 (Ev.is (bad (by simp [mostB,c3])).symm)
    refine Ev.neg c3 ?_;have hB : mostB n l a b = true:=by simp [mostB,c0,c1,c2,c3]
    obtain ⟨_,ha,hb,_⟩:=(mostB_iff n l a b).1 hB
    by_cases c4 : x.length = l.length
    case neg =>
     refine Ev.neg (by omega) (Ev.is ?_)
     unfold valueV
     rw [if_neg (by simp [c4])]
    refine Ev.pos (by omega) (Ev.bind (a:=valueV n l x a b) ?_ (Ev.now _))
    unfold spec_l25Ok.f
    have h1:=hg.n1;have h8:=hg.n8;refine Ev.pos (by omega) (Ev.pos (by omega) ?_);refine (specVal_l hg ha x c4 _ 0 rfl (Nat.zero_le _)).cast ?_
    unfold valueV
    by_cases hv : ValueOk n l x a b
    case pos => rw [if_pos (show FitsFrom l x 0 ∧ EvenFrom (netTo n l x l.length) a b 0 from hv),if_pos ⟨hB,c4,hv⟩]
    rw [if_neg (show ¬ (FitsFrom l x 0 ∧ EvenFrom (netTo n l x l.length) a b 0) from hv),if_neg (fun h => hv h.2.2)]
theorem implValue_ev (n : Int) (l : List Arc) (x : List Int) (a b : Int) : Ev (fun k => impl_FlowValue.f k n l x a b) (valueV n l x a b):=by
 unfold impl_FlowValue.f
 refine Ev.bind0 (apart_eq n l a b) ?_
 change Ev (fun k => if mostB n l a b = true then _ else _) _
 cases hB : mostB n l a b with
 | false =>
  refine Ev.neg (by simp) (Ev.go ?_ (fun k => by rw [impl_FlowValue.j0]));refine Ev.pos rfl (Ev.is ?_)
  unfold valueV
  rw [if_neg (by simp [hB])]
 | true =>
  obtain ⟨hg,ha,hb,_⟩:=(mostB_iff n l a b).1 hB;refine Ev.pos rfl (Ev.go ?_ (fun k => by rw [impl_FlowValue.j0]))
  by_cases c4 : x.length = l.length
  case neg =>
   refine Ev.pos (by simp; omega) (Ev.is ?_)
   unfold valueV
   rw [if_neg (by simp [c4])]
  have h1:=hg.n1;have h8:=hg.n8;refine Ev.neg (by simp [c4]) (Ev.pos (by omega) (Ev.pos (by omega) ?_));refine (implVal_l hg ha x c4 _ 0 rfl (Nat.zero_le _)).cast ?_
  unfold valueV
  by_cases hv : ValueOk n l x a b
  case pos => rw [if_pos (show FitsFrom l x 0 ∧ EvenFrom (netTo n l x l.length) a b 0 from hv),if_pos ⟨hB,c4,hv⟩]
  rw [if_neg (show ¬ (FitsFrom l x 0 ∧ EvenFrom (netTo n l x l.length) a b 0) from hv),if_neg (fun h => hv h.2.2)]
end Go.Proofs.Ytlhmljngjdfbpaa.Pure
end
section
set_option linter.unusedSectionVars false
namespace Go.Proofs.Ytlhmljngjdfbpaa.Fl
def sm (F : Nat → Int) : Nat → Int
 | 0 => 0
 | n + 1 => sm F n + F n
theorem sm_congr {F H : Nat → Int} {n : Nat} (h : ∀ i,i < n → F i = H i) : sm F n = sm H n:=by
 induction n with
 | zero => rfl
 | succ n ih => simp only [sm]; rw [ih (fun i hi => h i (by omega)),h n (by omega)]
theorem sm_add (F H : Nat → Int) (n : Nat) : sm (fun i => F i + H i) n = sm F n + sm H n:=by
 induction n with
 | zero => rfl
 | succ n ih => simp only [sm]; rw [ih]; omega
theorem sm_sub (F H : Nat → Int) (n : Nat) : sm (fun i => F i - H i) n = sm F n - sm H n:=by
 induction n with
 | zero => rfl
 | succ n ih => simp only [sm]; rw [ih]; omega
theorem sm_zero (n : Nat) : sm (fun _ => 0) n = 0:=by
 induction n with
 | zero => rfl
 | succ n ih => simp only [sm]; rw [ih]; rfl
theorem sm_le {F H : Nat → Int} {n : Nat} (h : ∀ i,i < n → F i ≤ H i) : sm F n ≤ sm H n:=by
 induction n with
 | zero => exact Int.le_refl _
 | succ n ih => simp only [sm]; have:=ih (fun i hi => h i (by omega)); have:=h n (by omega); omega
theorem sm_swap (F : Nat → Nat → Int) (n m : Nat) : sm (fun v => sm (F v) m) n = sm (fun i => sm (fun v => F v i) n) m:=by
 induction n with
 | zero => simp only [sm]; rw [sm_zero]
 | succ n ih => simp only [sm]; rw [ih,sm_add]
theorem sm_one (n a : Nat) (x : Int) (h : a < n) : sm (fun v => if v = a then x else 0) n = x:=by
 induction n with
 | zero => omega
 | succ n ih =>
  simp only [sm]
  by_cases e : a = n
  case neg =>
   rw [ih (by omega),if_neg (by omega)];omega
  subst e;rw [if_pos rfl,sm_congr (H:=fun _ => 0) (fun i hi => by rw [if_neg (by omega)]),sm_zero];omega
theorem sm_pick (n a : Nat) (S : Nat → Bool) (x : Int) (h : a < n) : sm (fun v => if S v = true then (if a = v then x else 0) else 0) n = if S a = true then x else 0:=by
 have : sm (fun v => if S v = true then (if a = v then x else 0) else 0) n = sm (fun v => if v = a then (if S a = true then x else 0) else 0) n:=by
  apply sm_congr
  intro v _
  by_cases e : v = a
  case pos => subst e; simp
  have e' : ¬ a = v:=fun h => e h.symm
  rw [if_neg e]; simp [e']
 rw [this,sm_one n a _ h]
section
variable {n m : Nat} {fr tw : Nat → Nat} {f : Nat → Int} (hf : ∀ i,i < m → fr i < n) (ht : ∀ i,i < m → tw i < n)
def net (m : Nat) (fr tw : Nat → Nat) (f : Nat → Int) (v : Nat) : Int:=sm (fun i => (if fr i = v then f i else 0) - (if tw i = v then f i else 0)) m
include hf ht
theorem net_set (S : Nat → Bool) : sm (fun v => if S v = true then net m fr tw f v else 0) n = sm (fun i => (if S (fr i) = true then f i else 0) - (if S (tw i) = true then f i else 0)) m:=by
 have h1 : sm (fun v => if S v = true then net m fr tw f v else 0) n = sm (fun v => sm (fun i => (if S v = true then (if fr i = v then f i else 0) else 0) - (if S v = true then (if tw i = v then f i else 0) else 0)) m) n:=by
  apply sm_congr
  intro v _
  by_cases e : S v = true
  case pos => simp only [e,if_true,net]
  simp only [e,if_false,Bool.false_eq_true];rw [show (fun i : Nat => (0 : Int) - 0) = fun _ => 0 from rfl,sm_zero]
 rw [h1,sm_swap]
 apply sm_congr
 intro i hi;rw [sm_sub,sm_pick n (fr i) S (f i) (hf i hi),sm_pick n (tw i) S (f i) (ht i hi)]
theorem net_cut {s t : Nat} (hs : s < n) (hz : ∀ v,v < n → v ≠ s → v ≠ t → net m fr tw f v = 0) (S : Nat → Bool) (h1 : S s = true) (h2 : S t = false) : net m fr tw f s = sm (fun i => (if S (fr i) = true then f i else 0) - (if S (tw i) = true then f i else 0)) m:=by
 rw [← net_set hf ht S];have : sm (fun v => if S v = true then net m fr tw f v else 0) n = sm (fun v => if v = s then net m fr tw f s else 0) n:=by
  apply sm_congr
  intro v hv
  by_cases e : v = s
  case pos => subst e; rw [if_pos h1,if_pos rfl]
  rw [if_neg e]
  split
  ·rename_i h3;exact hz v hv e (by rintro rfl; rw [h2] at h3; cases h3)
  ·rfl
 rw [this,sm_one n s _ hs]
end
def cut (m : Nat) (fr tw : Nat → Nat) (cap : Nat → Int) (S : Nat → Bool) : Int:=sm (fun i => if S (fr i) = true then (if S (tw i) = true then 0 else cap i) else 0) m
section
variable {n m : Nat} {fr tw : Nat → Nat} {f cap : Nat → Int} (hf : ∀ i,i < m → fr i < n) (ht : ∀ i,i < m → tw i < n) (h0 : ∀ i,i < m → 0 ≤ f i ∧ f i ≤ cap i) {s t : Nat} (hs : s < n) (hz : ∀ v,v < n → v ≠ s → v ≠ t → net m fr tw f v = 0)
include hf ht h0 hs hz
theorem value_le (S : Nat → Bool) (h1 : S s = true) (h2 : S t = false) : net m fr tw f s ≤ cut m fr tw cap S:=by
 rw [net_cut hf ht hs hz S h1 h2]
 apply sm_le
 intro i hi;have:=h0 i hi
 by_cases a : S (fr i) = true <;> by_cases b : S (tw i) = true <;> simp only [a,b,if_true,if_false,Bool.false_eq_true] <;> omega
theorem value_eq (S : Nat → Bool) (h1 : S s = true) (h2 : S t = false) (ho : ∀ i,i < m → S (fr i) = true → S (tw i) = false → f i = cap i) (hi : ∀ i,i < m → S (tw i) = true → S (fr i) = false → f i = 0) : net m fr tw f s = cut m fr tw cap S:=by
 rw [net_cut hf ht hs hz S h1 h2]
 apply sm_congr
 intro i h;have:=h0 i h
 by_cases a : S (fr i) = true
 case pos =>
  by_cases b : S (tw i) = true
  case pos => simp only [a,b,if_true]; omega
  have b : S (tw i) = false:=by simpa using b
  simp only [a,b,if_true,if_false,Bool.false_eq_true];have:=ho i h a b;omega
 have a : S (fr i) = false:=by simpa using a
 by_cases b : S (tw i) = true
 case neg => simp only [a,b,if_false,Bool.false_eq_true]; omega
 simp only [a,b,if_true,if_false,Bool.false_eq_true];have:=hi i h b a;omega
end
end Go.Proofs.Ytlhmljngjdfbpaa.Fl
end
section
set_option linter.unusedSectionVars false
namespace Go.Proofs.Ytlhmljngjdfbpaa.Sp
structure G where
 n : Nat
 m : Nat
 fr : Nat → Nat
 tw : Nat → Nat
 w : Nat → Int
 use : Nat → Bool
structure G.Ok (g : G) : Prop where
 fl : ∀ i,i < g.m → g.fr i < g.n
 tl : ∀ i,i < g.m → g.tw i < g.n
 w0 : ∀ i,i < g.m → 0 ≤ g.w i
inductive Wk (g : G) : Nat → Nat → Nat → Int → Prop
 | nil (v : Nat) : Wk g v v 0 0
 | cons {i v k : Nat} {c : Int} : i < g.m → g.use i = true → Wk g (g.tw i) v k c → Wk g (g.fr i) v (k + 1) (g.w i + c)
theorem nodup_len : ∀ (n : Nat) (l : List Nat),l.Nodup → (∀ x ∈ l,x < n) → l.length ≤ n:=by
 intro n
 induction n with
 | zero =>
  intro l _ h;cases l with
  | nil => simp
  | cons a l => exact absurd (h a (by simp)) (by omega)
 | succ n ih =>
  intro l hn h;have h1:=ih (l.erase n) (hn.erase n) (fun x hx => by
   have h2:=h x (List.mem_of_mem_erase hx);have h3 : x ≠ n:=by
    rintro rfl;exact (List.Nodup.not_mem_erase hn) hx
   omega)
  have:=List.length_erase_le (a:=n) (l:=l);have h4 : l.length ≤ (l.erase n).length + 1:=by
   rw [List.length_erase]
   split <;> omega
  omega
inductive Sm (g : G) (t : Nat) : Nat → List Nat → Nat → Int → Prop
 | nil : Sm g t t [t] 0 0
 | cons {i k : Nat} {L : List Nat} {c : Int} : i < g.m → g.use i = true → Sm g t (g.tw i) L k c → g.fr i ∉ L → Sm g t (g.fr i) (g.fr i :: L) (k + 1) (g.w i + c)
def Opt (g : G) (t : Nat) (L : Nat → Option Int) : Prop:=∀ v,v < g.n → (∀ x,L v = some x → ∃ k,Wk g v t k x) ∧ (∀ k c,Wk g v t k c → ∃ x,L v = some x ∧ x ≤ c)
def lts (a : Int) : Option Int → Bool
 | none => true
 | some y => decide (a < y)
def put (L : Nat → Option Int) (a : Nat) (x : Int) : Nat → Option Int:=fun v => if v = a then some x else L v
def relax (g : G) (L : Nat → Option Int) (i : Nat) : Nat → Option Int :=
 if g.use i = true then
  match L (g.tw i) with
  | none => L
  | some x => if lts (x + g.w i) (L (g.fr i)) = true then put L (g.fr i) (x + g.w i) else L
 else L
def sweep (g : G) (L : Nat → Option Int) : Nat → (Nat → Option Int)
 | 0 => L
 | i + 1 => relax g (sweep g L i) i
def start (t : Nat) : Nat → Option Int:=fun v => if v = t then some 0 else none
def rounds (g : G) (t : Nat) : Nat → (Nat → Option Int)
 | 0 => start t
 | r + 1 => sweep g (rounds g t r) g.m
end Go.Proofs.Ytlhmljngjdfbpaa.Sp
namespace Go.Proofs.Ytlhmljngjdfbpaa.Sp
structure Dbl (g e s : G) (D : Nat → Option Int) : Prop where
 en : e.n = g.n
 em : e.m = g.m
 ef : e.fr = g.fr
 et : e.tw = g.tw
 eu : e.use = g.use
 ew : ∀ i,i < g.m → e.w i = 1000 * g.w i + 1
 sn : s.n = g.n
 sm : s.m = g.m
 sf : s.fr = g.fr
 st : s.tw = g.tw
 sw : ∀ i,i < g.m → s.w i = 1
 su : ∀ i,i < g.m → (s.use i = true ↔ g.use i = true ∧ ∃ x,D (g.tw i) = some x ∧ D (g.fr i) = some (g.w i + x))
section
variable {g e s : G} {t : Nat} {D S : Nat → Option Int} (h : Dbl g e s D) (ok : g.Ok) (hD : Opt g t D) (hS : Opt s t S) (ht : t < g.n)
include h
end
end Go.Proofs.Ytlhmljngjdfbpaa.Sp
end
section
set_option linter.unusedSimpArgs false
set_option linter.unusedSectionVars false
set_option linter.unusedVariables false
namespace Go.Proofs.Ytlhmljngjdfbpaa.Fl
def ud (F : Nat → Int) (a : Nat) (x : Int) : Nat → Int:=fun v => if v = a then x else F v
theorem ud_at (F : Nat → Int) (a : Nat) (x : Int) : ud F a x a = x:=by simp [ud]
theorem ud_off (F : Nat → Int) {a v : Nat} (x : Int) (h : v ≠ a) : ud F a x v = F v:=by simp [ud,h]
section
variable {m : Nat} {fr tw : Nat → Nat} {cap f : Nat → Int} {s : Nat}
def Came (m : Nat) (fr tw : Nat → Nat) (cap f : Nat → Int) (b : Int) (u v : Nat) : Prop:=(∃ i : Nat,i < m ∧ b = (i : Int) + 1 ∧ fr i = u ∧ tw i = v ∧ f i < cap i) ∨ (∃ i : Nat,i < m ∧ b = -(i : Int) - 1 ∧ tw i = u ∧ fr i = v ∧ 0 < f i)
structure Tr (m : Nat) (fr tw : Nat → Nat) (cap f : Nat → Int) (s : Nat) (b : Nat → Int) (L : List Nat) : Prop where
 nodup : L.Nodup
 root : s ∈ L
 up : ∀ p v q,L = p ++ v :: q → v ≠ s → ∃ u,u ∈ p ∧ Came m fr tw cap f (b v) u v
 none : ∀ v,v ∉ L ∨ v = s → b v = 0
theorem Came.ne {b : Int} {u v : Nat} (h : Came m fr tw cap f b u v) : b ≠ 0:=by
 rcases h with ⟨i,_,e,_⟩ | ⟨i,_,e,_⟩ <;> omega
theorem Tr.some {b : Nat → Int} {L : List Nat} (h : Tr m fr tw cap f s b L) {v : Nat} (hv : v ∈ L) (hs : v ≠ s) : b v ≠ 0:=by
 obtain ⟨p,q,e⟩:=List.append_of_mem hv;obtain ⟨u,_,c⟩:=h.up p v q e hs;exact c.ne
theorem Tr.free {b : Nat → Int} {L : List Nat} (h : Tr m fr tw cap f s b L) (v : Nat) : (b v = 0 ∧ v ≠ s) ↔ v ∉ L:=by
 constructor
 ·exact fun ⟨h1,h2⟩ hv => h.some hv h2 h1
 ·exact fun hv => ⟨h.none v (.inl hv),fun e => hv (by rw [e]; exact h.root)⟩
theorem Tr.start : Tr m fr tw cap f s (fun _ => 0) [s]:=by
 refine ⟨by simp,by simp,fun p v q e hv => ?_,fun _ _ => rfl⟩;cases p with
 | nil => simp at e; exact absurd e.1.symm hv
 | cons a p => simp at e
theorem Tr.add {b : Nat → Int} {L : List Nat} (h : Tr m fr tw cap f s b L) {u v : Nat} {x : Int} (hu : u ∈ L) (hv : v ∉ L) (c : Came m fr tw cap f x u v) : Tr m fr tw cap f s (ud b v x) (L ++ [v]):=by
 have hvs : v ≠ s:=fun e => hv (by rw [e]; exact h.root)
 refine ⟨?_,List.mem_append_left _ h.root,fun p w q e hw => ?_,fun w hw => ?_⟩
 ·rw [List.nodup_append];exact ⟨h.nodup,by simp,fun a ha b hb e => hv (by rw [List.mem_singleton] at hb; rw [← hb,← e]; exact ha)⟩
 ·by_cases hq : q = []
  case pos =>
   subst hq;have e2:=List.append_inj' e (by simp);obtain ⟨rfl,e3⟩:=e2;have e4 : v = w:=by simpa using e3
   subst e4;exact ⟨u,hu,by rw [ud_at]; exact c⟩
  obtain ⟨q',y,rfl⟩ : ∃ q' y,q = q' ++ [y]:=⟨q.dropLast,q.getLast hq,(List.dropLast_concat_getLast hq).symm⟩
  have e1 : L ++ [v] = (p ++ w :: q') ++ [y]:=by rw [e]; simp
  have e3:=(List.append_inj' e1 (by simp)).1;have hwv : w ≠ v:=fun e => hv (by rw [e3,← e]; simp)
  rw [ud_off _ _ hwv];exact h.up p w q' e3 hw
 ·have hwv : w ≠ v:=by
   rcases hw with hw | hw
   ·exact fun e => hw (by rw [e]; simp)
   ·exact fun e => hvs (by rw [← e]; exact hw)
  rw [ud_off _ _ hwv];exact h.none w (hw.imp (fun h k => h (List.mem_append_left _ k)) id)
abbrev St:=(Nat → Int) × List Nat
variable (fr tw cap f)
def vis1 (u i : Nat) (st : St) : St:=if fr i = u ∧ f i < cap i ∧ tw i ∉ st.2 then (ud st.1 (tw i) ((i : Int) + 1),st.2 ++ [tw i]) else st
def vis2 (u i : Nat) (st : St) : St:=if tw i = u ∧ 0 < f i ∧ fr i ∉ st.2 then (ud st.1 (fr i) (-(i : Int) - 1),st.2 ++ [fr i]) else st
def vis (u i : Nat) (st : St) : St:=vis2 fr tw f u i (vis1 fr tw cap f u i st)
def visAll (u : Nat) : Nat → Nat → St → St
 | _,0,st => st
 | i,d + 1,st => visAll u (i + 1) d (vis fr tw cap f u i st)
def bfs (m : Nat) : Nat → Nat → St → St
 | 0,_,st => st
 | d + 1,h,st => if hh : h < st.2.length then bfs m d (h + 1) (visAll fr tw cap f st.2[h] 0 m st) else st
variable {fr tw cap f}
def Shut (m : Nat) (fr tw : Nat → Nat) (cap f : Nat → Int) (L : List Nat) (u : Nat) (lo hi : Nat) : Prop:=∀ i,lo ≤ i → i < hi → (fr i = u → f i < cap i → tw i ∈ L) ∧ (tw i = u → 0 < f i → fr i ∈ L)
theorem Shut.mono {L L' : List Nat} {u lo hi : Nat} (h : Shut m fr tw cap f L u lo hi) (k : ∀ x,x ∈ L → x ∈ L') : Shut m fr tw cap f L' u lo hi :=
 fun i h1 h2 => ⟨fun a b => k _ ((h i h1 h2).1 a b),fun a b => k _ ((h i h1 h2).2 a b)⟩
variable {N : Nat} (hf : ∀ i,i < m → fr i < N) (ht : ∀ i,i < m → tw i < N)
def Good (m : Nat) (fr tw : Nat → Nat) (cap f : Nat → Int) (s N : Nat) (st : St) : Prop:=Tr m fr tw cap f s st.1 st.2 ∧ ∀ v ∈ st.2,v < N
include hf ht
theorem vis1_good {u i : Nat} {st : St} (h : Good m fr tw cap f s N st) (hu : u ∈ st.2) (hi : i < m) : Good m fr tw cap f s N (vis1 fr tw cap f u i st) ∧ ∃ x,(vis1 fr tw cap f u i st).2 = st.2 ++ x:=by
 unfold vis1
 split
 ·rename_i c;refine ⟨⟨h.1.add hu c.2.2 (.inl ⟨i,hi,rfl,c.1,rfl,c.2.1⟩),fun v hv => ?_⟩,_,rfl⟩
  rcases List.mem_append.1 hv with h1 | h1
  ·exact h.2 v h1
  ·rw [List.mem_singleton.1 h1]; exact ht i hi
 ·exact ⟨h,[],by simp⟩
theorem vis2_good {u i : Nat} {st : St} (h : Good m fr tw cap f s N st) (hu : u ∈ st.2) (hi : i < m) : Good m fr tw cap f s N (vis2 fr tw f u i st) ∧ ∃ x,(vis2 fr tw f u i st).2 = st.2 ++ x:=by
 unfold vis2
 split
 ·rename_i c;refine ⟨⟨h.1.add hu c.2.2 (.inr ⟨i,hi,rfl,c.1,rfl,c.2.1⟩),fun v hv => ?_⟩,_,rfl⟩
  rcases List.mem_append.1 hv with h1 | h1
  ·exact h.2 v h1
  ·rw [List.mem_singleton.1 h1]; exact hf i hi
 ·exact ⟨h,[],by simp⟩
theorem vis_good {u i : Nat} {st : St} (h : Good m fr tw cap f s N st) (hu : u ∈ st.2) (hi : i < m) : Good m fr tw cap f s N (vis fr tw cap f u i st) ∧ (∃ x,(vis fr tw cap f u i st).2 = st.2 ++ x) ∧ Shut m fr tw cap f (vis fr tw cap f u i st).2 u i (i + 1):=by
 obtain ⟨g1,x1,e1⟩:=vis1_good hf ht h hu hi;obtain ⟨g2,x2,e2⟩:=vis2_good hf ht g1 (u:=u) (i:=i) (by rw [e1]; exact List.mem_append_left _ hu) hi;refine ⟨g2,⟨x1 ++ x2,by unfold vis; rw [e2,e1,List.append_assoc]⟩,fun j h1 h2 => ?_⟩;have : j = i:=by omega
 subst this;constructor
 ·intro a b
  unfold vis
  rw [e2];refine List.mem_append_left _ ?_
  by_cases c : tw j ∈ st.2
  case pos => rw [e1]; exact List.mem_append_left _ c
  unfold vis1
  rw [if_pos ⟨a,b,c⟩];simp
 ·intro a b
  unfold vis
  by_cases c : fr j ∈ (vis1 fr tw cap f u j st).2
  case pos => rw [e2]; exact List.mem_append_left _ c
  unfold vis2
  rw [if_pos ⟨a,b,c⟩];simp
theorem visAll_good {u : Nat} : ∀ (d i : Nat) (st : St),Good m fr tw cap f s N st → u ∈ st.2 → i + d ≤ m → Good m fr tw cap f s N (visAll fr tw cap f u i d st) ∧ (∃ x,(visAll fr tw cap f u i d st).2 = st.2 ++ x) ∧ Shut m fr tw cap f (visAll fr tw cap f u i d st).2 u i (i + d)
 | 0,i,st,h,_,_ => ⟨h,⟨[],by simp [visAll]⟩,fun j h1 h2 => by omega⟩
 | d + 1,i,st,h,hu,hd => by
  obtain ⟨g1,⟨x1,e1⟩,s1⟩:=vis_good hf ht h hu (i:=i) (by omega);obtain ⟨g2,⟨x2,e2⟩,s2⟩:=visAll_good d (i + 1) (vis fr tw cap f u i st) g1 (by rw [e1]; exact List.mem_append_left _ hu) (by omega);refine ⟨g2,⟨x1 ++ x2,by simp only [visAll]; rw [e2,e1,List.append_assoc]⟩,fun j h1 h2 => ?_⟩
  by_cases c : j = i
  case neg => exact s2 j (by omega) (by omega)
  exact (s1.mono (L':=(visAll fr tw cap f u i (d + 1) st).2) (fun y hy => by simp only [visAll]; rw [e2]; exact List.mem_append_left _ hy)) j h1 (by omega)
theorem bfs_good : ∀ (d h : Nat) (st : St),Good m fr tw cap f s N st → N ≤ d + h → (∀ u ∈ st.2.take h,Shut m fr tw cap f st.2 u 0 m) → Good m fr tw cap f s N (bfs fr tw cap f m d h st) ∧ ∀ u ∈ (bfs fr tw cap f m d h st).2,Shut m fr tw cap f (bfs fr tw cap f m d h st).2 u 0 m
 | 0,h,st,g,hd,hs => by
  have:=Sp.nodup_len N st.2 g.1.nodup g.2;refine ⟨g,fun u hu => hs u ?_⟩;rw [List.take_of_length_le (by omega)];exact hu
 | d + 1,h,st,g,hd,hs => by
  unfold bfs
  split
  ·rename_i hh;obtain ⟨g1,⟨x,e⟩,s1⟩:=visAll_good hf ht (u:=st.2[h]) m 0 st g (List.getElem_mem hh) (by omega);refine bfs_good d (h + 1) _ g1 (by omega) (fun u hu => ?_);rw [e,List.take_append_of_le_length (by omega),List.take_succ_eq_append_getElem hh] at hu
   rcases List.mem_append.1 hu with h1 | h1
   ·exact (hs u h1).mono (fun y hy => by rw [e]; exact List.mem_append_left _ hy)
   ·rw [List.mem_singleton.1 h1];rw [Nat.zero_add] at s1;exact s1
  ·rename_i hh;refine ⟨g,fun u hu => hs u ?_⟩;rw [List.take_of_length_le (by omega)];exact hu
omit hf ht
inductive Way (fr tw : Nat → Nat) (s : Nat) (b : Nat → Int) : Nat → List (Nat × Bool) → Prop
 | nil : Way fr tw s b s []
 | fwd {v i : Nat} {P : List (Nat × Bool)} : v ≠ s → b v = (i : Int) + 1 → tw i = v → Way fr tw s b (fr i) P → Way fr tw s b v ((i,true) :: P)
 | bck {v i : Nat} {P : List (Nat × Bool)} : v ≠ s → b v = -(i : Int) - 1 → fr i = v → Way fr tw s b (tw i) P → Way fr tw s b v ((i,false) :: P)
def dl (d : Bool) : Int:=if d = true then 1 else -1
def ap (f : Nat → Int) : List (Nat × Bool) → (Nat → Int)
 | [] => f
 | x :: P => ap (ud f x.1 (f x.1 + dl x.2)) P
def Fit (m : Nat) (cap f : Nat → Int) (x : Nat × Bool) : Prop:=x.1 < m ∧ (x.2 = true → f x.1 < cap x.1) ∧ (x.2 = false → 0 < f x.1)
theorem Tr.way {b : Nat → Int} {L : List Nat} (h : Tr m fr tw cap f s b L) : ∀ (n : Nat) (p : List Nat) (v : Nat) (q : List Nat),p.length ≤ n → L = p ++ v :: q → ∃ P,Way fr tw s b v P ∧ (P.map Prod.fst).Nodup ∧ ∀ x ∈ P,Fit m cap f x ∧ fr x.1 ∈ p ++ [v] ∧ tw x.1 ∈ p ++ [v]:=by
 intro n
 induction n with
 | zero =>
  intro p v q hp e;have : p = []:=List.length_eq_zero_iff.1 (by omega);subst this
  by_cases hv : v = s
  case pos => subst hv; exact ⟨[],.nil,by simp,by simp⟩
  obtain ⟨u,hu,_⟩:=h.up [] v q e hv;simp at hu
 | succ n ih =>
  intro p v q hp e
  by_cases hv : v = s
  case pos => subst hv; exact ⟨[],.nil,by simp,by simp⟩
  obtain ⟨u,hu,c⟩:=h.up p v q e hv;obtain ⟨p1,p2,ep⟩:=List.append_of_mem hu;have hvp : v ∉ p:=fun hm => by
   have hn:=h.nodup;rw [e] at hn;exact (List.nodup_append.1 hn).2.2 v hm v (List.mem_cons_self ..) rfl
  obtain ⟨P,w,hn,hP⟩:=ih p1 u (p2 ++ v :: q) (by rw [ep] at hp; simp at hp; omega) (by rw [e,ep]; simp);have hin : ∀ y,y ∈ p1 ++ [u] → y ∈ p:=fun y hy => by
   rw [ep]
   rcases List.mem_append.1 hy with h1 | h1
   ·exact List.mem_append_left _ h1
   ·rw [List.mem_singleton.1 h1]; simp
  have hL : ∀ x ∈ P,Fit m cap f x ∧ fr x.1 ∈ p ++ [v] ∧ tw x.1 ∈ p ++ [v]:=fun x hx => ⟨(hP x hx).1,List.mem_append_left _ (hin _ (hP x hx).2.1),List.mem_append_left _ (hin _ (hP x hx).2.2)⟩
  rcases c with ⟨i,hi,eb,e1,e2,hc⟩ | ⟨i,hi,eb,e1,e2,hc⟩
  ·refine ⟨(i,true) :: P,.fwd hv eb e2 (by rw [e1]; exact w),?_,fun x hx => ?_⟩
   ·rw [List.map_cons,List.nodup_cons];refine ⟨fun hm => ?_,hn⟩;obtain ⟨x,hx,ex⟩:=List.mem_map.1 hm;have h3:=hin _ (hP x hx).2.2;have ex : x.1 = i:=ex;rw [ex,e2] at h3;exact hvp h3
   ·rcases List.mem_cons.1 hx with rfl | hx
    ·exact ⟨⟨hi,fun _ => hc,fun h => by simp at h⟩,by show fr i ∈ _; rw [e1]; exact List.mem_append_left _ hu,by show tw i ∈ _; rw [e2]; simp⟩
    ·exact hL x hx
  ·refine ⟨(i,false) :: P,.bck hv eb e2 (by rw [e1]; exact w),?_,fun x hx => ?_⟩
   ·rw [List.map_cons,List.nodup_cons];refine ⟨fun hm => ?_,hn⟩;obtain ⟨x,hx,ex⟩:=List.mem_map.1 hm;have h3:=hin _ (hP x hx).2.1;have ex : x.1 = i:=ex;rw [ex,e2] at h3;exact hvp h3
   ·rcases List.mem_cons.1 hx with rfl | hx
    ·exact ⟨⟨hi,fun h => by simp at h,fun _ => hc⟩,by show fr i ∈ _; rw [e2]; simp,by show tw i ∈ _; rw [e1]; exact List.mem_append_left _ hu⟩
    ·exact hL x hx
theorem ap_fit : ∀ (P : List (Nat × Bool)) (f : Nat → Int),(P.map Prod.fst).Nodup → (∀ x ∈ P,Fit m cap f x) → (∀ i,i < m → 0 ≤ f i ∧ f i ≤ cap i) → ∀ i,i < m → 0 ≤ ap f P i ∧ ap f P i ≤ cap i
 | [],f,_,_,h => h
 | x :: P,f,hn,hx,h => by
  rw [List.map_cons,List.nodup_cons] at hn;have h1:=hx x (List.mem_cons_self ..);refine ap_fit P _ hn.2 (fun y hy => ?_) (fun i hi => ?_)
  ·have hne : y.1 ≠ x.1:=fun e => hn.1 (by rw [← e]; exact List.mem_map_of_mem hy)
   have:=hx y (List.mem_cons_of_mem _ hy)
   unfold Fit at this ⊢
   rw [ud_off _ _ hne];exact this
  ·have:=h i hi
   by_cases c : i = x.1
   case neg => rw [ud_off _ _ c]; exact this
   subst c;rw [ud_at]
   unfold dl
   cases hd : x.2 with
   | true => have:=h1.2.1 hd; rw [if_pos rfl]; omega
   | false => have:=h1.2.2 hd; rw [if_neg (by simp)]; omega
theorem net_ud (f : Nat → Int) {i : Nat} (hi : i < m) (c : Int) (w : Nat) : net m fr tw (ud f i (f i + c)) w = net m fr tw f w + ((if fr i = w then c else 0) - (if tw i = w then c else 0)):=by
 unfold net
 have e : sm (fun j => (if fr j = w then ud f i (f i + c) j else 0) - (if tw j = w then ud f i (f i + c) j else 0)) m = sm (fun j => ((if fr j = w then f j else 0) - (if tw j = w then f j else 0)) + (if j = i then ((if fr i = w then c else 0) - (if tw i = w then c else 0)) else 0)) m:=by
  apply sm_congr
  intro j hj
  by_cases e : j = i
  case neg => rw [ud_off _ _ e,if_neg e,Int.add_zero]
  subst e;rw [ud_at,if_pos rfl]
  by_cases a : fr j = w <;> by_cases b : tw j = w <;> simp only [a,b,if_true,if_false] <;> omega
 rw [e,sm_add,sm_one m i _ hi]
theorem ap_net {b : Nat → Int} {v : Nat} {P : List (Nat × Bool)} (h : Way fr tw s b v P) : ∀ (f : Nat → Int),(∀ x ∈ P,x.1 < m) → ∀ w,net m fr tw (ap f P) w = net m fr tw f w + ((if s = w then 1 else 0) - (if v = w then 1 else 0)):=by
 induction h with
 | nil => intro f _ w; show net m fr tw f w = _; omega
 | @fwd v i P hv _ e _ ih =>
  intro f hP w;have hi:=hP _ (List.mem_cons_self ..);have:=ih (ud f i (f i + 1)) (fun x hx => hP x (List.mem_cons_of_mem _ hx)) w
  show net m fr tw (ap (ud f i (f i + 1)) P) w = _
  rw [this,net_ud f hi,e]
  by_cases a : s = w <;> by_cases b : fr i = w <;> by_cases c : v = w <;> simp only [a,b,c,if_true,if_false] <;> omega
 | @bck v i P hv _ e _ ih =>
  intro f hP w;have hi:=hP _ (List.mem_cons_self ..);have:=ih (ud f i (f i + -1)) (fun x hx => hP x (List.mem_cons_of_mem _ hx)) w
  show net m fr tw (ap (ud f i (f i + -1)) P) w = _
  rw [this,net_ud f hi,e]
  by_cases a : s = w <;> by_cases b : tw i = w <;> by_cases c : v = w <;> simp only [a,b,c,if_true,if_false] <;> omega
end
end Go.Proofs.Ytlhmljngjdfbpaa.Fl
end
section
set_option linter.unusedSimpArgs false
set_option linter.unusedVariables false
namespace Go.Proofs.Ytlhmljngjdfbpaa.Pure
open Go.RowKit Go.Proofs.Ytlhmljngjdfbpaa.Pr Go.Proofs.YtlhmljngjdfbpaaW.PrintWords Go.Proofs.YtlhmljngjdfbpaaW.PrintLast Go.Proofs.YtlhmljngjdfbpaaW.PrintMore
def lst (n : Nat) (F : Nat → Int) : List Int:=(List.range n).map F
theorem lst_len (n : Nat) (F : Nat → Int) : (lst n F).length = n:=by simp [lst]
theorem lst_nth {n v : Nat} (F : Nat → Int) (h : v < n) : nth (lst n F) v = F v:=by
 simp [nth,lst,h]
theorem lst_rd {n v : Nat} (F : Nat → Int) (h : v < n) : rd (lst n F) (v : Int) = F v:=by rw [rdg,lst_nth F h]
theorem lst_congr {n : Nat} {F G : Nat → Int} (h : ∀ v,v < n → F v = G v) : lst n F = lst n G:=by
 unfold lst
 exact List.map_congr_left (fun v hv => h v (List.mem_range.1 hv))
def upd (F : Nat → Int) (a : Nat) (x : Int) : Nat → Int:=fun v => if v = a then x else F v
theorem lst_set {n a : Nat} (F : Nat → Int) (x : Int) : (lst n F).set a x = lst n (upd F a x):=by
 apply List.ext_getElem (by simp [lst])
 intro i h1 h2;have hi : i < n:=by simpa [lst] using h2
 simp only [List.getElem_set]
 by_cases e : a = i
 case pos => subst e; simp [lst,upd]
 simp [lst,upd,e,show ¬ i = a from fun h => e h.symm]
inductive Conn (E : Nat → Nat → Prop) : Nat → Nat → Prop
 | refl (v : Nat) : Conn E v v
 | tail {u v w : Nat} : Conn E u v → (E v w ∨ E w v) → Conn E u w
end Go.Proofs.Ytlhmljngjdfbpaa.Pure
end
section
set_option linter.unusedSimpArgs false
set_option linter.unusedVariables false
set_option linter.unusedSectionVars false
namespace Go.Proofs.Ytlhmljngjdfbpaa.Pure
open Go.RowKit Go.Proofs.Ytlhmljngjdfbpaa.Pr Go.Proofs.YtlhmljngjdfbpaaW.PrintWords Go.Proofs.YtlhmljngjdfbpaaW.PrintLast Go.Proofs.YtlhmljngjdfbpaaW.PrintMore
open Go.Proofs.Ytlhmljngjdfbpaa.Fl (ud vis1 vis2 vis visAll bfs Tr Way Fit ap dl net cut Shut sm)
def frF (l : List Arc) (i : Nat) : Nat:=(arc l i).f0.toNat
def twF (l : List Arc) (i : Nat) : Nat:=(arc l i).f1.toNat
def capF (l : List Arc) (i : Nat) : Int:=(arc l i).f4
def iL (L : List Nat) : List Int:=L.map fun v => ((v : Nat) : Int)
theorem iL_len (L : List Nat) : (iL L).length = L.length:=by simp [iL]
theorem iL_snoc (L : List Nat) (v : Nat) : iL L ++ [((v : Nat) : Int)] = iL (L ++ [v]):=by simp [iL]
theorem iL_rd {L : List Nat} {h : Nat} (hh : h < L.length) : rd (iL L) (h : Int) = ((L[h] : Nat) : Int):=by
 rw [rdg,nth_get (by rw [iL_len]; exact hh)];simp [iL]
theorem set_ud (n : Nat) (F : Nat → Int) (a : Nat) (x : Int) : (lst n F).set a x = lst n (ud F a x):=lst_set F x
section
variable {N : Nat} {l : List Arc} (hg : NetGood N l)
include hg
theorem arcF {i : Nat} (h : i < l.length) : (((frF l i : Nat) : Int) = (arc l i).f0 ∧ frF l i < N) ∧ (((twF l i : Nat) : Int) = (arc l i).f1 ∧ twF l i < N) ∧ (0 ≤ capF l i ∧ capF l i ≤ 9):=by
 have:=hg.ok i h
 unfold frF twF capF
 omega
variable {f : Nat → Int} {s t : Nat} (hs : s < N) (ht : t < N)
include hs ht
abbrev GoodF (N : Nat) (l : List Arc) (f : Nat → Int) (s : Nat) (st : Fl.St) : Prop:=Fl.Good l.length (frF l) (twF l) (capF l) f s N st
abbrev visF (l : List Arc) (f : Nat → Int) (u i : Nat) (st : Fl.St) : Fl.St:=vis (frF l) (twF l) (capF l) f u i st
theorem good_len {st : Fl.St} (h : GoodF N l f s st) : st.2.length ≤ 8:=by
 have:=Sp.nodup_len N st.2 h.1.nodup h.2;have:=hg.n8;omega
theorem hfF : ∀ i,i < l.length → frF l i < N:=fun i hi => (arcF hg hi).1.2
theorem htF : ∀ i,i < l.length → twF l i < N:=fun i hi => (arcF hg hi).2.1.2
omit hg hs ht in
theorem back_w {i : Nat} (h : i < 100) : wrap64 ((wrap64 (-(i : Int))) - 1) = -(i : Int) - 1:=by
 rw [w64 (n:=-(i : Int)) (by omega) (by omega),w64 (by omega) (by omega)]
omit hg hs ht in
theorem next_w {i : Nat} (h : i < 100) : wrap64 ((i : Int) + 1) = (i : Int) + 1:=w64 (by omega) (by omega)
omit hg hs ht in
theorem short_w {L : List Nat} (h : L.length ≤ 100) : (iL L).length < 17592186044416:=by rw [iL_len]; omega
def come (N : Nat) (l : List Arc) (f : Nat → Int) (s : Nat) : Fl.St:=bfs (frF l) (twF l) (capF l) f l.length N 0 ((fun _ => 0),[s])
omit ht in
theorem start_good : GoodF N l f s ((fun _ => 0),[s]):=⟨Fl.Tr.start,fun v hv => by rw [List.mem_singleton.1 hv]; exact hs⟩
theorem come_good : GoodF N l f s (come N l f s) ∧ ∀ u ∈ (come N l f s).2,Fl.Shut l.length (frF l) (twF l) (capF l) f (come N l f s).2 u 0 l.length :=
 Fl.bfs_good (hfF hg hs ht) (htF hg hs ht) N 0 _ (start_good hg hs) (by omega) (fun u hu => by simp at hu)
theorem come_way (h : t ∈ (come N l f s).2) : ∃ P,Fl.Way (frF l) (twF l) s (come N l f s).1 t P ∧ (P.map Prod.fst).Nodup ∧ ∀ x ∈ P,Fl.Fit l.length (capF l) f x:=by
 obtain ⟨p,q,e⟩:=List.append_of_mem h;obtain ⟨P,w,hn,hP⟩:=(come_good hg hs ht).1.1.way p.length p t q (Nat.le_refl _) e;exact ⟨P,w,hn,fun x hx => (hP x hx).1⟩
end
inductive Aug (N : Nat) (l : List Arc) (s t : Nat) : (Nat → Int) → (Nat → Int) → Prop
 | stop {f : Nat → Int} : t ∉ (come N l f s).2 → Aug N l s t f f
 | more {f g : Nat → Int} {P : List (Nat × Bool)} : t ∈ (come N l f s).2 → Fl.Way (frF l) (twF l) s (come N l f s).1 t P → (P.map Prod.fst).Nodup → (∀ x ∈ P,Fl.Fit l.length (capF l) f x) → Aug N l s t (ap f P) g → Aug N l s t f g
structure FlowI (N : Nat) (l : List Arc) (s t : Nat) (f : Nat → Int) : Prop where
 fits : ∀ i,i < l.length → 0 ≤ f i ∧ f i ≤ capF l i
 even : ∀ v,v < N → v ≠ s → v ≠ t → Fl.net l.length (frF l) (twF l) f v = 0
section
variable {N : Nat} {l : List Arc} (hg : NetGood N l) {s t : Nat} (hs : s < N) (ht : t < N) (hne : s ≠ t)
include hg hs ht hne
theorem flow_ap {f : Nat → Int} (h : FlowI N l s t f) {b : Nat → Int} {P : List (Nat × Bool)} (w : Fl.Way (frF l) (twF l) s b t P) (hn : (P.map Prod.fst).Nodup) (hf : ∀ x ∈ P,Fl.Fit l.length (capF l) f x) : FlowI N l s t (ap f P) ∧ Fl.net l.length (frF l) (twF l) (ap f P) s = Fl.net l.length (frF l) (twF l) f s + 1:=by
 have hnet:=Fl.ap_net w f (fun x hx => (hf x hx).1);refine ⟨⟨Fl.ap_fit P f hn hf h.fits,fun v hv h1 h2 => ?_⟩,?_⟩
 ·rw [hnet,h.even v hv h1 h2,if_neg (fun e => h1 e.symm),if_neg (fun e => h2 e.symm)]; rfl
 ·rw [hnet,if_pos rfl,if_neg (fun e => hne e.symm)]; rfl
theorem flow_le {f : Nat → Int} (h : FlowI N l s t f) : Fl.net l.length (frF l) (twF l) f s ≤ Fl.cut l.length (frF l) (twF l) (capF l) (fun v => v == s) :=
 Fl.value_le (hfF hg hs ht) (htF hg hs ht) h.fits hs h.even _ (by simp) (by simp; exact fun e => hne e.symm)
theorem aug_ex : ∀ (m : Nat) (f : Nat → Int),FlowI N l s t f → Fl.cut l.length (frF l) (twF l) (capF l) (fun v => v == s) - Fl.net l.length (frF l) (twF l) f s ≤ (m : Int) → ∃ g,Aug N l s t f g:=by
 intro m
 induction m with
 | zero =>
  intro f h hm
  by_cases c : t ∈ (come N l f s).2
  case neg => exact ⟨f,.stop c⟩
  obtain ⟨P,w,hn,hf⟩:=come_way hg hs ht c;have h1:=flow_ap hg hs ht hne h w hn hf;have h2:=flow_le hg hs ht hne h1.1;omega
 | succ m ih =>
  intro f h hm
  by_cases c : t ∈ (come N l f s).2
  case neg => exact ⟨f,.stop c⟩
  obtain ⟨P,w,hn,hf⟩:=come_way hg hs ht c;have h1:=flow_ap hg hs ht hne h w hn hf;obtain ⟨g,hg2⟩:=ih (ap f P) h1.1 (by omega);exact ⟨g,.more c w hn hf hg2⟩
theorem aug_end {f g : Nat → Int} (h : Aug N l s t f g) : FlowI N l s t f → FlowI N l s t g ∧ t ∉ (come N l g s).2:=by
 induction h with
 | stop c => exact fun h => ⟨h,c⟩
 | more c w hn hf _ ih => exact fun h => ih (flow_ap hg hs ht hne h w hn hf).1
theorem flow_zero : FlowI N l s t (fun _ => 0):=by
 refine ⟨fun i hi => ?_,fun v hv _ _ => ?_⟩
 ·have:=(arcF hg hi).2.2;omega
 ·unfold Fl.net
  have e : (fun i => (if frF l i = v then (0 : Int) else 0) - (if twF l i = v then (0 : Int) else 0)) = fun _ => 0:=by
   funext i
   split <;> split <;> rfl
  rw [e,Fl.sm_zero]
theorem aug_zero : ∃ g,Aug N l s t (fun _ => 0) g:=by
 have h0:=flow_zero hg hs ht hne;exact aug_ex hg hs ht hne _ _ h0 (Int.self_le_toNat _)
end
end Go.Proofs.Ytlhmljngjdfbpaa.Pure
end
section
set_option linter.unusedSimpArgs false
set_option linter.unusedVariables false
set_option linter.unusedSectionVars false
namespace Go.Proofs.Ytlhmljngjdfbpaa.Pure
open Go.RowKit Go.Proofs.Ytlhmljngjdfbpaa.Pr Go.Proofs.YtlhmljngjdfbpaaW.PrintWords Go.Proofs.YtlhmljngjdfbpaaW.PrintLast Go.Proofs.YtlhmljngjdfbpaaW.PrintMore
open Go.Proofs.Ytlhmljngjdfbpaa.Fl (ud net cut sm)
theorem most_le {n : Int} {l : List Arc} (h : NetGood n l) {a b : Nat} : ∀ S s,s < S → side s a = true → side s b = false → 0 ≤ mostTo l a b S ∧ mostTo l a b S ≤ cutOf l s:=by
 intro S
 induction S with
 | zero => intro s hs; omega
 | succ S ih =>
  intro s hs ha hb;have hc:=(cutOf_bd h S).1;simp only [mostTo]
  by_cases e : s = S
  case pos =>
   subst e;rw [if_pos ha,if_neg (by simp [hb])]
   split
   ·omega
   ·split <;> omega
  have:=ih s (by omega) ha hb
  split
  ·split
   ·exact this
   ·split
    ·omega
    ·split <;> omega
  ·exact this
theorem most_from {n : Int} {l : List Arc} (h : NetGood n l) {a b : Nat} : ∀ S,mostTo l a b S = -1 ∨ ∃ s,s < S ∧ side s a = true ∧ side s b = false ∧ mostTo l a b S = cutOf l s:=by
 intro S
 induction S with
 | zero => exact .inl rfl
 | succ S ih =>
  have keep : mostTo l a b (S + 1) = mostTo l a b S → mostTo l a b (S + 1) = -1 ∨ ∃ s,s < S + 1 ∧ side s a = true ∧ side s b = false ∧ mostTo l a b (S + 1) = cutOf l s:=fun e => by
   rw [e]
   rcases ih with h | ⟨s,h1,h2⟩
   ·exact .inl h
   ·exact .inr ⟨s,by omega,h2⟩
  by_cases ha : side S a = true
  case neg => exact keep (by simp only [mostTo]; rw [if_neg ha])
  by_cases hb : side S b = true
  case pos => exact keep (by simp only [mostTo]; rw [if_pos ha,if_pos hb])
  have hb2 : side S b = false:=by simpa using hb
  have new : mostTo l a b (S + 1) = cutOf l S → mostTo l a b (S + 1) = -1 ∨ ∃ s,s < S + 1 ∧ side s a = true ∧ side s b = false ∧ mostTo l a b (S + 1) = cutOf l s:=fun e => .inr ⟨S,by omega,ha,hb2,e⟩
  by_cases c : mostTo l a b S < 0
  case pos => exact new (by simp only [mostTo]; rw [if_pos ha,if_neg hb,if_pos c])
  by_cases c2 : cutOf l S < mostTo l a b S
  case pos => exact new (by simp only [mostTo]; rw [if_pos ha,if_neg hb,if_neg c,if_pos c2])
  exact keep (by simp only [mostTo]; rw [if_pos ha,if_neg hb,if_neg c,if_neg c2])
theorem cutTo_sm (l : List Arc) (s : Nat) : ∀ i,cutTo l s i = cut i (frF l) (twF l) (capF l) (fun v => side s v)
 | 0 => rfl
 | i + 1 => by
  have ih:=cutTo_sm l s i
  unfold cut at ih ⊢
  simp only [cutTo,sm];rw [ih]
  congr 1
  by_cases h1 : side s (arc l i).f0.toNat = true <;> by_cases h2 : side s (arc l i).f1.toNat = true <;> simp [outB,frF,twF,capF,h1,h2]
section
variable {N : Nat} {l : List Arc} (hg : NetGood N l)
include hg
theorem net_bd {f : Nat → Int} (hb : ∀ i,i < l.length → 0 ≤ f i ∧ f i ≤ capF l i) (v : Nat) : ∀ i,i ≤ l.length → -(9 * (i : Int)) ≤ net i (frF l) (twF l) f v ∧ net i (frF l) (twF l) f v ≤ 9 * (i : Int)
 | 0,_ => by simp [net,sm]
 | i + 1,hi => by
  have ih:=net_bd hb v i (by omega);have h1:=hb i (by omega);have h2:=(arcF hg (show i < l.length by omega)).2.2
  unfold net at ih ⊢
  simp only [sm]
  by_cases a : frF l i = v <;> by_cases b : twF l i = v <;> simp only [a,b,if_true,if_false] <;> omega
theorem netTo_lst {x : List Int} (hb : FitsFrom l x 0) : ∀ i,i ≤ l.length → netTo (N : Int) l x i = lst N (fun v => net i (frF l) (twF l) (nth x) v):=by
 have hb2 : ∀ i,i < l.length → 0 ≤ nth x i ∧ nth x i ≤ capF l i:=fun i hi => hb i hi (Nat.zero_le _)
 have h16:=hg.len;intro i
 induction i with
 | zero =>
  intro _;simp only [netTo]
  apply List.ext_getElem (by simp [lst])
  intro i h1 h2;simp [lst,net,sm]
 | succ i ih =>
  intro hi;have hlt : i < l.length:=by omega
  have ha:=arcF hg hlt;have hne:=(hg.ok i hlt).2.2.1;have hfi:=hb2 i hlt;have hcap:=ha.2.2;have hne2 : frF l i ≠ twF l i:=fun e => hne (by rw [← ha.1.1,← ha.2.1.1,e])
  have n1:=net_bd hg hb2 (frF l i) i (by omega);have n2:=net_bd hg hb2 (twF l i) i (by omega);simp only [netTo];rw [ih (by omega)];have r1 : rd (lst N (fun v => net i (frF l) (twF l) (nth x) v)) (arc l i).f0 = net i (frF l) (twF l) (nth x) (frF l i):=by rw [← ha.1.1]; exact lst_rd _ ha.1.2
  rw [r1,show (arc l i).f0.toNat = frF l i from rfl,show (arc l i).f1.toNat = twF l i from rfl,set_ud];have r2 : rd (lst N (ud (fun v => net i (frF l) (twF l) (nth x) v) (frF l i) (wrap64 (net i (frF l) (twF l) (nth x) (frF l i) + nth x i)))) (arc l i).f1 = net i (frF l) (twF l) (nth x) (twF l i):=by
   rw [← ha.2.1.1,lst_rd _ ha.2.1.2,Fl.ud_off _ _ (fun e => hne2 e.symm)]
  rw [r2,set_ud,w64 (by omega) (by omega),w64 (by omega) (by omega)];refine lst_congr (fun v hv => ?_);have e : net (i + 1) (frF l) (twF l) (nth x) v = net i (frF l) (twF l) (nth x) v + ((if frF l i = v then nth x i else 0) - (if twF l i = v then nth x i else 0)):=rfl;rw [e]
  by_cases a : v = twF l i
  case pos =>
   subst a;rw [Fl.ud_at,if_neg hne2,if_pos rfl]; omega
  have t1 : ¬ twF l i = v:=fun h => a h.symm
  rw [Fl.ud_off _ _ a,if_neg t1]
  by_cases b : v = frF l i
  case pos =>
   have t2 : frF l i = v:=b.symm;rw [if_pos t2,b,Fl.ud_at]; omega
  have t2 : ¬ frF l i = v:=fun h => b h.symm
  rw [Fl.ud_off _ _ b,if_neg t2]; omega
variable {s t : Nat} (hs : s < N) (ht : t < N) (hne : s ≠ t)
include hs ht hne
theorem most_pos : 0 ≤ mostTo l s t (2 ^ N):=by
 have h8:=hg.n8;have h1 : side (2 ^ s) s = true:=by simp [side]
 have h2 : side (2 ^ s) t = false:=by
  simp only [side];rw [Nat.testBit_two_pow];simp [hne]
 exact (most_le hg (2 ^ N) (2 ^ s) (Nat.pow_lt_pow_right (by omega) hs) h1 h2).1
theorem value_most {f : Nat → Int} (h : FlowI N l s t f) : net l.length (frF l) (twF l) f s ≤ mostTo l s t (2 ^ N):=by
 rcases most_from hg (a:=s) (b:=t) (2 ^ N) with e | ⟨S,_,h1,h2,e⟩
 ·have:=most_pos hg hs ht hne;omega
 ·rw [e]
  unfold cutOf
  rw [cutTo_sm];exact Fl.value_le (hfF hg hs ht) (htF hg hs ht) h.fits hs h.even _ h1 h2
end
end Go.Proofs.Ytlhmljngjdfbpaa.Pure
end
section
set_option linter.unusedSimpArgs false
set_option linter.unusedVariables false
set_option linter.unusedVariables false
end
section
set_option linter.unusedSimpArgs false
set_option linter.unusedVariables false
set_option linter.unusedSectionVars false
namespace Go.Proofs.Ytlhmljngjdfbpaa.Pure
open Go.RowKit Go.Proofs.Ytlhmljngjdfbpaa.Pr Go.Proofs.YtlhmljngjdfbpaaW.PrintWords Go.Proofs.YtlhmljngjdfbpaaW.PrintLast Go.Proofs.YtlhmljngjdfbpaaW.PrintMore
open Go.Proofs.Ytlhmljngjdfbpaa.Fl (ud net cut sm)
theorem bits_ex (p : Nat → Bool) : ∀ N : Nat,∃ S,S < 2 ^ N ∧ ∀ v,v < N → side S v = p v:=by
 intro N
 induction N with
 | zero => exact ⟨0,by simp,fun v hv => by omega⟩
 | succ N ih =>
  obtain ⟨S,h1,h2⟩:=ih;have e2 : 2 ^ (N + 1) = 2 ^ N + 2 ^ N:=by rw [Nat.pow_succ]; omega
  cases c : p N with
  | false =>
   refine ⟨S,by omega,fun v hv => ?_⟩
   by_cases e : v = N
   case neg => exact h2 v (by omega)
   subst e;rw [c];exact Nat.testBit_lt_two_pow h1
  | true =>
   refine ⟨2 ^ N + S,by omega,fun v hv => ?_⟩
   by_cases e : v = N
   case neg =>
    unfold side
    rw [Nat.testBit_two_pow_add_gt (by omega)];exact h2 v (by omega)
   subst e;rw [c]
   unfold side
   rw [Nat.testBit_two_pow_add_eq,Nat.testBit_lt_two_pow h1];rfl
section
variable {N : Nat} {l : List Arc} (hg : NetGood N l)
include hg
theorem flow_most {s t : Nat} (hs : s < N) (ht : t < N) (hne : s ≠ t) {g : Nat → Int} (h : FlowI N l s t g) (hc : t ∉ (come N l g s).2) : net l.length (frF l) (twF l) g s = mostTo l s t (2 ^ N):=by
 classical
 have h1:=value_most hg hs ht hne h;obtain ⟨hG,hS⟩:=come_good hg hs ht (f:=g);have hss : s ∈ (come N l g s).2:=hG.1.root;obtain ⟨S,k1,k2⟩:=bits_ex (fun v => decide (v ∈ (come N l g s).2)) N;have hv:=Fl.value_eq (cap:=capF l) (hfF hg hs ht) (htF hg hs ht) h.fits hs h.even (fun v => decide (v ∈ (come N l g s).2)) (by simp [hss]) (by simp [hc]) (fun i hi a b => ?_) (fun i hi a b => ?_)
 ·have h3:=(most_le hg (2 ^ N) S k1 (by rw [k2 s hs]; simp [hss]) (by rw [k2 t ht]; simp [hc])).2;have e : cutOf l S = cut l.length (frF l) (twF l) (capF l) (fun v => decide (v ∈ (come N l g s).2)):=by
   unfold cutOf
   rw [cutTo_sm]
   unfold cut
   refine Fl.sm_congr (fun i hi => ?_);simp only [k2 _ (arcF hg hi).1.2,k2 _ (arcF hg hi).2.1.2]
  omega
 ·have a:=of_decide_eq_true a;have b:=of_decide_eq_false b;have h4:=h.fits i hi;have h5:=(hS _ a i (Nat.zero_le _) hi).1 rfl
  by_cases c : g i < capF l i
  case neg => omega
  exact absurd (h5 c) b
 ·have a:=of_decide_eq_true a;have b:=of_decide_eq_false b;have h4:=h.fits i hi;have h5:=(hS _ a i (Nat.zero_le _) hi).2 rfl
  by_cases c : 0 < g i
  case neg => omega
  exact absurd (h5 c) b
end
section
variable {N : Nat} {l : List Arc} (hg : NetGood N l) {s t : Nat} (hs : s < N) (ht : t < N) (hne : s ≠ t)
include hg hs ht hne
theorem mostV_is : mostV (N : Int) l (s : Int) (t : Int) = mostTo l s t (2 ^ N):=by
 unfold mostV
 rw [if_pos ((mostB_iff _ _ _ _).2 ⟨hg,by omega,by omega,fun e => hne (by omega)⟩),Int.toNat_natCast,Int.toNat_natCast,Int.toNat_natCast]
theorem valueV_is {g : Nat → Int} (h : FlowI N l s t g) : valueV (N : Int) l (lst l.length g) (s : Int) (t : Int) = (net l.length (frF l) (twF l) g s,true):=by
 have hx : ∀ i,i < l.length → nth (lst l.length g) i = g i:=fun i hi => lst_nth g hi
 have hf : FitsFrom l (lst l.length g) 0:=fun i hi _ => by rw [hx i hi]; exact h.fits i hi
 have hnet:=netTo_lst hg hf l.length (Nat.le_refl _);have en : ∀ v,net l.length (frF l) (twF l) (nth (lst l.length g)) v = net l.length (frF l) (twF l) g v:=fun v => by
  unfold Fl.net
  refine Fl.sm_congr (fun i hi => ?_);rw [hx i hi]
 have hev : EvenFrom (netTo (N : Int) l (lst l.length g) l.length) (s : Int) (t : Int) 0:=fun v hv _ => by
  rw [netTo_len,Int.toNat_natCast] at hv;rw [hnet,lst_nth _ hv,en]
  by_cases e1 : v = s
  case pos => exact .inr (.inl (by omega))
  by_cases e2 : v = t
  case pos => exact .inr (.inr (by omega))
  exact .inl (h.even v hv e1 e2)
 unfold valueV
 rw [if_pos ⟨(mostB_iff _ _ _ _).2 ⟨hg,by omega,by omega,fun e => hne (by omega)⟩,lst_len _ _,hf,hev⟩,hnet,lst_rd _ hs,en]
end
end Go.Proofs.Ytlhmljngjdfbpaa.Pure
end
