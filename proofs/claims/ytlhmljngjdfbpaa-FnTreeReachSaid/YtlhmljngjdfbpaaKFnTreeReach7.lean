/- For the statement FnTreeReach of this seat: it is proved here, with no further conditions (part 8 of its texts: words, walks of the functions, the plain law, the row). -/
import Derived.Test.YtlhmljngjdfbpaaRows
import Derived.WalkKit
import Derived.ProofKit
import Derived.OpenShut
import Derived.ShutString
import Derived.ChangeOld
import Derived.Below
import Derived.SizedLaws
import Derived.WideShapes
import Derived.Test.YtlhmljngjdfbpaaKFnTreeReach6
section
set_option linter.unusedSimpArgs false
set_option linter.unusedVariables false
set_option linter.unusedSectionVars false
namespace Go.Proofs.Ytlhmljngjdfbpaa.Pure
open Go.RowKit Go.Proofs.Ytlhmljngjdfbpaa.Pr Go.Proofs.YtlhmljngjdfbpaaW.PrintWords Go.Proofs.YtlhmljngjdfbpaaW.PrintLast Go.Proofs.YtlhmljngjdfbpaaW.PrintMore
open Go.Proofs.Ytlhmljngjdfbpaa.Ins (Lk pw_uniq sort_list)
def cst (l : List Arc) (i : Nat) : Nat:=(arc l i).f2.toNat
def frA (l : List Arc) (i : Nat) : Nat:=(arc l i).f0.toNat
def twA (l : List Arc) (i : Nat) : Nat:=(arc l i).f1.toNat
def ofC (l : List Arc) (c : Nat) : List Nat:=(List.range l.length).filter fun i => decide (cst l i = c)
def ks (l : List Arc) : List Nat:=(List.range 100).flatMap (ofC l)
def ints (x : List Nat) : List Int:=x.map fun i => ((i : Nat) : Int)
theorem ints_len (x : List Nat) : (ints x).length = x.length:=by simp [ints]
theorem ks_pw (l : List Arc) : (ks l).Pairwise (Lk (cst l)):=by
 unfold ks
 rw [List.pairwise_flatMap];refine ⟨fun c _ => ?_,List.Pairwise.imp (fun {a b} hab x hx y hy => ?_) List.pairwise_lt_range⟩
 ·unfold ofC
  rw [List.pairwise_filter];refine List.Pairwise.imp (fun {a b} hab ha hb => .inr ⟨?_,hab⟩) List.pairwise_lt_range;rw [decide_eq_true_eq] at ha hb;omega
 ·unfold ofC at hx hy
  rw [List.mem_filter,decide_eq_true_eq] at hx hy;exact .inl (by omega)
theorem ks_mem {n : Int} {l : List Arc} (hg : NetGood n l) (x : Nat) : x ∈ ks l ↔ x < l.length:=by
 unfold ks
 rw [List.mem_flatMap];constructor
 ·rintro ⟨c,_,h⟩
  unfold ofC at h
  rw [List.mem_filter] at h;exact List.mem_range.1 h.1
 ·intro h;have:=(hg.ok x h).2.2.2.1;refine ⟨cst l x,List.mem_range.2 (by unfold cst; omega),?_⟩
  unfold ofC
  rw [List.mem_filter];exact ⟨List.mem_range.2 h,decide_eq_true rfl⟩
theorem ks_nodup (l : List Arc) : (ks l).Nodup:=List.Pairwise.imp (fun {a b} h e => by subst e; exact Lk.irr a h) (ks_pw l)
theorem ks_len {n : Int} {l : List Arc} (hg : NetGood n l) : (ks l).length ≤ 16:=by
 have:=Sp.nodup_len l.length (ks l) (ks_nodup l) (fun x hx => (ks_mem hg x).1 hx);have:=hg.len;omega
theorem cmp_neg (x y : Int) : decide (Go.Lib.compareInt x y < 0) = decide (x < y):=by
 unfold Go.Lib.compareInt
 by_cases h : x < y
 case pos => rw [if_pos h]; simp [h]
 rw [if_neg h]
 by_cases h2 : x > y
 case neg => rw [if_neg h2]; simp [h]
 rw [if_pos h2]; simp [h]
theorem ordOf_eq {n : Int} {l : List Arc} (hg : NetGood n l) : ordOf l l.length = ints (ks l):=by
 cases hm : l.length with
 | zero =>
  have : ks l = []:=List.eq_nil_iff_forall_not_mem.2 (fun x hx => by have:=(ks_mem hg x).1 hx; omega);rw [this]; rfl
 | succ m =>
  have hs:=sort_list (m:=m) (lt:=Go.Proofs.ltOf fun x y : Fin (m + 1) => Go.Lib.compareInt (rd_T58 l ((x.1 : Nat) : Int)).f2 (rd_T58 l ((y.1 : Nat) : Int)).f2) (key:=cst l) (fun x y => by
   have h1:=(hg.ok x.1 (by have:=x.2; omega)).2.2.2.1;have h2:=(hg.ok y.1 (by have:=y.2; omega)).2.2.2.1
   unfold Go.Proofs.ltOf
   rw [cmp_neg,rda,rda]
   unfold cst
   exact decide_eq_decide.2 (by omega))
  have he:=pw_uniq Lk.irr Lk.asy _ _ hs.1 (ks_pw l) (fun x => by rw [hs.2,ks_mem hg]; omega)
  unfold ordOf ints
  rw [← he,List.map_map];rfl
theorem kru_ex {fr tw : Nat → Nat} : ∀ (ks o : List Nat),∃ r,Kru fr tw ks o r
 | [],o => ⟨o,.nil o⟩
 | k :: ks,o => by
  by_cases h : Con fr tw o (fr k) (tw k)
  case pos =>
   obtain ⟨r,hr⟩:=kru_ex ks o;exact ⟨r,.skip h hr⟩
  obtain ⟨r,hr⟩:=kru_ex ks (o ++ [k]);exact ⟨r,.take h hr⟩
section
variable {n : Int} {l : List Arc} (hg : NetGood n l)
include hg
theorem te_con (o : List Nat) (u v : Nat) : Conn (TE l (ints o) (ints o).length) u v ↔ Con (frA l) (twA l) o u v:=by
 constructor
 ·refine fun h => h.mono (fun a b ⟨i,hi,ha,hb⟩ => ?_)
  rw [ints_len] at hi;have e : nth (ints o) i = ((o[i] : Nat) : Int):=by rw [nth_get (by rw [ints_len]; exact hi)]; simp [ints]
  refine ⟨o[i],List.getElem_mem hi,?_,?_⟩
  ·rw [ha]; unfold frm frA; rw [e,Int.toNat_natCast]
  ·rw [hb]; unfold too twA; rw [e,Int.toNat_natCast]
 ·refine fun h => h.mono (fun a b ⟨i,hi,ha,hb⟩ => ?_)
  obtain ⟨j,hj,e⟩:=List.getElem_of_mem hi;have e2 : nth (ints o) j = ((i : Nat) : Int):=by rw [nth_get (by rw [ints_len]; exact hj)]; simp [ints,e]
  refine ⟨j,by rw [ints_len]; exact hj,?_,?_⟩
  ·rw [ha]; unfold frm frA; rw [e2,Int.toNat_natCast]
  ·rw [hb]; unfold too twA; rw [e2,Int.toNat_natCast]
theorem ints_in {o : List Nat} (ho : ∀ i ∈ o,i < l.length) : ∀ j,j < (ints o).length → 0 ≤ nth (ints o) j ∧ nth (ints o) j < l.length:=by
 intro j hj;rw [ints_len] at hj;have e : nth (ints o) j = ((o[j] : Nat) : Int):=by rw [nth_get (by rw [ints_len]; exact hj)]; simp [ints]
 have:=ho o[j] (List.getElem_mem hj);omega
theorem parts_con {o : List Nat} (ho : ∀ i ∈ o,i < l.length) {u v : Nat} (hu : u < n.toNat) (hv : v < n.toNat) : roundS l (ints o) n.toNat u = roundS l (ints o) n.toNat v ↔ Con (frA l) (twA l) o u v:=by
 have hp:=specParts hg (ints_in hg ho);rw [← te_con hg];constructor
 ·intro e;obtain ⟨a,e1,_,c1⟩:=hp.conn u hu;obtain ⟨b,e2,_,c2⟩:=hp.conn v hv;have : a = b:=by omega
  subst this;exact c1.symm.trans c2
 ·exact fun c => hp.all c
theorem arc_in {i : Nat} (h : i < l.length) : (((frA l i : Nat) : Int) = (arc l i).f0 ∧ frA l i < n.toNat) ∧ (((twA l i : Nat) : Int) = (arc l i).f1 ∧ twA l i < n.toNat):=by
 have:=hg.ok i h
 unfold frA twA
 omega
theorem treeL_ev : ∀ {ks o r : List Nat},Kru (frA l) (twA l) ks o r → (∀ i ∈ ks,i < l.length) → (∀ i ∈ o,i < l.length) → o.length + ks.length ≤ 1000 → Ev (fun k => treeL k n l (ints ks) (ints o)) (ints r):=by
 intro ks o r h
 induction h with
 | nil o => intro _ _ _; exact Ev.now _
 | @skip i ks o r c _ ih =>
  intro h1 h2 h3;have hi:=h1 i (List.mem_cons_self ..);have ha:=arc_in hg hi;have hj:=implParts_ev hg (ints_in hg h2) (by rw [ints_len]; simp at h3; omega);have ih:=ih (fun j hj => h1 j (List.mem_cons_of_mem _ hj)) h2 (by simp at h3; omega)
  show Ev (fun k => treeL k n l (((i : Nat) : Int) :: ints ks) (ints o)) (ints r)
  simp only [treeL];refine Ev.bind hj (Ev.pos ?_ (Ev.pos ?_ ih))
  ·rw [rda,lst_len]; omega
  ·rw [rda,← ha.1.1,← ha.2.1,lst_rd _ ha.1.2,lst_rd _ ha.2.2];exact (parts_con hg h2 ha.1.2 ha.2.2).2 c
 | @take i ks o r c _ ih =>
  intro h1 h2 h3;have hi:=h1 i (List.mem_cons_self ..);have ha:=arc_in hg hi;have hj:=implParts_ev hg (ints_in hg h2) (by rw [ints_len]; simp at h3; omega);have ih:=ih (fun j hj => h1 j (List.mem_cons_of_mem _ hj)) (fun j hj => by
   rcases List.mem_append.1 hj with h | h
   ·exact h2 j h
   ·rw [List.mem_singleton.1 h]; exact hi) (by simp at h3 ⊢; omega)
  have e : ints o ++ [((i : Nat) : Int)] = ints (o ++ [i]):=by simp [ints]
  show Ev (fun k => treeL k n l (((i : Nat) : Int) :: ints ks) (ints o)) (ints r)
  simp only [treeL];rw [e];refine Ev.bind hj (Ev.pos ?_ (Ev.neg ?_ ih))
  ·rw [rda,lst_len]; omega
  ·rw [rda,← ha.1.1,← ha.2.1,lst_rd _ ha.1.2,lst_rd _ ha.2.2];exact fun e => c ((parts_con hg h2 ha.1.2 ha.2.2).1 e)
end
inductive Rt (F : Nat → Nat) : Nat → Nat → Prop
 | stop {v : Nat} : F v = v → Rt F v v
 | step {v a : Nat} : F v ≠ v → Rt F (F v) a → Rt F v a
structure Forg (fr tw : Nat → Nat) (o : List Nat) (F : Nat → Nat) : Prop where
 le : ∀ v,F v ≤ v
 con : ∀ u v a b,Rt F u a → Rt F v b → (a = b ↔ Con fr tw o u v)
section
variable {n : Int} {l : List Arc} (hg : NetGood n l)
include hg
omit hg
def cells (N : Nat) (F : Nat → Nat) : List Int:=lst N fun v => ((F v : Nat) : Int)
attribute [irreducible] cells
include hg
def rem1 (l : List Arc) (c : Nat) : List Nat:=(List.range' c (100 - c)).flatMap (ofC l)
def rem2 (l : List Arc) (c i : Nat) : List Nat:=((List.range' i (l.length - i)).filter fun i => decide (cst l i = c)) ++ rem1 l (c + 1)
omit hg in
theorem rem1_step {c : Nat} (h : c < 100) : rem1 l c = rem2 l c 0:=by
 unfold rem2 rem1
 obtain ⟨s,hs⟩ : ∃ s,100 - c = s + 1:=⟨100 - c - 1,by omega⟩
 rw [hs,List.range'_succ,List.flatMap_cons,show 100 - (c + 1) = s by omega,Nat.sub_zero]
 unfold ofC
 rw [List.range_eq_range']
omit hg in
theorem rem2_step {c i : Nat} (h : i < l.length) : rem2 l c i = if cst l i = c then i :: rem2 l c (i + 1) else rem2 l c (i + 1):=by
 unfold rem2
 obtain ⟨s,hs⟩ : ∃ s,l.length - i = s + 1:=⟨l.length - i - 1,by omega⟩
 rw [hs,List.range'_succ,show l.length - (i + 1) = s by omega]
 by_cases e : cst l i = c
 case neg =>
  rw [if_neg e];simp [List.filter_cons,e]
 rw [if_pos e];simp only [List.filter_cons,e,decide_true,if_true,List.cons_append]
omit hg in
theorem rem2_end {c i : Nat} (h : l.length ≤ i) : rem2 l c i = rem1 l (c + 1):=by
 unfold rem2
 rw [show l.length - i = 0 by omega];rfl
omit hg in
theorem rem1_end (l : List Arc) : rem1 l 100 = []:=rfl
omit hg in
theorem rem1_all (l : List Arc) : rem1 l 0 = ks l:=by unfold rem1 ks; rw [List.range_eq_range']
attribute [irreducible] rem1 rem2
end
noncomputable def bestT (l : List Arc) : List Nat:=Classical.choose (kru_ex (fr:=frA l) (tw:=twA l) (ks l) [])
theorem bestT_kru (l : List Arc) : Kru (frA l) (twA l) (ks l) [] (bestT l):=Classical.choose_spec (kru_ex (fr:=frA l) (tw:=twA l) (ks l) [])
noncomputable def treeB (n : Int) (l : List Arc) : List Int:=if netOkB n l = true then ints (bestT l) else []
theorem bestT_len {n : Int} {l : List Arc} (hg : NetGood n l) : (bestT l).length ≤ 16 ∧ (∀ i ∈ bestT l,i < l.length) ∧ (bestT l).Nodup:=by
 have hk:=bestT_kru l;obtain ⟨s,h1,h2⟩:=hk.ext;have hm : ∀ i ∈ bestT l,i < l.length:=fun i hi => by
  rw [h1,List.nil_append] at hi;exact (ks_mem hg i).1 (h2 i hi)
 have hn:=hk.nodup (ks_nodup l) List.nodup_nil (fun x _ => by simp);have:=Sp.nodup_len l.length _ hn hm;have:=hg.len;exact ⟨by omega,hm,hn⟩
theorem implTreeB_ev (n : Int) (l : List Arc) : Ev (fun k => impl_TreeBest.f k n l) (treeB n l):=by
 unfold impl_TreeBest.f treeB
 refine Ev.bind0 (show impl_NetOk.f n l = some (netOkB n l) from rfl) ?_;cases h : netOkB n l with
 | false => exact Ev.neg (by simp) (Ev.is (by simp))
 | true =>
  have hg:=(netOkB_iff n l).1 h;have h1:=hg.n1;have h8:=hg.n8;have h16:=hg.len;have hk:=ks_len hg;refine Ev.pos rfl (Ev.pos ⟨by omega,by omega,by omega⟩ ?_);rw [ordOf_eq hg,if_pos rfl];exact treeL_ev hg (bestT_kru l) (fun i hi => (ks_mem hg i).1 hi) (fun i hi => by simp at hi) (by simp; omega)
end Go.Proofs.Ytlhmljngjdfbpaa.Pure
end
section
set_option linter.unusedSimpArgs false
set_option linter.unusedVariables false
set_option linter.unusedSectionVars false
namespace Go.Proofs.Ytlhmljngjdfbpaa.Pure
open Go.RowKit Go.Proofs.Ytlhmljngjdfbpaa.Pr Go.Proofs.YtlhmljngjdfbpaaW.PrintWords Go.Proofs.YtlhmljngjdfbpaaW.PrintLast Go.Proofs.YtlhmljngjdfbpaaW.PrintMore
section
variable {n : Int} {l : List Arc} (hg : NetGood n l)
include hg
theorem all_con (u v : Nat) : Con (frA l) (twA l) (List.range l.length) u v ↔ Con (frA l) (twA l) (bestT l) u v:=by
 have hk:=bestT_kru l;constructor
 ·exact fun h => h.via (fun i hi => hk.spans i ((ks_mem hg i).2 (List.mem_range.1 hi)))
 ·exact fun h => h.sub (fun i hi => List.mem_range.2 ((bestT_len hg).2.1 i hi))
theorem treeP_ev {o : List Nat} (ho : ∀ i ∈ o,i < l.length) (h16 : o.length ≤ 16) : Ev (fun k => impl_TreeParts.f k n l (ints o)) (lst n.toNat (roundS l (ints o) n.toNat)):=by
 refine (implTree_ev n l (ints o)).cast ?_
 unfold treeV
 rw [if_pos ((arcsB_iff n l (ints o)).2 ⟨hg,by rw [ints_len]; exact h16,ints_in hg ho⟩)]
end
end Go.Proofs.Ytlhmljngjdfbpaa.Pure
end
section
set_option linter.unusedSimpArgs false
set_option linter.unusedVariables false
namespace Go.Proofs.Ytlhmljngjdfbpaa.Pure
open Go.RowKit Go.Proofs.Ytlhmljngjdfbpaa.Pr Go.Proofs.YtlhmljngjdfbpaaW.PrintWords Go.Proofs.YtlhmljngjdfbpaaW.PrintLast Go.Proofs.YtlhmljngjdfbpaaW.PrintMore
def flip (a : Arc) : Arc:=⟨a.f1,a.f0,a.f2,a.f3,a.f4⟩
def back (l : List Arc) : List Arc:=l.map flip
theorem back_len (l : List Arc) : (back l).length = l.length:=by simp [back]
theorem back_arc {l : List Arc} {i : Nat} (h : i < l.length) : arc (back l) i = flip (arc l i):=by
 rw [arc_get (by rw [back_len]; exact h),arc_get h];simp [back]
theorem back_good {n : Int} {l : List Arc} (h : NetGood n l) : NetGood n (back l):=by
 refine ⟨h.n1,h.n8,by rw [back_len]; exact h.len,fun i hi => ?_⟩;rw [back_len] at hi;obtain ⟨a1,a2,a3,a4⟩:=h.ok i hi;rw [back_arc hi];exact ⟨a2,a1,fun e => a3 e.symm,a4⟩
theorem implBack_l (n : Int) (l : List Arc) (hm : l.length ≤ 1000) : ∀ (m i : Nat),l.length - i = m → i ≤ l.length → Ev (fun k => impl_Net_back.l0 k l (l.length : Int) (i : Int) n ((back l).take i)) (n,back l):=by
 intro m
 induction m with
 | zero =>
  intro i hd hi;refine Ev.go ?_ (fun k => by rw [impl_Net_back.l0]);refine Ev.neg (by omega) (Ev.is ?_);rw [List.take_of_length_le (by rw [back_len]; omega)]
 | succ m ih =>
  intro i hd hi;have hlt : i < l.length:=by omega
  refine Ev.go ?_ (fun k => by rw [impl_Net_back.l0]);have ih:=ih (i + 1) (by omega) (by omega);have hlt2 : i < (back l).length:=by rw [back_len]; exact hlt
  rw [List.take_succ_eq_append_getElem hlt2,← arc_get hlt2,back_arc hlt] at ih;rw [up1 hlt (by simp only [maxLen]; omega),rda];exact Ev.pos (by omega) (Ev.pos (by omega) (Ev.pos (by omega) (Ev.pos (by simp; omega) ih)))
theorem implBack_ev (n : Int) (l : List Arc) (hm : l.length ≤ 1000) : Ev (fun k => impl_Net_back.f k n l) (n,back l):=by
 unfold impl_Net_back.f
 exact Ev.pos (by omega) (Ev.pos (by omega) (by simpa using implBack_l n l hm _ 0 rfl (Nat.zero_le _)))
end Go.Proofs.Ytlhmljngjdfbpaa.Pure
end
section
set_option linter.unusedSimpArgs false
set_option linter.unusedVariables false
set_option linter.unusedSectionVars false
namespace Go.Proofs.Ytlhmljngjdfbpaa.Pure
open Go.RowKit Go.Proofs.Ytlhmljngjdfbpaa.Pr Go.Proofs.YtlhmljngjdfbpaaW.PrintWords Go.Proofs.YtlhmljngjdfbpaaW.PrintLast Go.Proofs.YtlhmljngjdfbpaaW.PrintMore
open Go.Proofs.Ytlhmljngjdfbpaa.Sp (G Wk Opt lts put relax sweep rounds start Dbl)
def gr (N : Nat) (l : List Arc) : G:=⟨N,l.length,fun i => (arc l i).f0.toNat,fun i => (arc l i).f1.toNat,fun i => (arc l i).f2,fun _ => true⟩
def grE (N : Nat) (l : List Arc) : G:={ gr N l with w:=fun i => 1000 * (arc l i).f2 + 1 }
def grS (N : Nat) (l : List Arc) (D : Nat → Option Int) : G:={ gr N l with w:=fun _ => 1,use:=fun i => match D (arc l i).f1.toNat with | none => false | some x => decide (D (arc l i).f0.toNat = some ((arc l i).f2 + x)) }
section
variable {N : Nat} {l : List Arc} (hg : NetGood N l)
include hg
theorem gr_ok : (gr N l).Ok:=⟨fun i hi => by have:=hg.ok i hi; show (arc l i).f0.toNat < N; omega,fun i hi => by have:=hg.ok i hi; show (arc l i).f1.toNat < N; omega,fun i hi => by have:=hg.ok i hi; show 0 ≤ (arc l i).f2; omega⟩
theorem grE_ok : (grE N l).Ok:=⟨fun i hi => by have:=hg.ok i hi; show (arc l i).f0.toNat < N; omega,fun i hi => by have:=hg.ok i hi; show (arc l i).f1.toNat < N; omega,fun i hi => by have:=hg.ok i hi; show 0 ≤ 1000 * (arc l i).f2 + 1; omega⟩
theorem grS_ok (D : Nat → Option Int) : (grS N l D).Ok:=⟨fun i hi => by have:=hg.ok i hi; show (arc l i).f0.toNat < N; omega,fun i hi => by have:=hg.ok i hi; show (arc l i).f1.toNat < N; omega,fun i hi => by show (0 : Int) ≤ 1; omega⟩
end
theorem dbl (N : Nat) (l : List Arc) (D : Nat → Option Int) : Dbl (gr N l) (grE N l) (grS N l D) D:=by
 refine ⟨rfl,rfl,rfl,rfl,rfl,fun i _ => rfl,rfl,rfl,rfl,rfl,fun i _ => rfl,fun i _ => ?_⟩
 show (match D (arc l i).f1.toNat with | none => false | some x => decide (D (arc l i).f0.toNat = some ((arc l i).f2 + x))) = true ↔ _
 cases e : D (arc l i).f1.toNat with
 | none =>
  refine ⟨fun h => (by cases h),fun ⟨_,x,h,_⟩ => ?_⟩;have h : D (arc l i).f1.toNat = some x:=h;rw [e] at h; cases h
 | some x =>
  dsimp only;rw [decide_eq_true_iff];refine ⟨fun h => ⟨rfl,x,e,h⟩,fun ⟨_,y,h,h2⟩ => ?_⟩;have h : D (arc l i).f1.toNat = some y:=h;rw [e] at h;obtain rfl:=Option.some.inj h;exact h2
def dst (N : Nat) (l : List Arc) (t : Nat) : Nat → Option Int:=rounds (gr N l) t N
def stp (N : Nat) (l : List Arc) (t : Nat) : Nat → Option Int:=rounds (grS N l (dst N l t)) t N
section
variable {N : Nat} {l : List Arc} (hg : NetGood N l) {t : Nat} (ht : t < N)
include hg ht
theorem dst_opt : Opt (gr N l) t (dst N l t):=Sp.rounds_opt (gr_ok hg) ht (by show N ≤ N + 1; omega)
theorem stp_opt : Opt (grS N l (dst N l t)) t (stp N l t):=Sp.rounds_opt (grS_ok hg _) ht (by show N ≤ N + 1; omega)
theorem stp_some {v : Nat} (hv : v < N) {d : Int} (hd : dst N l t v = some d) : ∃ k : Nat,stp N l t v = some (k : Int) ∧ k < N:=by
 obtain ⟨k,h1,h2,_⟩:=(dbl N l (dst N l t)).some (dst_opt hg ht) (stp_opt hg ht) ht (gr_ok hg) hv hd;exact ⟨k,h1,h2⟩
theorem tow_both {v : Nat} (hv : v < N) : rounds (grE N l) t N v = Sp.both (dst N l t) (stp N l t) v:=by
 have h8:=hg.n8;have h1:=Sp.rounds_opt (g:=grE N l) (t:=t) (r:=N) (grE_ok hg) ht (by show N ≤ N + 1; omega);have h2:=(dbl N l (dst N l t)).opt (dst_opt hg ht) (stp_opt hg ht) ht (gr_ok hg) (by show N ≤ 1000; omega);exact h1.uniq h2 v hv
end
abbrev Msr:=S147
def ent : Option Int → Msr
 | none => ⟨99999,0⟩
 | some x => ⟨x / 1000,x % 1000⟩
def far : Option Int → Int
 | none => 99999
 | some x => x
def lstM (N : Nat) (F : Nat → Msr) : List Msr:=(List.range N).map F
theorem lstM_len (N : Nat) (F : Nat → Msr) : (lstM N F).length = N:=by simp [lstM]
theorem lstM_rd {N v : Nat} (F : Nat → Msr) (h : v < N) : rd_T147 (lstM N F) (v : Int) = F v:=by
 simp [rd_T147,lstM,h]
theorem lstM_congr {N : Nat} {F H : Nat → Msr} (h : ∀ v,v < N → F v = H v) : lstM N F = lstM N H:=by
 unfold lstM
 exact List.map_congr_left (fun v hv => h v (List.mem_range.1 hv))
theorem lstM_set {N a : Nat} (L : Nat → Option Int) (x : Int) : (lstM N (fun v => ent (L v))).set a (ent (some x)) = lstM N (fun v => ent (put L a x v)):=by
 apply List.ext_getElem (by simp [lstM])
 intro i h1 h2;simp only [List.getElem_set]
 by_cases e : a = i
 case pos => subst e; simp [lstM,put]
 simp [lstM,put,e,show ¬ i = a from fun h => e h.symm]
theorem less_eq (a b c d : Int) : impl_measure_less.f a b c d = some (decide (a < c ∨ a = c ∧ b < d)):=by
 unfold impl_measure_less.f
 by_cases h : a < c
 case pos => rw [if_pos h,decide_eq_true (.inl h)]
 rw [if_neg h]
 by_cases h2 : a = c
 case neg => rw [if_neg h2,decide_eq_false (fun h3 => h3.elim h (fun h4 => h2 h4.1))]
 rw [if_pos h2]
 congr 1
 simp only [decide_eq_decide];exact ⟨fun h3 => .inr ⟨h2,h3⟩,fun h3 => h3.elim (fun h4 => absurd h4 h) (fun h4 => h4.2)⟩
def Bd (s : Nat) (L : Nat → Option Int) : Prop:=∀ v x,L v = some x → 0 ≤ x ∧ x / 1000 ≤ 99 * (s : Int) ∧ x % 1000 ≤ (s : Int)
theorem Bd.relax {N : Nat} {l : List Arc} (hg : NetGood N l) {s : Nat} {L : Nat → Option Int} (h : Bd s L) (hs : s < 900) {i : Nat} (hi : i < l.length) : Bd (s + 1) (relax (grE N l) L i):=by
 obtain ⟨_,_,_,⟨a1,a2⟩,_⟩:=hg.ok i hi;intro v x hx
 rcases Sp.relax_cases (grE N l) L i with ⟨e,_⟩ | ⟨_,y,hy,hl,e⟩
 ·rw [e] at hx; have:=h v x hx; omega
 ·rw [e] at hx
  by_cases hv : v = (grE N l).fr i
  case neg => rw [Sp.put_far _ _ hv] at hx; have:=h v x hx; omega
  subst hv;rw [Sp.put_same] at hx;have hx : some (y + (1000 * (arc l i).f2 + 1)) = some x:=hx;obtain rfl:=Option.some.inj hx;have:=h _ _ hy;omega
theorem Bd.sweep {N : Nat} {l : List Arc} (hg : NetGood N l) {s : Nat} {L : Nat → Option Int} (h : Bd s L) : ∀ i,i ≤ l.length → s + i ≤ 900 → Bd (s + i) (sweep (grE N l) L i):=by
 intro i
 induction i with
 | zero => exact fun _ _ => h
 | succ i ih => exact fun hi hs => (ih (by omega) (by omega)).relax hg (by omega) (by omega)
theorem Bd.mono {s r : Nat} {L : Nat → Option Int} (h : Bd s L) (hs : s ≤ r) : Bd r L:=fun v x hx => by have:=h v x hx; omega
theorem Bd.rounds {N : Nat} {l : List Arc} (hg : NetGood N l) (t : Nat) : ∀ r,r ≤ 9 → Bd (16 * r) (rounds (grE N l) t r):=by
 intro r
 induction r with
 | zero =>
  intro _ v x hx
  unfold Sp.rounds Sp.start at hx
  split at hx
  ·obtain rfl:=Option.some.inj hx; omega
  ·cases hx
 | succ r ih =>
  intro hr;have:=hg.len;exact ((ih (by omega)).sweep hg l.length (Nat.le_refl _) (by omega)).mono (by omega)
def hit (g : G) (L : Nat → Option Int) (i : Nat) : Bool:=match L (g.tw i) with
 | none => false
 | some x => lts (x + g.w i) (L (g.fr i))
def fl (g : G) (L : Nat → Option Int) : Nat → Bool
 | 0 => false
 | i + 1 => fl g L i || hit g (sweep g L i) i
theorem relax_hit {g : G} {L : Nat → Option Int} {i : Nat} (h : hit g L i = false) : relax g L i = L:=by
 unfold hit at h
 unfold Sp.relax
 split
 ·cases e : L (g.tw i) with
  | none => rfl
  | some x => rw [e] at h; dsimp only at h ⊢; rw [h]; rfl
 ·rfl
theorem fl_none {g : G} {L : Nat → Option Int} : ∀ i,fl g L i = false → sweep g L i = L
 | 0,_ => rfl
 | i + 1,h => by
  have h : (fl g L i || hit g (sweep g L i) i) = false:=h;rw [Bool.or_eq_false_iff] at h
  show relax g (sweep g L i) i = L
  rw [relax_hit h.2,fl_none i h.1]
theorem fl_same {g : G} (hu : ∀ i,g.use i = true) {L : Nat → Option Int} (h : ∀ v,sweep g L g.m v = L v) : ∀ i,i ≤ g.m → fl g L i = false
 | 0,_ => rfl
 | i + 1,hi => by
  show (fl g L i || hit g (sweep g L i) i) = false
  rw [fl_same hu h i (by omega),Bool.false_or];have e1 : sweep g L i = L:=funext (Sp.sweep_same h (by omega));have e2 : relax g L i = L:=by
   have : sweep g L (i + 1) = L:=funext (Sp.sweep_same h hi);have e3 : sweep g L (i + 1) = relax g (sweep g L i) i:=rfl;rw [e3,e1] at this;exact this
  rw [e1]
  unfold hit
  unfold Sp.relax at e2
  rw [if_pos (hu i)] at e2;cases e : L (g.tw i) with
  | none => rfl
  | some x =>
   rw [e] at e2;dsimp only at e2 ⊢;cases hl : lts (x + g.w i) (L (g.fr i)) with
   | false => rfl
   | true =>
    rw [if_pos hl] at e2;have:=congrFun e2 (g.fr i);rw [Sp.put_same] at this;rw [← this] at hl;simp [Sp.lts] at hl
section
variable {N : Nat} {l : List Arc} (hg : NetGood N l)
include hg
theorem tow_l1 (L : Nat → Option Int) {s : Nat} (hs : s ≤ 700) (hL : Bd s L) {R : List Msr} : ∀ (m i : Nat),l.length - i = m → i ≤ l.length →
  Ev (fun k => impl_Net_toward.l0 k (lstM N (fun v => ent (sweep (grE N l) L l.length v))) (fl (grE N l) L l.length) N l) R →
  Ev (fun k => impl_Net_toward.l1 k (lstM N (fun v => ent (sweep (grE N l) L i v))) (fl (grE N l) L i) l (l.length : Int) (i : Int) N l) R:=by
 have h16:=hg.len;intro m
 induction m with
 | zero =>
  intro i hd hi h;have e : i = l.length:=by omega
  subst e;refine Ev.go ?_ (fun k => by rw [impl_Net_toward.l1]);exact Ev.neg (by omega) h
 | succ m ih =>
  intro i hd hi h;have hlt : i < l.length:=by omega
  have hn:=ih (i + 1) (by omega) (by omega) h;clear ih h;have hb:=hL.sweep hg i hi (by omega);obtain ⟨⟨a1,a2⟩,⟨a3,a4⟩,a5,⟨a6,a7⟩,_⟩:=hg.ok i hlt;have ef : (grE N l).fr i = (arc l i).f0.toNat:=rfl;have et : (grE N l).tw i = (arc l i).f1.toNat:=rfl;have ew : (grE N l).w i = 1000 * (arc l i).f2 + 1:=rfl;obtain ⟨f,hf⟩:=Int.eq_ofNat_of_zero_le a1;obtain ⟨t,ht⟩:=Int.eq_ofNat_of_zero_le a3;rw [hf,Int.toNat_natCast] at ef;rw [ht,Int.toNat_natCast] at et;have hfN : f < N:=by omega
  have htN : t < N:=by omega
  have hsw : sweep (grE N l) L (i + 1) = relax (grE N l) (sweep (grE N l) L i) i:=rfl;have hfl : fl (grE N l) L (i + 1) = (fl (grE N l) L i || hit (grE N l) (sweep (grE N l) L i) i):=rfl;rw [hsw,hfl] at hn;clear hsw hfl;generalize sweep (grE N l) L i = M at hn hb;generalize fl (grE N l) L i = b at hn;refine Ev.go ?_ (fun k => by rw [impl_Net_toward.l1]);rw [rda,up1 hlt (by simp only [maxLen]; omega),hf,ht,lstM_rd _ htN,lstM_rd _ hfN,lstM_len];refine Ev.pos (by omega) (Ev.pos (by omega) (Ev.pos (by omega) (Ev.pos (by omega) (Ev.pos (by omega) ?_))));cases et2 : M t with
  | none =>
   have hh : hit (grE N l) M i = false:=by unfold hit; rw [et,et2]
   rw [hh,relax_hit hh,Bool.or_false] at hn;exact Ev.pos rfl hn
  | some x =>
   have hx:=hb t x et2;have hq : 0 ≤ x / 1000:=by omega
   have hr : 0 ≤ x % 1000:=by omega
   have w1 : wrap64 (x / 1000 + (arc l i).f2) = x / 1000 + (arc l i).f2:=w64 (by omega) (by omega);have w2 : wrap64 (x % 1000 + 1) = x % 1000 + 1:=w64 (by omega) (by omega);have e1 : (x + (1000 * (arc l i).f2 + 1)) / 1000 = x / 1000 + (arc l i).f2:=by omega
   have e2 : (x + (1000 * (arc l i).f2 + 1)) % 1000 = x % 1000 + 1:=by omega
   have eent : (⟨x / 1000 + (arc l i).f2,x % 1000 + 1⟩ : Msr) = ent (some (x + (1000 * (arc l i).f2 + 1))):=by simp only [ent,e1,e2]
   have hne : ¬ ((ent (some x)).f0 = 99999):=by show ¬ (x / 1000 = 99999); omega
   have elts : decide ((x / 1000 + (arc l i).f2) < (ent (M f)).f0 ∨ (x / 1000 + (arc l i).f2) = (ent (M f)).f0 ∧ (x % 1000 + 1) < (ent (M f)).f1) = lts (x + (1000 * (arc l i).f2 + 1)) (M f):=by
    cases ef2 : M f with
    | none => exact decide_eq_true (.inl (by show x / 1000 + (arc l i).f2 < 99999; omega))
    | some y =>
     have hy:=hb f y ef2
     show decide (_ < y / 1000 ∨ _ = y / 1000 ∧ _ < y % 1000) = decide (_ < y)
     rw [decide_eq_decide];omega
   have hh : hit (grE N l) M i = lts (x + (1000 * (arc l i).f2 + 1)) (M f):=by unfold hit; rw [et,et2,ef,ew]
   have hre : relax (grE N l) M i = if lts (x + (1000 * (arc l i).f2 + 1)) (M f) = true then put M f (x + (1000 * (arc l i).f2 + 1)) else M:=by
    unfold Sp.relax
    rw [if_pos (show (grE N l).use i = true from rfl),et,et2,ef,ew]
   rw [hh,hre] at hn;clear hh hre;refine Ev.neg hne ?_
   show Ev (fun k => if 0 ≤ ((f : Nat) : Int) then _ else _) R
   rw [show (ent (some x)).f0 = x / 1000 from rfl,show (ent (some x)).f1 = x % 1000 from rfl,w1,w2,Int.toNat_natCast,eent,lstM_set];clear w1 w2 hne;refine Ev.pos (by omega) (Ev.pos (by omega) (Ev.bind0 (less_eq _ _ _ _) ?_));rw [elts];cases c : lts (x + (1000 * (arc l i).f2 + 1)) (M f) with
   | true =>
    rw [c,if_pos rfl,Bool.or_true] at hn;exact Ev.pos rfl hn
   | false =>
    rw [c,if_neg (by simp),Bool.or_false] at hn;exact Ev.neg (by simp) hn
theorem tow_l0 {t : Nat} (ht : t < N) : ∀ d r,r + d = N → Ev (fun k => impl_Net_toward.l0 k (lstM N (fun v => ent (rounds (grE N l) t r v))) true N l) (lstM N (fun v => ent (rounds (grE N l) t N v))):=by
 have h8:=hg.n8;have stop : ∀ r,r ≤ N → fl (grE N l) (rounds (grE N l) t r) l.length = false → lstM N (fun v => ent (rounds (grE N l) t (r + 1) v)) = lstM N (fun v => ent (rounds (grE N l) t N v)):=by
  intro r hr hf;have e:=fl_none l.length hf;have o1 : Opt (grE N l) t (rounds (grE N l) t r):=Sp.opt_of_fix (Sp.rounds_real _ _ _) (Sp.rounds_t _ _ _) (fun v => congrFun e v);have o2:=Sp.rounds_opt (g:=grE N l) (t:=t) (r:=N) (grE_ok hg) ht (by show N ≤ N + 1; omega);refine lstM_congr (fun v hv => ?_);have e2 : rounds (grE N l) t (r + 1) = rounds (grE N l) t r:=e;rw [e2,o1.uniq o2 v hv]
 intro d
 induction d with
 | zero =>
  intro r hr;obtain rfl : r = N:=by omega
  refine Ev.go ?_ (fun k => by rw [impl_Net_toward.l0]);refine Ev.pos rfl (tow_l1 hg (rounds (grE r l) t r) (s:=16 * r) (by omega) (Bd.rounds hg t r (by omega)) _ 0 rfl (Nat.zero_le _) ?_);have hf:=fl_same (g:=grE r l) (fun _ => rfl) (L:=rounds (grE r l) t r) (Sp.rounds_fix (grE_ok hg) ht (by show r ≤ r + 1; omega)) l.length (Nat.le_refl _);rw [hf];refine Ev.go ?_ (fun k => by rw [impl_Net_toward.l0]);exact Ev.neg (by simp) (Ev.is (stop r (Nat.le_refl _) hf))
 | succ d ih =>
  intro r hr;refine Ev.go ?_ (fun k => by rw [impl_Net_toward.l0]);refine Ev.pos rfl (tow_l1 hg (rounds (grE N l) t r) (s:=16 * r) (by omega) (Bd.rounds hg t r (by omega)) _ 0 rfl (Nat.zero_le _) ?_);cases hf : fl (grE N l) (rounds (grE N l) t r) l.length with
  | true => exact ih (r + 1) (by omega)
  | false =>
   refine Ev.go ?_ (fun k => by rw [impl_Net_toward.l0]);exact Ev.neg (by simp) (Ev.is (stop r (by omega) hf))
theorem tow_ev {t : Nat} (ht : t < N) : Ev (fun k => impl_Net_toward.f k N l (t : Int)) (lstM N (fun v => ent (rounds (grE N l) t N v))):=by
 have h8:=hg.n8
 unfold impl_Net_toward.f
 refine Ev.bind0 (rep_measure _ N (by omega)) ?_;refine Ev.pos (by omega) (Ev.pos (by simp; omega) ?_);have e : (List.replicate N (⟨99999,0⟩ : Msr)).set (t : Int).toNat ⟨0,0⟩ = lstM N (fun v => ent (rounds (grE N l) t 0 v)):=by
  apply List.ext_getElem (by simp [lstM])
  intro i h1 h2;simp only [Int.toNat_natCast,List.getElem_set]
  by_cases c : t = i
  case pos => subst c; simp [lstM,Sp.rounds,Sp.start,ent]
  simp [lstM,Sp.rounds,Sp.start,ent,c,show ¬ i = t from fun h => c h.symm]
 rw [e];exact tow_l0 hg ht N 0 (by omega)
theorem ent_far {t : Nat} (ht : t < N) {v : Nat} (hv : v < N) : (ent (rounds (grE N l) t N v)).f0 = far (dst N l t v):=by
 have h8:=hg.n8;rw [tow_both hg ht hv]
 unfold Sp.both
 cases e : dst N l t v with
 | none => rfl
 | some d =>
  obtain ⟨k,h1,h2⟩:=stp_some hg ht hv e;rw [h1]
  show (1000 * d + (k : Int)) / 1000 = d
  omega
end
theorem costs_l (N : Nat) (hN : N ≤ 64) (F : Nat → Msr) : ∀ (m i : Nat),N - i = m → i ≤ N → Ev (fun k => impl_costs.l0 k (lst i (fun v => (F v).f0)) (lstM N F) (N : Int) (i : Int)) (lst N (fun v => (F v).f0)):=by
 intro m
 induction m with
 | zero =>
  intro i hd hi;refine Ev.go ?_ (fun k => by rw [impl_costs.l0]);obtain rfl : i = N:=by omega
  exact Ev.neg (by omega) (Ev.now _)
 | succ m ih =>
  intro i hd hi;refine Ev.go ?_ (fun k => by rw [impl_costs.l0]);rw [up1 (show i < N by omega) (by simp only [maxLen]; omega),lstM_rd F (show i < N by omega),lst_snoc i (fun v => (F v).f0),lst_len,lstM_len];exact Ev.pos (by omega) (Ev.pos (by omega) (Ev.pos (by omega) (Ev.pos (by omega) (ih (i + 1) (by omega) (by omega)))))
theorem costs_ev (N : Nat) (hN : N ≤ 64) (F : Nat → Msr) : Ev (fun k => impl_costs.f k (lstM N F)) (lst N (fun v => (F v).f0)):=by
 unfold impl_costs.f
 rw [lstM_len];exact Ev.pos (by omega) (Ev.pos (by omega) (costs_l N hN F _ 0 rfl (Nat.zero_le _)))
theorem from_ev {N : Nat} {l : List Arc} (hg : NetGood N l) {s : Nat} (hs : s < N) : Ev (fun k => impl_Net_from.f k N l (s : Int)) (lst N (fun v => far (dst N (back l) s v))):=by
 have h8:=hg.n8;have h16:=hg.len
 unfold impl_Net_from.f
 refine Ev.bind (implBack_ev _ l (by omega)) (Ev.bind (tow_ev (back_good hg) hs) (Ev.bind (costs_ev N (by omega) _) (Ev.is ?_)));exact lst_congr (fun v hv => ent_far (back_good hg) hs hv)
end Go.Proofs.Ytlhmljngjdfbpaa.Pure
end
section
set_option linter.unusedSimpArgs false
set_option linter.unusedVariables false
set_option linter.unusedSectionVars false
namespace Go.Proofs.Ytlhmljngjdfbpaa.Pure
open Go.RowKit Go.Proofs.Ytlhmljngjdfbpaa.Pr Go.Proofs.YtlhmljngjdfbpaaW.PrintWords Go.Proofs.YtlhmljngjdfbpaaW.PrintLast Go.Proofs.YtlhmljngjdfbpaaW.PrintMore
open Go.Proofs.Ytlhmljngjdfbpaa.Sp (G Wk Opt)
def prv (w : List Int) : Nat → Option Int
 | 0 => none
 | i + 1 => some (nth w i)
def outF (l : List Arc) (v : Int) (i : Nat) : Nat → List Int
 | 0 => []
 | d + 1 => (if (arc l i).f0 = v then [(i : Int)] else []) ++ outF l v (i + 1) d
theorem outF_len (l : List Arc) (v : Int) : ∀ (d i : Nat),(outF l v i d).length ≤ d
 | 0,_ => Nat.le_refl _
 | d + 1,i => by
  have:=outF_len l v d (i + 1)
  unfold outF
  rw [List.length_append]
  split <;> simp <;> omega
theorem netOut_l {l : List Arc} (hl : l.length ≤ 1000) (v : Int) : ∀ (m i : Nat) (x : List Int),l.length - i = m → i ≤ l.length → x.length ≤ i → Ev (fun k => impl_NetOut.l0 k v x l (l.length : Int) (i : Int)) (x ++ outF l v i m):=by
 intro m
 induction m with
 | zero =>
  intro i x hd hi hx;refine Ev.go ?_ (fun k => by rw [impl_NetOut.l0]);exact Ev.neg (by omega) (Ev.pos (by omega) (Ev.pos (by omega) (Ev.is (by simp [outF]))))
 | succ m ih =>
  intro i x hd hi hx;have hlt : i < l.length:=by omega
  refine Ev.go ?_ (fun k => by rw [impl_NetOut.l0]);rw [rda,up1 hlt (by simp only [maxLen]; omega)];refine Ev.pos (by omega) (Ev.pos (by omega) (Ev.pos (by omega) ?_))
  by_cases c : (arc l i).f0 = v
  case neg => exact Ev.neg c ((ih (i + 1) _ (by omega) (by omega) (by omega)).cast (by simp [outF,c]))
  exact Ev.pos c (Ev.pos (by omega) ((ih (i + 1) _ (by omega) (by omega) (by simp; omega)).cast (by simp [outF,c])))
theorem netOut_ev {n : Int} {l : List Arc} (hg : NetGood n l) (v : Int) : Ev (fun k => impl_NetOut.f k n l v) (outF l v 0 l.length):=by
 unfold impl_NetOut.f
 have:=hg.len;refine Ev.bind0 (show impl_NetOk.f n l = some (netOkB n l) from rfl) (Ev.pos ((netOkB_iff n l).2 hg) (Ev.pos (by omega) (Ev.pos (by omega) ?_)));exact netOut_l (by omega) v _ 0 [] rfl (Nat.zero_le _) (by simp)
def tab (N : Nat) (l : List Arc) (s : Nat) : List Int:=lst N (fun v => far (dst N (back l) s v))
theorem table_l {N : Nat} {l : List Arc} (hg : NetGood N l) : ∀ (m i : Nat),N - i = m → i ≤ N → Ev (fun k => impl_Net_table.l0 k ((List.range i).map (tab N l)) (N : Int) (i : Int) N l) ((List.range N).map (tab N l)):=by
 have h8:=hg.n8;intro m
 induction m with
 | zero =>
  intro i hd hi;obtain rfl : i = N:=by omega
  refine Ev.go ?_ (fun k => by rw [impl_Net_table.l0]);exact Ev.neg (by omega) (Ev.now _)
 | succ m ih =>
  intro i hd hi;refine Ev.go ?_ (fun k => by rw [impl_Net_table.l0]);have ih:=ih (i + 1) (by omega) (by omega);rw [List.range_succ,List.map_append] at ih;rw [up1 (show i < N by omega) (by simp only [maxLen]; omega)];exact Ev.pos (by omega) (Ev.bind (from_ev hg (show i < N by omega)) (Ev.pos (by simp; omega) ih))
theorem table_ev {N : Nat} {l : List Arc} (hg : NetGood N l) : Ev (fun k => impl_Net_table.f k N l) ((List.range N).map (tab N l)):=by
 have h8:=hg.n8
 unfold impl_Net_table.f
 exact Ev.pos (by omega) (Ev.pos (by omega) (by simpa using table_l hg _ 0 rfl (Nat.zero_le _)))
end Go.Proofs.Ytlhmljngjdfbpaa.Pure
end
section
set_option linter.unusedSimpArgs false
set_option linter.unusedVariables false
namespace Go.Proofs.Ytlhmljngjdfbpaa.Pure
open Go.RowKit Go.Proofs.Ytlhmljngjdfbpaa.Pr Go.Proofs.YtlhmljngjdfbpaaW.PrintWords Go.Proofs.YtlhmljngjdfbpaaW.PrintLast Go.Proofs.YtlhmljngjdfbpaaW.PrintMore
structure Rdr (b : List Int) : Prop where
 len : b.length ≤ 2000
 rng : ∀ i,i < b.length → 0 ≤ nth b i ∧ nth b i ≤ 255
theorem Rdr.rd {b : List Int} (h : Rdr b) (i : Int) : 0 ≤ Go.Proofs.YtlhmljngjdfbpaaW.PrintWords.rd b i ∧ Go.Proofs.YtlhmljngjdfbpaaW.PrintWords.rd b i ≤ 255:=by
 have e : Go.Proofs.YtlhmljngjdfbpaaW.PrintWords.rd b i = nth b i.toNat:=rfl;rw [e]
 by_cases c : i.toNat < b.length
 case pos => exact h.rng _ c
 have c2 : b.length ≤ i.toNat:=by omega
 simp [nth,List.getElem?_eq_none c2]
theorem tm {x a : Int} (hx : 0 ≤ x) (ha : 0 < a) : 0 ≤ Int.tmod x a ∧ Int.tmod x a < a:=by
 rw [Int.tmod_eq_emod_of_nonneg hx];exact ⟨Int.emod_nonneg _ (by omega),Int.emod_lt_of_pos _ ha⟩
theorem td {x a : Int} (hx : 0 ≤ x) (ha : 0 < a) : 0 ≤ Int.tdiv x a ∧ Int.tdiv x a ≤ x:=by
 rw [Int.tdiv_eq_ediv_of_nonneg hx];exact ⟨Int.ediv_nonneg hx (by omega),Int.ediv_le_self _ hx⟩
theorem xor_nn {x y : Int} (hx : 0 ≤ x) (hx' : x < 4294967296) (hy : 0 ≤ y) (hy' : y < 4294967296) : 0 ≤ Go.bits .xor .i64 x y:=by
 obtain ⟨x,rfl⟩:=Int.eq_ofNat_of_zero_le hx;obtain ⟨y,rfl⟩:=Int.eq_ofNat_of_zero_le hy;have h1 : x ^^^ y < 2 ^ 32:=Nat.xor_lt_two_pow (by omega) (by omega);have e : Go.bits .xor .i64 ((x : Nat) : Int) ((y : Nat) : Int) = wrap64 (((BitVec.ofInt 64 ((x : Nat) : Int) ^^^ BitVec.ofInt 64 ((y : Nat) : Int)).toNat : Nat) : Int):=by
  unfold Go.bits
  simp only [i64_w];rfl
 rw [e,BitVec.toNat_xor,BitVec.ofInt_natCast,BitVec.ofInt_natCast,BitVec.toNat_ofNat,BitVec.toNat_ofNat,Nat.mod_eq_of_lt (by omega),Nat.mod_eq_of_lt (by omega),w64 (by omega) (by omega)];omega
theorem pick_pv {b : List Int} (h : Rdr b) {p a : Int} (hp : 0 ≤ p) (hp' : p ≤ 1000000) : Pv (fun k => spec_l30Rd_pick.f k b p a) (fun r => (0 ≤ r.1 ∧ (a < 1 → r.1 = 0) ∧ (1 ≤ a → r.1 < a)) ∧ r.2 = p + 1):=by
 have w1 : wrap64 (p + 1) = p + 1:=w64 (by omega) (by omega);have w2 : wrap64 (p + 1 - 1) = p:=by rw [w64 (by omega) (by omega)]; omega
 unfold spec_l30Rd_pick.f
 refine Pv.ite (fun c => ?_) (fun c => ?_)
 ·refine Pv.go ?_ (fun k => by rw [spec_l30Rd_pick.j0]);exact Pv.pos rfl (Pv.now ⟨⟨Int.le_refl _,fun _ => rfl,fun c2 => by omega⟩,w1⟩)
 ·refine Pv.go ?_ (fun k => by rw [spec_l30Rd_pick.j0]);refine Pv.ite (fun _ => Pv.now ⟨⟨Int.le_refl _,fun _ => rfl,fun c2 => by dsimp only; omega⟩,w1⟩) (fun c0 => ?_);have hb : 0 < (b.length : Int):=by
   have : (b.length : Int) ≠ 0:=by simpa using c0
   omega
  have hb2:=h.len;rw [w1,w2];have fin : ∀ X : Int,0 ≤ X → Pv (fun _ => some (Int.tmod X a,p + 1)) (fun r => (0 ≤ r.1 ∧ (a < 1 → r.1 = 0) ∧ (1 ≤ a → r.1 < a)) ∧ r.2 = p + 1):=by
   intro X hX;have:=tm hX (show 0 < a by omega);exact Pv.now ⟨⟨this.1,fun c2 => absurd c2 c,fun _ => this.2⟩,rfl⟩
  refine Pv.ite (fun c1 => Pv.pos hp (Pv.neg (by omega) ?_)) (fun c1 => ?_)
  ·have:=h.rd p;rw [w64 (n:=Go.Proofs.YtlhmljngjdfbpaaW.PrintWords.rd b p) (by omega) (by omega)];exact fin _ (by omega)
  ·have t1:=tm hp hb;have e1 : wrap64 (p * 7) = p * 7:=w64 (by omega) (by omega);have e2 : wrap64 (p * 7 + 3) = p * 7 + 3:=w64 (by omega) (by omega);rw [e1,e2];have t2:=tm (show 0 ≤ p * 7 + 3 by omega) hb;have r1:=h.rd (Int.tmod p b.length);have r2:=h.rd (Int.tmod (p * 7 + 3) b.length);have d1:=td hp hb;refine Pv.neg (by omega) (Pv.pos t1.1 (Pv.pos t1.2 (Pv.pos t2.1 (Pv.pos t2.2 (Pv.neg (by omega) ?_)))));generalize Go.Proofs.YtlhmljngjdfbpaaW.PrintWords.rd b (Int.tmod p b.length) = u at r1;generalize Go.Proofs.YtlhmljngjdfbpaaW.PrintWords.rd b (Int.tmod (p * 7 + 3) b.length) = v at r2;generalize Int.tdiv p b.length = q at d1;rw [w64 (n:=u) (by omega) (by omega),w64 (n:=v) (by omega) (by omega),w64 (n:=q) (by omega) (by omega),w64 (n:=u * 131) (by omega) (by omega),w64 (n:=v * 1117) (by omega) (by omega),w64 (n:=p * 29) (by omega) (by omega),w64 (n:=q * 53) (by omega) (by omega),w64 (n:=u * 131 + v * 1117) (by omega) (by omega),w64 (n:=u * 131 + v * 1117 + p * 29) (by omega) (by omega),w64 (n:=u * 131 + v * 1117 + p * 29 + q * 53) (by omega) (by omega)];have d2:=td (show 0 ≤ u * 131 + v * 1117 + p * 29 + q * 53 by omega) (show (0 : Int) < 64 by omega);generalize Int.tdiv (u * 131 + v * 1117 + p * 29 + q * 53) 64 = z at d2;rw [w64 (n:=z) (by omega) (by omega)];exact fin _ (xor_nn (by omega) (by omega) (by omega) (by omega))
theorem one_pv {b : List Int} (h : Rdr b) {p : Int} (hp : 0 ≤ p) (hp' : p ≤ 1000000) {l : List Int} (hl : 0 < l.length) : Pv (fun k => spec_l30Rd_one.f k b p l) (fun r => r.1 ∈ l ∧ r.2 = p + 1):=by
 unfold spec_l30Rd_one.f
 refine Pv.bind (pick_pv h hp hp') (fun r ⟨⟨h1,_,h2⟩,h3⟩ => ?_);have h2:=h2 (by omega);refine Pv.pos h1 (Pv.pos h2 (Pv.now ⟨?_,h3⟩));have e : Go.Proofs.YtlhmljngjdfbpaaW.PrintWords.rd l r.1 = nth l r.1.toNat:=rfl;dsimp only;rw [e];exact getD_mem (by omega)
theorem u8_range {x : Int} (h : (Lit.int .u8 x).wf = true) : 0 ≤ x ∧ x ≤ 255:=by
 simp only [Lit.wf] at h;have h2 : IntKind.u8.min ≤ x ∧ x ≤ IntKind.u8.max:=by simpa using h
 have e1 : IntKind.u8.min = 0:=by decide
 have e2 : IntKind.u8.max = 255:=by decide
 omega
theorem open_pv {l : List Int} (hl : ∀ x ∈ l,(Lit.int .u8 x).wf = true) : ∃ b,spec_l30Open.f l = some (b,0) ∧ Rdr b:=by
 have key : ∀ m : List Int,m.length ≤ 2000 → (∀ x ∈ m,x ∈ l) → Rdr m:=fun m h1 h2 => ⟨h1,fun i hi => u8_range (hl _ (h2 _ (getD_mem hi)))⟩
 unfold spec_l30Open.f
 by_cases c : (l.length : Int) > 2000
 case neg =>
  rw [if_neg c];exact ⟨_,rfl,key _ (by omega) (fun x hx => hx)⟩
 rw [if_pos c,if_pos (by omega)];exact ⟨_,rfl,key _ (by simp; omega) (fun x hx => List.mem_of_mem_take hx)⟩
def NetSz (p : Int) (r : Int × List Arc × Int) : Prop:=(0 ≤ r.1 ∧ r.1 ≤ 9) ∧ r.2.1.length ≤ 13 ∧ (p ≤ r.2.2 ∧ r.2.2 ≤ p + 100)
theorem net_l {b : List Int} (h : Rdr b) (n : Int) (hn : 1 ≤ n ∧ n ≤ 9) : ∀ (m : Nat) (p : Int) (l : List Arc),0 ≤ p → p + 6 * m ≤ 100000 → m ≤ 13 → l.length ≤ 13 - m → Pv (fun k => spec_l30Net.l0 k (m : Int) b p n l) (fun r => r.1 = n ∧ r.2.1.length ≤ 13 ∧ (p ≤ r.2.2 ∧ r.2.2 ≤ p + 6 * m)):=by
 intro m
 induction m with
 | zero =>
  intro p l hp hp' hm hl;refine Pv.go ?_ (fun k => by rw [spec_l30Net.l0]);exact Pv.neg (by omega) (Pv.now ⟨rfl,by dsimp only; omega,by dsimp only; omega⟩)
 | succ m ih =>
  intro p l hp hp' hm hl;have hw : wrap64 (((m + 1 : Nat) : Int) - 1) = (m : Int):=by rw [w64 (by omega) (by omega)]; omega
  refine Pv.go ?_ (fun k => by rw [spec_l30Net.l0]);rw [hw];refine Pv.pos (by omega) (Pv.bind (pick_pv h hp (by omega)) (fun r1 ⟨a1,e1⟩ => Pv.bind (pick_pv h (p:=r1.2) (by omega) (by omega)) (fun r2 ⟨a2,e2⟩ => Pv.bind (pick_pv h (p:=r2.2) (by omega) (by omega)) (fun r3 ⟨a3,e3⟩ => Pv.bind (one_pv h (p:=r3.2) (by omega) (by omega) (by simp)) (fun r4 ⟨a4,e4⟩ => Pv.bind (one_pv h (p:=r4.2) (by omega) (by omega) (by simp)) (fun r5 ⟨a5,e5⟩ => Pv.bind (pick_pv h (p:=r5.2) (by omega) (by omega)) (fun r6 ⟨a6,e6⟩ => ?_)))))));have step : ∀ x : Arc,Pv (fun k => spec_l30Net.l0 k (m : Int) b r6.2 n (l ++ [x])) (fun r => r.1 = n ∧ r.2.1.length ≤ 13 ∧ (p ≤ r.2.2 ∧ r.2.2 ≤ p + 6 * ((m + 1 : Nat) : Int))):=fun x => (ih r6.2 (l ++ [x]) (by omega) (by omega) (by omega) (by simp; omega)).mono (fun r hr => ⟨hr.1,hr.2.1,by omega,by omega⟩)
  refine Pv.ite (fun _ => Pv.neg (by omega) (Pv.pos (by omega) (step _))) (fun _ => Pv.pos (by omega) (step _))
theorem net_pv {b : List Int} (h : Rdr b) {p : Int} (hp : 0 ≤ p) (hp' : p ≤ 10000) : Pv (fun k => spec_l30Net.f k b p) (fun r => (2 ≤ r.1 ∧ r.1 ≤ 6) ∧ r.2.1.length ≤ 13 ∧ (p ≤ r.2.2 ∧ r.2.2 ≤ p + 90)):=by
 unfold spec_l30Net.f
 refine Pv.bind (pick_pv h hp (by omega)) (fun r1 ⟨a1,e1⟩ => Pv.bind (pick_pv h (p:=r1.2) (by omega) (by omega)) (fun r2 ⟨a2,e2⟩ => ?_));have b1:=a1.2.2 (by omega);have b2:=a2.2.2 (by omega);have hw : wrap64 (2 + r1.1) = 2 + r1.1:=w64 (by omega) (by omega);rw [hw];have:=net_l h (2 + r1.1) (by omega) r2.1.toNat r2.2 [] (by omega) (by omega) (by omega) (by simp);rw [Int.toNat_of_nonneg a2.1] at this;exact this.mono (fun r hr => ⟨⟨by omega,by omega⟩,hr.2.1,by omega,by omega⟩)
theorem anyNet_pv {b : List Int} (h : Rdr b) {p : Int} (hp : 0 ≤ p) (hp' : p ≤ 10000) : Pv (fun k => spec_l30AnyNet.f k b p) (NetSz p):=by
 unfold spec_l30AnyNet.f
 refine Pv.bind (net_pv h hp hp') (fun r0 ⟨a0,l0,e0⟩ => ?_);refine Pv.ite (fun c => ?_) (fun c => Pv.now ⟨by dsimp only; omega,l0,by dsimp only; omega⟩);refine Pv.bind (pick_pv h (p:=r0.2.2) (by omega) (by omega)) (fun r1 ⟨a1,e1⟩ => Pv.bind (pick_pv h (p:=r1.2) (by omega) (by omega)) (fun r2 ⟨a2,e2⟩ => ?_));have b1:=a1.2.2 (by omega);refine Pv.ite (fun c1 => Pv.pos a1.1 (Pv.pos b1 (Pv.bind (one_pv h (p:=r2.2) (by omega) (by omega) (by simp)) (fun r3 ⟨a3,e3⟩ => Pv.now ⟨by dsimp only; omega,by simpa using l0,by dsimp only; omega⟩)))) (fun c1 => ?_);refine Pv.ite (fun c2 => Pv.bind (one_pv h (p:=r2.2) (by omega) (by omega) (by simp)) (fun r3 ⟨a3,e3⟩ => Pv.pos a1.1 (Pv.pos b1 (Pv.now ⟨by dsimp only; omega,by simpa using l0,by dsimp only; omega⟩)))) (fun c2 => ?_);refine Pv.ite (fun c3 => Pv.bind (one_pv h (p:=r2.2) (by omega) (by omega) (by simp)) (fun r3 ⟨a3,e3⟩ => Pv.now ⟨?_,l0,by dsimp only; omega⟩)) (fun c3 => Pv.now ⟨by dsimp only; omega,l0,by dsimp only; omega⟩);simp only [List.mem_cons,List.not_mem_nil,or_false] at a3;dsimp only;omega
theorem wkInts_l (a b : List Int) (hm : a.length ≤ maxLen) (hl : a.length = b.length) : ∀ (m i : Nat),a.length - i = m → i ≤ a.length → Ev (fun k => laws_wkInts.l0 k a b (i : Int)) (decide (a.drop i = b.drop i)):=by
 intro m
 induction m with
 | zero =>
  intro i hd hi;refine Ev.go ?_ (fun k => by rw [laws_wkInts.l0]);refine Ev.neg (by omega) (Ev.is ?_);rw [List.drop_of_length_le (by omega),List.drop_of_length_le (by omega)];rfl
 | succ m ih =>
  intro i hd hi;have hlt : i < a.length:=by omega
  have hlt2 : i < b.length:=by omega
  refine Ev.go ?_ (fun k => by rw [laws_wkInts.l0]);refine Ev.pos (by omega) (Ev.pos (by omega) (Ev.pos (by omega) ?_));rw [rdn hlt,rdn hlt2,up1 hlt hm,drop_cons hlt,drop_cons hlt2]
  by_cases c : a[i] = b[i]
  case neg => exact Ev.neg c (Ev.is (by simp only [List.cons.injEq,c,false_and]; rfl))
  exact Ev.pos c ((ih (i + 1) (by omega) (by omega)).cast (by rw [c]; simp only [List.cons.injEq,true_and]))
theorem wkInts_ev (a b : List Int) (hm : a.length ≤ maxLen) : Ev (fun k => laws_wkInts.f k a b) (decide (a = b)):=by
 unfold laws_wkInts.f
 by_cases c : a.length = b.length
 case pos => exact Ev.pos (by omega) (by simpa using wkInts_l a b hm c _ 0 rfl (Nat.zero_le _))
 exact Ev.neg (by omega) (Ev.is (by rw [eq_comm]; exact decide_eq_false (fun e => c (by rw [e]))))
theorem wkInts_same (a : List Int) (hm : a.length ≤ maxLen) : Ev (fun k => laws_wkInts.f k a a) true:=(wkInts_ev a a hm).cast (by simp)
end Go.Proofs.Ytlhmljngjdfbpaa.Pure
end
section
set_option linter.unusedSimpArgs false
set_option linter.unusedVariables false
set_option linter.unusedSectionVars false
namespace Go.Proofs.Ytlhmljngjdfbpaa.Pure
open Go.RowKit Go.Proofs.Ytlhmljngjdfbpaa.Pr Go.Proofs.YtlhmljngjdfbpaaW.PrintWords Go.Proofs.YtlhmljngjdfbpaaW.PrintLast Go.Proofs.YtlhmljngjdfbpaaW.PrintMore
open Go.Proofs.Ytlhmljngjdfbpaa.Sp (G Wk Opt)
theorem nodeT_pv {b : List Int} (h : Rdr b) {p : Int} (hp : 0 ≤ p) (hp' : p ≤ 20000) (n : Int) (l : List Arc) : Pv (fun k => spec_l30Node.f k b p n l) (fun _ => True):=by
 unfold spec_l30Node.f
 refine Pv.bind (pick_pv h hp (by omega)) (fun r1 ⟨a1,e1⟩ => ?_);refine Pv.ite (fun _ => Pv.bind (one_pv h (p:=r1.2) (by omega) (by omega) (by simp)) (fun r2 _ => Pv.now trivial)) (fun _ => Pv.bind (pick_pv h (p:=r1.2) (by omega) (by omega)) (fun r2 _ => Pv.now trivial))
noncomputable def outV (n : Int) (l : List Arc) (v : Int) : List Int:=if netOkB n l = true then outF l v 0 l.length else []
theorem outV_len (n : Int) (l : List Arc) (v : Int) (hl : l.length ≤ 13) : (outV n l v).length ≤ 13:=by
 unfold outV
 split
 ·have:=outF_len l v l.length 0; omega
 ·simp
theorem implOut_ev (n : Int) (l : List Arc) (v : Int) : Ev (fun k => impl_NetOut.f k n l v) (outV n l v):=by
 unfold outV
 cases h : netOkB n l with
 | true => rw [if_pos rfl]; exact netOut_ev ((netOkB_iff n l).1 h) v
 | false =>
  unfold impl_NetOut.f
  exact Ev.bind0 (show impl_NetOk.f n l = some false from h ▸ rfl) (Ev.neg (by simp) (Ev.is (by simp)))
theorem specOut_l {n : Int} {l : List Arc} (hg : NetGood n l) (v : Int) : ∀ (m i : Nat) (x : List Int),l.length - i = m → i ≤ l.length → x.length ≤ i → Ev (fun k => spec_NetOut.l0 k v x (i : Int) n l) (x ++ outF l v i (l.length - i)):=by
 have h16:=hg.len;intro m
 induction m with
 | zero =>
  intro i x hd hi hx;refine Ev.go ?_ (fun k => by rw [spec_NetOut.l0]);refine Ev.neg (by omega) (Ev.go ?_ (fun k => by rw [spec_NetOut.j1]));exact Ev.neg (by simp) (Ev.is (by rw [hd]; simp [outF]))
 | succ m ih =>
  intro i x hd hi hx;have hlt : i < l.length:=by omega
  have hok:=l1Ok_ev n l (by simp only [maxLen]; omega);rw [(netOkB_iff n l).2 hg] at hok;refine Ev.go ?_ (fun k => by rw [spec_NetOut.l0]);refine Ev.pos (by omega) (Ev.bind hok (Ev.go ?_ (fun k => by rw [spec_NetOut.j1])));rw [rda,up1 hlt (by simp only [maxLen]; omega)];have e : l.length - i = (l.length - (i + 1)) + 1:=by omega
  refine Ev.pos rfl (Ev.pos (by omega) (Ev.pos (by omega) ?_))
  by_cases c : (arc l i).f0 = v
  case neg => exact Ev.neg c ((ih (i + 1) _ (by omega) (by omega) (by omega)).cast (by rw [e]; simp [outF,c]))
  exact Ev.pos c (Ev.pos (by omega) ((ih (i + 1) _ (by omega) (by omega) (by simp; omega)).cast (by rw [e]; simp [outF,c])))
theorem specOut_ev (n : Int) (l : List Arc) (v : Int) (hl : l.length ≤ maxLen) : Ev (fun k => spec_NetOut.f k n l v) (outV n l v):=by
 unfold outV spec_NetOut.f
 cases h : netOkB n l with
 | true =>
  have:=specOut_l ((netOkB_iff n l).1 h) v _ 0 [] rfl (Nat.zero_le _) (by simp);exact this.cast (by simp)
 | false =>
  have hok:=l1Ok_ev n l hl;rw [h] at hok;refine Ev.go ?_ (fun k => by rw [spec_NetOut.l0])
  by_cases c : (0 : Int) < (l.length : Int)
  case neg =>
   refine Ev.neg c (Ev.go ?_ (fun k => by rw [spec_NetOut.j1]));exact Ev.neg (by simp) (Ev.is (by simp))
  refine Ev.pos c (Ev.bind hok (Ev.go ?_ (fun k => by rw [spec_NetOut.j1])));exact Ev.neg (by simp) (Ev.is (by simp))
section
variable {N : Nat} {l : List Arc} (hg : NetGood N l)
include hg
theorem wk_con {u v k : Nat} {c : Int} (h : Wk (gr N (back l)) u v k c) : Con (frA l) (twA l) (List.range l.length) u v:=by
 induction h with
 | nil v => exact .refl v
 | @cons i v k c hi _ _ ih =>
  have hi2 : i < l.length:=by
   have : i < (back l).length:=hi;rw [back_len] at this; exact this
  have e1 : (gr N (back l)).fr i = twA l i:=by show (arc (back l) i).f0.toNat = _; rw [back_arc hi2]; rfl
  have e2 : (gr N (back l)).tw i = frA l i:=by show (arc (back l) i).f1.toNat = _; rw [back_arc hi2]; rfl
  rw [e2] at ih;rw [e1];exact (Con.arc (List.mem_range.2 hi2)).symm.trans ih
theorem far_con {s v : Nat} (hs : s < N) (hv : v < N) (h : far (dst N (back l) s v) ≠ 99999) : Con (frA l) (twA l) (List.range l.length) v s:=by
 cases hd : dst N (back l) s v with
 | none => rw [hd] at h; exact absurd rfl h
 | some x =>
  obtain ⟨k,hk⟩:=(dst_opt (back_good hg) hs v hv).1 x hd;exact wk_con hg hk
theorem far_self {v : Nat} (hv : v < N) : far (dst N (back l) v v) ≠ 99999:=by
 obtain ⟨x,h1,h2⟩:=(dst_opt (back_good hg) hv v hv).2 _ _ (.nil v);rw [h1]
 show x ≠ 99999
 omega
theorem reachIn_l {s : Nat} (hs : s < N) : ∀ (m i : Nat) (x : List Int),N - i = m → i ≤ N → x.length ≤ i → (∀ y ∈ x,∃ v : Nat,y = (v : Int) ∧ v < N ∧ Con (frA l) (twA l) (List.range l.length) v s) → Pv (fun k => impl_ReachIn.l0 k 99999 x (lst N (fun v => far (dst N (back l) s v))) (N : Int) (i : Int)) (fun r => r.length ≤ N ∧ ∀ y ∈ r,∃ v : Nat,y = (v : Int) ∧ v < N ∧ Con (frA l) (twA l) (List.range l.length) v s):=by
 have h8:=hg.n8;intro m
 induction m with
 | zero =>
  intro i x hd hi hx hp;refine Pv.go ?_ (fun k => by rw [impl_ReachIn.l0]);refine Pv.neg (by omega) (Pv.pos (by omega) (Pv.pos (by omega) (Pv.now ?_)));rw [Int.toNat_natCast,List.take_length];exact ⟨by omega,hp⟩
 | succ m ih =>
  intro i x hd hi hx hp;have hlt : i < N:=by omega
  refine Pv.go ?_ (fun k => by rw [impl_ReachIn.l0]);rw [lst_rd _ hlt,lst_len,up1 hlt (by simp only [maxLen]; omega)];refine Pv.pos (by omega) (Pv.pos (by omega) (Pv.pos (by omega) ?_))
  unfold impl_reached.f
  by_cases c : far (dst N (back l) s i) = 99999
  case pos =>
   rw [if_pos c];exact Pv.bind0 rfl (Pv.neg (by simp) (ih (i + 1) x (by omega) (by omega) (by omega) hp))
  rw [if_neg c];refine Pv.bind0 rfl (Pv.ite (fun _ => Pv.pos (by omega) (ih (i + 1) _ (by omega) (by omega) (by simp; omega) (fun y hy => ?_))) (fun _ => ih (i + 1) x (by omega) (by omega) (by omega) hp))
  rcases List.mem_append.1 hy with h | h
  ·exact hp y h
  ·exact ⟨i,List.mem_singleton.1 h,hlt,far_con hg hs hlt c⟩
theorem reachIn_pv {s : Nat} (hs : s < N) : Pv (fun k => impl_ReachIn.f k N l (s : Int) 99999) (fun r => r.length ≤ N ∧ ∀ y ∈ r,∃ v : Nat,y = (v : Int) ∧ v < N ∧ Con (frA l) (twA l) (List.range l.length) v s):=by
 have h8:=hg.n8
 unfold impl_ReachIn.f
 refine Pv.bind0 (b:=true) (by rw [nodesIn_eq,(netOkB_iff _ _).2 hg]; simp [okN]; omega) (Pv.pos rfl (Pv.pos (by omega) (Pv.pos (by omega) ?_)));obtain ⟨r,hr,hp⟩:=reachIn_l hg hs _ 0 [] rfl (Nat.zero_le _) (by simp) (by simp);refine Pv.of (Ev.bind (from_ev hg hs) ?_) hp;rw [lst_len];exact hr
theorem reachP_l0 : ∀ (m v : Nat) (x : List Int),N - v = m → v ≤ N → x.length = v → (∀ w,w < v → ∃ u : Nat,nth x w = (u : Int) ∧ u < N ∧ Con (frA l) (twA l) (List.range l.length) u w) → Pv (fun k => impl_ReachParts.l0 k ((List.range N).map (tab N l)) x (N : Int) (v : Int)) (fun r => r.length = N ∧ ∀ w,w < N → ∃ u : Nat,nth r w = (u : Int) ∧ u < N ∧ Con (frA l) (twA l) (List.range l.length) u w):=by
 have h8:=hg.n8;have hT : ((List.range N).map (tab N l)).length = N:=by simp
 have hrow : ∀ u,u < N → rd_L2 ((List.range N).map (tab N l)) (u : Int) = tab N l u:=fun u hu => by simp [rd_L2,hu]
 have hcell : ∀ u v,v < N → rd (tab N l u) (v : Int) = far (dst N (back l) u v):=fun u v hv => lst_rd _ hv
 have hlen : ∀ u,(tab N l u).length = N:=fun u => lst_len _ _
 intro m
 induction m with
 | zero =>
  intro v x hd hv hx hp;have : v = N:=by omega
  subst this;refine Pv.go ?_ (fun k => by rw [impl_ReachParts.l0]);exact Pv.neg (by omega) (Pv.now ⟨hx,hp⟩)
 | succ m ih =>
  intro v x hd hv hx hp;have hlt : v < N:=by omega
  have push : ∀ u,u < N → Con (frA l) (twA l) (List.range l.length) u v → Pv (fun k => impl_ReachParts.l0 k ((List.range N).map (tab N l)) (x ++ [(u : Int)]) (N : Int) ((v + 1 : Nat) : Int)) (fun r => r.length = N ∧ ∀ w,w < N → ∃ u : Nat,nth r w = (u : Int) ∧ u < N ∧ Con (frA l) (twA l) (List.range l.length) u w):=fun u hu hc => by
   refine ih (v + 1) _ (by omega) (by omega) (by simp [hx]) (fun w hw => ?_)
   by_cases e : w = v
   case pos =>
    subst e;exact ⟨u,by simp [nth,← hx],hu,hc⟩
   obtain ⟨q,h1,h2,h3⟩:=hp w (by omega);exact ⟨q,by rw [← h1]; simp [nth,List.getElem?_append_left (show w < x.length by omega)],h2,h3⟩
  have inner : ∀ (d u : Nat),v - u = d → u ≤ v → Pv (fun k => impl_ReachParts.l1 k ((List.range N).map (tab N l)) x (v : Int) (u : Int) (N : Int) (v : Int)) (fun r => r.length = N ∧ ∀ w,w < N → ∃ u : Nat,nth r w = (u : Int) ∧ u < N ∧ Con (frA l) (twA l) (List.range l.length) u w):=by
   intro d
   induction d with
   | zero =>
    intro u hd2 hu;have : u = v:=by omega
    subst this;have hs:=far_self hg hlt;refine Pv.go ?_ (fun k => by rw [impl_ReachParts.l1]);rw [hrow u hlt,hcell u u hlt,hT,hlen,up1 hlt (by simp only [maxLen]; omega)];exact Pv.pos (by omega) (Pv.pos (by omega) (Pv.pos (by omega) (Pv.pos (by omega) (Pv.neg hs (Pv.pos (by omega) (Pv.pos (by omega) (Pv.neg hs (Pv.pos (by omega) (push u hlt (.refl _))))))))))
   | succ d ihd =>
    intro u hd2 hu;have hul : u < N:=by omega
    have ihd:=ihd (u + 1) (by omega) (by omega);refine Pv.go ?_ (fun k => by rw [impl_ReachParts.l1]);rw [hrow u hul,hrow v hlt,hcell u v hlt,hcell v u hul,hT,hlen,hlen,up1 hul (by simp only [maxLen]; omega),up1 hlt (by simp only [maxLen]; omega)];refine Pv.pos (by omega) (Pv.pos (by omega) (Pv.pos (by omega) (Pv.pos (by omega) (Pv.ite (fun _ => ihd) (fun c1 => Pv.pos (by omega) (Pv.pos (by omega) (Pv.ite (fun _ => ihd) (fun c2 => Pv.pos (by omega) (push u hul (far_con hg hlt hul c2))))))))))
  refine Pv.go ?_ (fun k => by rw [impl_ReachParts.l0]);exact Pv.pos (by omega) (inner _ 0 rfl (Nat.zero_le _))
theorem reachP_pv : Pv (fun k => impl_ReachParts.f k N l) (fun r => r.length = N ∧ ∀ w,w < N → ∃ u : Nat,nth r w = (u : Int) ∧ u < N ∧ Con (frA l) (twA l) (List.range l.length) u w):=by
 have h8:=hg.n8
 unfold impl_ReachParts.f
 refine Pv.bind0 (show impl_NetOk.f N l = some true from by rw [← (netOkB_iff _ _).2 hg]; rfl) (Pv.pos rfl ?_);obtain ⟨r,hr,hp⟩:=reachP_l0 hg _ 0 [] rfl (Nat.zero_le _) rfl (fun w hw => by omega);exact Pv.of (Ev.bind (table_ev hg) (Ev.pos (by omega) (Ev.pos (by omega) hr))) hp
theorem one_part {u v : Nat} (hu : u < N) (hv : v < N) (c : Con (frA l) (twA l) (List.range l.length) u v) : roundS l (ints (bestT l)) N u = roundS l (ints (bestT l)) N v:=by
 have:=(parts_con hg (bestT_len hg).2.1 (u:=u) (v:=v) (by rw [Int.toNat_natCast]; exact hu) (by rw [Int.toNat_natCast]; exact hv)).2 ((all_con hg u v).1 c)
 rwa [Int.toNat_natCast] at this
theorem reach_l1 {s : Nat} (hs : s < N) {K : List Int} (hK : K.length = N) (hp : ∀ w,w < N → ∃ u : Nat,nth K w = (u : Int) ∧ u < N ∧ Con (frA l) (twA l) (List.range l.length) u w) : ∀ (m i : Nat),N - i = m → i ≤ N → Ev (fun k => laws_FnTreeReach.l1 k (s : Int) (lst N (roundS l (ints (bestT l)) N)) K (i : Int) N l) true:=by
 have h8:=hg.n8;intro m
 induction m with
 | zero =>
  intro i hd hi;refine Ev.go ?_ (fun k => by rw [laws_FnTreeReach.l1]);exact Ev.neg (by omega) (Ev.now _)
 | succ m ih =>
  intro i hd hi;have hlt : i < N:=by omega
  have ih:=ih (i + 1) (by omega) (by omega);refine Ev.go ?_ (fun k => by rw [laws_FnTreeReach.l1]);rw [up1 hlt (by simp only [maxLen]; omega),lst_len,lst_rd _ hlt,lst_rd _ hs,rdg,rdg,hK];refine Ev.pos (by omega) (Ev.pos (by omega) (Ev.pos (by omega) (Ev.pos (by omega) (Ev.pos (by omega) ?_))))
  by_cases c : nth K i = nth K s
  case neg => exact Ev.neg c ih
  obtain ⟨u,e1,hu,c1⟩:=hp i hlt;obtain ⟨w,e2,hw,c2⟩:=hp s hs;have e : u = w:=by omega
  subst e;exact Ev.pos c (Ev.pos (by omega) (Ev.pos (by omega) (Ev.pos (one_part hg hlt hs (c1.symm.trans c2)) ih)))
theorem reach_l0 {s : Nat} (hs : s < N) {r : List Int} (hr8 : r.length ≤ N) (hr : ∀ y ∈ r,∃ v : Nat,y = (v : Int) ∧ v < N ∧ Con (frA l) (twA l) (List.range l.length) v s) : ∀ (m i : Nat),r.length - i = m → i ≤ r.length → Ev (fun k => laws_FnTreeReach.l0 k (s : Int) (lst N (roundS l (ints (bestT l)) N)) r (i : Int) N l) true:=by
 have h8:=hg.n8;intro m
 induction m with
 | zero =>
  intro i hd hi;obtain ⟨K,hk,hK,hp⟩:=reachP_pv hg;refine Ev.go ?_ (fun k => by rw [laws_FnTreeReach.l0]);exact Ev.neg (by omega) (Ev.bind hk (reach_l1 hg hs hK hp _ 0 rfl (Nat.zero_le _)))
 | succ m ih =>
  intro i hd hi;have hlt : i < r.length:=by omega
  have ih:=ih (i + 1) (by omega) (by omega);obtain ⟨v,e,hv,c⟩:=hr (nth r i) (getD_mem hlt);refine Ev.go ?_ (fun k => by rw [laws_FnTreeReach.l0]);rw [up1 hlt (by simp only [maxLen]; omega),lst_len,rdg,e,lst_rd _ hv,lst_rd _ hs];exact Ev.pos (by omega) (Ev.pos (by omega) (Ev.pos (by omega) (Ev.pos (by omega) (Ev.pos (by omega) (Ev.pos (by omega) (Ev.pos (one_part hg hv hs c) ih))))))
end
theorem FnTreeReach : laws_FnTreeReach.Asked:=by
 intro b hc;refine Pv.rounds ?_
 unfold laws_FnTreeReach.f
 by_cases hs : (b.length : Int) > 1048576
 ·exact Pv.pos hs (Pv.now rfl)
 refine Pv.neg hs ?_
 unfold spec_DrawNetOut.f
 obtain ⟨bb,e,hb⟩:=open_pv hc.2;refine Pv.bind (R:=fun r => r.2.1.length ≤ 13) (Pv.bind0 e (Pv.bind (anyNet_pv hb (p:=0) (by omega) (by omega)) (fun r1 h1 => Pv.bind (nodeT_pv hb (p:=r1.2.2) (by have:=h1.2.2; omega) (by have:=h1.2.2; omega) r1.1 r1.2.1) (fun r2 _ => Pv.now h1.2.1)))) (fun r h2 => ?_);obtain ⟨n,l,v⟩:=r;dsimp only at h2 ⊢;have hm : l.length ≤ maxLen:=by simp only [maxLen]; omega
 have hol:=outV_len n l v h2;have hw:=wkInts_same (outV n l v) (by simp only [maxLen]; omega);have early : Ev (fun k => laws_FnTreeReach.j0 k v (outV n l v) true n l) true:=by
  refine Ev.go ?_ (fun k => by rw [laws_FnTreeReach.j0]);exact Ev.pos rfl (Ev.bind (specOut_ev n l v hm) (Ev.bind hw (Ev.now _)))
 refine Pv.of (r:=true) (Ev.bind (implOut_ev n l v) (Ev.bind (specOut_ev n l v hm) (Ev.bind hw (Ev.pos rfl (Ev.bind0 (show impl_NetOk.f n l = some (netOkB n l) from rfl) ?_))))) rfl;cases hk : netOkB n l with
 | false => exact Ev.neg (by simp) early
 | true =>
  refine Ev.pos rfl ?_
  by_cases c1 : v < 0
  ·exact Ev.pos c1 early
  refine Ev.neg c1 ?_
  by_cases c2 : v ≥ n
  ·rw [decide_eq_true c2]; exact early
  rw [decide_eq_false c2];have hg:=(netOkB_iff n l).1 hk;obtain ⟨N,rfl⟩:=Int.eq_ofNat_of_zero_le (show 0 ≤ n by have:=hg.n1; omega);obtain ⟨s,rfl⟩:=Int.eq_ofNat_of_zero_le (show 0 ≤ v by omega);have hsN : s < N:=by omega
  have e2 : treeB (N : Int) l = ints (bestT l):=by unfold treeB; rw [hk,if_pos rfl]
  obtain ⟨r,hr,hr8,hp⟩:=reachIn_pv hg hsN;have ht:=implTreeB_ev (N : Int) l;rw [e2] at ht;have hq:=treeP_ev hg (bestT_len hg).2.1 (bestT_len hg).1;rw [Int.toNat_natCast] at hq;refine Ev.go ?_ (fun k => by rw [laws_FnTreeReach.j0]);exact Ev.neg (by simp) (Ev.bind ht (Ev.bind hq (Ev.bind hr (reach_l0 hg hsN hr8 hp _ 0 rfl (Nat.zero_le _)))))
end Go.Proofs.Ytlhmljngjdfbpaa.Pure
end
section
namespace Go.Proofs.Ytlhmljngjdfbpaa.fnTreeReach
open Go.ChangeShapes Go.WideShapes Go.ChangeAt Go.RowKit Go.Proofs.YtlhmljngjdfbpaaW.PrintWords Go.Proofs.Ytlhmljngjdfbpaa.Pr
open Go.ChangeMaps (open_string shut_string)
set_option linter.unusedVariables false
set_option linter.unusedSimpArgs false
theorem own : ownKnob Try.prog.godebug = none:=by kernel_rfl
theorem laidOut : laidOutB Try.prog = true:=by kernel_rfl
theorem opens0 : Opens Try.prog (Kd.slice 5 (Kd.int .u8)) 22 (fun l => l.length ≤ maxLen ∧ ∀ x ∈ l,(fun n => (Lit.int .u8 n).wf = true) x):=(opens_slice (P:=Try.prog) Try.underlying22 (by kernel_rfl) (opens_int (P:=Try.prog) (k:=.u8) Try.underlying5))
set_option maxRecDepth 100000 in
set_option maxHeartbeats 2000000 in
theorem lifted (os : Os) (started : os.Started) (H : Type) (enc : TypeId × Value → H) :
  ReturnsInHanded {} Try.checked os 12 .any (Rows.fnTreeReachSpec.pre6 enc Try.prog Try.f12 Rows.fnTreeReachRow.domain false) (Rows.fnTreeReachSpec.post enc Try.prog Try.f12 false true false false):=by
 refine returnsInHanded_of_change_sized (C:=Try.checked) own started (by kernel_rfl) Try.func12
  (ChangeSpec.witness6 (enc:=enc) (C:=Try.checked) false ⟨#[],#[(.slice none 0 0)],[]⟩ 8 (by kernel_rfl) (by kernel_rfl) (by kernel_rfl) (by kernel_rfl)) ?_
 intro W base args ds gs before hval0 hW hcnd hsz0 _;have hval : ∀ (j : Nat) t v,Try.f12.params[j]? = some t → args[j]? = some v → Value.okWide Try.prog W .any base t v:=hval0
 have hW':=hW;obtain ⟨p,q,hA0,hV,rfl,hfz,hnd⟩:=hW;have hA : DataW.TrodAll enc Try.prog W 0 (fun _ => true) true Try.f12.params.toList args.toList ds p:=hA0;rw [Try.params12] at hA hval;obtain ⟨v0,vs0,d0,ds0,p0,q0,hargs,rfl,rfl,h0,r0⟩:=trodAll_cons hA;obtain ⟨rfl,rfl,rfl⟩:=trodAll_nil r0;obtain rfl : args = #[v0]:=by cases args; simp_all
 obtain ⟨rfl,rfl⟩:=trodVars_none hV;have k0:=h0;have lt0 : ∀ x ∈ p0,x.block < W.heap.size:=by obtain ⟨m,hm⟩:=k0; exact DataW.trod_lt m _ _ _ hm
 obtain ⟨a0,len0,cap0,rfl⟩:=okWide_slice Try.underlying22 (hval 0 22 v0 rfl rfl);obtain ⟨fuel0,hf0⟩:=h0;obtain ⟨l0,⟨A0,c0,e0,hc0,hr0⟩,w0⟩:=opens0 hf0;have e0' : (Value.slice a0 len0 cap0) = .slice A0 l0.length c0:=(List.cons.inj e0).1;injection e0' with e0a e0b e0c
 subst e0a e0b e0c;obtain ⟨k,hh⟩:=Pure.FnTreeReach l0 w0;refine (laws_FnTreeReach.calls k _ _ l0 true W hr0 hc0 hh).mono fun e W' ⟨he,bel0⟩ => ?_
 have bel : Below W.heap.size W W':=bel0;subst he;exact ⟨_,rfl,_,_,_,[],_,[],hW',trodAll_mk1 (shut_bool Try.underlying4 _),(trodAll_cons_mk (Below.trod laidOut (by kernel_rfl) (of_decide_eq_true (by kernel_rfl)) k0 bel lt0) trodAll_mk0),rfl,bel.frame _,fun h => by cases h⟩
theorem over : Rows.fnTreeReachRow.holds Try.pinned (OpenSpec.ofChange Rows.fnTreeReachSpec) :=
 OpenClaim.holds_of_wide 12 Try.f12 rfl rfl rfl rfl rfl rfl rfl ⟨rfl,rfl,rfl,rfl,rfl⟩ rfl rfl rfl rfl rfl (by kernel_rfl) Try.func12 (by kernel_rfl)
  (of_decide_eq_true (by kernel_rfl)) (by unfold Func.isWrapper; first | (rw [if_pos (by decide +kernel)]; kernel_rfl) | (rw [if_neg (by decide +kernel)]; exact ⟨rfl,rfl⟩))
  (fun os started H enc _ => lifted os started H enc)
theorem proved : Rows.FnTreeReachSaid:=over
#print axioms proved
end Go.Proofs.Ytlhmljngjdfbpaa.fnTreeReach
namespace Go.Proofs.Ytlhmljngjdfbpaa
theorem fnTreeReach_holds : Rows.FnTreeReachSaid:=fnTreeReach.proved
end Go.Proofs.Ytlhmljngjdfbpaa
end
