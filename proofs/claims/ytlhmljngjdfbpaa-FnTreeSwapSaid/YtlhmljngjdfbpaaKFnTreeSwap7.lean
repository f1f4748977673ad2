/- For the statement FnTreeSwap of this seat: it is proved here, with no further conditions (part 8 of its texts: words, walks of the functions, the plain law, the row). -/
import Derived.Test.YtlhmljngjdfbpaaRows
import Derived.WalkKit
import Derived.ProofKit
import Derived.OpenShut
import Derived.ShutString
import Derived.ChangeOld
import Derived.Below
import Derived.SizedLaws
import Derived.WideShapes
import Derived.Test.YtlhmljngjdfbpaaKFnTreeSwap6
section
set_option linter.unusedSimpArgs false
set_option linter.unusedVariables false
set_option linter.unusedSectionVars false
namespace Go.Proofs.Ytlhmljngjdfbpaa.Pure
open Go.RowKit Go.Proofs.Ytlhmljngjdfbpaa.Pr Go.Proofs.YtlhmljngjdfbpaaW.PrintWords Go.Proofs.YtlhmljngjdfbpaaW.PrintLast Go.Proofs.YtlhmljngjdfbpaaW.PrintMore
open Go.Proofs.Ytlhmljngjdfbpaa.Ins (Lk pw_uniq sort_list)
def cst (l : List Arc) (i : Nat) : Nat:=(arc l i).f2.toNat
def frA (l : List Arc) (i : Nat) : Nat:=(arc l i).f0.toNat
def twA (l : List Arc) (i : Nat) : Nat:=(arc l i).f1.toNat
def ofC (l : List Arc) (c : Nat) : List Nat:=(List.range l.length).filter fun i => decide (cst l i = c)
def ks (l : List Arc) : List Nat:=(List.range 100).flatMap (ofC l)
def ints (x : List Nat) : List Int:=x.map fun i => ((i : Nat) : Int)
theorem ints_len (x : List Nat) : (ints x).length = x.length:=by simp [ints]
theorem ks_pw (l : List Arc) : (ks l).Pairwise (Lk (cst l)):=by
 unfold ks
 rw [List.pairwise_flatMap];refine ⟨fun c _ => ?_,List.Pairwise.imp (fun {a b} hab x hx y hy => ?_) List.pairwise_lt_range⟩
 ·unfold ofC
  rw [List.pairwise_filter];refine List.Pairwise.imp (fun {a b} hab ha hb => .inr ⟨?_,hab⟩) List.pairwise_lt_range;rw [decide_eq_true_eq] at ha hb;omega
 ·unfold ofC at hx hy
  rw [List.mem_filter,decide_eq_true_eq] at hx hy;exact .inl (by omega)
theorem ks_mem {n : Int} {l : List Arc} (hg : NetGood n l) (x : Nat) : x ∈ ks l ↔ x < l.length:=by
 unfold ks
 rw [List.mem_flatMap];constructor
 ·rintro ⟨c,_,h⟩
  unfold ofC at h
  rw [List.mem_filter] at h;exact List.mem_range.1 h.1
 ·intro h;have:=(hg.ok x h).2.2.2.1;refine ⟨cst l x,List.mem_range.2 (by unfold cst; omega),?_⟩
  unfold ofC
  rw [List.mem_filter];exact ⟨List.mem_range.2 h,decide_eq_true rfl⟩
theorem ks_nodup (l : List Arc) : (ks l).Nodup:=List.Pairwise.imp (fun {a b} h e => by subst e; exact Lk.irr a h) (ks_pw l)
theorem ks_len {n : Int} {l : List Arc} (hg : NetGood n l) : (ks l).length ≤ 16:=by
 have:=Sp.nodup_len l.length (ks l) (ks_nodup l) (fun x hx => (ks_mem hg x).1 hx);have:=hg.len;omega
theorem cmp_neg (x y : Int) : decide (Go.Lib.compareInt x y < 0) = decide (x < y):=by
 unfold Go.Lib.compareInt
 by_cases h : x < y
 case pos => rw [if_pos h]; simp [h]
 rw [if_neg h]
 by_cases h2 : x > y
 case neg => rw [if_neg h2]; simp [h]
 rw [if_pos h2]; simp [h]
theorem ordOf_eq {n : Int} {l : List Arc} (hg : NetGood n l) : ordOf l l.length = ints (ks l):=by
 cases hm : l.length with
 | zero =>
  have : ks l = []:=List.eq_nil_iff_forall_not_mem.2 (fun x hx => by have:=(ks_mem hg x).1 hx; omega);rw [this]; rfl
 | succ m =>
  have hs:=sort_list (m:=m) (lt:=Go.Proofs.ltOf fun x y : Fin (m + 1) => Go.Lib.compareInt (rd_T58 l ((x.1 : Nat) : Int)).f2 (rd_T58 l ((y.1 : Nat) : Int)).f2) (key:=cst l) (fun x y => by
   have h1:=(hg.ok x.1 (by have:=x.2; omega)).2.2.2.1;have h2:=(hg.ok y.1 (by have:=y.2; omega)).2.2.2.1
   unfold Go.Proofs.ltOf
   rw [cmp_neg,rda,rda]
   unfold cst
   exact decide_eq_decide.2 (by omega))
  have he:=pw_uniq Lk.irr Lk.asy _ _ hs.1 (ks_pw l) (fun x => by rw [hs.2,ks_mem hg]; omega)
  unfold ordOf ints
  rw [← he,List.map_map];rfl
theorem kru_ex {fr tw : Nat → Nat} : ∀ (ks o : List Nat),∃ r,Kru fr tw ks o r
 | [],o => ⟨o,.nil o⟩
 | k :: ks,o => by
  by_cases h : Con fr tw o (fr k) (tw k)
  case pos =>
   obtain ⟨r,hr⟩:=kru_ex ks o;exact ⟨r,.skip h hr⟩
  obtain ⟨r,hr⟩:=kru_ex ks (o ++ [k]);exact ⟨r,.take h hr⟩
section
variable {n : Int} {l : List Arc} (hg : NetGood n l)
include hg
theorem te_con (o : List Nat) (u v : Nat) : Conn (TE l (ints o) (ints o).length) u v ↔ Con (frA l) (twA l) o u v:=by
 constructor
 ·refine fun h => h.mono (fun a b ⟨i,hi,ha,hb⟩ => ?_)
  rw [ints_len] at hi;have e : nth (ints o) i = ((o[i] : Nat) : Int):=by rw [nth_get (by rw [ints_len]; exact hi)]; simp [ints]
  refine ⟨o[i],List.getElem_mem hi,?_,?_⟩
  ·rw [ha]; unfold frm frA; rw [e,Int.toNat_natCast]
  ·rw [hb]; unfold too twA; rw [e,Int.toNat_natCast]
 ·refine fun h => h.mono (fun a b ⟨i,hi,ha,hb⟩ => ?_)
  obtain ⟨j,hj,e⟩:=List.getElem_of_mem hi;have e2 : nth (ints o) j = ((i : Nat) : Int):=by rw [nth_get (by rw [ints_len]; exact hj)]; simp [ints,e]
  refine ⟨j,by rw [ints_len]; exact hj,?_,?_⟩
  ·rw [ha]; unfold frm frA; rw [e2,Int.toNat_natCast]
  ·rw [hb]; unfold too twA; rw [e2,Int.toNat_natCast]
theorem ints_in {o : List Nat} (ho : ∀ i ∈ o,i < l.length) : ∀ j,j < (ints o).length → 0 ≤ nth (ints o) j ∧ nth (ints o) j < l.length:=by
 intro j hj;rw [ints_len] at hj;have e : nth (ints o) j = ((o[j] : Nat) : Int):=by rw [nth_get (by rw [ints_len]; exact hj)]; simp [ints]
 have:=ho o[j] (List.getElem_mem hj);omega
theorem parts_con {o : List Nat} (ho : ∀ i ∈ o,i < l.length) {u v : Nat} (hu : u < n.toNat) (hv : v < n.toNat) : roundS l (ints o) n.toNat u = roundS l (ints o) n.toNat v ↔ Con (frA l) (twA l) o u v:=by
 have hp:=specParts hg (ints_in hg ho);rw [← te_con hg];constructor
 ·intro e;obtain ⟨a,e1,_,c1⟩:=hp.conn u hu;obtain ⟨b,e2,_,c2⟩:=hp.conn v hv;have : a = b:=by omega
  subst this;exact c1.symm.trans c2
 ·exact fun c => hp.all c
theorem arc_in {i : Nat} (h : i < l.length) : (((frA l i : Nat) : Int) = (arc l i).f0 ∧ frA l i < n.toNat) ∧ (((twA l i : Nat) : Int) = (arc l i).f1 ∧ twA l i < n.toNat):=by
 have:=hg.ok i h
 unfold frA twA
 omega
theorem treeL_ev : ∀ {ks o r : List Nat},Kru (frA l) (twA l) ks o r → (∀ i ∈ ks,i < l.length) → (∀ i ∈ o,i < l.length) → o.length + ks.length ≤ 1000 → Ev (fun k => treeL k n l (ints ks) (ints o)) (ints r):=by
 intro ks o r h
 induction h with
 | nil o => intro _ _ _; exact Ev.now _
 | @skip i ks o r c _ ih =>
  intro h1 h2 h3;have hi:=h1 i (List.mem_cons_self ..);have ha:=arc_in hg hi;have hj:=implParts_ev hg (ints_in hg h2) (by rw [ints_len]; simp at h3; omega);have ih:=ih (fun j hj => h1 j (List.mem_cons_of_mem _ hj)) h2 (by simp at h3; omega)
  show Ev (fun k => treeL k n l (((i : Nat) : Int) :: ints ks) (ints o)) (ints r)
  simp only [treeL];refine Ev.bind hj (Ev.pos ?_ (Ev.pos ?_ ih))
  ·rw [rda,lst_len]; omega
  ·rw [rda,← ha.1.1,← ha.2.1,lst_rd _ ha.1.2,lst_rd _ ha.2.2];exact (parts_con hg h2 ha.1.2 ha.2.2).2 c
 | @take i ks o r c _ ih =>
  intro h1 h2 h3;have hi:=h1 i (List.mem_cons_self ..);have ha:=arc_in hg hi;have hj:=implParts_ev hg (ints_in hg h2) (by rw [ints_len]; simp at h3; omega);have ih:=ih (fun j hj => h1 j (List.mem_cons_of_mem _ hj)) (fun j hj => by
   rcases List.mem_append.1 hj with h | h
   ·exact h2 j h
   ·rw [List.mem_singleton.1 h]; exact hi) (by simp at h3 ⊢; omega)
  have e : ints o ++ [((i : Nat) : Int)] = ints (o ++ [i]):=by simp [ints]
  show Ev (fun k => treeL k n l (((i : Nat) : Int) :: ints ks) (ints o)) (ints r)
  simp only [treeL];rw [e];refine Ev.bind hj (Ev.pos ?_ (Ev.neg ?_ ih))
  ·rw [rda,lst_len]; omega
  ·rw [rda,← ha.1.1,← ha.2.1,lst_rd _ ha.1.2,lst_rd _ ha.2.2];exact fun e => c ((parts_con hg h2 ha.1.2 ha.2.2).1 e)
end
inductive Rt (F : Nat → Nat) : Nat → Nat → Prop
 | stop {v : Nat} : F v = v → Rt F v v
 | step {v a : Nat} : F v ≠ v → Rt F (F v) a → Rt F v a
theorem Rt.ex {F : Nat → Nat} (hF : ∀ v,F v ≤ v) : ∀ s v,v ≤ s → ∃ a,Rt F v a
 | 0,v,h => ⟨v,.stop (by have:=hF v; omega)⟩
 | s + 1,v,h => by
  by_cases e : F v = v
  case pos => exact ⟨v,.stop e⟩
  obtain ⟨a,ha⟩:=Rt.ex hF s (F v) (by have:=hF v; omega);exact ⟨a,.step e ha⟩
theorem Rt.uniq {F : Nat → Nat} {v a b : Nat} (h : Rt F v a) (k : Rt F v b) : a = b:=by
 induction h with
 | stop e => cases k with
  | stop => rfl
  | step e' _ => exact absurd e e'
 | step e _ ih => cases k with
  | stop e' => exact absurd e' e
  | step _ k => exact ih k
theorem Rt.fix {F : Nat → Nat} {v a : Nat} (h : Rt F v a) : F a = a:=by
 induction h with
 | stop e => exact e
 | step _ _ ih => exact ih
theorem Rt.le {F : Nat → Nat} (hF : ∀ v,F v ≤ v) {v a : Nat} (h : Rt F v a) : a ≤ v:=by
 induction h with
 | stop => exact Nat.le_refl _
 | @step v a _ _ ih => exact Nat.le_trans ih (hF v)
def updN (F : Nat → Nat) (b a : Nat) : Nat → Nat:=fun v => if v = b then a else F v
theorem Rt.link {F : Nat → Nat} {a b v r : Nat} (ha : F a = a) (hb : F b = b) (hne : a ≠ b) (h : Rt F v r) : Rt (updN F b a) v (if r = b then a else r):=by
 have hG : updN F b a a = a:=by unfold updN; rw [if_neg hne,ha]
 induction h with
 | @stop v e =>
  by_cases c : v = b
  case neg =>
   rw [if_neg c];exact .stop (by unfold updN; rw [if_neg c]; exact e)
  subst c;rw [if_pos rfl];refine .step (by unfold updN; rw [if_pos rfl]; exact hne) ?_;have : updN F v a v = a:=by unfold updN; rw [if_pos rfl]
  rw [this];exact .stop hG
 | @step v r e _ ih =>
  have c : v ≠ b:=fun c => e (by rw [c]; exact hb)
  have hv : updN F b a v = F v:=by unfold updN; rw [if_neg c]
  exact .step (by rw [hv]; exact e) (by rw [hv]; exact ih)
structure Forg (fr tw : Nat → Nat) (o : List Nat) (F : Nat → Nat) : Prop where
 le : ∀ v,F v ≤ v
 con : ∀ u v a b,Rt F u a → Rt F v b → (a = b ↔ Con fr tw o u v)
theorem Forg.start {fr tw : Nat → Nat} : Forg fr tw [] (fun v => v):=by
 refine ⟨fun v => Nat.le_refl _,fun u v a b ha hb => ?_⟩;have h1:=ha.uniq (.stop rfl);have h2:=hb.uniq (.stop rfl);subst h1 h2;exact ⟨fun e => by rw [e]; exact .refl _,fun c => con_nil c⟩
theorem Forg.add {fr tw : Nat → Nat} {o : List Nat} {F : Nat → Nat} (h : Forg fr tw o F) {k x y : Nat} (hx : Rt F (fr k) x) (hy : Rt F (tw k) y) {a b : Nat} (hab : a < b) (he : (a = x ∧ b = y) ∨ (a = y ∧ b = x)) : Forg fr tw (o ++ [k]) (updN F b a):=by
 have hfa : F a = a:=by rcases he with ⟨rfl,_⟩ | ⟨rfl,_⟩ <;> first | exact hx.fix | exact hy.fix
 have hfb : F b = b:=by rcases he with ⟨_,rfl⟩ | ⟨_,rfl⟩ <;> first | exact hy.fix | exact hx.fix
 refine ⟨fun v => ?_,fun u v p q hp hq => ?_⟩
 ·unfold updN
  by_cases c : v = b
  case pos => rw [if_pos c]; omega
  rw [if_neg c]; exact h.le v
 ·obtain ⟨p0,hp0⟩:=Rt.ex h.le u u (Nat.le_refl _);obtain ⟨q0,hq0⟩:=Rt.ex h.le v v (Nat.le_refl _);have ep:=hp.uniq (hp0.link hfa hfb (by omega));have eq:=hq.uniq (hq0.link hfa hfb (by omega));have hsub : ∀ i,i ∈ o → i ∈ o ++ [k]:=fun i hi => List.mem_append_left _ hi
  have hk : Con fr tw (o ++ [k]) (fr k) (tw k):=Con.arc (List.mem_append_right _ (List.mem_singleton.2 rfl));have cu : ∀ {w z : Nat},Rt F w z → ∀ {w' z' : Nat},Rt F w' z' → z = z' → Con fr tw (o ++ [k]) w w':=fun h1 _ _ h2 e => ((h.con _ _ _ _ h1 h2).1 e).sub hsub
  constructor
  ·intro e
   by_cases c1 : p0 = b
   case pos =>
    by_cases c2 : q0 = b
    case pos => exact cu hp0 hq0 (by omega)
    rw [if_pos c1] at ep;rw [if_neg c2] at eq
    rcases he with ⟨e1,e2⟩ | ⟨e1,e2⟩
    ·exact (cu hp0 hy (by omega)).trans (hk.symm.trans (cu hx hq0 (by omega)))
    ·exact (cu hp0 hx (by omega)).trans (hk.trans (cu hy hq0 (by omega)))
   rw [if_neg c1] at ep
   by_cases c2 : q0 = b
   case neg =>
    rw [if_neg c2] at eq;exact cu hp0 hq0 (by omega)
   rw [if_pos c2] at eq
   rcases he with ⟨e1,e2⟩ | ⟨e1,e2⟩
   ·exact (cu hp0 hx (by omega)).trans (hk.trans (cu hy hq0 (by omega)))
   ·exact (cu hp0 hy (by omega)).trans (hk.symm.trans (cu hx hq0 (by omega)))
  ·intro c;have key : p0 = q0 ∨ (p0 = x ∧ q0 = y) ∨ (p0 = y ∧ q0 = x):=by
    rcases con_add (l:=o) (e:=k) (fun i hi => by
     rcases List.mem_append.1 hi with h1 | h1
     ·exact .inl h1
     ·exact .inr (List.mem_singleton.1 h1)) c with c1 | ⟨c1,c2⟩ | ⟨c1,c2⟩
    ·exact .inl ((h.con _ _ _ _ hp0 hq0).2 c1)
    ·exact .inr (.inl ⟨(h.con _ _ _ _ hp0 hx).2 c1,((h.con _ _ _ _ hy hq0).2 c2).symm⟩)
    ·exact .inr (.inr ⟨(h.con _ _ _ _ hp0 hy).2 c1,((h.con _ _ _ _ hx hq0).2 c2).symm⟩)
   rw [ep,eq]
   by_cases c1 : p0 = b
   case pos =>
    by_cases c2 : q0 = b
    case pos => rw [if_pos c1,if_pos c2]
    rw [if_pos c1,if_neg c2]; omega
   by_cases c2 : q0 = b
   case neg => rw [if_neg c1,if_neg c2]; omega
   rw [if_neg c1,if_pos c2]; omega
section
variable {n : Int} {l : List Arc} (hg : NetGood n l)
include hg
omit hg
def cells (N : Nat) (F : Nat → Nat) : List Int:=lst N fun v => ((F v : Nat) : Int)
theorem cells_len (N : Nat) (F : Nat → Nat) : (cells N F).length = N:=lst_len _ _
theorem cells_rd {N v : Nat} (F : Nat → Nat) (h : v < N) : rd (cells N F) (v : Int) = (F v : Int):=lst_rd _ h
theorem cells_snoc (i : Nat) : cells i (fun v => v) ++ [(i : Int)] = cells (i + 1) fun v => v:=lst_snoc i (fun v => ((v : Nat) : Int))
theorem cells_set {N b : Nat} (F : Nat → Nat) (a : Nat) : (cells N F).set b (a : Int) = cells N (updN F b a):=by
 unfold cells
 rw [lst_set];refine lst_congr (fun v _ => ?_)
 unfold upd updN
 by_cases c : v = b
 case neg => rw [if_neg c,if_neg c]
 rw [if_pos c,if_pos c]
theorem cells_nil : cells 0 (fun v => v) = []:=rfl
attribute [irreducible] cells
include hg
theorem root_ev {F : Nat → Nat} (hF : ∀ v,F v ≤ v) {v a : Nat} (h : Rt F v a) : v < n.toNat → Ev (fun k => spec_l23Root.f k (cells n.toNat F) (v : Int)) (a : Int):=by
 induction h with
 | @stop v e =>
  intro hv
  unfold spec_l23Root.f
  refine Ev.go ?_ (fun k => by rw [spec_l23Root.l0]);have : rd (cells n.toNat F) (v : Int) = (F v : Int):=cells_rd F hv;rw [this];refine Ev.pos (by omega) (Ev.pos (by rw [cells_len]; omega) (Ev.pos (by omega) (Ev.now _)))
 | @step v a e _ ih =>
  intro hv;have ih:=ih (by have:=hF v; omega)
  unfold spec_l23Root.f at ih ⊢
  refine Ev.go ?_ (fun k => by rw [spec_l23Root.l0]);have : rd (cells n.toNat F) (v : Int) = (F v : Int):=cells_rd F hv;rw [this];exact Ev.pos (by omega) (Ev.pos (by rw [cells_len]; omega) (Ev.neg (by omega) ih))
def rem1 (l : List Arc) (c : Nat) : List Nat:=(List.range' c (100 - c)).flatMap (ofC l)
def rem2 (l : List Arc) (c i : Nat) : List Nat:=((List.range' i (l.length - i)).filter fun i => decide (cst l i = c)) ++ rem1 l (c + 1)
omit hg in
theorem rem1_step {c : Nat} (h : c < 100) : rem1 l c = rem2 l c 0:=by
 unfold rem2 rem1
 obtain ⟨s,hs⟩ : ∃ s,100 - c = s + 1:=⟨100 - c - 1,by omega⟩
 rw [hs,List.range'_succ,List.flatMap_cons,show 100 - (c + 1) = s by omega,Nat.sub_zero]
 unfold ofC
 rw [List.range_eq_range']
omit hg in
theorem rem2_step {c i : Nat} (h : i < l.length) : rem2 l c i = if cst l i = c then i :: rem2 l c (i + 1) else rem2 l c (i + 1):=by
 unfold rem2
 obtain ⟨s,hs⟩ : ∃ s,l.length - i = s + 1:=⟨l.length - i - 1,by omega⟩
 rw [hs,List.range'_succ,show l.length - (i + 1) = s by omega]
 by_cases e : cst l i = c
 case neg =>
  rw [if_neg e];simp [List.filter_cons,e]
 rw [if_pos e];simp only [List.filter_cons,e,decide_true,if_true,List.cons_append]
omit hg in
theorem rem2_end {c i : Nat} (h : l.length ≤ i) : rem2 l c i = rem1 l (c + 1):=by
 unfold rem2
 rw [show l.length - i = 0 by omega];rfl
omit hg in
theorem rem1_end (l : List Arc) : rem1 l 100 = []:=rfl
omit hg in
theorem rem1_all (l : List Arc) : rem1 l 0 = ks l:=by unfold rem1 ks; rw [List.range_eq_range']
attribute [irreducible] rem1 rem2
theorem specTB_l : ∀ (s c : Nat),100 - c = s → c ≤ 100 → (∀ {o r : List Nat} {F : Nat → Nat},Kru (frA l) (twA l) (rem1 l c) o r → Forg (frA l) (twA l) o F → o.length + (rem1 l c).length ≤ 1000 → Ev (fun k => spec_l23Tree.l1 k (cells n.toNat F) (ints o) (c : Int) n l) (ints r)):=by
 intro s
 induction s with
 | zero =>
  intro c hs hc o r F hk hF hl;have : c = 100:=by omega
  subst this;rw [rem1_end] at hk;cases hk;refine Ev.go ?_ (fun k => by rw [spec_l23Tree.l1]);exact Ev.neg (by omega) (Ev.now _)
 | succ s ih =>
  intro c hs hc;have hc2 : c < 100:=by omega
  have h16:=hg.len;have inner : ∀ (d i : Nat),l.length - i = d → i ≤ l.length → (∀ {o r : List Nat} {F : Nat → Nat},Kru (frA l) (twA l) (rem2 l c i) o r → Forg (frA l) (twA l) o F → o.length + (rem2 l c i).length ≤ 1000 → Ev (fun k => spec_l23Tree.l2 k (cells n.toNat F) (ints o) (c : Int) (i : Int) n l) (ints r)):=by
   intro d
   induction d with
   | zero =>
    intro i hd hi o r F hk hF hl;rw [rem2_end (by omega)] at hk hl;refine Ev.go ?_ (fun k => by rw [spec_l23Tree.l2]);have e : wrap64 ((c : Int) + 1) = ((c + 1 : Nat) : Int):=by rw [w64 (by omega) (by omega)]; omega
    rw [e];exact Ev.neg (by omega) (ih (c + 1) (by omega) (by omega) hk hF hl)
   | succ d ihd =>
    intro i hd hi o r F hk hF hl;have hlt : i < l.length:=by omega
    have a1 : l.length - (i + 1) = d:=by omega
    have ha:=arc_in hg hlt;have hcost:=(hg.ok i hlt).2.2.2.1;obtain ⟨x,hx⟩:=Rt.ex hF.le (frA l i) _ (Nat.le_refl _);obtain ⟨y,hy⟩:=Rt.ex hF.le (twA l i) _ (Nat.le_refl _);have hxn : ((x : Nat) : Int) < ((n.toNat : Nat) : Int):=Int.ofNat_lt.2 (Nat.lt_of_le_of_lt (hx.le hF.le) ha.1.2);have hyn : ((y : Nat) : Int) < ((n.toNat : Nat) : Int):=Int.ofNat_lt.2 (Nat.lt_of_le_of_lt (hy.le hF.le) ha.2.2);have ex:=root_ev hg hF.le hx ha.1.2;have ey:=root_ev hg hF.le hy ha.2.2;rw [ha.1.1] at ex;rw [ha.2.1] at ey;have hup:=up1 hlt (by simp only [maxLen]; omega);have hlen : (cells n.toNat F).length = n.toNat:=cells_len _ _;refine Ev.go ?_ (fun k => by rw [spec_l23Tree.l2]);rw [rda];refine Ev.pos (Int.ofNat_lt.2 hlt) (Ev.pos (Int.natCast_nonneg i) ?_);refine Ev.bind (a:=(x : Int)) ?_ ?_
    ·exact ex
    refine Ev.bind (a:=(y : Int)) ?_ ?_
    ·exact ey
    rw [rem2_step hlt] at hk hl
    by_cases e : cst l i = c
    case neg =>
     have e2 : (arc l i).f2 ≠ (c : Int):=by unfold cst at e; omega
     rw [if_neg e] at hk hl;refine Ev.neg e2 (Ev.go ?_ (fun k => by rw [spec_l23Tree.j3]));rw [hup];have hn:=ihd (i + 1) a1 hlt hk hF hl;exact Ev.pos rfl hn
    have e2 : (arc l i).f2 = (c : Int):=by unfold cst at e; omega
    rw [if_pos e] at hk hl;refine Ev.pos e2 (Ev.go ?_ (fun k => by rw [spec_l23Tree.j3]));rw [hup];cases hk with
    | skip hcon hk =>
     have hxy:=(hF.con _ _ _ _ hx hy).2 hcon;rw [List.length_cons] at hl;have hn:=ihd (i + 1) a1 hlt hk hF (Nat.le_of_succ_le hl);refine Ev.pos ?_ hn;rw [hxy];exact beq_self_eq_true _
    | take hcon hk =>
     have hxy : x ≠ y:=fun e => hcon ((hF.con _ _ _ _ hx hy).1 e)
     have eo : ints o ++ [((i : Nat) : Int)] = ints (o ++ [i]):=by simp [ints]
     rw [List.length_cons] at hl;have hl2 : (o ++ [i]).length + (rem2 l c (i + 1)).length ≤ 1000:=by
      rw [List.length_append,List.length_singleton,Nat.add_assoc,Nat.add_comm 1];exact hl
     have hol : (ints o).length < 17592186044416:=by
      rw [ints_len];exact Nat.lt_of_le_of_lt (Nat.le_trans (Nat.le_add_right _ _) hl) (by decide)
     refine Ev.neg ?_ ?_
     ·intro e;exact hxy (Int.ofNat_inj.1 (beq_iff_eq.1 e))
     rw [eo]
     by_cases hlt2 : x < y
     case pos =>
      have hn:=ihd (i + 1) a1 hlt hk (hF.add hx hy hlt2 (.inl ⟨rfl,rfl⟩)) hl2;refine Ev.pos (Int.ofNat_lt.2 hlt2) (Ev.pos (Int.natCast_nonneg y) (Ev.pos ?_ (Ev.pos hol ?_)))
      ·rw [hlen]; exact hyn
      ·rw [show ((y : Nat) : Int).toNat = y from rfl,cells_set];exact hn
     have hyx : y < x:=Nat.lt_of_le_of_ne (Nat.le_of_not_lt hlt2) (Ne.symm hxy);have hn:=ihd (i + 1) a1 hlt hk (hF.add hx hy hyx (.inr ⟨rfl,rfl⟩)) hl2;refine Ev.neg (fun e => hlt2 (Int.ofNat_lt.1 e)) (Ev.pos (Int.natCast_nonneg x) (Ev.pos ?_ (Ev.pos hol ?_)))
     ·rw [hlen]; exact hxn
     ·rw [show ((x : Nat) : Int).toNat = x from rfl,cells_set];exact hn
  intro o r F hk hF hl;rw [rem1_step hc2] at hk hl;refine Ev.go ?_ (fun k => by rw [spec_l23Tree.l1]);exact Ev.pos (by omega) (inner _ 0 rfl (Nat.zero_le _) hk hF hl)
theorem specTB_start : ∀ (s i : Nat),n.toNat - i = s → i ≤ n.toNat → ∀ {r : List Int},Ev (fun k => spec_l23Tree.l1 k (cells n.toNat fun v => v) [] 0 n l) r → Ev (fun k => spec_l23Tree.l0 k (cells i fun v => v) (i : Int) n l) r:=by
 have h1:=hg.n1;have h8:=hg.n8;intro s
 induction s with
 | zero =>
  intro i hs hi r h;have : i = n.toNat:=by omega
  subst this;refine Ev.go ?_ (fun k => by rw [spec_l23Tree.l0]);exact Ev.neg (by omega) h
 | succ s ih =>
  intro i hs hi r h;have hlt : i < n.toNat:=by omega
  refine Ev.go ?_ (fun k => by rw [spec_l23Tree.l0]);have e:=cells_snoc i;rw [up1 hlt (by simp only [maxLen]; omega),e];exact Ev.pos (by omega) (Ev.pos (by rw [cells_len]; omega) (ih (i + 1) (by omega) (by omega) h))
end
noncomputable def bestT (l : List Arc) : List Nat:=Classical.choose (kru_ex (fr:=frA l) (tw:=twA l) (ks l) [])
theorem bestT_kru (l : List Arc) : Kru (frA l) (twA l) (ks l) [] (bestT l):=Classical.choose_spec (kru_ex (fr:=frA l) (tw:=twA l) (ks l) [])
noncomputable def treeB (n : Int) (l : List Arc) : List Int:=if netOkB n l = true then ints (bestT l) else []
theorem bestT_len {n : Int} {l : List Arc} (hg : NetGood n l) : (bestT l).length ≤ 16 ∧ (∀ i ∈ bestT l,i < l.length) ∧ (bestT l).Nodup:=by
 have hk:=bestT_kru l;obtain ⟨s,h1,h2⟩:=hk.ext;have hm : ∀ i ∈ bestT l,i < l.length:=fun i hi => by
  rw [h1,List.nil_append] at hi;exact (ks_mem hg i).1 (h2 i hi)
 have hn:=hk.nodup (ks_nodup l) List.nodup_nil (fun x _ => by simp);have:=Sp.nodup_len l.length _ hn hm;have:=hg.len;exact ⟨by omega,hm,hn⟩
theorem treeB_len (n : Int) (l : List Arc) : (treeB n l).length ≤ 16:=by
 unfold treeB
 cases h : netOkB n l with
 | false => simp
 | true => rw [if_pos rfl,ints_len]; exact (bestT_len ((netOkB_iff n l).1 h)).1
theorem implTreeB_ev (n : Int) (l : List Arc) : Ev (fun k => impl_TreeBest.f k n l) (treeB n l):=by
 unfold impl_TreeBest.f treeB
 refine Ev.bind0 (show impl_NetOk.f n l = some (netOkB n l) from rfl) ?_;cases h : netOkB n l with
 | false => exact Ev.neg (by simp) (Ev.is (by simp))
 | true =>
  have hg:=(netOkB_iff n l).1 h;have h1:=hg.n1;have h8:=hg.n8;have h16:=hg.len;have hk:=ks_len hg;refine Ev.pos rfl (Ev.pos ⟨by omega,by omega,by omega⟩ ?_);rw [ordOf_eq hg,if_pos rfl];exact treeL_ev hg (bestT_kru l) (fun i hi => (ks_mem hg i).1 hi) (fun i hi => by simp at hi) (by simp; omega)
theorem specTreeB_ev (n : Int) (l : List Arc) (hl : l.length ≤ maxLen) : Ev (fun k => spec_TreeBest.f k n l) (treeB n l):=by
 unfold spec_TreeBest.f treeB
 refine Ev.bind (l1Ok_ev n l hl) ?_;cases h : netOkB n l with
 | false => exact Ev.neg (by simp) (Ev.is (by simp))
 | true =>
  have hg:=(netOkB_iff n l).1 h;have hk:=ks_len hg;rw [if_pos rfl];refine Ev.pos rfl (Ev.bind ?_ (Ev.now _))
  unfold spec_l23Tree.f
  have e:=rem1_all l;have hb:=bestT_kru l;rw [← e] at hb hk;have h0:=specTB_start hg _ 0 rfl (Nat.zero_le _) (specTB_l hg _ 0 rfl (by omega) hb Forg.start (by simp; omega));rw [cells_nil] at h0;exact h0
end Go.Proofs.Ytlhmljngjdfbpaa.Pure
end
section
set_option linter.unusedSimpArgs false
set_option linter.unusedVariables false
set_option linter.unusedSectionVars false
namespace Go.Proofs.Ytlhmljngjdfbpaa.Pure
open Go.RowKit Go.Proofs.Ytlhmljngjdfbpaa.Pr Go.Proofs.YtlhmljngjdfbpaaW.PrintWords Go.Proofs.YtlhmljngjdfbpaaW.PrintLast Go.Proofs.YtlhmljngjdfbpaaW.PrintMore
section
variable {n : Int} {l : List Arc} (hg : NetGood n l)
include hg
theorem treeP_ev {o : List Nat} (ho : ∀ i ∈ o,i < l.length) (h16 : o.length ≤ 16) : Ev (fun k => impl_TreeParts.f k n l (ints o)) (lst n.toNat (roundS l (ints o) n.toNat)):=by
 refine (implTree_ev n l (ints o)).cast ?_
 unfold treeV
 rw [if_pos ((arcsB_iff n l (ints o)).2 ⟨hg,by rw [ints_len]; exact h16,ints_in hg ho⟩)]
end
end Go.Proofs.Ytlhmljngjdfbpaa.Pure
end
section
set_option linter.unusedSimpArgs false
set_option linter.unusedVariables false
namespace Go.Proofs.Ytlhmljngjdfbpaa.Pure
open Go.Proofs.Ytlhmljngjdfbpaa.Ins (Lk)
theorem Kru.swap {fr tw key : Nat → Nat} {ks r : List Nat} (hk : Kru fr tw ks [] r) (hp : ks.Pairwise (Lk key)) (hn : ks.Nodup) {j : Nat} (hj : j ∈ ks) {p q : List Nat} {k : Nat} (e : r = p ++ k :: q) (hc : Con fr tw (p ++ q ++ [j]) (fr k) (tw k)) : j ∉ p ++ q ∧ key k ≤ key j:=by
 have hf : Forest fr tw r:=hk.forest (fun p k q e => by simp at e);have hno:=hf p k q e;refine ⟨fun h => hno (hc.sub (fun x hx => ?_)),?_⟩
 ·rcases List.mem_append.1 hx with h1 | h1
  ·exact h1
  ·rw [List.mem_singleton.1 h1]; exact h
 ·refine Nat.le_of_not_lt (fun hlt => hno ?_);obtain ⟨s,e1,e2⟩:=hk.ext;have hkk : k ∈ ks:=e2 k (by rw [List.nil_append] at e1; rw [← e1,e]; simp);obtain ⟨A,B,eA⟩:=List.append_of_mem hkk;have hjA : j ∈ A:=by
   have hj2:=hj;rw [eA] at hj2
   rcases List.mem_append.1 hj2 with h | h
   ·exact h
   ·rcases List.mem_cons.1 h with h | h
    ·subst h; omega
    ·rw [eA] at hp;have:=(List.pairwise_cons.1 (List.pairwise_append.1 hp).2.1).1 j h
     unfold Lk at this
     omega
  have hcj:=hk.early A k B p q eA hn (by rw [List.nil_append]; exact e) (by simp) j hjA;rw [List.nil_append] at hcj;refine hc.via (fun x hx => ?_)
  rcases List.mem_append.1 hx with h1 | h1
  ·exact .arc h1
  ·rw [List.mem_singleton.1 h1];exact hcj.sub (fun y hy => List.mem_append_left _ hy)
end Go.Proofs.Ytlhmljngjdfbpaa.Pure
end
section
set_option linter.unusedSimpArgs false
set_option linter.unusedVariables false
namespace Go.Proofs.Ytlhmljngjdfbpaa.Pure
open Go.RowKit Go.Proofs.Ytlhmljngjdfbpaa.Pr Go.Proofs.YtlhmljngjdfbpaaW.PrintWords Go.Proofs.YtlhmljngjdfbpaaW.PrintLast Go.Proofs.YtlhmljngjdfbpaaW.PrintMore
structure Rdr (b : List Int) : Prop where
 len : b.length ≤ 2000
 rng : ∀ i,i < b.length → 0 ≤ nth b i ∧ nth b i ≤ 255
theorem Rdr.rd {b : List Int} (h : Rdr b) (i : Int) : 0 ≤ Go.Proofs.YtlhmljngjdfbpaaW.PrintWords.rd b i ∧ Go.Proofs.YtlhmljngjdfbpaaW.PrintWords.rd b i ≤ 255:=by
 have e : Go.Proofs.YtlhmljngjdfbpaaW.PrintWords.rd b i = nth b i.toNat:=rfl;rw [e]
 by_cases c : i.toNat < b.length
 case pos => exact h.rng _ c
 have c2 : b.length ≤ i.toNat:=by omega
 simp [nth,List.getElem?_eq_none c2]
theorem tm {x a : Int} (hx : 0 ≤ x) (ha : 0 < a) : 0 ≤ Int.tmod x a ∧ Int.tmod x a < a:=by
 rw [Int.tmod_eq_emod_of_nonneg hx];exact ⟨Int.emod_nonneg _ (by omega),Int.emod_lt_of_pos _ ha⟩
theorem td {x a : Int} (hx : 0 ≤ x) (ha : 0 < a) : 0 ≤ Int.tdiv x a ∧ Int.tdiv x a ≤ x:=by
 rw [Int.tdiv_eq_ediv_of_nonneg hx];exact ⟨Int.ediv_nonneg hx (by omega),Int.ediv_le_self _ hx⟩
theorem xor_nn {x y : Int} (hx : 0 ≤ x) (hx' : x < 4294967296) (hy : 0 ≤ y) (hy' : y < 4294967296) : 0 ≤ Go.bits .xor .i64 x y:=by
 obtain ⟨x,rfl⟩:=Int.eq_ofNat_of_zero_le hx;obtain ⟨y,rfl⟩:=Int.eq_ofNat_of_zero_le hy;have h1 : x ^^^ y < 2 ^ 32:=Nat.xor_lt_two_pow (by omega) (by omega);have e : Go.bits .xor .i64 ((x : Nat) : Int) ((y : Nat) : Int) = wrap64 (((BitVec.ofInt 64 ((x : Nat) : Int) ^^^ BitVec.ofInt 64 ((y : Nat) : Int)).toNat : Nat) : Int):=by
  unfold Go.bits
  simp only [i64_w];rfl
 rw [e,BitVec.toNat_xor,BitVec.ofInt_natCast,BitVec.ofInt_natCast,BitVec.toNat_ofNat,BitVec.toNat_ofNat,Nat.mod_eq_of_lt (by omega),Nat.mod_eq_of_lt (by omega),w64 (by omega) (by omega)];omega
theorem pick_pv {b : List Int} (h : Rdr b) {p a : Int} (hp : 0 ≤ p) (hp' : p ≤ 1000000) : Pv (fun k => spec_l30Rd_pick.f k b p a) (fun r => (0 ≤ r.1 ∧ (a < 1 → r.1 = 0) ∧ (1 ≤ a → r.1 < a)) ∧ r.2 = p + 1):=by
 have w1 : wrap64 (p + 1) = p + 1:=w64 (by omega) (by omega);have w2 : wrap64 (p + 1 - 1) = p:=by rw [w64 (by omega) (by omega)]; omega
 unfold spec_l30Rd_pick.f
 refine Pv.ite (fun c => ?_) (fun c => ?_)
 ·refine Pv.go ?_ (fun k => by rw [spec_l30Rd_pick.j0]);exact Pv.pos rfl (Pv.now ⟨⟨Int.le_refl _,fun _ => rfl,fun c2 => by omega⟩,w1⟩)
 ·refine Pv.go ?_ (fun k => by rw [spec_l30Rd_pick.j0]);refine Pv.ite (fun _ => Pv.now ⟨⟨Int.le_refl _,fun _ => rfl,fun c2 => by dsimp only; omega⟩,w1⟩) (fun c0 => ?_);have hb : 0 < (b.length : Int):=by
   have : (b.length : Int) ≠ 0:=by simpa using c0
   omega
  have hb2:=h.len;rw [w1,w2];have fin : ∀ X : Int,0 ≤ X → Pv (fun _ => some (Int.tmod X a,p + 1)) (fun r => (0 ≤ r.1 ∧ (a < 1 → r.1 = 0) ∧ (1 ≤ a → r.1 < a)) ∧ r.2 = p + 1):=by
   intro X hX;have:=tm hX (show 0 < a by omega);exact Pv.now ⟨⟨this.1,fun c2 => absurd c2 c,fun _ => this.2⟩,rfl⟩
  refine Pv.ite (fun c1 => Pv.pos hp (Pv.neg (by omega) ?_)) (fun c1 => ?_)
  ·have:=h.rd p;rw [w64 (n:=Go.Proofs.YtlhmljngjdfbpaaW.PrintWords.rd b p) (by omega) (by omega)];exact fin _ (by omega)
  ·have t1:=tm hp hb;have e1 : wrap64 (p * 7) = p * 7:=w64 (by omega) (by omega);have e2 : wrap64 (p * 7 + 3) = p * 7 + 3:=w64 (by omega) (by omega);rw [e1,e2];have t2:=tm (show 0 ≤ p * 7 + 3 by omega) hb;have r1:=h.rd (Int.tmod p b.length);have r2:=h.rd (Int.tmod (p * 7 + 3) b.length);have d1:=td hp hb;refine Pv.neg (by omega) (Pv.pos t1.1 (Pv.pos t1.2 (Pv.pos t2.1 (Pv.pos t2.2 (Pv.neg (by omega) ?_)))));generalize Go.Proofs.YtlhmljngjdfbpaaW.PrintWords.rd b (Int.tmod p b.length) = u at r1;generalize Go.Proofs.YtlhmljngjdfbpaaW.PrintWords.rd b (Int.tmod (p * 7 + 3) b.length) = v at r2;generalize Int.tdiv p b.length = q at d1;rw [w64 (n:=u) (by omega) (by omega),w64 (n:=v) (by omega) (by omega),w64 (n:=q) (by omega) (by omega),w64 (n:=u * 131) (by omega) (by omega),w64 (n:=v * 1117) (by omega) (by omega),w64 (n:=p * 29) (by omega) (by omega),w64 (n:=q * 53) (by omega) (by omega),w64 (n:=u * 131 + v * 1117) (by omega) (by omega),w64 (n:=u * 131 + v * 1117 + p * 29) (by omega) (by omega),w64 (n:=u * 131 + v * 1117 + p * 29 + q * 53) (by omega) (by omega)];have d2:=td (show 0 ≤ u * 131 + v * 1117 + p * 29 + q * 53 by omega) (show (0 : Int) < 64 by omega);generalize Int.tdiv (u * 131 + v * 1117 + p * 29 + q * 53) 64 = z at d2;rw [w64 (n:=z) (by omega) (by omega)];exact fin _ (xor_nn (by omega) (by omega) (by omega) (by omega))
theorem one_pv {b : List Int} (h : Rdr b) {p : Int} (hp : 0 ≤ p) (hp' : p ≤ 1000000) {l : List Int} (hl : 0 < l.length) : Pv (fun k => spec_l30Rd_one.f k b p l) (fun r => r.1 ∈ l ∧ r.2 = p + 1):=by
 unfold spec_l30Rd_one.f
 refine Pv.bind (pick_pv h hp hp') (fun r ⟨⟨h1,_,h2⟩,h3⟩ => ?_);have h2:=h2 (by omega);refine Pv.pos h1 (Pv.pos h2 (Pv.now ⟨?_,h3⟩));have e : Go.Proofs.YtlhmljngjdfbpaaW.PrintWords.rd l r.1 = nth l r.1.toNat:=rfl;dsimp only;rw [e];exact getD_mem (by omega)
theorem u8_range {x : Int} (h : (Lit.int .u8 x).wf = true) : 0 ≤ x ∧ x ≤ 255:=by
 simp only [Lit.wf] at h;have h2 : IntKind.u8.min ≤ x ∧ x ≤ IntKind.u8.max:=by simpa using h
 have e1 : IntKind.u8.min = 0:=by decide
 have e2 : IntKind.u8.max = 255:=by decide
 omega
theorem open_pv {l : List Int} (hl : ∀ x ∈ l,(Lit.int .u8 x).wf = true) : ∃ b,spec_l30Open.f l = some (b,0) ∧ Rdr b:=by
 have key : ∀ m : List Int,m.length ≤ 2000 → (∀ x ∈ m,x ∈ l) → Rdr m:=fun m h1 h2 => ⟨h1,fun i hi => u8_range (hl _ (h2 _ (getD_mem hi)))⟩
 unfold spec_l30Open.f
 by_cases c : (l.length : Int) > 2000
 case neg =>
  rw [if_neg c];exact ⟨_,rfl,key _ (by omega) (fun x hx => hx)⟩
 rw [if_pos c,if_pos (by omega)];exact ⟨_,rfl,key _ (by simp; omega) (fun x hx => List.mem_of_mem_take hx)⟩
def NetSz (p : Int) (r : Int × List Arc × Int) : Prop:=(0 ≤ r.1 ∧ r.1 ≤ 9) ∧ r.2.1.length ≤ 13 ∧ (p ≤ r.2.2 ∧ r.2.2 ≤ p + 100)
theorem net_l {b : List Int} (h : Rdr b) (n : Int) (hn : 1 ≤ n ∧ n ≤ 9) : ∀ (m : Nat) (p : Int) (l : List Arc),0 ≤ p → p + 6 * m ≤ 100000 → m ≤ 13 → l.length ≤ 13 - m → Pv (fun k => spec_l30Net.l0 k (m : Int) b p n l) (fun r => r.1 = n ∧ r.2.1.length ≤ 13 ∧ (p ≤ r.2.2 ∧ r.2.2 ≤ p + 6 * m)):=by
 intro m
 induction m with
 | zero =>
  intro p l hp hp' hm hl;refine Pv.go ?_ (fun k => by rw [spec_l30Net.l0]);exact Pv.neg (by omega) (Pv.now ⟨rfl,by dsimp only; omega,by dsimp only; omega⟩)
 | succ m ih =>
  intro p l hp hp' hm hl;have hw : wrap64 (((m + 1 : Nat) : Int) - 1) = (m : Int):=by rw [w64 (by omega) (by omega)]; omega
  refine Pv.go ?_ (fun k => by rw [spec_l30Net.l0]);rw [hw];refine Pv.pos (by omega) (Pv.bind (pick_pv h hp (by omega)) (fun r1 ⟨a1,e1⟩ => Pv.bind (pick_pv h (p:=r1.2) (by omega) (by omega)) (fun r2 ⟨a2,e2⟩ => Pv.bind (pick_pv h (p:=r2.2) (by omega) (by omega)) (fun r3 ⟨a3,e3⟩ => Pv.bind (one_pv h (p:=r3.2) (by omega) (by omega) (by simp)) (fun r4 ⟨a4,e4⟩ => Pv.bind (one_pv h (p:=r4.2) (by omega) (by omega) (by simp)) (fun r5 ⟨a5,e5⟩ => Pv.bind (pick_pv h (p:=r5.2) (by omega) (by omega)) (fun r6 ⟨a6,e6⟩ => ?_)))))));have step : ∀ x : Arc,Pv (fun k => spec_l30Net.l0 k (m : Int) b r6.2 n (l ++ [x])) (fun r => r.1 = n ∧ r.2.1.length ≤ 13 ∧ (p ≤ r.2.2 ∧ r.2.2 ≤ p + 6 * ((m + 1 : Nat) : Int))):=fun x => (ih r6.2 (l ++ [x]) (by omega) (by omega) (by omega) (by simp; omega)).mono (fun r hr => ⟨hr.1,hr.2.1,by omega,by omega⟩)
  refine Pv.ite (fun _ => Pv.neg (by omega) (Pv.pos (by omega) (step _))) (fun _ => Pv.pos (by omega) (step _))
theorem net_pv {b : List Int} (h : Rdr b) {p : Int} (hp : 0 ≤ p) (hp' : p ≤ 10000) : Pv (fun k => spec_l30Net.f k b p) (fun r => (2 ≤ r.1 ∧ r.1 ≤ 6) ∧ r.2.1.length ≤ 13 ∧ (p ≤ r.2.2 ∧ r.2.2 ≤ p + 90)):=by
 unfold spec_l30Net.f
 refine Pv.bind (pick_pv h hp (by omega)) (fun r1 ⟨a1,e1⟩ => Pv.bind (pick_pv h (p:=r1.2) (by omega) (by omega)) (fun r2 ⟨a2,e2⟩ => ?_));have b1:=a1.2.2 (by omega);have b2:=a2.2.2 (by omega);have hw : wrap64 (2 + r1.1) = 2 + r1.1:=w64 (by omega) (by omega);rw [hw];have:=net_l h (2 + r1.1) (by omega) r2.1.toNat r2.2 [] (by omega) (by omega) (by omega) (by simp);rw [Int.toNat_of_nonneg a2.1] at this;exact this.mono (fun r hr => ⟨⟨by omega,by omega⟩,hr.2.1,by omega,by omega⟩)
theorem anyNet_pv {b : List Int} (h : Rdr b) {p : Int} (hp : 0 ≤ p) (hp' : p ≤ 10000) : Pv (fun k => spec_l30AnyNet.f k b p) (NetSz p):=by
 unfold spec_l30AnyNet.f
 refine Pv.bind (net_pv h hp hp') (fun r0 ⟨a0,l0,e0⟩ => ?_);refine Pv.ite (fun c => ?_) (fun c => Pv.now ⟨by dsimp only; omega,l0,by dsimp only; omega⟩);refine Pv.bind (pick_pv h (p:=r0.2.2) (by omega) (by omega)) (fun r1 ⟨a1,e1⟩ => Pv.bind (pick_pv h (p:=r1.2) (by omega) (by omega)) (fun r2 ⟨a2,e2⟩ => ?_));have b1:=a1.2.2 (by omega);refine Pv.ite (fun c1 => Pv.pos a1.1 (Pv.pos b1 (Pv.bind (one_pv h (p:=r2.2) (by omega) (by omega) (by simp)) (fun r3 ⟨a3,e3⟩ => Pv.now ⟨by dsimp only; omega,by simpa using l0,by dsimp only; omega⟩)))) (fun c1 => ?_);refine Pv.ite (fun c2 => Pv.bind (one_pv h (p:=r2.2) (by omega) (by omega) (by simp)) (fun r3 ⟨a3,e3⟩ => Pv.pos a1.1 (Pv.pos b1 (Pv.now ⟨by dsimp only; omega,by simpa using l0,by dsimp only; omega⟩)))) (fun c2 => ?_);refine Pv.ite (fun c3 => Pv.bind (one_pv h (p:=r2.2) (by omega) (by omega) (by simp)) (fun r3 ⟨a3,e3⟩ => Pv.now ⟨?_,l0,by dsimp only; omega⟩)) (fun c3 => Pv.now ⟨by dsimp only; omega,l0,by dsimp only; omega⟩);simp only [List.mem_cons,List.not_mem_nil,or_false] at a3;dsimp only;omega
theorem wkInts_l (a b : List Int) (hm : a.length ≤ maxLen) (hl : a.length = b.length) : ∀ (m i : Nat),a.length - i = m → i ≤ a.length → Ev (fun k => laws_wkInts.l0 k a b (i : Int)) (decide (a.drop i = b.drop i)):=by
 intro m
 induction m with
 | zero =>
  intro i hd hi;refine Ev.go ?_ (fun k => by rw [laws_wkInts.l0]);refine Ev.neg (by omega) (Ev.is ?_);rw [List.drop_of_length_le (by omega),List.drop_of_length_le (by omega)];rfl
 | succ m ih =>
  intro i hd hi;have hlt : i < a.length:=by omega
  have hlt2 : i < b.length:=by omega
  refine Ev.go ?_ (fun k => by rw [laws_wkInts.l0]);refine Ev.pos (by omega) (Ev.pos (by omega) (Ev.pos (by omega) ?_));rw [rdn hlt,rdn hlt2,up1 hlt hm,drop_cons hlt,drop_cons hlt2]
  by_cases c : a[i] = b[i]
  case neg => exact Ev.neg c (Ev.is (by simp only [List.cons.injEq,c,false_and]; rfl))
  exact Ev.pos c ((ih (i + 1) (by omega) (by omega)).cast (by rw [c]; simp only [List.cons.injEq,true_and]))
theorem wkInts_ev (a b : List Int) (hm : a.length ≤ maxLen) : Ev (fun k => laws_wkInts.f k a b) (decide (a = b)):=by
 unfold laws_wkInts.f
 by_cases c : a.length = b.length
 case pos => exact Ev.pos (by omega) (by simpa using wkInts_l a b hm c _ 0 rfl (Nat.zero_le _))
 exact Ev.neg (by omega) (Ev.is (by rw [eq_comm]; exact decide_eq_false (fun e => c (by rw [e]))))
theorem wkInts_same (a : List Int) (hm : a.length ≤ maxLen) : Ev (fun k => laws_wkInts.f k a a) true:=(wkInts_ev a a hm).cast (by simp)
end Go.Proofs.Ytlhmljngjdfbpaa.Pure
end
section
set_option linter.unusedSimpArgs false
set_option linter.unusedVariables false
set_option linter.unusedSectionVars false
namespace Go.Proofs.Ytlhmljngjdfbpaa.Pure
open Go.RowKit Go.Proofs.Ytlhmljngjdfbpaa.Pr Go.Proofs.YtlhmljngjdfbpaaW.PrintWords Go.Proofs.YtlhmljngjdfbpaaW.PrintLast Go.Proofs.YtlhmljngjdfbpaaW.PrintMore
open Go.Proofs.Ytlhmljngjdfbpaa.Dd (dd dd_mem dd_nodup)
theorem ints_nodup {o : List Nat} (h : o.Nodup) : (ints o).Nodup:=by
 unfold ints List.Nodup
 rw [List.pairwise_map];exact List.Pairwise.imp (fun {a b} h e => h (Int.ofNat_inj.1 e)) h
theorem sumW_app (l : List Arc) (a b : List Nat) : sumW l (ints (a ++ b)) = sumW l (ints a) + sumW l (ints b):=by
 unfold sumW ints
 rw [List.map_append,List.map_append,List.sum_append_int]
theorem sumW_one (l : List Arc) (i : Nat) : sumW l (ints [i]) = (arc l i).f2:=by simp [sumW,ints]
theorem sumW_dd (l : List Arc) {x : List Int} (h : x.Nodup) : sumW l (dd x) = sumW l x:=sumW_same l (dd_nodup x) h (fun _ => dd_mem)
section
variable {n : Int} {l : List Arc} (hg : NetGood n l)
include hg
theorem cost_of {o : List Nat} (ho : ∀ i ∈ o,i < l.length) (h16 : o.length ≤ 16) (hn : o.Nodup) : costV n l (ints o) = sumW l (ints o):=by
 unfold costV
 rw [if_pos ((arcsB_iff n l (ints o)).2 ⟨hg,by rw [ints_len]; exact h16,ints_in hg ho⟩)];exact sumW_dd l (ints_nodup hn)
theorem cst_int {i : Nat} (h : i < l.length) : ((cst l i : Nat) : Int) = (arc l i).f2:=by
 have:=(hg.ok i h).2.2.2.1
 unfold cst
 omega
theorem swap_cost {p q : List Nat} {x i : Nat} (e : bestT l = p ++ x :: q) (hi : i < l.length) (hp : lst n.toNat (roundS l (ints (p ++ q ++ [i])) n.toNat) = lst n.toNat (roundS l (ints (bestT l)) n.toNat)) : costV n l (ints (bestT l)) ≤ costV n l (ints (p ++ q ++ [i])):=by
 obtain ⟨h16,hin,hnd⟩:=bestT_len hg;have hx : x ∈ bestT l:=by rw [e]; simp
 have hxl:=hin x hx;have ha:=arc_in hg hxl;have hfew : ∀ j ∈ p ++ q,j < l.length:=fun j hj => hin j (by
  rw [e]
  rcases List.mem_append.1 hj with h | h
  ·exact List.mem_append_left _ h
  ·exact List.mem_append_right _ (List.mem_cons_of_mem _ h))
 have hoth : ∀ j ∈ p ++ q ++ [i],j < l.length:=fun j hj => by
  rcases List.mem_append.1 hj with h | h
  ·exact hfew j h
  ·rw [List.mem_singleton.1 h]; exact hi
 have hat : ∀ v,v < n.toNat → roundS l (ints (p ++ q ++ [i])) n.toNat v = roundS l (ints (bestT l)) n.toNat v:=fun v hv => by
  rw [← lst_nth (roundS l (ints (p ++ q ++ [i])) n.toNat) hv,hp,lst_nth _ hv]
 have hc : Con (frA l) (twA l) (p ++ q ++ [i]) (frA l x) (twA l x):=by
  rw [← parts_con hg hoth ha.1.2 ha.2.2,hat _ ha.1.2,hat _ ha.2.2];exact (parts_con hg hin ha.1.2 ha.2.2).2 (Con.arc hx)
 obtain ⟨h1,h2⟩:=(bestT_kru l).swap (ks_pw l) (ks_nodup l) ((ks_mem hg i).2 hi) e hc;have hnd2:=hnd;rw [e] at hnd2;have hpq : (p ++ q).Nodup:=by
  have a:=List.nodup_append.1 hnd2;rw [List.nodup_append];exact ⟨a.1,(List.nodup_cons.1 a.2.1).2,fun y hy z hz => a.2.2 y hy z (List.mem_cons_of_mem _ hz)⟩
 have hon : (p ++ q ++ [i]).Nodup:=by
  rw [List.nodup_append];exact ⟨hpq,by simp,fun y hy z hz e => h1 (by rw [List.mem_singleton] at hz; rw [← hz,← e]; exact hy)⟩
 have hol : (p ++ q ++ [i]).length ≤ 16:=by
  rw [e] at h16;simp at h16 ⊢;omega
 rw [cost_of hg hin h16 hnd,cost_of hg hoth hol hon,e];have e1 : p ++ x :: q = p ++ ([x] ++ q):=by simp
 rw [e1,sumW_app,sumW_app,sumW_app,sumW_app,sumW_one,sumW_one,← cst_int hg hxl,← cst_int hg hi];omega
theorem swap_l {kk : Nat} (hk : kk < (bestT l).length) : ∀ (m i : Nat),l.length - i = m → i ≤ l.length → Ev (fun k => laws_FnTreeSwap.l0 k (ints (bestT l)) (kk : Int) (i : Int) n l) true:=by
 obtain ⟨h16,hin,hnd⟩:=bestT_len hg;have hlen:=hg.len;have h8:=hg.n8;have he : bestT l = (bestT l).take kk ++ (bestT l)[kk] :: (bestT l).drop (kk + 1):=by
  rw [← List.drop_eq_getElem_cons hk,List.take_append_drop]
 have hL : (ints (bestT l)).length = (bestT l).length:=ints_len _;have hl1 : ((ints (bestT l)).take kk).length = kk:=by rw [List.length_take,hL]; omega
 have hl2 : ((ints (bestT l)).drop (kk + 1)).length ≤ 16:=by rw [List.length_drop,hL]; omega
 have hup : wrap64 ((kk : Int) + 1) = ((kk + 1 : Nat) : Int):=by rw [w64 (by omega) (by omega)]; omega
 intro m
 induction m with
 | zero =>
  intro i hd hi;refine Ev.go ?_ (fun k => by rw [laws_FnTreeSwap.l0]);exact Ev.neg (by omega) (Ev.now _)
 | succ m ih =>
  intro i hd hi;have hlt : i < l.length:=by omega
  have hn:=ih (i + 1) (by omega) (by omega);have ei : (ints (bestT l)).take kk ++ (ints (bestT l)).drop (kk + 1) ++ [(i : Int)] = ints ((bestT l).take kk ++ (bestT l).drop (kk + 1) ++ [i]):=by
   unfold ints
   rw [List.map_append,List.map_append,List.map_take,List.map_drop];rfl
  have hoth : ∀ j ∈ (bestT l).take kk ++ (bestT l).drop (kk + 1) ++ [i],j < l.length:=fun j hj => by
   rcases List.mem_append.1 hj with h | h
   ·rcases List.mem_append.1 h with h | h
    ·exact hin j (List.mem_of_mem_take h)
    ·exact hin j (List.mem_of_mem_drop h)
   ·rw [List.mem_singleton.1 h]; exact hlt
  have hol : ((bestT l).take kk ++ (bestT l).drop (kk + 1) ++ [i]).length ≤ 16:=by
   rw [List.length_append,List.length_append,List.length_take,List.length_drop,List.length_singleton];omega
  have ho:=treeP_ev hg hoth hol;have hb:=treeP_ev hg hin h16;have hw:=wkInts_ev (lst n.toNat (roundS l (ints ((bestT l).take kk ++ (bestT l).drop (kk + 1) ++ [i])) n.toNat)) (lst n.toNat (roundS l (ints (bestT l)) n.toNat)) (by rw [lst_len]; simp only [maxLen]; omega);refine Ev.go ?_ (fun k => by rw [laws_FnTreeSwap.l0]);rw [up1 hlt (by simp only [maxLen]; omega),hup];refine Ev.pos (by omega) (Ev.bind0 rfl (Ev.pos (by omega) (Ev.pos (by omega) (Ev.bind0 rfl ?_))));rw [Int.toNat_natCast,Int.toNat_natCast,List.nil_append];refine Ev.pos (by rw [List.length_nil]; omega) (Ev.bind0 rfl (Ev.pos (by omega) (Ev.pos (by omega) (Ev.bind0 rfl (Ev.pos (by omega) (Ev.bind0 rfl (Ev.pos (by rw [List.length_append]; omega) (Ev.bind0 rfl ?_))))))));rw [ei];refine Ev.bind ho (Ev.bind hb (Ev.bind hw ?_))
  by_cases c : lst n.toNat (roundS l (ints ((bestT l).take kk ++ (bestT l).drop (kk + 1) ++ [i])) n.toNat) = lst n.toNat (roundS l (ints (bestT l)) n.toNat)
  case neg =>
   rw [decide_eq_false c];exact Ev.neg (by simp) hn
  rw [decide_eq_true c];have:=swap_cost hg he hlt c;exact Ev.pos rfl (Ev.bind (implCost_ev n l _) (Ev.bind (implCost_ev n l _) (Ev.neg (by omega) hn)))
end
theorem swap_no (n : Int) (l : List Arc) (more : List Int) (hl : l.length ≤ maxLen) : Ev (fun k => laws_FnTreeSwap.j1 k more (treeB n l) true n l) true:=by
 have h16:=treeB_len n l;refine Ev.go ?_ (fun k => by rw [laws_FnTreeSwap.j1]);exact Ev.pos rfl (Ev.bind (specTreeB_ev n l hl) (Ev.bind (wkInts_same _ (by simp only [maxLen]; omega)) (Ev.now _)))
theorem FnTreeSwap : laws_FnTreeSwap.Asked:=by
 intro b more hb hm;refine Pv.rounds ?_
 unfold laws_FnTreeSwap.f
 have hyes : Pv (fun k => laws_FnTreeSwap.j0 k b more true) (· = true):=by
  refine Pv.go ?_ (fun k => by rw [laws_FnTreeSwap.j0]);exact Pv.pos rfl (Pv.now rfl)
 refine Pv.ite (fun _ => hyes) (fun _ => ?_);cases decide ((more.length : Int) > 1048576) with
 | true => exact hyes
 | false =>
  refine Pv.go ?_ (fun k => by rw [laws_FnTreeSwap.j0]);have hd : Pv (fun k => spec_DrawTreeBest.f k b) (fun r => r.2.length ≤ 13):=by
   unfold spec_DrawTreeBest.f
   obtain ⟨d,e,hd⟩:=open_pv hb.2;exact Pv.bind0 e (Pv.bind (anyNet_pv hd (p:=0) (by omega) (by omega)) (fun r1 h1 => Pv.now h1.2.1))
  refine Pv.neg (by simp) (Pv.bind hd (fun r h => ?_));obtain ⟨n,l⟩:=r;have h : l.length ≤ 13:=h;have hl : l.length ≤ maxLen:=by simp only [maxLen]; omega
  have h16:=treeB_len n l;refine Pv.of (Ev.bind (implTreeB_ev n l) (Ev.bind (specTreeB_ev n l hl) (Ev.bind (wkInts_same (treeB n l) (by simp only [maxLen]; omega)) (Ev.pos rfl (Ev.bind0 (show impl_NetOk.f n l = some (netOkB n l) from rfl) ?_))))) rfl;cases hk : netOkB n l with
  | false => exact Ev.neg (by simp) (swap_no n l more hl)
  | true =>
   refine Ev.pos rfl ?_;have hg:=(netOkB_iff n l).1 hk;have et : treeB n l = ints (bestT l):=by unfold treeB; rw [if_pos hk]
   by_cases c : (treeB n l).length = 0
   case pos =>
    have e : (((treeB n l).length : Int) == 0) = true:=by rw [beq_iff_eq]; omega
    rw [e];exact swap_no n l more hl
   have e : (((treeB n l).length : Int) == 0) = false:=by
    rw [beq_eq_false_iff_ne]; omega
   rw [e];refine Ev.go ?_ (fun k => by rw [laws_FnTreeSwap.j1]);rw [et] at c ⊢;rw [ints_len] at c;have e2 : (more.length : Int) % ((ints (bestT l)).length : Int) = ((more.length % (bestT l).length : Nat) : Int):=by rw [ints_len]; rfl
   rw [e2];refine Ev.neg (by simp) (Ev.neg (by rw [ints_len]; omega) ?_);exact swap_l hg (Nat.mod_lt _ (by omega)) _ 0 rfl (Nat.zero_le _)
end Go.Proofs.Ytlhmljngjdfbpaa.Pure
end
section
namespace Go.Proofs.Ytlhmljngjdfbpaa.fnTreeSwap
open Go.ChangeShapes Go.WideShapes Go.ChangeAt Go.RowKit Go.Proofs.YtlhmljngjdfbpaaW.PrintWords Go.Proofs.Ytlhmljngjdfbpaa.Pr
open Go.ChangeMaps (open_string shut_string)
set_option linter.unusedVariables false
set_option linter.unusedSimpArgs false
theorem own : ownKnob Try.prog.godebug = none:=by kernel_rfl
theorem laidOut : laidOutB Try.prog = true:=by kernel_rfl
theorem opens0 : Opens Try.prog (Kd.slice 5 (Kd.int .u8)) 22 (fun l => l.length ≤ maxLen ∧ ∀ x ∈ l,(fun n => (Lit.int .u8 n).wf = true) x):=(opens_slice (P:=Try.prog) Try.underlying22 (by kernel_rfl) (opens_int (P:=Try.prog) (k:=.u8) Try.underlying5))
theorem opens1 : Opens Try.prog (Kd.slice 5 (Kd.int .u8)) 22 (fun l => l.length ≤ maxLen ∧ ∀ x ∈ l,(fun n => (Lit.int .u8 n).wf = true) x):=(opens_slice (P:=Try.prog) Try.underlying22 (by kernel_rfl) (opens_int (P:=Try.prog) (k:=.u8) Try.underlying5))
set_option maxRecDepth 100000 in
set_option maxHeartbeats 2000000 in
theorem lifted (os : Os) (started : os.Started) (H : Type) (enc : TypeId × Value → H) :
  ReturnsInHanded {} Try.checked os 15 .any (Rows.fnTreeSwapSpec.pre6 enc Try.prog Try.f15 Rows.fnTreeSwapRow.domain false) (Rows.fnTreeSwapSpec.post enc Try.prog Try.f15 false true false false):=by
 refine returnsInHanded_of_change_sized (C:=Try.checked) own started (by kernel_rfl) Try.func15
  (ChangeSpec.witness6 (enc:=enc) (C:=Try.checked) false ⟨#[],#[(.slice none 0 0),(.slice none 0 0)],[]⟩ 8 (by kernel_rfl) (by kernel_rfl) (by kernel_rfl) (by kernel_rfl)) ?_
 intro W base args ds gs before hval0 hW hcnd hsz0 _;have hval : ∀ (j : Nat) t v,Try.f15.params[j]? = some t → args[j]? = some v → Value.okWide Try.prog W .any base t v:=hval0
 have hW':=hW;obtain ⟨p,q,hA0,hV,rfl,hfz,hnd⟩:=hW;have hA : DataW.TrodAll enc Try.prog W 0 (fun _ => true) true Try.f15.params.toList args.toList ds p:=hA0;rw [Try.params15] at hA hval;obtain ⟨v0,vs0,d0,ds0,p0,q0,hargs,rfl,rfl,h0,r0⟩:=trodAll_cons hA;obtain ⟨v1,vs1,d1,ds1,p1,q1,rfl,rfl,rfl,h1,r1⟩:=trodAll_cons r0;obtain ⟨rfl,rfl,rfl⟩:=trodAll_nil r1;obtain rfl : args = #[v0,v1]:=by cases args; simp_all
 obtain ⟨rfl,rfl⟩:=trodVars_none hV;have k0:=h0;have lt0 : ∀ x ∈ p0,x.block < W.heap.size:=by obtain ⟨m,hm⟩:=k0; exact DataW.trod_lt m _ _ _ hm
 obtain ⟨a0,len0,cap0,rfl⟩:=okWide_slice Try.underlying22 (hval 0 22 v0 rfl rfl);obtain ⟨fuel0,hf0⟩:=h0;obtain ⟨l0,⟨A0,c0,e0,hc0,hr0⟩,w0⟩:=opens0 hf0;have e0' : (Value.slice a0 len0 cap0) = .slice A0 l0.length c0:=(List.cons.inj e0).1;injection e0' with e0a e0b e0c
 subst e0a e0b e0c;have k1:=h1;have lt1 : ∀ x ∈ p1,x.block < W.heap.size:=by obtain ⟨m,hm⟩:=k1; exact DataW.trod_lt m _ _ _ hm
 obtain ⟨a1,len1,cap1,rfl⟩:=okWide_slice Try.underlying22 (hval 1 22 v1 rfl rfl);obtain ⟨fuel1,hf1⟩:=h1;obtain ⟨l1,⟨A1,c1,e1,hc1,hr1⟩,w1⟩:=opens1 hf1;have e1' : (Value.slice a1 len1 cap1) = .slice A1 l1.length c1:=(List.cons.inj e1).1;injection e1' with e1a e1b e1c
 subst e1a e1b e1c;obtain ⟨k,hh⟩:=Pure.FnTreeSwap l0 l1 w0 w1;refine (laws_FnTreeSwap.calls k _ _ l0 _ _ l1 true W hr0 hc0 hr1 hc1 hh).mono fun e W' ⟨he,bel0⟩ => ?_
 have bel : Below W.heap.size W W':=bel0;subst he;exact ⟨_,rfl,_,_,_,[],_,[],hW',trodAll_mk1 (shut_bool Try.underlying4 _),(trodAll_cons_mk (Below.trod laidOut (by kernel_rfl) (of_decide_eq_true (by kernel_rfl)) k0 bel lt0) (trodAll_cons_mk (Below.trod laidOut (by kernel_rfl) (of_decide_eq_true (by kernel_rfl)) k1 bel lt1) trodAll_mk0)),rfl,bel.frame _,fun h => by cases h⟩
theorem over : Rows.fnTreeSwapRow.holds Try.pinned (OpenSpec.ofChange Rows.fnTreeSwapSpec) :=
 OpenClaim.holds_of_wide 15 Try.f15 rfl rfl rfl rfl rfl rfl rfl ⟨rfl,rfl,rfl,rfl,rfl⟩ rfl rfl rfl rfl rfl (by kernel_rfl) Try.func15 (by kernel_rfl)
  (of_decide_eq_true (by kernel_rfl)) (by unfold Func.isWrapper; first | (rw [if_pos (by decide +kernel)]; kernel_rfl) | (rw [if_neg (by decide +kernel)]; exact ⟨rfl,rfl⟩))
  (fun os started H enc _ => lifted os started H enc)
theorem proved : Rows.FnTreeSwapSaid:=over
#print axioms proved
end Go.Proofs.Ytlhmljngjdfbpaa.fnTreeSwap
namespace Go.Proofs.Ytlhmljngjdfbpaa
theorem fnTreeSwap_holds : Rows.FnTreeSwapSaid:=fnTreeSwap.proved
end Go.Proofs.Ytlhmljngjdfbpaa
end
