/- For the statement FnFlowOf of this seat: it is proved here, with no further conditions (part 8 of its texts: words, walks of the functions, the plain law, the row). -/
import Derived.Test.YtlhmljngjdfbpaaRows
import Derived.WalkKit
import Derived.ProofKit
import Derived.OpenShut
import Derived.ShutString
import Derived.ChangeOld
import Derived.Below
import Derived.SizedLaws
import Derived.WideShapes
import Derived.Test.YtlhmljngjdfbpaaKFnFlowOf6
section
set_option linter.unusedSimpArgs false
set_option linter.unusedVariables false
set_option linter.unusedSectionVars false
namespace Go.Proofs.Ytlhmljngjdfbpaa.Pure
open Go.RowKit Go.Proofs.Ytlhmljngjdfbpaa.Pr Go.Proofs.YtlhmljngjdfbpaaW.PrintWords Go.Proofs.YtlhmljngjdfbpaaW.PrintLast Go.Proofs.YtlhmljngjdfbpaaW.PrintMore
open Go.Proofs.Ytlhmljngjdfbpaa.Fl (ud vis1 vis2 vis visAll bfs Tr Fit ap dl net cut Shut sm)
abbrev Stp:=S103
def dec (b : Int) : Int × Bool:=if 0 < b then (b - 1,true) else (-b - 1,false)
theorem dec_pos (i : Nat) : dec ((i : Int) + 1) = ((i : Int),true):=by
 unfold dec
 rw [if_pos (by omega),show (i : Int) + 1 - 1 = i by omega]
theorem dec_neg (i : Nat) : dec (-(i : Int) - 1) = ((i : Int),false):=by
 unfold dec
 rw [if_neg (by omega),show -(-(i : Int) - 1) - 1 = i by omega]
theorem iL_mem {L : List Nat} {v : Nat} : ((v : Nat) : Int) ∈ iL L ↔ v ∈ L:=by
 simp only [iL,List.mem_map];constructor
 ·rintro ⟨u,h,e⟩;rw [← Int.ofNat_inj.1 e];exact h
 ·exact fun h => ⟨v,h,rfl⟩
structure Rl (s : Nat) (x : StA) (st : Fl.St) : Prop where
 list : x.2 = iL st.2
 at_ : ∀ v ∈ st.2,v ≠ s → x.1 ((v : Nat) : Int) = dec (st.1 v)
section
variable {N : Nat} {l : List Arc} (hg : NetGood N l)
include hg
variable {f : Nat → Int} {s t : Nat} (hs : s < N) (ht : t < N)
include hs ht
theorem put_rl {x : StA} {st : Fl.St} (r : Rl s x st) (h : GoodF N l f s st) {v : Nat} (hv : v < N) (b : Int) : ∃ x',putA x ((v : Nat) : Int) (dec b) = some x' ∧ Rl s x' (if v ∉ st.2 then (ud st.1 v b,st.2 ++ [v]) else st):=by
 have h8:=hg.n8;have hl:=good_len hg hs ht h
 unfold putA
 rw [r.list,if_pos (by rw [iL_len]; omega)]
 by_cases c : v ∈ st.2
 case pos =>
  rw [if_pos (iL_mem.2 c),if_neg (fun h => h c)];exact ⟨x,rfl,r⟩
 rw [if_neg (fun h => c (iL_mem.1 h)),if_pos (by omega),if_pos c];refine ⟨_,rfl,⟨iL_snoc _ _,fun w hw hne => ?_⟩⟩
 by_cases e : w = v
 case pos =>
  subst e
  show (if ((w : Nat) : Int) = ((w : Nat) : Int) then dec b else x.1 _) = dec (ud st.1 w b w)
  rw [if_pos rfl,Fl.ud_at]
 show (if ((w : Nat) : Int) = ((v : Nat) : Int) then dec b else x.1 _) = dec (ud st.1 v b w)
 rw [if_neg (fun h => e (Int.ofNat_inj.1 h)),Fl.ud_off _ _ e]
 rcases List.mem_append.1 hw with h1 | h1
 ·exact r.at_ w h1 hne
 ·exact absurd (List.mem_singleton.1 h1) e
theorem arc_rl {x : StA} {st : Fl.St} (r : Rl s x st) (h : GoodF N l f s st) {i u : Nat} (hi : i < l.length) (hu : u ∈ st.2) : ∃ x',arcA l (lst l.length f) (u : Int) i x = some x' ∧ Rl s x' (visF l f u i st):=by
 have ha:=arcF hg hi;obtain ⟨g1,⟨x1,e1⟩⟩:=Fl.vis1_good (hfF hg hs ht) (htF hg hs ht) h (u:=u) (i:=i) hu hi;have hrd : rd (lst l.length f) (i : Int) = f i:=lst_rd _ hi
 unfold arcA
 rw [rda,← ha.1.1,← ha.2.1.1,hrd,lst_len];have one : ∃ x',(if ((frF l i : Nat) : Int) = (u : Int) then (if i < l.length then (if f i < (arc l i).f4 then putA x ((twF l i : Nat) : Int) ((i : Int),true) else some x) else none) else some x) = some x' ∧ Rl s x' (vis1 (frF l) (twF l) (capF l) f u i st):=by
  unfold vis1
  by_cases c1 : frF l i = u
  case neg =>
   rw [if_neg (fun h => c1 (Int.ofNat_inj.1 h)),if_neg (fun h => c1 h.1)];exact ⟨x,rfl,r⟩
  rw [if_pos (by rw [c1]),if_pos hi]
  by_cases c2 : f i < capF l i
  case neg =>
   rw [if_neg (show ¬ f i < (arc l i).f4 from c2),if_neg (fun h => c2 h.2.1)];exact ⟨x,rfl,r⟩
  rw [if_pos (show f i < (arc l i).f4 from c2),← dec_pos];obtain ⟨x',p,q⟩:=put_rl hg hs ht r h ha.2.1.2 ((i : Int) + 1);refine ⟨x',p,?_⟩
  by_cases c3 : twF l i ∉ st.2
  case pos => rw [if_pos ⟨c1,c2,c3⟩]; rw [if_pos c3] at q; exact q
  rw [if_neg (fun h => c3 h.2.2)]; rw [if_neg c3] at q; exact q
 obtain ⟨x',p,q⟩:=one;rw [p,Option.bind_some]
 show ∃ x'',_ = some x'' ∧ Rl s x'' (vis2 (frF l) (twF l) f u i (vis1 (frF l) (twF l) (capF l) f u i st))
 unfold vis2
 by_cases c1 : twF l i = u
 case neg =>
  rw [if_neg (fun h => c1 (Int.ofNat_inj.1 h)),if_neg (fun h => c1 h.1)];exact ⟨x',rfl,q⟩
 rw [if_pos (by rw [c1]),if_pos hi]
 by_cases c2 : 0 < f i
 case neg =>
  rw [if_neg (show ¬ f i > 0 from c2),if_neg (fun h => c2 h.2.1)];exact ⟨x',rfl,q⟩
 rw [if_pos (show f i > 0 from c2),← dec_neg];obtain ⟨x2,p,q⟩:=put_rl hg hs ht q g1 ha.1.2 (-(i : Int) - 1);refine ⟨x2,p,?_⟩
 by_cases c3 : frF l i ∉ (vis1 (frF l) (twF l) (capF l) f u i st).2
 case pos => rw [if_pos ⟨c1,c2,c3⟩]; rw [if_pos c3] at q; exact q
 rw [if_neg (fun h => c3 h.2.2)]; rw [if_neg c3] at q; exact q
theorem row_rl {u : Nat} : ∀ (d i : Nat) (x : StA) (st : Fl.St),i + d = l.length → Rl s x st → GoodF N l f s st → u ∈ st.2 → ∃ x',rowA l (lst l.length f) (u : Int) d x = some x' ∧ Rl s x' (visAll (frF l) (twF l) (capF l) f u i d st)
 | 0,i,x,st,_,r,_,_ => ⟨x,rfl,r⟩
 | d + 1,i,x,st,hd,r,h,hu => by
  obtain ⟨x1,p,q⟩:=arc_rl hg hs ht r h (i:=i) (by omega) hu;obtain ⟨g2,⟨y,e⟩,_⟩:=Fl.vis_good (hfF hg hs ht) (htF hg hs ht) h (u:=u) (i:=i) hu (by omega);obtain ⟨x2,p2,q2⟩:=row_rl d (i + 1) x1 _ (by omega) q g2 (by rw [e]; exact List.mem_append_left _ hu);refine ⟨x2,?_,q2⟩
  show (arcA l (lst l.length f) (u : Int) (l.length - (d + 1)) x).bind _ = _
  rw [show l.length - (d + 1) = i by omega,p];exact p2
theorem bfs_rl : ∀ (d q : Nat) (x : StA) (st : Fl.St),N ≤ d + q → Rl s x st → GoodF N l f s st → ∃ x',Ev (fun k => bfsA l (lst l.length f) k q x) x' ∧ Rl s x' (bfs (frF l) (twF l) (capF l) f l.length d q st):=by
 intro d
 induction d with
 | zero =>
  intro q x st hd r h;have:=Sp.nodup_len N st.2 h.1.nodup h.2;refine ⟨x,Ev.go ?_ (fun k => by rw [bfsA]),r⟩;exact Ev.neg (by rw [r.list,iL_len]; omega) (Ev.now _)
 | succ d ih =>
  intro q x st hd r h
  by_cases hq : q < st.2.length
  case neg =>
   refine ⟨x,Ev.go ?_ (fun k => by rw [bfsA]),?_⟩
   ·exact Ev.neg (by rw [r.list,iL_len]; exact hq) (Ev.now _)
   ·simp only [bfs];rw [dif_neg hq];exact r
  have hm:=List.getElem_mem hq;obtain ⟨x1,p1,r1⟩:=row_rl hg hs ht l.length 0 x st (by omega) r h hm;obtain ⟨g2,_,_⟩:=Fl.visAll_good (hfF hg hs ht) (htF hg hs ht) l.length 0 st h hm (by omega);obtain ⟨x2,p2,r2⟩:=ih (q + 1) x1 _ (by omega) r1 g2;refine ⟨x2,Ev.go ?_ (fun k => by rw [bfsA]),?_⟩
  ·refine Ev.pos (by rw [r.list,iL_len]; exact hq) ?_;rw [r.list,iL_rd hq];exact Ev.bind0 p1 p2
  ·simp only [bfs];rw [dif_pos hq];exact r2
def stepOf (x : Nat × Bool) : Stp:=⟨(x.1 : Int),x.2⟩
omit ht in
theorem way_rl {x : StA} {st : Fl.St} (r : Rl s x st) (hno : ∀ v,v ∉ st.2 ∨ v = s → st.1 v = 0) {v : Nat} {P : List (Nat × Bool)} (w : Fl.Way (frF l) (twF l) s st.1 v P) : ∀ (out : List Stp),v < N → (∀ y ∈ P,y.1 < l.length) → out.length + P.length ≤ 1000 → Ev (fun k => pathA l x.1 (s : Int) k (v : Int) out) (out ++ P.map stepOf):=by
 have h8:=hg.n8;have hx : ∀ v,v ≠ s → st.1 v ≠ 0 → x.1 ((v : Nat) : Int) = dec (st.1 v):=fun v h1 h2 =>
  r.at_ v (Classical.byContradiction fun h3 => h2 (hno v (.inl h3))) h1
 induction w with
 | nil =>
  intro out hv hP hlen;refine Ev.go ?_ (fun k => by rw [pathA]);exact Ev.pos rfl (Ev.is (by simp))
 | @fwd v i P hne eb e w ih =>
  intro out hv hP hlen;have hi:=hP _ (List.mem_cons_self ..);have ha:=arcF hg hi;have hd : x.1 ((v : Nat) : Int) = ((i : Int),true):=by rw [hx v hne (by rw [eb]; omega),eb,dec_pos]
  rw [List.length_cons] at hlen;have:=ih (out ++ [stepOf (i,true)]) ha.1.2 (fun y hy => hP y (List.mem_cons_of_mem _ hy)) (by rw [List.length_append,List.length_singleton]; omega);refine Ev.go ?_ (fun k => by rw [pathA]);refine Ev.neg (fun h => hne (Int.ofNat_inj.1 h)) (Ev.pos (by omega) (Ev.pos (by omega) ?_));rw [hd];refine Ev.pos ⟨Int.natCast_nonneg _,Int.ofNat_lt.2 hi⟩ ?_;rw [if_pos rfl,rda,← ha.1.1];rw [List.append_assoc] at this;exact this
 | @bck v i P hne eb e w ih =>
  intro out hv hP hlen;have hi:=hP _ (List.mem_cons_self ..);have ha:=arcF hg hi;have hd : x.1 ((v : Nat) : Int) = ((i : Int),false):=by rw [hx v hne (by rw [eb]; omega),eb,dec_neg]
  rw [List.length_cons] at hlen;have:=ih (out ++ [stepOf (i,false)]) ha.2.1.2 (fun y hy => hP y (List.mem_cons_of_mem _ hy)) (by rw [List.length_append,List.length_singleton]; omega);refine Ev.go ?_ (fun k => by rw [pathA]);refine Ev.neg (fun h => hne (Int.ofNat_inj.1 h)) (Ev.pos (by omega) (Ev.pos (by omega) ?_));rw [hd];refine Ev.pos ⟨Int.natCast_nonneg _,Int.ofNat_lt.2 hi⟩ ?_;rw [if_neg (by simp),rda,← ha.2.1.1];rw [List.append_assoc] at this;exact this
theorem augI_ev (R : List Stp × Bool) (h1 : t ∉ (come N l f s).2 → R = ([],false)) (h2 : t ∈ (come N l f s).2 → ∃ P,Fl.Way (frF l) (twF l) s (come N l f s).1 t P ∧ (P.map Prod.fst).Nodup ∧ (∀ x ∈ P,Fit l.length (capF l) f x) ∧ R = (P.map stepOf,true)) : Ev (fun k => impl_Net_augment.f k (N : Int) l (lst l.length f) (s : Int) (t : Int)) R:=by
 have h16:=hg.len
 unfold impl_Net_augment.f
 have r0 : Rl s ((fun _ => (0,false)),[((s : Nat) : Int)]) ((fun _ => 0),[s]):=⟨rfl,fun v hv hne => absurd (List.mem_singleton.1 hv) hne⟩
 obtain ⟨x,hx,r⟩:=bfs_rl hg hs ht (f:=f) N 0 _ _ (by omega) r0 (start_good hg hs);have hc:=(come_good hg hs ht (f:=f)).1;refine Ev.bind hx ?_;rw [r.list]
 by_cases c : t ∈ (come N l f s).2
 case neg =>
  rw [h1 c];exact Ev.neg (fun h => c (iL_mem.1 h)) (Ev.now _)
 obtain ⟨P,w,hn,hf,rfl⟩:=h2 c;have hlen:=Sp.nodup_len l.length (P.map Prod.fst) hn (fun y hy => by
  obtain ⟨z,hz,e⟩:=List.mem_map.1 hy;rw [← e];exact (hf z hz).1)
 rw [List.length_map] at hlen;refine Ev.pos (iL_mem.2 c) (Ev.bind (way_rl hg hs r hc.1.none w [] ht (fun y hy => (hf y hy).1) (by rw [List.length_nil]; omega)) ?_);rw [List.nil_append];exact Ev.now _
theorem add_ev {R : List Int} : ∀ (P : List (Nat × Bool)) (A : List (Nat × Bool)) (g : Nat → Int),(A ++ P).length ≤ 16 → (P.map Prod.fst).Nodup → (∀ x ∈ P,Fit l.length (capF l) g x) → (∀ i,i < l.length → 0 ≤ g i ∧ g i ≤ capF l i) → Ev (fun k => impl_FlowOf.l0 k (s : Int) (t : Int) (lst l.length (ap g P)) (N : Int) l) R → Ev (fun k => impl_FlowOf.l1 k (s : Int) (t : Int) (lst l.length g) ((A ++ P).map stepOf) (((A ++ P).length : Nat) : Int) (A.length : Int) (N : Int) l) R:=by
 intro P
 induction P with
 | nil =>
  intro A g hl hn hf hb hk;refine Ev.go ?_ (fun k => by rw [impl_FlowOf.l1]);exact Ev.neg (by simp) hk
 | cons x P ih =>
  intro A g hl hn hf hb hk;have hfi:=hf _ (List.mem_cons_self ..);have hi : x.1 < l.length:=hfi.1;have ha:=arcF hg hi;have hgi:=hb _ hi;have hlA : A.length < (A ++ x :: P).length:=by simp
  rw [List.map_cons,List.nodup_cons] at hn;have hstep:=Fl.ap_fit (m:=l.length) (cap:=capF l) [x] g (by simp) (fun y hy => by rw [List.mem_singleton.1 hy]; exact hfi) hb;have hrow : rd_T103 ((A ++ x :: P).map stepOf) (A.length : Int) = stepOf x:=by simp [rd_T103]
  have hgr : rd (lst l.length g) ((x.1 : Nat) : Int) = g x.1:=lst_rd _ hi;have ih:=ih (A ++ [x]) (ud g x.1 (g x.1 + dl x.2)) (by rw [List.append_assoc]; exact hl) hn.2 (fun y hy => by
   have hx2:=hf y (List.mem_cons_of_mem _ hy);have hne : y.1 ≠ x.1:=fun e => hn.1 (by rw [← e]; exact List.mem_map_of_mem hy)
   unfold Fl.Fit at hx2 ⊢
   rw [Fl.ud_off _ _ hne];exact hx2) hstep hk
  rw [show A ++ [x] ++ P = A ++ x :: P by simp,show (A ++ [x]).length = A.length + 1 by simp] at ih;refine Ev.go ?_ (fun k => by rw [impl_FlowOf.l1]);rw [hrow,up1 hlA (by simp only [maxLen]; omega)];refine Ev.pos (Int.ofNat_lt.2 hlA) (Ev.pos (Int.natCast_nonneg _) (Ev.pos (by rw [List.length_map]; exact Int.ofNat_lt.2 hlA) ?_));simp only [stepOf];rw [hgr,Int.toNat_natCast,lst_len]
  rcases Bool.eq_false_or_eq_true x.2 with hd | hd
  ·rw [hd] at ih;refine Ev.pos hd (Ev.pos (Int.natCast_nonneg _) (Ev.pos (Int.ofNat_lt.2 hi) ?_));rw [w64 (by omega) (by omega),set_ud];exact ih
  ·rw [hd] at ih;refine Ev.neg (by rw [hd]; simp) (Ev.pos (Int.natCast_nonneg _) (Ev.pos (Int.ofNat_lt.2 hi) ?_));rw [w64 (by omega) (by omega),set_ud];exact ih
end
section
variable {N : Nat} {l : List Arc} (hg : NetGood N l) {s t : Nat} (hs : s < N) (ht : t < N) (hne : s ≠ t)
include hg hs ht hne
theorem implAug_ev {f g : Nat → Int} (h : Aug N l s t f g) : FlowI N l s t f → Ev (fun k => impl_FlowOf.l0 k (s : Int) (t : Int) (lst l.length f) (N : Int) l) (lst l.length g):=by
 induction h with
 | @stop f c =>
  intro h;refine Ev.go ?_ (fun k => by rw [impl_FlowOf.l0]);exact Ev.bind (augI_ev hg hs ht ([],false) (fun _ => rfl) (fun h => absurd h c)) (Ev.neg (by simp) (Ev.now _))
 | @more f g P c w hn hf _ ih =>
  intro h;have hlen:=Sp.nodup_len l.length (P.map Prod.fst) hn (fun y hy => by
   obtain ⟨z,hz,e⟩:=List.mem_map.1 hy;rw [← e];exact (hf z hz).1)
  rw [List.length_map] at hlen;have h16:=hg.len;have hi:=ih (flow_ap hg hs ht hne h w hn hf).1;have ha:=add_ev hg hs ht P [] f (by rw [List.nil_append]; omega) hn hf h.fits hi;rw [List.nil_append] at ha;refine Ev.go ?_ (fun k => by rw [impl_FlowOf.l0]);refine Ev.bind (augI_ev hg hs ht (P.map stepOf,true) (fun h => absurd c h) (fun _ => ⟨P,w,hn,hf,rfl⟩)) (Ev.pos rfl ?_);rw [List.length_map];exact ha
theorem implFlowOf_ev {g : Nat → Int} (h : Aug N l s t (fun _ => 0) g) : Ev (fun k => impl_FlowOf.f k (N : Int) l (s : Int) (t : Int)) (lst l.length g):=by
 have h16:=hg.len;have hb : (netOkB (N : Int) l && (okN (N : Int) (s : Int) && (okN (N : Int) (t : Int) && ((s : Int) != (t : Int))))) = true:=by
  rw [(netOkB_iff _ _).2 hg];simp only [okN,Bool.true_and,Bool.and_eq_true,decide_eq_true_eq,bne_iff_ne];omega
 have ez : List.replicate (((l.length : Int)) : Int).toNat (0 : Int) = lst l.length (fun _ => 0):=by
  apply List.ext_getElem (by simp [lst])
  intro i h1 h2;simp [lst]
 unfold impl_FlowOf.f
 refine Ev.bind0 (apart_eq _ _ _ _) (Ev.pos hb (Ev.pos (by omega) (Ev.pos (by omega) ?_)));rw [ez];exact implAug_ev hg hs ht hne h (flow_zero hg hs ht hne)
end
end Go.Proofs.Ytlhmljngjdfbpaa.Pure
end
section
set_option linter.unusedSimpArgs false
set_option linter.unusedVariables false
set_option linter.unusedSectionVars false
namespace Go.Proofs.Ytlhmljngjdfbpaa.Pure
open Go.RowKit Go.Proofs.Ytlhmljngjdfbpaa.Pr Go.Proofs.YtlhmljngjdfbpaaW.PrintWords Go.Proofs.YtlhmljngjdfbpaaW.PrintLast Go.Proofs.YtlhmljngjdfbpaaW.PrintMore
open Go.Proofs.Ytlhmljngjdfbpaa.Fl (ud vis1 vis2 vis visAll bfs Tr Way Fit ap dl net cut Shut sm)
section
variable {N : Nat} {l : List Arc} (hg : NetGood N l)
include hg
variable {f : Nat → Int} {s t : Nat} (hs : s < N) (ht : t < N)
include hs ht
theorem half2 {R : List Int × Bool} {st : Fl.St} (h : GoodF N l f s st) {i q u : Nat} (hi : i < l.length) (hq : q < st.2.length) (hu : rd (iL st.2) (q : Int) = (u : Int)) (hn : Ev (fun k => spec_l25Push.l2 k (lst l.length f) (s : Int) (t : Int) (lst N (vis2 (frF l) (twF l) f u i st).1) (iL (vis2 (frF l) (twF l) f u i st).2) (q : Int) ((i : Int) + 1) (N : Int) l) R) :
  Ev (fun k => if 0 ≤ (q : Int) then (if (q : Int) < ((iL st.2).length : Int) then (if ((twF l i : Nat) : Int) = (rd (iL st.2) (q : Int)) then (if 0 ≤ (i : Int) then (if (i : Int) < (l.length : Int) then (if (rd (lst l.length f) (i : Int)) > 0 then (if 0 ≤ ((frF l i : Nat) : Int) then (if ((frF l i : Nat) : Int) < (N : Int) then (if (rd (lst N st.1) ((frF l i : Nat) : Int)) = 0 then (if ((frF l i : Nat) : Int) = (s : Int) then (spec_l25Push.l2 k (lst l.length f) (s : Int) (t : Int) (lst N st.1) (iL st.2) (q : Int) ((i : Int) + 1) (N : Int) l) else (if (iL st.2).length < 17592186044416 then (spec_l25Push.l2 k (lst l.length f) (s : Int) (t : Int) ((lst N st.1).set (frF l i) (-(i : Int) - 1)) (iL st.2 ++ [((frF l i : Nat) : Int)]) (q : Int) ((i : Int) + 1) (N : Int) l) else (none))) else (spec_l25Push.l2 k (lst l.length f) (s : Int) (t : Int) (lst N st.1) (iL st.2) (q : Int) ((i : Int) + 1) (N : Int) l)) else (none)) else (none)) else (spec_l25Push.l2 k (lst l.length f) (s : Int) (t : Int) (lst N st.1) (iL st.2) (q : Int) ((i : Int) + 1) (N : Int) l)) else (none)) else (none)) else (spec_l25Push.l2 k (lst l.length f) (s : Int) (t : Int) (lst N st.1) (iL st.2) (q : Int) ((i : Int) + 1) (N : Int) l)) else (none)) else (none)) R:=by
 have ha:=(arcF hg hi).1.2;have hl8:=good_len hg hs ht h;have hfree:=h.1.free (frF l i);have hb : rd (lst N st.1) ((frF l i : Nat) : Int) = st.1 (frF l i):=lst_rd _ ha;have hfl : rd (lst l.length f) (i : Int) = f i:=lst_rd _ hi;rw [hb,hfl,hu];refine Ev.pos (Int.natCast_nonneg q) (Ev.pos (by rw [iL_len]; exact Int.ofNat_lt.2 hq) ?_)
 unfold vis2 at hn
 by_cases c1 : twF l i = u
 case neg =>
  rw [if_neg (fun h => c1 h.1)] at hn;exact Ev.neg (fun e => c1 (Int.ofNat_inj.1 e)) hn
 refine Ev.pos (by rw [c1]) (Ev.pos (Int.natCast_nonneg i) (Ev.pos (Int.ofNat_lt.2 hi) ?_))
 by_cases c2 : 0 < f i
 case neg =>
  rw [if_neg (fun h => c2 h.2.1)] at hn;exact Ev.neg c2 hn
 refine Ev.pos c2 (Ev.pos (Int.natCast_nonneg _) (Ev.pos (Int.ofNat_lt.2 ha) ?_))
 by_cases c3 : frF l i ∉ st.2
 case pos =>
  rw [if_pos ⟨c1,c2,c3⟩] at hn;obtain ⟨f1,f2⟩:=hfree.2 c3;refine Ev.pos f1 (Ev.neg (fun e => f2 (Int.ofNat_inj.1 e)) (Ev.pos (short_w (Nat.le_trans hl8 (by decide))) ?_));rw [iL_snoc,set_ud];exact hn
 rw [if_neg (fun h => c3 h.2.2)] at hn
 by_cases c4 : st.1 (frF l i) = 0
 case neg => exact Ev.neg c4 hn
 have e : frF l i = s:=Classical.byContradiction (fun e => c3 (hfree.1 ⟨c4,e⟩));exact Ev.pos c4 (Ev.pos (by rw [e]) hn)
theorem arc_step {R : List Int × Bool} {st : Fl.St} (h : GoodF N l f s st) {i q u : Nat} (hi : i < l.length) (hq : q < st.2.length) (hu : rd (iL st.2) (q : Int) = (u : Int)) (hm : u ∈ st.2) (hn : Ev (fun k => spec_l25Push.l2 k (lst l.length f) (s : Int) (t : Int) (lst N (visF l f u i st).1) (iL (visF l f u i st).2) (q : Int) ((i : Int) + 1) (N : Int) l) R) :
  Ev (fun k => spec_l25Push.l2 k (lst l.length f) (s : Int) (t : Int) (lst N st.1) (iL st.2) (q : Int) (i : Int) (N : Int) l) R:=by
 have hfr:=(arcF hg hi).1;have htw:=(arcF hg hi).2.1;have hi100 : i < 100:=Nat.lt_of_lt_of_le hi (Nat.le_trans hg.len (by decide));have hl8:=good_len hg hs ht h;have hfree:=h.1.free (twF l i);have hup:=next_w hi100;have hbw:=back_w hi100;have hb : rd (lst N st.1) ((twF l i : Nat) : Int) = st.1 (twF l i):=lst_rd _ htw.2;have hfl : rd (lst l.length f) (i : Int) = f i:=lst_rd _ hi;obtain ⟨g1,⟨x1,e1⟩⟩:=Fl.vis1_good (hfF hg hs ht) (htF hg hs ht) h (u:=u) (i:=i) hm hi;have hq1 : q < (vis1 (frF l) (twF l) (capF l) f u i st).2.length:=by rw [e1,List.length_append]; exact Nat.lt_of_lt_of_le hq (Nat.le_add_right _ _)
 have hu1 : rd (iL (vis1 (frF l) (twF l) (capF l) f u i st).2) (q : Int) = (u : Int):=by
  rw [← hu,e1,iL_rd hq,iL_rd (by rw [List.length_append]; exact Nat.lt_of_lt_of_le hq (Nat.le_add_right _ _)),List.getElem_append_left hq]
 have hh:=half2 hg hs ht g1 hi hq1 hu1 hn;refine Ev.go ?_ (fun k => by rw [spec_l25Push.l2]);rw [rda,← hfr.1,← htw.1,hu,hfl,hb];refine Ev.pos (Int.ofNat_lt.2 hi) (Ev.pos (Int.natCast_nonneg i) (Ev.pos (Int.natCast_nonneg q) (Ev.pos (by rw [iL_len]; exact Int.ofNat_lt.2 hq) ?_)));have no : ¬ (frF l i = u ∧ f i < capF l i ∧ twF l i ∉ st.2) → Ev (fun k => spec_l25Push.j3 k (lst l.length f) (s : Int) (t : Int) (lst N st.1) (iL st.2) (q : Int) (i : Int) false (N : Int) l ((frF l i : Nat) : Int) ((twF l i : Nat) : Int) (arc l i).f2 (arc l i).f3 (arc l i).f4) R:=by
  intro c;have e : vis1 (frF l) (twF l) (capF l) f u i st = st:=if_neg c;refine Ev.go ?_ (fun k => by rw [spec_l25Push.j3]);rw [e] at hh;simp only [lst_len,hup,hbw,Int.toNat_natCast];exact Ev.neg (by simp) hh
 by_cases c1 : frF l i = u
 case neg => exact Ev.neg (fun e => c1 (Int.ofNat_inj.1 e)) (no (fun h2 => c1 h2.1))
 refine Ev.pos (by rw [c1]) (Ev.pos (by rw [lst_len]; exact Int.ofNat_lt.2 hi) ?_)
 by_cases c2 : f i < capF l i
 case neg => exact Ev.neg c2 (no (fun h2 => c2 h2.2.1))
 refine Ev.pos c2 (Ev.pos (Int.natCast_nonneg _) (Ev.pos (by rw [lst_len]; exact Int.ofNat_lt.2 htw.2) ?_))
 by_cases c3 : st.1 (twF l i) = 0
 case neg => exact Ev.neg c3 (no (fun h2 => c3 (hfree.2 h2.2.2).1))
 refine Ev.pos c3 ?_
 by_cases c4 : twF l i = s
 case pos =>
  have e : (((twF l i : Nat) : Int) != (s : Int)) = false:=by rw [bne_eq_false_iff_eq,c4]
  rw [e];exact no (fun h2 => h2.2.2 (by rw [c4]; exact h.1.root))
 have e : (((twF l i : Nat) : Int) != (s : Int)) = true:=by rw [bne_iff_ne]; exact fun e => c4 (Int.ofNat_inj.1 e)
 rw [e];have hin:=hfree.1 ⟨c3,c4⟩;have e2 : vis1 (frF l) (twF l) (capF l) f u i st = (ud st.1 (twF l i) ((i : Int) + 1),st.2 ++ [twF l i]):=if_pos ⟨c1,c2,hin⟩;refine Ev.go ?_ (fun k => by rw [spec_l25Push.j3]);rw [e2] at hh;refine Ev.pos rfl (Ev.pos (Int.natCast_nonneg _) (Ev.pos (by rw [lst_len]; exact Int.ofNat_lt.2 htw.2) (Ev.bind0 rfl (Ev.pos (short_w (Nat.le_trans hl8 (by decide))) (Ev.bind0 rfl ?_)))));simp only [lst_len,hup,hbw,Int.toNat_natCast,set_ud,iL_snoc];simp only [set_ud,iL_snoc] at hh;exact hh
end
end Go.Proofs.Ytlhmljngjdfbpaa.Pure
end
section
set_option linter.unusedSimpArgs false
set_option linter.unusedVariables false
set_option linter.unusedSectionVars false
namespace Go.Proofs.Ytlhmljngjdfbpaa.Pure
open Go.RowKit Go.Proofs.Ytlhmljngjdfbpaa.Pr Go.Proofs.YtlhmljngjdfbpaaW.PrintWords Go.Proofs.YtlhmljngjdfbpaaW.PrintLast Go.Proofs.YtlhmljngjdfbpaaW.PrintMore
open Go.Proofs.Ytlhmljngjdfbpaa.Fl (ud vis1 vis2 vis visAll bfs ap dl)
section
variable {N : Nat} {l : List Arc} (hg : NetGood N l)
include hg
variable {f : Nat → Int} {s t : Nat} (hs : s < N) (ht : t < N)
include hs ht
theorem row_step {R : List Int × Bool} {q u : Nat} : ∀ (d i : Nat) (st : Fl.St),l.length - i = d → i ≤ l.length → GoodF N l f s st → q < st.2.length → rd (iL st.2) (q : Int) = (u : Int) → u ∈ st.2 → (∀ st' : Fl.St,st' = visAll (frF l) (twF l) (capF l) f u i d st → Ev (fun k => spec_l25Push.l1 k (lst l.length f) (s : Int) (t : Int) (lst N st'.1) (iL st'.2) ((q + 1 : Nat) : Int) (N : Int) l) R) → Ev (fun k => spec_l25Push.l2 k (lst l.length f) (s : Int) (t : Int) (lst N st.1) (iL st.2) (q : Int) (i : Int) (N : Int) l) R:=by
 intro d
 induction d with
 | zero =>
  intro i st hd hi h hq hu hm hn;have hl8:=good_len hg hs ht h;have hq100 : q < 100:=Nat.lt_of_lt_of_le hq (Nat.le_trans hl8 (by decide));refine Ev.go ?_ (fun k => by rw [spec_l25Push.l2]);have hn:=hn st rfl;rw [next_w hq100];exact Ev.neg (fun e => absurd (Int.ofNat_lt.1 e) (by omega)) hn
 | succ d ih =>
  intro i st hd hi h hq hu hm hn;have hlt : i < l.length:=by omega
  refine arc_step hg hs ht h hlt hq hu hm ?_;obtain ⟨g2,⟨x,e⟩,_⟩:=Fl.vis_good (hfF hg hs ht) (htF hg hs ht) h (u:=u) (i:=i) hm hlt;have hq2 : q < (visF l f u i st).2.length:=by rw [e,List.length_append]; exact Nat.lt_of_lt_of_le hq (Nat.le_add_right _ _)
  have hu2 : rd (iL (visF l f u i st).2) (q : Int) = (u : Int):=by
   rw [← hu,e,iL_rd hq,iL_rd (by rw [List.length_append]; exact Nat.lt_of_lt_of_le hq (Nat.le_add_right _ _)),List.getElem_append_left hq]
  exact ih (i + 1) _ (by omega) (by omega) g2 hq2 hu2 (by rw [e]; exact List.mem_append_left _ hm) (fun st' e' => hn st' e')
theorem list_step {R : List Int × Bool} : ∀ (d q : Nat) (st : Fl.St),N ≤ d + q → GoodF N l f s st → (∀ st' : Fl.St,st' = bfs (frF l) (twF l) (capF l) f l.length d q st → GoodF N l f s st' → Ev (fun k => if 0 ≤ (t : Int) then (if (t : Int) < ((lst N st'.1).length : Int) then (if (rd (lst N st'.1) (t : Int)) = 0 then (some (lst l.length f,false)) else ((some (([] : List Int) : List Int)).bind fun y652 => (if y652.length + (lst l.length f).length < 17592186044416 then (spec_l25Push.l3 k (s : Int) (lst N st'.1) (y652 ++ lst l.length f) (t : Int) (N : Int) l) else (none)))) else (none)) else (none)) R) → Ev (fun k => spec_l25Push.l1 k (lst l.length f) (s : Int) (t : Int) (lst N st.1) (iL st.2) (q : Int) (N : Int) l) R:=by
 intro d
 induction d with
 | zero =>
  intro q st hd h hn;have:=Sp.nodup_len N st.2 h.1.nodup h.2;refine Ev.go ?_ (fun k => by rw [spec_l25Push.l1]);exact Ev.neg (by rw [iL_len]; omega) (hn st rfl h)
 | succ d ih =>
  intro q st hd h hn;refine Ev.go ?_ (fun k => by rw [spec_l25Push.l1])
  by_cases hq : q < st.2.length
  case neg =>
   refine Ev.neg (by rw [iL_len]; omega) (hn st ?_ h);simp only [bfs];rw [dif_neg hq]
  refine Ev.pos (by rw [iL_len]; omega) (row_step hg hs ht _ 0 st rfl (Nat.zero_le _) h hq (iL_rd hq) (List.getElem_mem hq) (fun st' e => ?_));obtain ⟨g2,_,_⟩:=Fl.visAll_good (hfF hg hs ht) (htF hg hs ht) l.length 0 st h (List.getElem_mem hq) (by omega);rw [Nat.sub_zero] at e;rw [← e] at g2;refine ih (q + 1) st' (by omega) g2 (fun st2 e2 g3 => hn st2 ?_ g3);rw [e2,e];simp only [bfs];rw [dif_pos hq]
theorem fill_step {R : List Int × Bool} (hn : Ev (fun k => spec_l25Push.l1 k (lst l.length f) (s : Int) (t : Int) (lst N (fun _ => 0)) (iL [s]) 0 (N : Int) l) R) : ∀ (d i : Nat),N - i = d → i ≤ N → Ev (fun k => spec_l25Push.l0 k (lst l.length f) (s : Int) (t : Int) (lst N (fun _ => 0)) (i : Int) (N : Int) l) R:=by
 have h8:=hg.n8;intro d
 induction d with
 | zero =>
  intro i hd hi;refine Ev.go ?_ (fun k => by rw [spec_l25Push.l0]);exact Ev.neg (by omega) hn
 | succ d ih =>
  intro i hd hi;have hlt : i < N:=by omega
  have e : (lst N (fun _ => (0 : Int))).set i 0 = lst N (fun _ => 0):=by
   rw [lst_set];exact lst_congr (fun v _ => by unfold upd; split <;> rfl)
  refine Ev.go ?_ (fun k => by rw [spec_l25Push.l0]);rw [up1 hlt (by simp only [maxLen]; omega),Int.toNat_natCast,e];exact Ev.pos (by omega) (Ev.pos (by omega) (Ev.pos (by rw [lst_len]; omega) (ih (i + 1) (by omega) (by omega))))
omit ht in
theorem way_step {b : Nat → Int} {v : Nat} {P : List (Nat × Bool)} (w : Fl.Way (frF l) (twF l) s b v P) : ∀ (g : Nat → Int),v < N → (P.map Prod.fst).Nodup → (∀ x ∈ P,Fl.Fit l.length (capF l) g x) → (∀ i,i < l.length → 0 ≤ g i ∧ g i ≤ capF l i) → Ev (fun k => spec_l25Push.l3 k (s : Int) (lst N b) (lst l.length g) (v : Int) (N : Int) l) (lst l.length (ap g P),true):=by
 have h16:=hg.len
 induction w with
 | nil =>
  intro g hv hn hf hb;refine Ev.go ?_ (fun k => by rw [spec_l25Push.l3]);exact Ev.pos rfl (Ev.now _)
 | @fwd v i P hne eb e w ih =>
  intro g hv hn hf hb;have hfi:=hf _ (List.mem_cons_self ..);have hi : i < l.length:=hfi.1;have ha:=arcF hg hi;have hgi:=hb i hi;have hbv : rd (lst N b) (v : Int) = (i : Int) + 1:=by rw [lst_rd _ hv,eb]
  have hw : wrap64 ((i : Int) + 1 - 1) = (i : Int):=by rw [w64 (by omega) (by omega)]; omega
  have hgr : rd (lst l.length g) (i : Int) = g i:=lst_rd _ hi;rw [List.map_cons,List.nodup_cons] at hn;have hstep:=Fl.ap_fit (m:=l.length) (cap:=capF l) [(i,true)] g (by simp) (fun x hx => by rw [List.mem_singleton.1 hx]; exact hfi) hb;have ih:=ih (ud g i (g i + 1)) ha.1.2 hn.2 (fun x hx => by
   have hx2:=hf x (List.mem_cons_of_mem _ hx);have hne : x.1 ≠ i:=fun e => hn.1 (by show i ∈ _; rw [← e]; exact List.mem_map_of_mem hx)
   unfold Fl.Fit at hx2 ⊢
   rw [Fl.ud_off _ _ hne];exact hx2) hstep
  refine Ev.go ?_ (fun k => by rw [spec_l25Push.l3]);rw [hbv,hw,hgr,rda,w64 (n:=g i + 1) (by omega) (by omega),Int.toNat_natCast,set_ud,← ha.1.1];exact Ev.neg (fun e => hne (by omega)) (Ev.pos (by omega) (Ev.pos (by rw [lst_len]; omega) (Ev.pos (by omega) (Ev.pos (by omega) (Ev.pos (by rw [lst_len]; omega) (Ev.pos (by omega) ih))))))
 | @bck v i P hne eb e w ih =>
  intro g hv hn hf hb;have hfi:=hf _ (List.mem_cons_self ..);have hi : i < l.length:=hfi.1;have ha:=arcF hg hi;have hgi:=hb i hi;have hbv : rd (lst N b) (v : Int) = -(i : Int) - 1:=by rw [lst_rd _ hv,eb]
  have hw : wrap64 ((wrap64 (-(-(i : Int) - 1))) - 1) = (i : Int):=by
   rw [w64 (n:=-(-(i : Int) - 1)) (by omega) (by omega),w64 (by omega) (by omega)]; omega
  have hgr : rd (lst l.length g) (i : Int) = g i:=lst_rd _ hi;rw [List.map_cons,List.nodup_cons] at hn;have hstep:=Fl.ap_fit (m:=l.length) (cap:=capF l) [(i,false)] g (by simp) (fun x hx => by rw [List.mem_singleton.1 hx]; exact hfi) hb;have ih:=ih (ud g i (g i + -1)) ha.2.1.2 hn.2 (fun x hx => by
   have hx2:=hf x (List.mem_cons_of_mem _ hx);have hne : x.1 ≠ i:=fun e => hn.1 (by show i ∈ _; rw [← e]; exact List.mem_map_of_mem hx)
   unfold Fl.Fit at hx2 ⊢
   rw [Fl.ud_off _ _ hne];exact hx2) hstep
  refine Ev.go ?_ (fun k => by rw [spec_l25Push.l3]);rw [hbv,hw,hgr,rda,w64 (n:=g i - 1) (by omega) (by omega),Int.toNat_natCast,show g i - 1 = g i + -1 by omega,← ha.2.1.1];exact Ev.neg (fun e => hne (by omega)) (Ev.pos (by omega) (Ev.pos (by rw [lst_len]; omega) (Ev.neg (by omega) (Ev.pos (by omega) (Ev.pos (by rw [lst_len]; omega) (Ev.pos (by omega) (by rw [set_ud]; exact ih)))))))
theorem push_ev (hne : s ≠ t) (hb : ∀ i,i < l.length → 0 ≤ f i ∧ f i ≤ capF l i) (R : List Int × Bool) (h1 : t ∉ (come N l f s).2 → R = (lst l.length f,false)) (h2 : t ∈ (come N l f s).2 → ∃ P,Fl.Way (frF l) (twF l) s (come N l f s).1 t P ∧ (P.map Prod.fst).Nodup ∧ (∀ x ∈ P,Fl.Fit l.length (capF l) f x) ∧ R = (lst l.length (ap f P),true)) : Ev (fun k => spec_l25Push.f k (N : Int) l (lst l.length f) (s : Int) (t : Int)) R:=by
 have h8:=hg.n8;have h16:=hg.len
 unfold spec_l25Push.f
 have hz : List.replicate ((N : Int)).toNat (0 : Int) = lst N (fun _ => 0):=by
  apply List.ext_getElem (by simp [lst])
  intro i h1 h2;simp [lst]
 rw [hz];refine Ev.pos (by omega) (Ev.pos (by omega) (fill_step hg hs ht ?_ _ 0 rfl (Nat.zero_le _)));refine list_step hg hs ht N 0 ((fun _ => 0),[s]) (by omega) (start_good hg hs) (fun st' e g => ?_);have e : st' = come N l f s:=e;subst e;have hfr:=g.1.free t;have hbt : rd (lst N (come N l f s).1) (t : Int) = (come N l f s).1 t:=lst_rd _ ht;rw [hbt];refine Ev.pos (by omega) (Ev.pos (by rw [lst_len]; omega) ?_)
 by_cases c : t ∈ (come N l f s).2
 case neg =>
  rw [h1 c];exact Ev.pos (hfr.2 c).1 (Ev.now _)
 obtain ⟨P,w,hn,hf,rfl⟩:=h2 c;refine Ev.neg (fun e => hfr.1 ⟨e,fun e2 => hne e2.symm⟩ c) (Ev.bind0 rfl (Ev.pos (by rw [lst_len,List.length_nil]; omega) ?_));rw [List.nil_append];exact way_step hg hs w f ht hn hf hb
end
section
variable {N : Nat} {l : List Arc} (hg : NetGood N l) {s t : Nat} (hs : s < N) (ht : t < N) (hne : s ≠ t)
include hg hs ht hne
theorem specAug_ev {f g : Nat → Int} (h : Aug N l s t f g) : FlowI N l s t f → Ev (fun k => spec_FlowOf.l0 k (s : Int) (t : Int) (lst l.length f) true (N : Int) l) (lst l.length g):=by
 induction h with
 | @stop f c =>
  intro h;have hp:=push_ev hg hs ht hne h.fits (lst l.length f,false) (fun _ => rfl) (fun h => absurd h c);refine Ev.go ?_ (fun k => by rw [spec_FlowOf.l0]);refine Ev.pos rfl (Ev.bind hp (Ev.go ?_ (fun k => by rw [spec_FlowOf.l0])));exact Ev.neg (by simp) (Ev.now _)
 | @more f g P c w hn hf _ ih =>
  intro h;have hp:=push_ev hg hs ht hne h.fits (lst l.length (ap f P),true) (fun h => absurd c h) (fun _ => ⟨P,w,hn,hf,rfl⟩);refine Ev.go ?_ (fun k => by rw [spec_FlowOf.l0]);exact Ev.pos rfl (Ev.bind hp (ih (flow_ap hg hs ht hne h w hn hf).1))
end
end Go.Proofs.Ytlhmljngjdfbpaa.Pure
end
section
set_option linter.unusedSimpArgs false
set_option linter.unusedVariables false
set_option linter.unusedSectionVars false
namespace Go.Proofs.Ytlhmljngjdfbpaa.Pure
open Go.RowKit Go.Proofs.Ytlhmljngjdfbpaa.Pr Go.Proofs.YtlhmljngjdfbpaaW.PrintWords Go.Proofs.YtlhmljngjdfbpaaW.PrintLast Go.Proofs.YtlhmljngjdfbpaaW.PrintMore
open Classical in
noncomputable def flowF (N : Nat) (l : List Arc) (s t : Nat) : Nat → Int:=if h : ∃ g,Aug N l s t (fun _ => 0) g then Classical.choose h else fun _ => 0
noncomputable def flowOfV (n : Int) (l : List Arc) (a b : Int) : List Int:=if mostB n l a b = true then lst l.length (flowF n.toNat l a.toNat b.toNat) else []
section
variable {N : Nat} {l : List Arc} (hg : NetGood N l) {s t : Nat} (hs : s < N) (ht : t < N) (hne : s ≠ t)
include hg hs ht hne
theorem flowF_aug : Aug N l s t (fun _ => 0) (flowF N l s t):=by
 have h:=aug_zero hg hs ht hne
 unfold flowF
 rw [dif_pos h];exact Classical.choose_spec h
theorem flowF_end : FlowI N l s t (flowF N l s t) ∧ t ∉ (come N l (flowF N l s t) s).2:=aug_end hg hs ht hne (flowF_aug hg hs ht hne) (flow_zero hg hs ht hne)
theorem flowOfV_is : flowOfV (N : Int) l (s : Int) (t : Int) = lst l.length (flowF N l s t):=by
 unfold flowOfV
 rw [if_pos ((mostB_iff _ _ _ _).2 ⟨hg,by omega,by omega,fun e => hne (by omega)⟩),Int.toNat_natCast,Int.toNat_natCast,Int.toNat_natCast]
end
theorem flowOfV_len (n : Int) (l : List Arc) (a b : Int) : (flowOfV n l a b).length ≤ 16:=by
 unfold flowOfV
 by_cases h : mostB n l a b = true
 case neg =>
  rw [if_neg h];simp
 have:=((mostB_iff _ _ _ _).1 h).1.len;rw [if_pos h,lst_len];exact this
theorem most_nat {n : Int} {l : List Arc} {a b : Int} (h : mostB n l a b = true) : ∃ N s t : Nat,n = (N : Int) ∧ a = (s : Int) ∧ b = (t : Int) ∧ NetGood (N : Int) l ∧ s < N ∧ t < N ∧ s ≠ t:=by
 obtain ⟨hg,ha,hb,hab⟩:=(mostB_iff _ _ _ _).1 h;obtain ⟨N,rfl⟩ : ∃ N : Nat,n = (N : Int):=⟨n.toNat,by have:=hg.n1; omega⟩
 obtain ⟨s,rfl⟩ : ∃ s : Nat,a = (s : Int):=⟨a.toNat,by omega⟩
 obtain ⟨t,rfl⟩ : ∃ t : Nat,b = (t : Int):=⟨b.toNat,by omega⟩
 exact ⟨N,s,t,rfl,rfl,rfl,hg,by omega,by omega,fun h => hab (by rw [h])⟩
theorem implFlowOfV_ev (n : Int) (l : List Arc) (a b : Int) : Ev (fun k => impl_FlowOf.f k n l a b) (flowOfV n l a b):=by
 by_cases h : mostB n l a b = true
 case pos =>
  obtain ⟨N,s,t,rfl,rfl,rfl,hg,hs,ht,hne⟩:=most_nat h;rw [flowOfV_is hg hs ht hne];exact implFlowOf_ev hg hs ht hne (flowF_aug hg hs ht hne)
 have e : flowOfV n l a b = []:=by unfold flowOfV; rw [if_neg h]
 rw [e]
 unfold impl_FlowOf.f
 refine Ev.bind0 (apart_eq _ _ _ _) (Ev.neg (fun hb => h ?_) (Ev.now _));simp only [Bool.and_eq_true,okN,decide_eq_true_eq,bne_iff_ne] at hb;exact (mostB_iff _ _ _ _).2 ⟨(netOkB_iff _ _).1 hb.1,by omega,by omega,hb.2.2.2⟩
theorem specFlowOfV_ev (n : Int) (l : List Arc) (a b : Int) (hl : l.length ≤ maxLen) : Ev (fun k => spec_FlowOf.f k n l a b) (flowOfV n l a b):=by
 have hno : mostB n l a b ≠ true → Ev (fun k => spec_FlowOf.j0 k a b true n l) (flowOfV n l a b):=by
  intro h;have e : flowOfV n l a b = []:=by unfold flowOfV; rw [if_neg h]
  rw [e];refine Ev.go ?_ (fun k => by rw [spec_FlowOf.j0]);exact Ev.pos rfl (Ev.now _)
 unfold spec_FlowOf.f
 refine Ev.bind (l1Ok_ev n l hl) ?_;cases hk : netOkB n l with
 | false => exact Ev.neg (by simp) (hno (fun h => by have:=(netOkB_iff _ _).2 ((mostB_iff _ _ _ _).1 h).1; rw [hk] at this; cases this))
 | true =>
  have hg:=(netOkB_iff n l).1 hk;refine Ev.pos rfl (Ev.bind0 (in1 _ _ _) ?_);rw [inB_okN hg];cases ha : okN n a with
  | false =>
   refine Ev.neg (by simp) (hno (fun h => ?_));have:=((mostB_iff _ _ _ _).1 h).2.1;have e : okN n a = true:=by simp only [okN,Bool.and_eq_true,decide_eq_true_eq]; omega
   rw [ha] at e; cases e
  | true =>
   refine Ev.pos rfl (Ev.bind0 (in1 _ _ _) ?_);rw [inB_okN hg];cases hb : okN n b with
   | false =>
    refine Ev.neg (by simp) (hno (fun h => ?_));have:=((mostB_iff _ _ _ _).1 h).2.2.1;have e : okN n b = true:=by simp only [okN,Bool.and_eq_true,decide_eq_true_eq]; omega
    rw [hb] at e; cases e
   | true =>
    refine Ev.pos rfl ?_
    by_cases e : a = b
    case pos =>
     rw [show (a == b) = true from beq_iff_eq.2 e];exact hno (fun h => ((mostB_iff _ _ _ _).1 h).2.2.2 e)
    rw [show (a == b) = false from beq_eq_false_iff_ne.2 e];simp only [okN,Bool.and_eq_true,decide_eq_true_eq] at ha hb;have hm : mostB n l a b = true:=(mostB_iff _ _ _ _).2 ⟨hg,by omega,by omega,e⟩;obtain ⟨N,s,t,rfl,rfl,rfl,hg,hs,ht,hne⟩:=most_nat hm;rw [flowOfV_is hg hs ht hne];refine Ev.go ?_ (fun k => by rw [spec_FlowOf.j0]);have h:=specAug_ev hg hs ht hne (flowF_aug hg hs ht hne) (flow_zero hg hs ht hne);have h16:=hg.len;have ez : List.replicate (((l.length : Int)) : Int).toNat (0 : Int) = lst l.length (fun _ => 0):=by
     apply List.ext_getElem (by simp [lst])
     intro i h1 h2;simp [lst]
    rw [ez];exact Ev.neg (by simp) (Ev.pos (by omega) (Ev.pos (by omega) h))
end Go.Proofs.Ytlhmljngjdfbpaa.Pure
end
section
set_option linter.unusedSimpArgs false
set_option linter.unusedVariables false
namespace Go.Proofs.Ytlhmljngjdfbpaa.Pure
open Go.RowKit Go.Proofs.Ytlhmljngjdfbpaa.Pr Go.Proofs.YtlhmljngjdfbpaaW.PrintWords Go.Proofs.YtlhmljngjdfbpaaW.PrintLast Go.Proofs.YtlhmljngjdfbpaaW.PrintMore
theorem wkInts_l (a b : List Int) (hm : a.length ≤ maxLen) (hl : a.length = b.length) : ∀ (m i : Nat),a.length - i = m → i ≤ a.length → Ev (fun k => laws_wkInts.l0 k a b (i : Int)) (decide (a.drop i = b.drop i)):=by
 intro m
 induction m with
 | zero =>
  intro i hd hi;refine Ev.go ?_ (fun k => by rw [laws_wkInts.l0]);refine Ev.neg (by omega) (Ev.is ?_);rw [List.drop_of_length_le (by omega),List.drop_of_length_le (by omega)];rfl
 | succ m ih =>
  intro i hd hi;have hlt : i < a.length:=by omega
  have hlt2 : i < b.length:=by omega
  refine Ev.go ?_ (fun k => by rw [laws_wkInts.l0]);refine Ev.pos (by omega) (Ev.pos (by omega) (Ev.pos (by omega) ?_));rw [rdn hlt,rdn hlt2,up1 hlt hm,drop_cons hlt,drop_cons hlt2]
  by_cases c : a[i] = b[i]
  case neg => exact Ev.neg c (Ev.is (by simp only [List.cons.injEq,c,false_and]; rfl))
  exact Ev.pos c ((ih (i + 1) (by omega) (by omega)).cast (by rw [c]; simp only [List.cons.injEq,true_and]))
theorem wkInts_ev (a b : List Int) (hm : a.length ≤ maxLen) : Ev (fun k => laws_wkInts.f k a b) (decide (a = b)):=by
 unfold laws_wkInts.f
 by_cases c : a.length = b.length
 case pos => exact Ev.pos (by omega) (by simpa using wkInts_l a b hm c _ 0 rfl (Nat.zero_le _))
 exact Ev.neg (by omega) (Ev.is (by rw [eq_comm]; exact decide_eq_false (fun e => c (by rw [e]))))
theorem wkInts_same (a : List Int) (hm : a.length ≤ maxLen) : Ev (fun k => laws_wkInts.f k a a) true:=(wkInts_ev a a hm).cast (by simp)
structure Rdr (b : List Int) : Prop where
 len : b.length ≤ 2000
 rng : ∀ i,i < b.length → 0 ≤ nth b i ∧ nth b i ≤ 255
theorem Rdr.rd {b : List Int} (h : Rdr b) (i : Int) : 0 ≤ Go.Proofs.YtlhmljngjdfbpaaW.PrintWords.rd b i ∧ Go.Proofs.YtlhmljngjdfbpaaW.PrintWords.rd b i ≤ 255:=by
 have e : Go.Proofs.YtlhmljngjdfbpaaW.PrintWords.rd b i = nth b i.toNat:=rfl;rw [e]
 by_cases c : i.toNat < b.length
 case pos => exact h.rng _ c
 have c2 : b.length ≤ i.toNat:=by omega
 simp [nth,List.getElem?_eq_none c2]
theorem tm {x a : Int} (hx : 0 ≤ x) (ha : 0 < a) : 0 ≤ Int.tmod x a ∧ Int.tmod x a < a:=by
 rw [Int.tmod_eq_emod_of_nonneg hx];exact ⟨Int.emod_nonneg _ (by omega),Int.emod_lt_of_pos _ ha⟩
theorem td {x a : Int} (hx : 0 ≤ x) (ha : 0 < a) : 0 ≤ Int.tdiv x a ∧ Int.tdiv x a ≤ x:=by
 rw [Int.tdiv_eq_ediv_of_nonneg hx];exact ⟨Int.ediv_nonneg hx (by omega),Int.ediv_le_self _ hx⟩
theorem xor_nn {x y : Int} (hx : 0 ≤ x) (hx' : x < 4294967296) (hy : 0 ≤ y) (hy' : y < 4294967296) : 0 ≤ Go.bits .xor .i64 x y:=by
 obtain ⟨x,rfl⟩:=Int.eq_ofNat_of_zero_le hx;obtain ⟨y,rfl⟩:=Int.eq_ofNat_of_zero_le hy;have h1 : x ^^^ y < 2 ^ 32:=Nat.xor_lt_two_pow (by omega) (by omega);have e : Go.bits .xor .i64 ((x : Nat) : Int) ((y : Nat) : Int) = wrap64 (((BitVec.ofInt 64 ((x : Nat) : Int) ^^^ BitVec.ofInt 64 ((y : Nat) : Int)).toNat : Nat) : Int):=by
  unfold Go.bits
  simp only [i64_w];rfl
 rw [e,BitVec.toNat_xor,BitVec.ofInt_natCast,BitVec.ofInt_natCast,BitVec.toNat_ofNat,BitVec.toNat_ofNat,Nat.mod_eq_of_lt (by omega),Nat.mod_eq_of_lt (by omega),w64 (by omega) (by omega)];omega
theorem pick_pv {b : List Int} (h : Rdr b) {p a : Int} (hp : 0 ≤ p) (hp' : p ≤ 1000000) : Pv (fun k => spec_l30Rd_pick.f k b p a) (fun r => (0 ≤ r.1 ∧ (a < 1 → r.1 = 0) ∧ (1 ≤ a → r.1 < a)) ∧ r.2 = p + 1):=by
 have w1 : wrap64 (p + 1) = p + 1:=w64 (by omega) (by omega);have w2 : wrap64 (p + 1 - 1) = p:=by rw [w64 (by omega) (by omega)]; omega
 unfold spec_l30Rd_pick.f
 refine Pv.ite (fun c => ?_) (fun c => ?_)
 ·refine Pv.go ?_ (fun k => by rw [spec_l30Rd_pick.j0]);exact Pv.pos rfl (Pv.now ⟨⟨Int.le_refl _,fun _ => rfl,fun c2 => by omega⟩,w1⟩)
 ·refine Pv.go ?_ (fun k => by rw [spec_l30Rd_pick.j0]);refine Pv.ite (fun _ => Pv.now ⟨⟨Int.le_refl _,fun _ => rfl,fun c2 => by dsimp only; omega⟩,w1⟩) (fun c0 => ?_);have hb : 0 < (b.length : Int):=by
   have : (b.length : Int) ≠ 0:=by simpa using c0
   omega
  have hb2:=h.len;rw [w1,w2];have fin : ∀ X : Int,0 ≤ X → Pv (fun _ => some (Int.tmod X a,p + 1)) (fun r => (0 ≤ r.1 ∧ (a < 1 → r.1 = 0) ∧ (1 ≤ a → r.1 < a)) ∧ r.2 = p + 1):=by
   intro X hX;have:=tm hX (show 0 < a by omega);exact Pv.now ⟨⟨this.1,fun c2 => absurd c2 c,fun _ => this.2⟩,rfl⟩
  refine Pv.ite (fun c1 => Pv.pos hp (Pv.neg (by omega) ?_)) (fun c1 => ?_)
  ·have:=h.rd p;rw [w64 (n:=Go.Proofs.YtlhmljngjdfbpaaW.PrintWords.rd b p) (by omega) (by omega)];exact fin _ (by omega)
  ·have t1:=tm hp hb;have e1 : wrap64 (p * 7) = p * 7:=w64 (by omega) (by omega);have e2 : wrap64 (p * 7 + 3) = p * 7 + 3:=w64 (by omega) (by omega);rw [e1,e2];have t2:=tm (show 0 ≤ p * 7 + 3 by omega) hb;have r1:=h.rd (Int.tmod p b.length);have r2:=h.rd (Int.tmod (p * 7 + 3) b.length);have d1:=td hp hb;refine Pv.neg (by omega) (Pv.pos t1.1 (Pv.pos t1.2 (Pv.pos t2.1 (Pv.pos t2.2 (Pv.neg (by omega) ?_)))));generalize Go.Proofs.YtlhmljngjdfbpaaW.PrintWords.rd b (Int.tmod p b.length) = u at r1;generalize Go.Proofs.YtlhmljngjdfbpaaW.PrintWords.rd b (Int.tmod (p * 7 + 3) b.length) = v at r2;generalize Int.tdiv p b.length = q at d1;rw [w64 (n:=u) (by omega) (by omega),w64 (n:=v) (by omega) (by omega),w64 (n:=q) (by omega) (by omega),w64 (n:=u * 131) (by omega) (by omega),w64 (n:=v * 1117) (by omega) (by omega),w64 (n:=p * 29) (by omega) (by omega),w64 (n:=q * 53) (by omega) (by omega),w64 (n:=u * 131 + v * 1117) (by omega) (by omega),w64 (n:=u * 131 + v * 1117 + p * 29) (by omega) (by omega),w64 (n:=u * 131 + v * 1117 + p * 29 + q * 53) (by omega) (by omega)];have d2:=td (show 0 ≤ u * 131 + v * 1117 + p * 29 + q * 53 by omega) (show (0 : Int) < 64 by omega);generalize Int.tdiv (u * 131 + v * 1117 + p * 29 + q * 53) 64 = z at d2;rw [w64 (n:=z) (by omega) (by omega)];exact fin _ (xor_nn (by omega) (by omega) (by omega) (by omega))
theorem one_pv {b : List Int} (h : Rdr b) {p : Int} (hp : 0 ≤ p) (hp' : p ≤ 1000000) {l : List Int} (hl : 0 < l.length) : Pv (fun k => spec_l30Rd_one.f k b p l) (fun r => r.1 ∈ l ∧ r.2 = p + 1):=by
 unfold spec_l30Rd_one.f
 refine Pv.bind (pick_pv h hp hp') (fun r ⟨⟨h1,_,h2⟩,h3⟩ => ?_);have h2:=h2 (by omega);refine Pv.pos h1 (Pv.pos h2 (Pv.now ⟨?_,h3⟩));have e : Go.Proofs.YtlhmljngjdfbpaaW.PrintWords.rd l r.1 = nth l r.1.toNat:=rfl;dsimp only;rw [e];exact getD_mem (by omega)
theorem u8_range {x : Int} (h : (Lit.int .u8 x).wf = true) : 0 ≤ x ∧ x ≤ 255:=by
 simp only [Lit.wf] at h;have h2 : IntKind.u8.min ≤ x ∧ x ≤ IntKind.u8.max:=by simpa using h
 have e1 : IntKind.u8.min = 0:=by decide
 have e2 : IntKind.u8.max = 255:=by decide
 omega
theorem open_pv {l : List Int} (hl : ∀ x ∈ l,(Lit.int .u8 x).wf = true) : ∃ b,spec_l30Open.f l = some (b,0) ∧ Rdr b:=by
 have key : ∀ m : List Int,m.length ≤ 2000 → (∀ x ∈ m,x ∈ l) → Rdr m:=fun m h1 h2 => ⟨h1,fun i hi => u8_range (hl _ (h2 _ (getD_mem hi)))⟩
 unfold spec_l30Open.f
 by_cases c : (l.length : Int) > 2000
 case neg =>
  rw [if_neg c];exact ⟨_,rfl,key _ (by omega) (fun x hx => hx)⟩
 rw [if_pos c,if_pos (by omega)];exact ⟨_,rfl,key _ (by simp; omega) (fun x hx => List.mem_of_mem_take hx)⟩
def NetSz (p : Int) (r : Int × List Arc × Int) : Prop:=(0 ≤ r.1 ∧ r.1 ≤ 9) ∧ r.2.1.length ≤ 13 ∧ (p ≤ r.2.2 ∧ r.2.2 ≤ p + 100)
theorem net_l {b : List Int} (h : Rdr b) (n : Int) (hn : 1 ≤ n ∧ n ≤ 9) : ∀ (m : Nat) (p : Int) (l : List Arc),0 ≤ p → p + 6 * m ≤ 100000 → m ≤ 13 → l.length ≤ 13 - m → Pv (fun k => spec_l30Net.l0 k (m : Int) b p n l) (fun r => r.1 = n ∧ r.2.1.length ≤ 13 ∧ (p ≤ r.2.2 ∧ r.2.2 ≤ p + 6 * m)):=by
 intro m
 induction m with
 | zero =>
  intro p l hp hp' hm hl;refine Pv.go ?_ (fun k => by rw [spec_l30Net.l0]);exact Pv.neg (by omega) (Pv.now ⟨rfl,by dsimp only; omega,by dsimp only; omega⟩)
 | succ m ih =>
  intro p l hp hp' hm hl;have hw : wrap64 (((m + 1 : Nat) : Int) - 1) = (m : Int):=by rw [w64 (by omega) (by omega)]; omega
  refine Pv.go ?_ (fun k => by rw [spec_l30Net.l0]);rw [hw];refine Pv.pos (by omega) (Pv.bind (pick_pv h hp (by omega)) (fun r1 ⟨a1,e1⟩ => Pv.bind (pick_pv h (p:=r1.2) (by omega) (by omega)) (fun r2 ⟨a2,e2⟩ => Pv.bind (pick_pv h (p:=r2.2) (by omega) (by omega)) (fun r3 ⟨a3,e3⟩ => Pv.bind (one_pv h (p:=r3.2) (by omega) (by omega) (by simp)) (fun r4 ⟨a4,e4⟩ => Pv.bind (one_pv h (p:=r4.2) (by omega) (by omega) (by simp)) (fun r5 ⟨a5,e5⟩ => Pv.bind (pick_pv h (p:=r5.2) (by omega) (by omega)) (fun r6 ⟨a6,e6⟩ => ?_)))))));have step : ∀ x : Arc,Pv (fun k => spec_l30Net.l0 k (m : Int) b r6.2 n (l ++ [x])) (fun r => r.1 = n ∧ r.2.1.length ≤ 13 ∧ (p ≤ r.2.2 ∧ r.2.2 ≤ p + 6 * ((m + 1 : Nat) : Int))):=fun x => (ih r6.2 (l ++ [x]) (by omega) (by omega) (by omega) (by simp; omega)).mono (fun r hr => ⟨hr.1,hr.2.1,by omega,by omega⟩)
  refine Pv.ite (fun _ => Pv.neg (by omega) (Pv.pos (by omega) (step _))) (fun _ => Pv.pos (by omega) (step _))
theorem net_pv {b : List Int} (h : Rdr b) {p : Int} (hp : 0 ≤ p) (hp' : p ≤ 10000) : Pv (fun k => spec_l30Net.f k b p) (fun r => (2 ≤ r.1 ∧ r.1 ≤ 6) ∧ r.2.1.length ≤ 13 ∧ (p ≤ r.2.2 ∧ r.2.2 ≤ p + 90)):=by
 unfold spec_l30Net.f
 refine Pv.bind (pick_pv h hp (by omega)) (fun r1 ⟨a1,e1⟩ => Pv.bind (pick_pv h (p:=r1.2) (by omega) (by omega)) (fun r2 ⟨a2,e2⟩ => ?_));have b1:=a1.2.2 (by omega);have b2:=a2.2.2 (by omega);have hw : wrap64 (2 + r1.1) = 2 + r1.1:=w64 (by omega) (by omega);rw [hw];have:=net_l h (2 + r1.1) (by omega) r2.1.toNat r2.2 [] (by omega) (by omega) (by omega) (by simp);rw [Int.toNat_of_nonneg a2.1] at this;exact this.mono (fun r hr => ⟨⟨by omega,by omega⟩,hr.2.1,by omega,by omega⟩)
theorem anyNet_pv {b : List Int} (h : Rdr b) {p : Int} (hp : 0 ≤ p) (hp' : p ≤ 10000) : Pv (fun k => spec_l30AnyNet.f k b p) (NetSz p):=by
 unfold spec_l30AnyNet.f
 refine Pv.bind (net_pv h hp hp') (fun r0 ⟨a0,l0,e0⟩ => ?_);refine Pv.ite (fun c => ?_) (fun c => Pv.now ⟨by dsimp only; omega,l0,by dsimp only; omega⟩);refine Pv.bind (pick_pv h (p:=r0.2.2) (by omega) (by omega)) (fun r1 ⟨a1,e1⟩ => Pv.bind (pick_pv h (p:=r1.2) (by omega) (by omega)) (fun r2 ⟨a2,e2⟩ => ?_));have b1:=a1.2.2 (by omega);refine Pv.ite (fun c1 => Pv.pos a1.1 (Pv.pos b1 (Pv.bind (one_pv h (p:=r2.2) (by omega) (by omega) (by simp)) (fun r3 ⟨a3,e3⟩ => Pv.now ⟨by dsimp only; omega,by simpa using l0,by dsimp only; omega⟩)))) (fun c1 => ?_);refine Pv.ite (fun c2 => Pv.bind (one_pv h (p:=r2.2) (by omega) (by omega) (by simp)) (fun r3 ⟨a3,e3⟩ => Pv.pos a1.1 (Pv.pos b1 (Pv.now ⟨by dsimp only; omega,by simpa using l0,by dsimp only; omega⟩)))) (fun c2 => ?_);refine Pv.ite (fun c3 => Pv.bind (one_pv h (p:=r2.2) (by omega) (by omega) (by simp)) (fun r3 ⟨a3,e3⟩ => Pv.now ⟨?_,l0,by dsimp only; omega⟩)) (fun c3 => Pv.now ⟨by dsimp only; omega,l0,by dsimp only; omega⟩);simp only [List.mem_cons,List.not_mem_nil,or_false] at a3;dsimp only;omega
end Go.Proofs.Ytlhmljngjdfbpaa.Pure
end
section
set_option linter.unusedSimpArgs false
set_option linter.unusedVariables false
set_option linter.unusedSectionVars false
namespace Go.Proofs.Ytlhmljngjdfbpaa.Pure
open Go.RowKit Go.Proofs.Ytlhmljngjdfbpaa.Pr Go.Proofs.YtlhmljngjdfbpaaW.PrintWords Go.Proofs.YtlhmljngjdfbpaaW.PrintLast Go.Proofs.YtlhmljngjdfbpaaW.PrintMore
theorem nodeO_pv {b : List Int} (h : Rdr b) {p : Int} (hp : 0 ≤ p) (hp' : p ≤ 20000) (n : Int) (l : List Arc) : Pv (fun k => spec_l30Node.f k b p n l) (fun r => p ≤ r.2 ∧ r.2 ≤ p + 2):=by
 unfold spec_l30Node.f
 refine Pv.bind (pick_pv h hp (by omega)) (fun r1 ⟨a1,e1⟩ => Pv.ite (fun _ => ?_) (fun _ => ?_))
 ·exact Pv.bind (one_pv h (p:=r1.2) (by omega) (by omega) (by simp)) (fun r2 ⟨a2,e2⟩ => Pv.now (by dsimp only; omega))
 ·exact Pv.bind (pick_pv h (p:=r1.2) (by omega) (by omega)) (fun r2 ⟨a2,e2⟩ => Pv.now (by dsimp only; omega))
section
variable {N : Nat} {l : List Arc} (hg : NetGood N l) {s t : Nat} (hs : s < N) (ht : t < N) (hne : s ≠ t)
include hg hs ht hne
theorem flowOf_l {g : Nat → Int} (hF : FlowI N l s t g) (hc : t ∉ (come N l g s).2) : ∀ (m i : Nat),l.length - i = m → i ≤ l.length → Ev (fun k => laws_FnFlowOf.l0 k (s : Int) (t : Int) (lst l.length g) (i : Int) (N : Int) l) true:=by
 have h16:=hg.len;intro m
 induction m with
 | zero =>
  intro i hd hi;refine Ev.go ?_ (fun k => by rw [laws_FnFlowOf.l0]);rw [lst_len];have hv:=implValue_ev (N : Int) l (lst l.length g) (s : Int) (t : Int);rw [valueV_is hg hs ht hne hF,flow_most hg hs ht hne hF hc] at hv;have hm:=implMost_ev (N : Int) l (s : Int) (t : Int);rw [mostV_is hg hs ht hne] at hm;exact Ev.neg (by omega) (Ev.bind hv (Ev.pos rfl (Ev.bind hm (Ev.is (by simp)))))
 | succ m ih =>
  intro i hd hi;have hlt : i < l.length:=by omega
  have hf:=hF.fits i hlt;have hf2 : g i ≤ (arc l i).f4:=hf.2;refine Ev.go ?_ (fun k => by rw [laws_FnFlowOf.l0]);rw [lst_len,lst_rd _ hlt,rda,up1 hlt (by simp only [maxLen]; omega)];exact Ev.pos (by omega) (Ev.pos (by omega) (Ev.neg (by omega) (Ev.pos (by omega) (Ev.neg (by omega) (ih (i + 1) (by omega) (by omega))))))
end
theorem FnFlowOf : laws_FnFlowOf.Asked:=by
 classical
 intro c hc;refine Pv.rounds ?_
 unfold laws_FnFlowOf.f
 refine Pv.ite (fun _ => Pv.now rfl) (fun _ => ?_)
 unfold spec_DrawFlowOf.f spec_DrawNearWalk.f
 obtain ⟨bb,e,hb⟩:=open_pv hc.2;refine Pv.bind (R:=fun r => r.2.1.length ≤ 13) (Pv.bind (R:=fun r => r.2.1.length ≤ 13) (Pv.bind0 e (Pv.bind (anyNet_pv hb (p:=0) (by omega) (by omega)) (fun r1 h1 => ?_))) (fun r h2 => Pv.now h2)) (fun r h2 => ?_)
 ·have h3:=h1.2.2;exact Pv.bind (nodeO_pv hb (p:=r1.2.2) (by omega) (by omega) _ _) (fun r2 e2 => Pv.bind (nodeO_pv hb (p:=r2.2) (by omega) (by omega) _ _) (fun r3 e3 => Pv.now h1.2.1))
 ·obtain ⟨n,l,a,b⟩:=r;dsimp only at h2 ⊢;have hm : l.length ≤ maxLen:=by simp only [maxLen]; omega
  have hv:=flowOfV_len n l a b;have hw:=wkInts_same (flowOfV n l a b) (by simp only [maxLen]; omega);have hi:=implFlowOfV_ev n l a b;have hsp:=specFlowOfV_ev n l a b hm;refine Pv.of (Ev.bind hi (Ev.bind hsp (Ev.bind hw (Ev.pos rfl (Ev.go ?_ (fun k => by rw [laws_FnFlowOf.j0])))))) rfl
  by_cases h0 : ((flowOfV n l a b).length : Int) = 0
  case pos => exact Ev.pos (by rw [beq_iff_eq]; exact h0) (Ev.bind hsp (Ev.bind hw (Ev.now _)))
  refine Ev.neg (by rw [beq_iff_eq]; exact h0) ?_
  by_cases hk : mostB n l a b = true
  case neg => exact absurd (by unfold flowOfV; rw [if_neg hk]; rfl) h0
  obtain ⟨N,s,t,rfl,rfl,rfl,hg,hs,ht,hne⟩:=most_nat hk;rw [flowOfV_is hg hs ht hne];obtain ⟨h1,h3⟩:=flowF_end hg hs ht hne;exact flowOf_l hg hs ht hne h1 h3 _ 0 rfl (Nat.zero_le _)
end Go.Proofs.Ytlhmljngjdfbpaa.Pure
end
section
namespace Go.Proofs.Ytlhmljngjdfbpaa.fnFlowOf
open Go.ChangeShapes Go.WideShapes Go.ChangeAt Go.RowKit Go.Proofs.YtlhmljngjdfbpaaW.PrintWords Go.Proofs.Ytlhmljngjdfbpaa.Pr
open Go.ChangeMaps (open_string shut_string)
set_option linter.unusedVariables false
set_option linter.unusedSimpArgs false
theorem own : ownKnob Try.prog.godebug = none:=by kernel_rfl
theorem laidOut : laidOutB Try.prog = true:=by kernel_rfl
theorem opens0 : Opens Try.prog (Kd.slice 5 (Kd.int .u8)) 22 (fun l => l.length ≤ maxLen ∧ ∀ x ∈ l,(fun n => (Lit.int .u8 n).wf = true) x):=(opens_slice (P:=Try.prog) Try.underlying22 (by kernel_rfl) (opens_int (P:=Try.prog) (k:=.u8) Try.underlying5))
set_option maxRecDepth 100000 in
set_option maxHeartbeats 2000000 in
theorem lifted (os : Os) (started : os.Started) (H : Type) (enc : TypeId × Value → H) :
  ReturnsInHanded {} Try.checked os 7 .any (Rows.fnFlowOfSpec.pre6 enc Try.prog Try.f7 Rows.fnFlowOfRow.domain false) (Rows.fnFlowOfSpec.post enc Try.prog Try.f7 false true false false):=by
 refine returnsInHanded_of_change_sized (C:=Try.checked) own started (by kernel_rfl) Try.func7
  (ChangeSpec.witness6 (enc:=enc) (C:=Try.checked) false ⟨#[],#[(.slice none 0 0)],[]⟩ 8 (by kernel_rfl) (by kernel_rfl) (by kernel_rfl) (by kernel_rfl)) ?_
 intro W base args ds gs before hval0 hW hcnd hsz0 _;have hval : ∀ (j : Nat) t v,Try.f7.params[j]? = some t → args[j]? = some v → Value.okWide Try.prog W .any base t v:=hval0
 have hW':=hW;obtain ⟨p,q,hA0,hV,rfl,hfz,hnd⟩:=hW;have hA : DataW.TrodAll enc Try.prog W 0 (fun _ => true) true Try.f7.params.toList args.toList ds p:=hA0;rw [Try.params7] at hA hval;obtain ⟨v0,vs0,d0,ds0,p0,q0,hargs,rfl,rfl,h0,r0⟩:=trodAll_cons hA;obtain ⟨rfl,rfl,rfl⟩:=trodAll_nil r0;obtain rfl : args = #[v0]:=by cases args; simp_all
 obtain ⟨rfl,rfl⟩:=trodVars_none hV;have k0:=h0;have lt0 : ∀ x ∈ p0,x.block < W.heap.size:=by obtain ⟨m,hm⟩:=k0; exact DataW.trod_lt m _ _ _ hm
 obtain ⟨a0,len0,cap0,rfl⟩:=okWide_slice Try.underlying22 (hval 0 22 v0 rfl rfl);obtain ⟨fuel0,hf0⟩:=h0;obtain ⟨l0,⟨A0,c0,e0,hc0,hr0⟩,w0⟩:=opens0 hf0;have e0' : (Value.slice a0 len0 cap0) = .slice A0 l0.length c0:=(List.cons.inj e0).1;injection e0' with e0a e0b e0c
 subst e0a e0b e0c;obtain ⟨k,hh⟩:=Pure.FnFlowOf l0 w0;refine (laws_FnFlowOf.calls k _ _ l0 true W hr0 hc0 hh).mono fun e W' ⟨he,bel0⟩ => ?_
 have bel : Below W.heap.size W W':=bel0;subst he;exact ⟨_,rfl,_,_,_,[],_,[],hW',trodAll_mk1 (shut_bool Try.underlying4 _),(trodAll_cons_mk (Below.trod laidOut (by kernel_rfl) (of_decide_eq_true (by kernel_rfl)) k0 bel lt0) trodAll_mk0),rfl,bel.frame _,fun h => by cases h⟩
theorem over : Rows.fnFlowOfRow.holds Try.pinned (OpenSpec.ofChange Rows.fnFlowOfSpec) :=
 OpenClaim.holds_of_wide 7 Try.f7 rfl rfl rfl rfl rfl rfl rfl ⟨rfl,rfl,rfl,rfl,rfl⟩ rfl rfl rfl rfl rfl (by kernel_rfl) Try.func7 (by kernel_rfl)
  (of_decide_eq_true (by kernel_rfl)) (by unfold Func.isWrapper; first | (rw [if_pos (by decide +kernel)]; kernel_rfl) | (rw [if_neg (by decide +kernel)]; exact ⟨rfl,rfl⟩))
  (fun os started H enc _ => lifted os started H enc)
theorem proved : Rows.FnFlowOfSaid:=over
#print axioms proved
end Go.Proofs.Ytlhmljngjdfbpaa.fnFlowOf
namespace Go.Proofs.Ytlhmljngjdfbpaa
theorem fnFlowOf_holds : Rows.FnFlowOfSaid:=fnFlowOf.proved
end Go.Proofs.Ytlhmljngjdfbpaa
end
