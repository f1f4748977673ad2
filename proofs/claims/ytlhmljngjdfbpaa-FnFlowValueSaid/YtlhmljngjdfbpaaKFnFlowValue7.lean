/- For the statement FnFlowValue of this seat: it is proved here, with no further conditions (part 8 of its texts: words, walks of the functions, the plain law, the row). -/
import Derived.Test.YtlhmljngjdfbpaaRows
import Derived.WalkKit
import Derived.ProofKit
import Derived.OpenShut
import Derived.ShutString
import Derived.ChangeOld
import Derived.Below
import Derived.SizedLaws
import Derived.WideShapes
import Derived.Test.YtlhmljngjdfbpaaKFnFlowValue6
section
set_option linter.unusedSimpArgs false
set_option linter.unusedVariables false
set_option linter.unusedSectionVars false
namespace Go.Proofs.Ytlhmljngjdfbpaa.Pure
open Go.RowKit Go.Proofs.Ytlhmljngjdfbpaa.Pr Go.Proofs.YtlhmljngjdfbpaaW.PrintWords Go.Proofs.YtlhmljngjdfbpaaW.PrintLast Go.Proofs.YtlhmljngjdfbpaaW.PrintMore
open Go.Proofs.Ytlhmljngjdfbpaa.Fl (ud vis1 vis2 vis visAll bfs ap dl)
section
variable {N : Nat} {l : List Arc} (hg : NetGood N l)
include hg
variable {f : Nat → Int} {s t : Nat} (hs : s < N) (ht : t < N)
include hs ht
theorem row_step {R : List Int × Bool} {q u : Nat} : ∀ (d i : Nat) (st : Fl.St),l.length - i = d → i ≤ l.length → GoodF N l f s st → q < st.2.length → rd (iL st.2) (q : Int) = (u : Int) → u ∈ st.2 → (∀ st' : Fl.St,st' = visAll (frF l) (twF l) (capF l) f u i d st → Ev (fun k => spec_l25Push.l1 k (lst l.length f) (s : Int) (t : Int) (lst N st'.1) (iL st'.2) ((q + 1 : Nat) : Int) (N : Int) l) R) → Ev (fun k => spec_l25Push.l2 k (lst l.length f) (s : Int) (t : Int) (lst N st.1) (iL st.2) (q : Int) (i : Int) (N : Int) l) R:=by
 intro d
 induction d with
 | zero =>
  intro i st hd hi h hq hu hm hn;have hl8:=good_len hg hs ht h;have hq100 : q < 100:=Nat.lt_of_lt_of_le hq (Nat.le_trans hl8 (by decide));refine Ev.go ?_ (fun k => by rw [spec_l25Push.l2]);have hn:=hn st rfl;rw [next_w hq100];exact Ev.neg (fun e => absurd (Int.ofNat_lt.1 e) (by omega)) hn
 | succ d ih =>
  intro i st hd hi h hq hu hm hn;have hlt : i < l.length:=by omega
  refine arc_step hg hs ht h hlt hq hu hm ?_;obtain ⟨g2,⟨x,e⟩,_⟩:=Fl.vis_good (hfF hg hs ht) (htF hg hs ht) h (u:=u) (i:=i) hm hlt;have hq2 : q < (visF l f u i st).2.length:=by rw [e,List.length_append]; exact Nat.lt_of_lt_of_le hq (Nat.le_add_right _ _)
  have hu2 : rd (iL (visF l f u i st).2) (q : Int) = (u : Int):=by
   rw [← hu,e,iL_rd hq,iL_rd (by rw [List.length_append]; exact Nat.lt_of_lt_of_le hq (Nat.le_add_right _ _)),List.getElem_append_left hq]
  exact ih (i + 1) _ (by omega) (by omega) g2 hq2 hu2 (by rw [e]; exact List.mem_append_left _ hm) (fun st' e' => hn st' e')
theorem list_step {R : List Int × Bool} : ∀ (d q : Nat) (st : Fl.St),N ≤ d + q → GoodF N l f s st → (∀ st' : Fl.St,st' = bfs (frF l) (twF l) (capF l) f l.length d q st → GoodF N l f s st' → Ev (fun k => if 0 ≤ (t : Int) then (if (t : Int) < ((lst N st'.1).length : Int) then (if (rd (lst N st'.1) (t : Int)) = 0 then (some (lst l.length f,false)) else ((some (([] : List Int) : List Int)).bind fun y652 => (if y652.length + (lst l.length f).length < 17592186044416 then (spec_l25Push.l3 k (s : Int) (lst N st'.1) (y652 ++ lst l.length f) (t : Int) (N : Int) l) else (none)))) else (none)) else (none)) R) → Ev (fun k => spec_l25Push.l1 k (lst l.length f) (s : Int) (t : Int) (lst N st.1) (iL st.2) (q : Int) (N : Int) l) R:=by
 intro d
 induction d with
 | zero =>
  intro q st hd h hn;have:=Sp.nodup_len N st.2 h.1.nodup h.2;refine Ev.go ?_ (fun k => by rw [spec_l25Push.l1]);exact Ev.neg (by rw [iL_len]; omega) (hn st rfl h)
 | succ d ih =>
  intro q st hd h hn;refine Ev.go ?_ (fun k => by rw [spec_l25Push.l1])
  by_cases hq : q < st.2.length
  case neg =>
   refine Ev.neg (by rw [iL_len]; omega) (hn st ?_ h);simp only [bfs];rw [dif_neg hq]
  refine Ev.pos (by rw [iL_len]; omega) (row_step hg hs ht _ 0 st rfl (Nat.zero_le _) h hq (iL_rd hq) (List.getElem_mem hq) (fun st' e => ?_));obtain ⟨g2,_,_⟩:=Fl.visAll_good (hfF hg hs ht) (htF hg hs ht) l.length 0 st h (List.getElem_mem hq) (by omega);rw [Nat.sub_zero] at e;rw [← e] at g2;refine ih (q + 1) st' (by omega) g2 (fun st2 e2 g3 => hn st2 ?_ g3);rw [e2,e];simp only [bfs];rw [dif_pos hq]
theorem fill_step {R : List Int × Bool} (hn : Ev (fun k => spec_l25Push.l1 k (lst l.length f) (s : Int) (t : Int) (lst N (fun _ => 0)) (iL [s]) 0 (N : Int) l) R) : ∀ (d i : Nat),N - i = d → i ≤ N → Ev (fun k => spec_l25Push.l0 k (lst l.length f) (s : Int) (t : Int) (lst N (fun _ => 0)) (i : Int) (N : Int) l) R:=by
 have h8:=hg.n8;intro d
 induction d with
 | zero =>
  intro i hd hi;refine Ev.go ?_ (fun k => by rw [spec_l25Push.l0]);exact Ev.neg (by omega) hn
 | succ d ih =>
  intro i hd hi;have hlt : i < N:=by omega
  have e : (lst N (fun _ => (0 : Int))).set i 0 = lst N (fun _ => 0):=by
   rw [lst_set];exact lst_congr (fun v _ => by unfold upd; split <;> rfl)
  refine Ev.go ?_ (fun k => by rw [spec_l25Push.l0]);rw [up1 hlt (by simp only [maxLen]; omega),Int.toNat_natCast,e];exact Ev.pos (by omega) (Ev.pos (by omega) (Ev.pos (by rw [lst_len]; omega) (ih (i + 1) (by omega) (by omega))))
omit ht in
theorem way_step {b : Nat → Int} {v : Nat} {P : List (Nat × Bool)} (w : Fl.Way (frF l) (twF l) s b v P) : ∀ (g : Nat → Int),v < N → (P.map Prod.fst).Nodup → (∀ x ∈ P,Fl.Fit l.length (capF l) g x) → (∀ i,i < l.length → 0 ≤ g i ∧ g i ≤ capF l i) → Ev (fun k => spec_l25Push.l3 k (s : Int) (lst N b) (lst l.length g) (v : Int) (N : Int) l) (lst l.length (ap g P),true):=by
 have h16:=hg.len
 induction w with
 | nil =>
  intro g hv hn hf hb;refine Ev.go ?_ (fun k => by rw [spec_l25Push.l3]);exact Ev.pos rfl (Ev.now _)
 | @fwd v i P hne eb e w ih =>
  intro g hv hn hf hb;have hfi:=hf _ (List.mem_cons_self ..);have hi : i < l.length:=hfi.1;have ha:=arcF hg hi;have hgi:=hb i hi;have hbv : rd (lst N b) (v : Int) = (i : Int) + 1:=by rw [lst_rd _ hv,eb]
  have hw : wrap64 ((i : Int) + 1 - 1) = (i : Int):=by rw [w64 (by omega) (by omega)]; omega
  have hgr : rd (lst l.length g) (i : Int) = g i:=lst_rd _ hi;rw [List.map_cons,List.nodup_cons] at hn;have hstep:=Fl.ap_fit (m:=l.length) (cap:=capF l) [(i,true)] g (by simp) (fun x hx => by rw [List.mem_singleton.1 hx]; exact hfi) hb;have ih:=ih (ud g i (g i + 1)) ha.1.2 hn.2 (fun x hx => by
   have hx2:=hf x (List.mem_cons_of_mem _ hx);have hne : x.1 ≠ i:=fun e => hn.1 (by show i ∈ _; rw [← e]; exact List.mem_map_of_mem hx)
   unfold Fl.Fit at hx2 ⊢
   rw [Fl.ud_off _ _ hne];exact hx2) hstep
  refine Ev.go ?_ (fun k => by rw [spec_l25Push.l3]);rw [hbv,hw,hgr,rda,w64 (n:=g i + 1) (by omega) (by omega),Int.toNat_natCast,set_ud,← ha.1.1];exact Ev.neg (fun e => hne (by omega)) (Ev.pos (by omega) (Ev.pos (by rw [lst_len]; omega) (Ev.pos (by omega) (Ev.pos (by omega) (Ev.pos (by rw [lst_len]; omega) (Ev.pos (by omega) ih))))))
 | @bck v i P hne eb e w ih =>
  intro g hv hn hf hb;have hfi:=hf _ (List.mem_cons_self ..);have hi : i < l.length:=hfi.1;have ha:=arcF hg hi;have hgi:=hb i hi;have hbv : rd (lst N b) (v : Int) = -(i : Int) - 1:=by rw [lst_rd _ hv,eb]
  have hw : wrap64 ((wrap64 (-(-(i : Int) - 1))) - 1) = (i : Int):=by
   rw [w64 (n:=-(-(i : Int) - 1)) (by omega) (by omega),w64 (by omega) (by omega)]; omega
  have hgr : rd (lst l.length g) (i : Int) = g i:=lst_rd _ hi;rw [List.map_cons,List.nodup_cons] at hn;have hstep:=Fl.ap_fit (m:=l.length) (cap:=capF l) [(i,false)] g (by simp) (fun x hx => by rw [List.mem_singleton.1 hx]; exact hfi) hb;have ih:=ih (ud g i (g i + -1)) ha.2.1.2 hn.2 (fun x hx => by
   have hx2:=hf x (List.mem_cons_of_mem _ hx);have hne : x.1 ≠ i:=fun e => hn.1 (by show i ∈ _; rw [← e]; exact List.mem_map_of_mem hx)
   unfold Fl.Fit at hx2 ⊢
   rw [Fl.ud_off _ _ hne];exact hx2) hstep
  refine Ev.go ?_ (fun k => by rw [spec_l25Push.l3]);rw [hbv,hw,hgr,rda,w64 (n:=g i - 1) (by omega) (by omega),Int.toNat_natCast,show g i - 1 = g i + -1 by omega,← ha.2.1.1];exact Ev.neg (fun e => hne (by omega)) (Ev.pos (by omega) (Ev.pos (by rw [lst_len]; omega) (Ev.neg (by omega) (Ev.pos (by omega) (Ev.pos (by rw [lst_len]; omega) (Ev.pos (by omega) (by rw [set_ud]; exact ih)))))))
theorem push_ev (hne : s ≠ t) (hb : ∀ i,i < l.length → 0 ≤ f i ∧ f i ≤ capF l i) (R : List Int × Bool) (h1 : t ∉ (come N l f s).2 → R = (lst l.length f,false)) (h2 : t ∈ (come N l f s).2 → ∃ P,Fl.Way (frF l) (twF l) s (come N l f s).1 t P ∧ (P.map Prod.fst).Nodup ∧ (∀ x ∈ P,Fl.Fit l.length (capF l) f x) ∧ R = (lst l.length (ap f P),true)) : Ev (fun k => spec_l25Push.f k (N : Int) l (lst l.length f) (s : Int) (t : Int)) R:=by
 have h8:=hg.n8;have h16:=hg.len
 unfold spec_l25Push.f
 have hz : List.replicate ((N : Int)).toNat (0 : Int) = lst N (fun _ => 0):=by
  apply List.ext_getElem (by simp [lst])
  intro i h1 h2;simp [lst]
 rw [hz];refine Ev.pos (by omega) (Ev.pos (by omega) (fill_step hg hs ht ?_ _ 0 rfl (Nat.zero_le _)));refine list_step hg hs ht N 0 ((fun _ => 0),[s]) (by omega) (start_good hg hs) (fun st' e g => ?_);have e : st' = come N l f s:=e;subst e;have hfr:=g.1.free t;have hbt : rd (lst N (come N l f s).1) (t : Int) = (come N l f s).1 t:=lst_rd _ ht;rw [hbt];refine Ev.pos (by omega) (Ev.pos (by rw [lst_len]; omega) ?_)
 by_cases c : t ∈ (come N l f s).2
 case neg =>
  rw [h1 c];exact Ev.pos (hfr.2 c).1 (Ev.now _)
 obtain ⟨P,w,hn,hf,rfl⟩:=h2 c;refine Ev.neg (fun e => hfr.1 ⟨e,fun e2 => hne e2.symm⟩ c) (Ev.bind0 rfl (Ev.pos (by rw [lst_len,List.length_nil]; omega) ?_));rw [List.nil_append];exact way_step hg hs w f ht hn hf hb
end
section
variable {N : Nat} {l : List Arc} (hg : NetGood N l) {s t : Nat} (hs : s < N) (ht : t < N) (hne : s ≠ t)
include hg hs ht hne
theorem specAug_ev {f g : Nat → Int} (h : Aug N l s t f g) : FlowI N l s t f → Ev (fun k => spec_FlowOf.l0 k (s : Int) (t : Int) (lst l.length f) true (N : Int) l) (lst l.length g):=by
 induction h with
 | @stop f c =>
  intro h;have hp:=push_ev hg hs ht hne h.fits (lst l.length f,false) (fun _ => rfl) (fun h => absurd h c);refine Ev.go ?_ (fun k => by rw [spec_FlowOf.l0]);refine Ev.pos rfl (Ev.bind hp (Ev.go ?_ (fun k => by rw [spec_FlowOf.l0])));exact Ev.neg (by simp) (Ev.now _)
 | @more f g P c w hn hf _ ih =>
  intro h;have hp:=push_ev hg hs ht hne h.fits (lst l.length (ap f P),true) (fun h => absurd c h) (fun _ => ⟨P,w,hn,hf,rfl⟩);refine Ev.go ?_ (fun k => by rw [spec_FlowOf.l0]);exact Ev.pos rfl (Ev.bind hp (ih (flow_ap hg hs ht hne h w hn hf).1))
end
end Go.Proofs.Ytlhmljngjdfbpaa.Pure
end
section
set_option linter.unusedSimpArgs false
set_option linter.unusedVariables false
namespace Go.Proofs.Ytlhmljngjdfbpaa.Pure
open Go.RowKit Go.Proofs.Ytlhmljngjdfbpaa.Pr Go.Proofs.YtlhmljngjdfbpaaW.PrintWords Go.Proofs.YtlhmljngjdfbpaaW.PrintLast Go.Proofs.YtlhmljngjdfbpaaW.PrintMore
structure Rdr (b : List Int) : Prop where
 len : b.length ≤ 2000
 rng : ∀ i,i < b.length → 0 ≤ nth b i ∧ nth b i ≤ 255
theorem Rdr.rd {b : List Int} (h : Rdr b) (i : Int) : 0 ≤ Go.Proofs.YtlhmljngjdfbpaaW.PrintWords.rd b i ∧ Go.Proofs.YtlhmljngjdfbpaaW.PrintWords.rd b i ≤ 255:=by
 have e : Go.Proofs.YtlhmljngjdfbpaaW.PrintWords.rd b i = nth b i.toNat:=rfl;rw [e]
 by_cases c : i.toNat < b.length
 case pos => exact h.rng _ c
 have c2 : b.length ≤ i.toNat:=by omega
 simp [nth,List.getElem?_eq_none c2]
theorem tm {x a : Int} (hx : 0 ≤ x) (ha : 0 < a) : 0 ≤ Int.tmod x a ∧ Int.tmod x a < a:=by
 rw [Int.tmod_eq_emod_of_nonneg hx];exact ⟨Int.emod_nonneg _ (by omega),Int.emod_lt_of_pos _ ha⟩
theorem td {x a : Int} (hx : 0 ≤ x) (ha : 0 < a) : 0 ≤ Int.tdiv x a ∧ Int.tdiv x a ≤ x:=by
 rw [Int.tdiv_eq_ediv_of_nonneg hx];exact ⟨Int.ediv_nonneg hx (by omega),Int.ediv_le_self _ hx⟩
theorem xor_nn {x y : Int} (hx : 0 ≤ x) (hx' : x < 4294967296) (hy : 0 ≤ y) (hy' : y < 4294967296) : 0 ≤ Go.bits .xor .i64 x y:=by
 obtain ⟨x,rfl⟩:=Int.eq_ofNat_of_zero_le hx;obtain ⟨y,rfl⟩:=Int.eq_ofNat_of_zero_le hy;have h1 : x ^^^ y < 2 ^ 32:=Nat.xor_lt_two_pow (by omega) (by omega);have e : Go.bits .xor .i64 ((x : Nat) : Int) ((y : Nat) : Int) = wrap64 (((BitVec.ofInt 64 ((x : Nat) : Int) ^^^ BitVec.ofInt 64 ((y : Nat) : Int)).toNat : Nat) : Int):=by
  unfold Go.bits
  simp only [i64_w];rfl
 rw [e,BitVec.toNat_xor,BitVec.ofInt_natCast,BitVec.ofInt_natCast,BitVec.toNat_ofNat,BitVec.toNat_ofNat,Nat.mod_eq_of_lt (by omega),Nat.mod_eq_of_lt (by omega),w64 (by omega) (by omega)];omega
theorem pick_pv {b : List Int} (h : Rdr b) {p a : Int} (hp : 0 ≤ p) (hp' : p ≤ 1000000) : Pv (fun k => spec_l30Rd_pick.f k b p a) (fun r => (0 ≤ r.1 ∧ (a < 1 → r.1 = 0) ∧ (1 ≤ a → r.1 < a)) ∧ r.2 = p + 1):=by
 have w1 : wrap64 (p + 1) = p + 1:=w64 (by omega) (by omega);have w2 : wrap64 (p + 1 - 1) = p:=by rw [w64 (by omega) (by omega)]; omega
 unfold spec_l30Rd_pick.f
 refine Pv.ite (fun c => ?_) (fun c => ?_)
 ·refine Pv.go ?_ (fun k => by rw [spec_l30Rd_pick.j0]);exact Pv.pos rfl (Pv.now ⟨⟨Int.le_refl _,fun _ => rfl,fun c2 => by omega⟩,w1⟩)
 ·refine Pv.go ?_ (fun k => by rw [spec_l30Rd_pick.j0]);refine Pv.ite (fun _ => Pv.now ⟨⟨Int.le_refl _,fun _ => rfl,fun c2 => by dsimp only; omega⟩,w1⟩) (fun c0 => ?_);have hb : 0 < (b.length : Int):=by
   have : (b.length : Int) ≠ 0:=by simpa using c0
   omega
  have hb2:=h.len;rw [w1,w2];have fin : ∀ X : Int,0 ≤ X → Pv (fun _ => some (Int.tmod X a,p + 1)) (fun r => (0 ≤ r.1 ∧ (a < 1 → r.1 = 0) ∧ (1 ≤ a → r.1 < a)) ∧ r.2 = p + 1):=by
   intro X hX;have:=tm hX (show 0 < a by omega);exact Pv.now ⟨⟨this.1,fun c2 => absurd c2 c,fun _ => this.2⟩,rfl⟩
  refine Pv.ite (fun c1 => Pv.pos hp (Pv.neg (by omega) ?_)) (fun c1 => ?_)
  ·have:=h.rd p;rw [w64 (n:=Go.Proofs.YtlhmljngjdfbpaaW.PrintWords.rd b p) (by omega) (by omega)];exact fin _ (by omega)
  ·have t1:=tm hp hb;have e1 : wrap64 (p * 7) = p * 7:=w64 (by omega) (by omega);have e2 : wrap64 (p * 7 + 3) = p * 7 + 3:=w64 (by omega) (by omega);rw [e1,e2];have t2:=tm (show 0 ≤ p * 7 + 3 by omega) hb;have r1:=h.rd (Int.tmod p b.length);have r2:=h.rd (Int.tmod (p * 7 + 3) b.length);have d1:=td hp hb;refine Pv.neg (by omega) (Pv.pos t1.1 (Pv.pos t1.2 (Pv.pos t2.1 (Pv.pos t2.2 (Pv.neg (by omega) ?_)))));generalize Go.Proofs.YtlhmljngjdfbpaaW.PrintWords.rd b (Int.tmod p b.length) = u at r1;generalize Go.Proofs.YtlhmljngjdfbpaaW.PrintWords.rd b (Int.tmod (p * 7 + 3) b.length) = v at r2;generalize Int.tdiv p b.length = q at d1;rw [w64 (n:=u) (by omega) (by omega),w64 (n:=v) (by omega) (by omega),w64 (n:=q) (by omega) (by omega),w64 (n:=u * 131) (by omega) (by omega),w64 (n:=v * 1117) (by omega) (by omega),w64 (n:=p * 29) (by omega) (by omega),w64 (n:=q * 53) (by omega) (by omega),w64 (n:=u * 131 + v * 1117) (by omega) (by omega),w64 (n:=u * 131 + v * 1117 + p * 29) (by omega) (by omega),w64 (n:=u * 131 + v * 1117 + p * 29 + q * 53) (by omega) (by omega)];have d2:=td (show 0 ≤ u * 131 + v * 1117 + p * 29 + q * 53 by omega) (show (0 : Int) < 64 by omega);generalize Int.tdiv (u * 131 + v * 1117 + p * 29 + q * 53) 64 = z at d2;rw [w64 (n:=z) (by omega) (by omega)];exact fin _ (xor_nn (by omega) (by omega) (by omega) (by omega))
theorem one_pv {b : List Int} (h : Rdr b) {p : Int} (hp : 0 ≤ p) (hp' : p ≤ 1000000) {l : List Int} (hl : 0 < l.length) : Pv (fun k => spec_l30Rd_one.f k b p l) (fun r => r.1 ∈ l ∧ r.2 = p + 1):=by
 unfold spec_l30Rd_one.f
 refine Pv.bind (pick_pv h hp hp') (fun r ⟨⟨h1,_,h2⟩,h3⟩ => ?_);have h2:=h2 (by omega);refine Pv.pos h1 (Pv.pos h2 (Pv.now ⟨?_,h3⟩));have e : Go.Proofs.YtlhmljngjdfbpaaW.PrintWords.rd l r.1 = nth l r.1.toNat:=rfl;dsimp only;rw [e];exact getD_mem (by omega)
theorem u8_range {x : Int} (h : (Lit.int .u8 x).wf = true) : 0 ≤ x ∧ x ≤ 255:=by
 simp only [Lit.wf] at h;have h2 : IntKind.u8.min ≤ x ∧ x ≤ IntKind.u8.max:=by simpa using h
 have e1 : IntKind.u8.min = 0:=by decide
 have e2 : IntKind.u8.max = 255:=by decide
 omega
theorem open_pv {l : List Int} (hl : ∀ x ∈ l,(Lit.int .u8 x).wf = true) : ∃ b,spec_l30Open.f l = some (b,0) ∧ Rdr b:=by
 have key : ∀ m : List Int,m.length ≤ 2000 → (∀ x ∈ m,x ∈ l) → Rdr m:=fun m h1 h2 => ⟨h1,fun i hi => u8_range (hl _ (h2 _ (getD_mem hi)))⟩
 unfold spec_l30Open.f
 by_cases c : (l.length : Int) > 2000
 case neg =>
  rw [if_neg c];exact ⟨_,rfl,key _ (by omega) (fun x hx => hx)⟩
 rw [if_pos c,if_pos (by omega)];exact ⟨_,rfl,key _ (by simp; omega) (fun x hx => List.mem_of_mem_take hx)⟩
def NetSz (p : Int) (r : Int × List Arc × Int) : Prop:=(0 ≤ r.1 ∧ r.1 ≤ 9) ∧ r.2.1.length ≤ 13 ∧ (p ≤ r.2.2 ∧ r.2.2 ≤ p + 100)
theorem net_l {b : List Int} (h : Rdr b) (n : Int) (hn : 1 ≤ n ∧ n ≤ 9) : ∀ (m : Nat) (p : Int) (l : List Arc),0 ≤ p → p + 6 * m ≤ 100000 → m ≤ 13 → l.length ≤ 13 - m → Pv (fun k => spec_l30Net.l0 k (m : Int) b p n l) (fun r => r.1 = n ∧ r.2.1.length ≤ 13 ∧ (p ≤ r.2.2 ∧ r.2.2 ≤ p + 6 * m)):=by
 intro m
 induction m with
 | zero =>
  intro p l hp hp' hm hl;refine Pv.go ?_ (fun k => by rw [spec_l30Net.l0]);exact Pv.neg (by omega) (Pv.now ⟨rfl,by dsimp only; omega,by dsimp only; omega⟩)
 | succ m ih =>
  intro p l hp hp' hm hl;have hw : wrap64 (((m + 1 : Nat) : Int) - 1) = (m : Int):=by rw [w64 (by omega) (by omega)]; omega
  refine Pv.go ?_ (fun k => by rw [spec_l30Net.l0]);rw [hw];refine Pv.pos (by omega) (Pv.bind (pick_pv h hp (by omega)) (fun r1 ⟨a1,e1⟩ => Pv.bind (pick_pv h (p:=r1.2) (by omega) (by omega)) (fun r2 ⟨a2,e2⟩ => Pv.bind (pick_pv h (p:=r2.2) (by omega) (by omega)) (fun r3 ⟨a3,e3⟩ => Pv.bind (one_pv h (p:=r3.2) (by omega) (by omega) (by simp)) (fun r4 ⟨a4,e4⟩ => Pv.bind (one_pv h (p:=r4.2) (by omega) (by omega) (by simp)) (fun r5 ⟨a5,e5⟩ => Pv.bind (pick_pv h (p:=r5.2) (by omega) (by omega)) (fun r6 ⟨a6,e6⟩ => ?_)))))));have step : ∀ x : Arc,Pv (fun k => spec_l30Net.l0 k (m : Int) b r6.2 n (l ++ [x])) (fun r => r.1 = n ∧ r.2.1.length ≤ 13 ∧ (p ≤ r.2.2 ∧ r.2.2 ≤ p + 6 * ((m + 1 : Nat) : Int))):=fun x => (ih r6.2 (l ++ [x]) (by omega) (by omega) (by omega) (by simp; omega)).mono (fun r hr => ⟨hr.1,hr.2.1,by omega,by omega⟩)
  refine Pv.ite (fun _ => Pv.neg (by omega) (Pv.pos (by omega) (step _))) (fun _ => Pv.pos (by omega) (step _))
theorem net_pv {b : List Int} (h : Rdr b) {p : Int} (hp : 0 ≤ p) (hp' : p ≤ 10000) : Pv (fun k => spec_l30Net.f k b p) (fun r => (2 ≤ r.1 ∧ r.1 ≤ 6) ∧ r.2.1.length ≤ 13 ∧ (p ≤ r.2.2 ∧ r.2.2 ≤ p + 90)):=by
 unfold spec_l30Net.f
 refine Pv.bind (pick_pv h hp (by omega)) (fun r1 ⟨a1,e1⟩ => Pv.bind (pick_pv h (p:=r1.2) (by omega) (by omega)) (fun r2 ⟨a2,e2⟩ => ?_));have b1:=a1.2.2 (by omega);have b2:=a2.2.2 (by omega);have hw : wrap64 (2 + r1.1) = 2 + r1.1:=w64 (by omega) (by omega);rw [hw];have:=net_l h (2 + r1.1) (by omega) r2.1.toNat r2.2 [] (by omega) (by omega) (by omega) (by simp);rw [Int.toNat_of_nonneg a2.1] at this;exact this.mono (fun r hr => ⟨⟨by omega,by omega⟩,hr.2.1,by omega,by omega⟩)
theorem anyNet_pv {b : List Int} (h : Rdr b) {p : Int} (hp : 0 ≤ p) (hp' : p ≤ 10000) : Pv (fun k => spec_l30AnyNet.f k b p) (NetSz p):=by
 unfold spec_l30AnyNet.f
 refine Pv.bind (net_pv h hp hp') (fun r0 ⟨a0,l0,e0⟩ => ?_);refine Pv.ite (fun c => ?_) (fun c => Pv.now ⟨by dsimp only; omega,l0,by dsimp only; omega⟩);refine Pv.bind (pick_pv h (p:=r0.2.2) (by omega) (by omega)) (fun r1 ⟨a1,e1⟩ => Pv.bind (pick_pv h (p:=r1.2) (by omega) (by omega)) (fun r2 ⟨a2,e2⟩ => ?_));have b1:=a1.2.2 (by omega);refine Pv.ite (fun c1 => Pv.pos a1.1 (Pv.pos b1 (Pv.bind (one_pv h (p:=r2.2) (by omega) (by omega) (by simp)) (fun r3 ⟨a3,e3⟩ => Pv.now ⟨by dsimp only; omega,by simpa using l0,by dsimp only; omega⟩)))) (fun c1 => ?_);refine Pv.ite (fun c2 => Pv.bind (one_pv h (p:=r2.2) (by omega) (by omega) (by simp)) (fun r3 ⟨a3,e3⟩ => Pv.pos a1.1 (Pv.pos b1 (Pv.now ⟨by dsimp only; omega,by simpa using l0,by dsimp only; omega⟩)))) (fun c2 => ?_);refine Pv.ite (fun c3 => Pv.bind (one_pv h (p:=r2.2) (by omega) (by omega) (by simp)) (fun r3 ⟨a3,e3⟩ => Pv.now ⟨?_,l0,by dsimp only; omega⟩)) (fun c3 => Pv.now ⟨by dsimp only; omega,l0,by dsimp only; omega⟩);simp only [List.mem_cons,List.not_mem_nil,or_false] at a3;dsimp only;omega
end Go.Proofs.Ytlhmljngjdfbpaa.Pure
end
section
set_option linter.unusedSimpArgs false
set_option linter.unusedVariables false
set_option linter.unusedSectionVars false
namespace Go.Proofs.Ytlhmljngjdfbpaa.Pure
open Go.RowKit Go.Proofs.Ytlhmljngjdfbpaa.Pr Go.Proofs.YtlhmljngjdfbpaaW.PrintWords Go.Proofs.YtlhmljngjdfbpaaW.PrintLast Go.Proofs.YtlhmljngjdfbpaaW.PrintMore
open Go.Proofs.Ytlhmljngjdfbpaa.Fl (ud net cut sm)
theorem specFlowOf_pv (n : Int) (l : List Arc) (a b : Int) (hl : l.length ≤ maxLen) : Pv (fun k => spec_FlowOf.f k n l a b) (fun r => r.length ≤ 16):=by
 unfold spec_FlowOf.f
 have hno : Pv (fun k => spec_FlowOf.j0 k a b true n l) (fun r => r.length ≤ 16):=by
  refine Pv.go ?_ (fun k => by rw [spec_FlowOf.j0]);exact Pv.pos rfl (Pv.now (by simp))
 refine Pv.bind (R:=fun r => r = netOkB n l) (Pv.of (l1Ok_ev n l hl) rfl) (fun r e => ?_);subst e;cases hk : netOkB n l with
 | false => exact Pv.neg (by simp) hno
 | true =>
  have hg:=(netOkB_iff n l).1 hk;have h16:=hg.len;obtain ⟨N,rfl⟩ : ∃ N : Nat,n = (N : Int):=⟨n.toNat,by have:=hg.n1; omega⟩
  refine Pv.pos rfl (Pv.bind0 (in1 _ _ _) ?_);rw [inB_okN hg];cases ha : okN (N : Int) a with
  | false => exact Pv.neg (by simp) hno
  | true =>
   refine Pv.pos rfl (Pv.bind0 (in1 _ _ _) ?_);rw [inB_okN hg];cases hb : okN (N : Int) b with
   | false => exact Pv.neg (by simp) hno
   | true =>
    refine Pv.pos rfl ?_;simp only [okN,Bool.and_eq_true,decide_eq_true_eq] at ha hb
    by_cases e : a = b
    case pos => rw [show (a == b) = true from beq_iff_eq.2 e]; exact hno
    rw [show (a == b) = false from beq_eq_false_iff_ne.2 e];refine Pv.go ?_ (fun k => by rw [spec_FlowOf.j0]);obtain ⟨s,rfl⟩ : ∃ s : Nat,a = (s : Int):=⟨a.toNat,by omega⟩
    obtain ⟨t,rfl⟩ : ∃ t : Nat,b = (t : Int):=⟨b.toNat,by omega⟩
    have hs : s < N:=by omega
    have ht : t < N:=by omega
    have hne : s ≠ t:=fun h => e (by rw [h])
    obtain ⟨g,hA⟩:=aug_zero hg hs ht hne;have h:=specAug_ev hg hs ht hne hA (flow_zero hg hs ht hne);have ez : List.replicate (((l.length : Int)) : Int).toNat (0 : Int) = lst l.length (fun _ => 0):=by
     apply List.ext_getElem (by simp [lst])
     intro i h1 h2;simp [lst]
    rw [ez];exact Pv.of (Ev.neg (by simp) (Ev.pos (by omega) (Ev.pos (by omega) h))) (by rw [lst_len]; exact h16)
theorem drawFlow_j {b : List Int} (h : Rdr b) {p : Int} (hp : 0 ≤ p) (hp' : p ≤ 100000) (a c n : Int) (l : List Arc) (x : List Int) (y : Bool) (hx : x.length ≤ 16) (hy : y = true → 0 < x.length) : Pv (fun k => spec_DrawFlowValue.j0 k a c x y b p n l) (fun r => r.2.1 = l ∧ r.2.2.1.length ≤ 17):=by
 refine Pv.go ?_ (fun k => by rw [spec_DrawFlowValue.j0]);cases y with
 | true =>
  have h0:=hy rfl;refine Pv.pos rfl (Pv.bind (pick_pv h hp (by omega)) (fun r1 ⟨a1,e1⟩ => ?_));have b1:=a1.2.2 (by omega);refine Pv.pos (by omega) (Pv.pos (by omega) (Pv.bind (one_pv h (p:=r1.2) (by omega) (by omega) (by simp)) (fun r2 ⟨a2,e2⟩ => Pv.bind0 rfl (Pv.bind (pick_pv h (p:=r2.2) (by omega) (by omega)) (fun r3 ⟨a3,e3⟩ => ?_)))));exact Pv.ite (fun _ => Pv.pos (by simp; omega) (Pv.now ⟨rfl,by simp; omega⟩)) (fun _ => Pv.now ⟨rfl,by simp; omega⟩)
 | false =>
  refine Pv.neg (by simp) (Pv.bind (pick_pv h hp (by omega)) (fun r1 ⟨a1,e1⟩ => ?_));exact Pv.ite (fun _ => Pv.pos (by omega) (Pv.now ⟨rfl,by simp; omega⟩)) (fun _ => Pv.now ⟨rfl,by dsimp only; omega⟩)
theorem nodeF_pv {b : List Int} (h : Rdr b) {p : Int} (hp : 0 ≤ p) (hp' : p ≤ 20000) (n : Int) (l : List Arc) : Pv (fun k => spec_l30Node.f k b p n l) (fun r => p ≤ r.2 ∧ r.2 ≤ p + 2):=by
 unfold spec_l30Node.f
 refine Pv.bind (pick_pv h hp (by omega)) (fun r1 ⟨a1,e1⟩ => Pv.ite (fun _ => ?_) (fun _ => ?_))
 ·exact Pv.bind (one_pv h (p:=r1.2) (by omega) (by omega) (by simp)) (fun r2 ⟨a2,e2⟩ => Pv.now (by dsimp only; omega))
 ·exact Pv.bind (pick_pv h (p:=r1.2) (by omega) (by omega)) (fun r2 ⟨a2,e2⟩ => Pv.now (by dsimp only; omega))
theorem drawFlow_pv {x : List Int} (hx : ∀ c ∈ x,(Lit.int .u8 c).wf = true) : Pv (fun k => spec_DrawFlowValue.f k x) (fun r => r.2.1.length ≤ 13 ∧ r.2.2.1.length ≤ 17):=by
 unfold spec_DrawFlowValue.f
 obtain ⟨b,e,hb⟩:=open_pv hx;refine Pv.bind0 e (Pv.bind (anyNet_pv hb (p:=0) (by omega) (by omega)) (fun r1 h1 => ?_));have h3:=h1.2.2;have hl:=h1.2.1;refine Pv.bind (nodeF_pv hb (p:=r1.2.2) (by omega) (by omega) r1.1 r1.2.1) (fun r2 h2 => Pv.bind (nodeF_pv hb (p:=r2.2) (by omega) (by omega) r1.1 r1.2.1) (fun r4 h4 => ?_));refine Pv.bind (specFlowOf_pv r1.1 r1.2.1 r2.1 r4.1 (by simp only [maxLen]; omega)) (fun r5 h5 => ?_);refine Pv.ite (fun c => ?_) (fun c => ?_)
 ·refine Pv.bind (pick_pv hb (p:=r4.2) (by omega) (by omega)) (fun r6 ⟨a6,e6⟩ => ?_);exact (drawFlow_j hb (p:=r6.2) (by omega) (by omega) r2.1 r4.1 r1.1 r1.2.1 r5 _ h5 (fun _ => by omega)).mono (fun r hr => ⟨by rw [hr.1]; exact hl,hr.2⟩)
 ·exact (drawFlow_j hb (p:=r4.2) (by omega) (by omega) r2.1 r4.1 r1.1 r1.2.1 r5 _ h5 (fun h => by simp at h)).mono (fun r hr => ⟨by rw [hr.1]; exact hl,hr.2⟩)
section
variable {N : Nat} {l : List Arc} (hg : NetGood N l) {s t : Nat} (hs : s < N) (ht : t < N) (hne : s ≠ t) {x : List Int} (hx : x.length = l.length) (hF : FlowI N l s t (nth x))
include hg hs ht hne hx hF
theorem sum_l : ∀ (d i : Nat),x.length - i = d → i ≤ x.length → Ev (fun k => laws_FnFlowValue.l0 k x (s : Int) (t : Int) (net l.length (frF l) (twF l) (nth x) s) (-(net i (frF l) (twF l) (nth x) t)) (i : Int) (N : Int) l) true:=by
 have h16:=hg.len;intro d
 induction d with
 | zero =>
  intro i hd hi;have e : i = l.length:=by omega
  subst e;have hend:=Fl.net_end (hfF hg hs ht) (htF hg hs ht) hs ht hne hF.even;have hmv:=implMost_ev (N : Int) l (s : Int) (t : Int);have hm : mostV (N : Int) l (s : Int) (t : Int) = mostTo l s t (2 ^ N):=by
   unfold mostV
   rw [if_pos ((mostB_iff _ _ _ _).2 ⟨hg,by omega,by omega,fun e => hne (by omega)⟩),Int.toNat_natCast,Int.toNat_natCast,Int.toNat_natCast]
  rw [hm] at hmv;have hle:=value_most hg hs ht hne hF;refine Ev.go ?_ (fun k => by rw [laws_FnFlowValue.l0]);refine Ev.neg (by omega) (Ev.pos (by omega) (Ev.bind hmv (Ev.is ?_)));rw [decide_eq_true_eq]; exact hle
 | succ d ih =>
  intro i hd hi;have hlt : i < l.length:=by omega
  have ha:=arcF hg hlt;have hne2:=(hg.ok i hlt).2.2.1;have hn:=ih (i + 1) (by omega) (by omega);have hb:=net_bd hg hF.fits t i (by omega);have hfi:=hF.fits i hlt;have hcap:=ha.2.2;have e : net (i + 1) (frF l) (twF l) (nth x) t = net i (frF l) (twF l) (nth x) t + ((if frF l i = t then nth x i else 0) - (if twF l i = t then nth x i else 0)):=rfl;rw [e] at hn;refine Ev.go ?_ (fun k => by rw [laws_FnFlowValue.l0]);rw [rda,rdg i,up1 (show i < x.length by omega) (by simp only [maxLen]; omega)];refine Ev.pos (by omega) (Ev.pos (by omega) (Ev.pos (by omega) ?_))
  by_cases c1 : twF l i = t
  case pos =>
   have c2 : ¬ frF l i = t:=fun h => hne2 (by omega)
   rw [if_neg c2,if_pos c1] at hn;refine Ev.pos (by omega) (Ev.neg (by omega) ?_);rw [w64 (by omega) (by omega)];rw [show -(net i (frF l) (twF l) (nth x) t) + nth x i = -(net i (frF l) (twF l) (nth x) t + (0 - nth x i)) by omega];exact hn
  refine Ev.neg (by omega) ?_
  by_cases c2 : frF l i = t
  case neg =>
   rw [if_neg c2,if_neg c1,show (0 : Int) - 0 = 0 from rfl,Int.add_zero] at hn;exact Ev.neg (by omega) hn
  rw [if_pos c2,if_neg c1] at hn;refine Ev.pos (by omega) ?_;rw [w64 (by omega) (by omega)];rw [show -(net i (frF l) (twF l) (nth x) t) - nth x i = -(net i (frF l) (twF l) (nth x) t + (nth x i - 0)) by omega];exact hn
end
theorem FnFlowValue : laws_FnFlowValue.Asked:=by
 classical
 intro c hc;refine Pv.rounds ?_
 unfold laws_FnFlowValue.f
 refine Pv.ite (fun _ => Pv.now rfl) (fun _ => Pv.bind (drawFlow_pv hc.2) (fun r h => ?_));obtain ⟨n,l,x,a,b⟩:=r;obtain ⟨h1,h2⟩:=h;dsimp only at h1 h2 ⊢;refine Pv.of (Ev.bind (implValue_ev n l x a b) (Ev.bind (specValue_ev n l x a b (by simp only [maxLen]; omega)) (Ev.neg (by simp) (Ev.pos rfl (Ev.go ?_ (fun k => by rw [laws_FnFlowValue.j0])))))) rfl
 by_cases hv : mostB n l a b = true ∧ x.length = l.length ∧ ValueOk n l x a b
 case neg =>
  have e : valueV n l x a b = (0,false):=by unfold valueV; rw [if_neg hv]
  rw [e];exact Ev.pos rfl (Ev.pos rfl (Ev.now _))
 have e : valueV n l x a b = (rd (netTo n l x l.length) a,true):=by unfold valueV; rw [if_pos hv]
 obtain ⟨hm,hx,hf,hev⟩:=hv;obtain ⟨hg,ha,hb,hab⟩:=(mostB_iff _ _ _ _).1 hm;obtain ⟨N,rfl⟩ : ∃ N : Nat,n = (N : Int):=⟨n.toNat,by have:=hg.n1; omega⟩
 obtain ⟨s,rfl⟩ : ∃ s : Nat,a = (s : Int):=⟨a.toNat,by omega⟩
 obtain ⟨t,rfl⟩ : ∃ t : Nat,b = (t : Int):=⟨b.toNat,by omega⟩
 have hs : s < N:=by omega
 have ht : t < N:=by omega
 have hne : s ≠ t:=fun h => hab (by rw [h])
 have hnet:=netTo_lst hg hf l.length (Nat.le_refl _);have hF : FlowI N l s t (nth x):=⟨fun i hi => hf i hi (Nat.zero_le _),fun v hv h1 h2 => by
  have:=hev v (by rw [netTo_len,Int.toNat_natCast]; exact hv) (Nat.zero_le _);rw [hnet,lst_nth _ hv] at this
  rcases this with h | h | h
  ·exact h
  ·exact absurd (by omega) h1
  ·exact absurd (by omega) h2⟩
 rw [e,hnet,lst_rd _ hs];have:=sum_l hg hs ht hne hx hF _ 0 rfl (Nat.zero_le _);rw [show net 0 (frF l) (twF l) (nth x) t = 0 from rfl] at this;exact Ev.neg (by simp) this
end Go.Proofs.Ytlhmljngjdfbpaa.Pure
end
section
namespace Go.Proofs.Ytlhmljngjdfbpaa.fnFlowValue
open Go.ChangeShapes Go.WideShapes Go.ChangeAt Go.RowKit Go.Proofs.YtlhmljngjdfbpaaW.PrintWords Go.Proofs.Ytlhmljngjdfbpaa.Pr
open Go.ChangeMaps (open_string shut_string)
set_option linter.unusedVariables false
set_option linter.unusedSimpArgs false
theorem own : ownKnob Try.prog.godebug = none:=by kernel_rfl
theorem laidOut : laidOutB Try.prog = true:=by kernel_rfl
theorem opens0 : Opens Try.prog (Kd.slice 5 (Kd.int .u8)) 22 (fun l => l.length ≤ maxLen ∧ ∀ x ∈ l,(fun n => (Lit.int .u8 n).wf = true) x):=(opens_slice (P:=Try.prog) Try.underlying22 (by kernel_rfl) (opens_int (P:=Try.prog) (k:=.u8) Try.underlying5))
set_option maxRecDepth 100000 in
set_option maxHeartbeats 2000000 in
theorem lifted (os : Os) (started : os.Started) (H : Type) (enc : TypeId × Value → H) :
  ReturnsInHanded {} Try.checked os 6 .any (Rows.fnFlowValueSpec.pre6 enc Try.prog Try.f6 Rows.fnFlowValueRow.domain false) (Rows.fnFlowValueSpec.post enc Try.prog Try.f6 false true false false):=by
 refine returnsInHanded_of_change_sized (C:=Try.checked) own started (by kernel_rfl) Try.func6
  (ChangeSpec.witness6 (enc:=enc) (C:=Try.checked) false ⟨#[],#[(.slice none 0 0)],[]⟩ 8 (by kernel_rfl) (by kernel_rfl) (by kernel_rfl) (by kernel_rfl)) ?_
 intro W base args ds gs before hval0 hW hcnd hsz0 _;have hval : ∀ (j : Nat) t v,Try.f6.params[j]? = some t → args[j]? = some v → Value.okWide Try.prog W .any base t v:=hval0
 have hW':=hW;obtain ⟨p,q,hA0,hV,rfl,hfz,hnd⟩:=hW;have hA : DataW.TrodAll enc Try.prog W 0 (fun _ => true) true Try.f6.params.toList args.toList ds p:=hA0;rw [Try.params6] at hA hval;obtain ⟨v0,vs0,d0,ds0,p0,q0,hargs,rfl,rfl,h0,r0⟩:=trodAll_cons hA;obtain ⟨rfl,rfl,rfl⟩:=trodAll_nil r0;obtain rfl : args = #[v0]:=by cases args; simp_all
 obtain ⟨rfl,rfl⟩:=trodVars_none hV;have k0:=h0;have lt0 : ∀ x ∈ p0,x.block < W.heap.size:=by obtain ⟨m,hm⟩:=k0; exact DataW.trod_lt m _ _ _ hm
 obtain ⟨a0,len0,cap0,rfl⟩:=okWide_slice Try.underlying22 (hval 0 22 v0 rfl rfl);obtain ⟨fuel0,hf0⟩:=h0;obtain ⟨l0,⟨A0,c0,e0,hc0,hr0⟩,w0⟩:=opens0 hf0;have e0' : (Value.slice a0 len0 cap0) = .slice A0 l0.length c0:=(List.cons.inj e0).1;injection e0' with e0a e0b e0c
 subst e0a e0b e0c;obtain ⟨k,hh⟩:=Pure.FnFlowValue l0 w0;refine (laws_FnFlowValue.calls k _ _ l0 true W hr0 hc0 hh).mono fun e W' ⟨he,bel0⟩ => ?_
 have bel : Below W.heap.size W W':=bel0;subst he;exact ⟨_,rfl,_,_,_,[],_,[],hW',trodAll_mk1 (shut_bool Try.underlying4 _),(trodAll_cons_mk (Below.trod laidOut (by kernel_rfl) (of_decide_eq_true (by kernel_rfl)) k0 bel lt0) trodAll_mk0),rfl,bel.frame _,fun h => by cases h⟩
theorem over : Rows.fnFlowValueRow.holds Try.pinned (OpenSpec.ofChange Rows.fnFlowValueSpec) :=
 OpenClaim.holds_of_wide 6 Try.f6 rfl rfl rfl rfl rfl rfl rfl ⟨rfl,rfl,rfl,rfl,rfl⟩ rfl rfl rfl rfl rfl (by kernel_rfl) Try.func6 (by kernel_rfl)
  (of_decide_eq_true (by kernel_rfl)) (by unfold Func.isWrapper; first | (rw [if_pos (by decide +kernel)]; kernel_rfl) | (rw [if_neg (by decide +kernel)]; exact ⟨rfl,rfl⟩))
  (fun os started H enc _ => lifted os started H enc)
theorem proved : Rows.FnFlowValueSaid:=over
#print axioms proved
end Go.Proofs.Ytlhmljngjdfbpaa.fnFlowValue
namespace Go.Proofs.Ytlhmljngjdfbpaa
theorem fnFlowValue_holds : Rows.FnFlowValueSaid:=fnFlowValue.proved
end Go.Proofs.Ytlhmljngjdfbpaa
end
