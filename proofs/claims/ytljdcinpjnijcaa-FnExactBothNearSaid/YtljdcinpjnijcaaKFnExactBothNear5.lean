/- For the statement FnExactBothNear of this seat: it is proved here, with no further conditions (part 6 of its texts: words, walks of the functions, the plain law, the row). -/
import Derived.Test.YtljdcinpjnijcaaRows
import Derived.WalkKit
import Derived.ProofKit
import Derived.OpenShut
import Derived.ShutString
import Derived.ChangeOld
import Derived.Below
import Derived.SizedLaws
import Derived.WideShapes
import Derived.Test.YtljdcinpjnijcaaKFnExactBothNear4
section
set_option linter.unusedSimpArgs false
set_option linter.unusedVariables false
set_option linter.unusedSectionVars false
namespace Go.Proofs.Ytljdcinpjnijcaa.Pure
open Go.RowKit Go.Proofs.Ytljdcinpjnijcaa.Pr Go.Proofs.YtljdcinpjnijcaaW.PrintWords Go.Proofs.YtljdcinpjnijcaaW.PrintLast Go.Proofs.YtljdcinpjnijcaaW.PrintMore
def BdA (x : List Int) : Prop:=∀ v ∈ x,0 ≤ v ∧ v ≤ 99999
theorem BdA.at {x : List Int} (h : BdA x) {i : Nat} (hi : i < x.length) : 0 ≤ rd x (i : Int) ∧ rd x (i : Int) ≤ 99999:=by rw [rdn hi]; exact h _ (List.getElem_mem hi)
theorem BdA.set {x : List Int} (h : BdA x) (i : Nat) {v : Int} (hv : 0 ≤ v ∧ v ≤ 99999) : BdA (x.set i v):=by
 intro u hu
 rcases List.mem_or_eq_of_mem_set hu with q | q
 ·exact h u q
 ·rw [q]; exact hv
theorem next_l {a : List Int} {s : List Bool} (ha : BdA a) (hs : s.length = a.length) (hm : a.length ≤ 1000) : ∀ (d i : Nat) (t : Int),a.length - i = d → i ≤ a.length → -1 ≤ t → t < (i : Int) → Ev (fun k => spec_l20Next.l0 k a s t (i : Int)) (nxF a s d i t)
 | 0,i,t,hd,hi,_,_ => by
  refine Ev.go ?_ (fun k => by rw [spec_l20Next.l0]);exact Ev.neg (by omega) (Ev.now _)
 | d + 1,i,t,hd,hi,h0,h1 => by
  have hlt : i < a.length:=by omega
  have hb:=ha.at hlt;have e : nxF a s (d + 1) i t = nxF a s d (i + 1) (if rd a (i : Int) ≠ 99999 ∧ rdOf false s (i : Int) = false ∧ (t < 0 ∨ rd a (i : Int) < rd a t) then (i : Int) else t):=rfl;have iht:=next_l ha hs hm d (i + 1) t (by omega) (by omega) h0 (by omega);have ihi:=next_l ha hs hm d (i + 1) (i : Int) (by omega) (by omega) (by omega) (by omega);refine Ev.go ?_ (fun k => by rw [spec_l20Next.l0]);rw [up1 hlt (by simp only [maxLen]; omega),e];refine Ev.pos (by omega) (Ev.pos (by omega) (Ev.pos (by omega) ?_));cases hq : rdOf false s (i : Int) with
  | true =>
   rw [if_neg (fun z => by simp at z)];exact Ev.pos rfl iht
  | false =>
   refine Ev.neg (by simp) ?_
   by_cases c : rd a (i : Int) < 99999
   case neg =>
    rw [if_neg (fun z => z.1 (by omega))];exact Ev.neg c iht
   refine Ev.pos c ?_
   by_cases c1 : t < 0
   case pos =>
    rw [if_pos ⟨by omega,rfl,.inl c1⟩];exact Ev.pos c1 ihi
   refine Ev.neg c1 (Ev.pos (by omega) (Ev.pos (by omega) ?_))
   by_cases c2 : rd a (i : Int) < rd a t
   case pos =>
    rw [if_pos ⟨by omega,rfl,.inr c2⟩];exact Ev.pos c2 ihi
   rw [if_neg (fun z => by rcases z.2.2 with q | q; exact c1 q; exact c2 q)];exact Ev.neg c2 iht
theorem next_ev {a : List Int} {s : List Bool} (ha : BdA a) (hs : s.length = a.length) (hm : a.length ≤ 1000) : Ev (fun k => spec_l20Next.f k a s) (nextV a s) :=
 next_l ha hs hm _ 0 (-1) rfl (Nat.zero_le _) (by omega) (by omega)
theorem nxF_open {a : List Int} {s : List Bool} : ∀ (d i : Nat) (t : Int),(0 ≤ t → rd a t ≠ 99999 ∧ rdOf false s t = false) → (0 ≤ nxF a s d i t → rd a (nxF a s d i t) ≠ 99999 ∧ rdOf false s (nxF a s d i t) = false)
 | 0,_,_,h => h
 | d + 1,i,t,h => by
  unfold nxF
  refine nxF_open d (i + 1) _ (fun h0 => ?_)
  split
  ·rename_i c; exact ⟨c.1,c.2.1⟩
  ·rename_i c; rw [if_neg c] at h0; exact h h0
theorem nextV_open {a : List Int} {s : List Bool} (h : 0 ≤ nextV a s) : rd a (nextV a s) ≠ 99999 ∧ rdOf false s (nextV a s) = false:=nxF_open _ _ _ (fun h => absurd h (by omega)) h
theorem sum_l {a b : List Int} (ha : BdA a) (hb : BdA b) (hl : b.length = a.length) (hm : a.length ≤ 1000) : ∀ (d i : Nat) (m : Int),a.length - i = d → i ≤ a.length → m ≤ 99999 → Ev (fun k => spec_l20Sum.l0 k a b m (i : Int)) (leF a b d i m)
 | 0,i,m,hd,hi,_ => by
  refine Ev.go ?_ (fun k => by rw [spec_l20Sum.l0]);exact Ev.neg (by omega) (Ev.now _)
 | d + 1,i,m,hd,hi,h0 => by
  have hlt : i < a.length:=by omega
  have h1:=ha.at hlt;have h2:=hb.at (show i < b.length by omega);have e : leF a b (d + 1) i m = leF a b d (i + 1) (if rd a (i : Int) ≠ 99999 ∧ rd b (i : Int) ≠ 99999 then mn m (wrap64 (rd a (i : Int) + rd b (i : Int))) else m):=rfl;have ihm:=sum_l ha hb hl hm d (i + 1) m (by omega) (by omega) h0;refine Ev.go ?_ (fun k => by rw [spec_l20Sum.l0]);rw [up1 hlt (by simp only [maxLen]; omega),e,w64 (n:=rd a (i : Int) + rd b (i : Int)) (by omega) (by omega)];refine Ev.pos (by omega) (Ev.pos (by omega) (Ev.pos (by omega) ?_))
  by_cases c : rd a (i : Int) + rd b (i : Int) < m
  case pos =>
   rw [if_pos ⟨by omega,by omega⟩,mn_lt c];exact Ev.pos c (sum_l ha hb hl hm d (i + 1) _ (by omega) (by omega) (by omega))
  refine Ev.neg c ?_
  by_cases c2 : rd a (i : Int) ≠ 99999 ∧ rd b (i : Int) ≠ 99999
  case neg => rw [if_neg c2]; exact ihm
  rw [if_pos c2,mn_ge c]; exact ihm
theorem sum_ev {a b : List Int} (ha : BdA a) (hb : BdA b) (hl : b.length = a.length) (hm : a.length ≤ 1000) : Ev (fun k => spec_l20Sum.f k a b) (leV a b):=sum_l ha hb hl hm _ 0 99999 rfl (Nat.zero_le _) (Int.le_refl _)
section
variable {N : Nat} {l : List Arc} (hg : NetGood N l)
include hg
theorem look_step {v : Nat} (hv : v < N) {i : Nat} (hi : i < l.length) {x : List Int} (hx : x.length = N) (hb : BdA x) : (lkS (v : Int) (arc l i) x).length = N ∧ BdA (lkS (v : Int) (arc l i) x):=by
 have hok:=hg.ok i hi;have h1:=hb.at (show v < x.length by omega)
 unfold lkS
 split
 ·obtain ⟨t,ht⟩:=Int.eq_ofNat_of_zero_le hok.2.1.1;have h2:=hb.at (show t < x.length by omega);refine ⟨by rw [List.length_set]; exact hx,hb.set _ ?_⟩;rw [ht,w64 (by omega) (by omega)]
  unfold mn
  split <;> omega
 ·exact ⟨hx,hb⟩
theorem look_l {v : Nat} (hv : v < N) : ∀ (d i : Nat) (x : List Int),l.length - i = d → i ≤ l.length → x.length = N → BdA x → Ev (fun k => spec_l20Look.l0 k (v : Int) x (i : Int) N l) (lkF l (v : Int) d i x)
 | 0,i,x,hd,hi,hx,hb => by
  refine Ev.go ?_ (fun k => by rw [spec_l20Look.l0]);exact Ev.neg (by omega) (Ev.now _)
 | d + 1,i,x,hd,hi,hx,hb => by
  have h16:=hg.len;have h8:=hg.n8;have hlt : i < l.length:=by omega
  have hok:=hg.ok i hlt;have h1:=hb.at (show v < x.length by omega);obtain ⟨t,ht⟩:=Int.eq_ofNat_of_zero_le hok.2.1.1;have htl : t < x.length:=by omega
  have h2:=hb.at htl;have hst:=look_step hg hv hlt hx hb;have ih:=look_l hv d (i + 1) _ (by omega) (by omega) hst.1 hst.2;have e : lkF l (v : Int) (d + 1) i x = lkF l (v : Int) d (i + 1) (lkS (v : Int) (arc l i) x):=by rw [← rda l i]; rfl
  refine Ev.go ?_ (fun k => by rw [spec_l20Look.l0]);rw [e,rda l i,up1 hlt (by simp only [maxLen]; omega)];refine Ev.pos (by omega) (Ev.pos (by omega) ?_)
  by_cases c : (arc l i).f0 = (v : Int)
  case neg =>
   have e2 : lkS (v : Int) (arc l i) x = x:=by unfold lkS; rw [if_neg c]
   rw [e2] at ih ⊢;exact Ev.neg c ih
  have e2 : lkS (v : Int) (arc l i) x = x.set t (mn (rd x (t : Int)) (rd x (v : Int) + (arc l i).f2)):=by
   unfold lkS
   rw [if_pos c,ht,w64 (by omega) (by omega),Int.toNat_natCast]
  rw [e2] at ih ⊢;rw [ht,w64 (n:=rd x (v : Int) + _) (by omega) (by omega),Int.toNat_natCast];refine Ev.pos c (Ev.pos (by omega) (Ev.pos (by omega) (Ev.pos (by omega) (Ev.pos (by omega) ?_))))
  by_cases c2 : rd x (v : Int) + (arc l i).f2 < rd x (t : Int)
  case pos =>
   rw [mn_lt c2] at ih ⊢;exact Ev.pos c2 ih
  rw [mn_ge c2,rdn htl,List.set_getElem_self] at ih ⊢;rw [← rdn htl];exact Ev.neg c2 ih
theorem look_keep {v : Nat} (hv : v < N) : ∀ (d i : Nat) (x : List Int),i + d ≤ l.length → x.length = N → BdA x → (lkF l (v : Int) d i x).length = N ∧ BdA (lkF l (v : Int) d i x)
 | 0,i,x,hd,hx,hb => ⟨hx,hb⟩
 | d + 1,i,x,hd,hx,hb => by
  have hst:=look_step hg hv (show i < l.length by omega) hx hb;have e : lkF l (v : Int) (d + 1) i x = lkF l (v : Int) d (i + 1) (lkS (v : Int) (arc l i) x):=by rw [← rda l i]; rfl
  rw [e];exact look_keep hv d (i + 1) _ (by omega) hst.1 hst.2
theorem look_ev {v : Nat} (hv : v < N) {x : List Int} (hx : x.length = N) (hb : BdA x) : Ev (fun k => spec_l20Look.f k N l x (v : Int)) (lkF l (v : Int) l.length 0 x):=by
 have h8:=hg.n8
 unfold spec_l20Look.f
 refine Ev.bind0 rfl (Ev.pos (by simp; omega) ?_);rw [List.nil_append];exact look_l hg hv _ 0 x rfl (Nat.zero_le _) hx hb
theorem open_l {s : Nat} (hs : s < N) : ∀ (d i : Nat) (x : List Int),N - i = d → i ≤ N → x.length = N → (∀ j,j < i → nth x j = 99999) → Ev (fun k => spec_l20Open.l0 k (s : Int) x (i : Int) N l) ((List.replicate N 99999).set s 0)
 | 0,i,x,hd,hi,hx,hn => by
  have e : x = List.replicate N 99999:=by
   apply List.ext_getElem (by simpa using hx)
   intro j h1 h2;have:=hn j (by omega);rw [nth_get h1] at this
   simpa using this
  refine Ev.go ?_ (fun k => by rw [spec_l20Open.l0]);refine Ev.neg (by omega) (Ev.pos (by omega) (Ev.pos (by omega) (Ev.is ?_)));rw [e,Int.toNat_natCast]
 | d + 1,i,x,hd,hi,hx,hn => by
  have h8:=hg.n8;have hlt : i < N:=by omega
  refine Ev.go ?_ (fun k => by rw [spec_l20Open.l0]);rw [up1 hlt (by simp only [maxLen]; omega),Int.toNat_natCast];refine Ev.pos (by omega) (Ev.pos (by omega) (Ev.pos (by omega) (open_l hs d (i + 1) _ (by omega) (by omega) (by rw [List.length_set]; exact hx) (fun j hj => ?_))))
  by_cases e : j = i
  case pos => subst e; rw [nth_get (by rw [List.length_set]; omega),List.getElem_set_self]
  rw [nth_get (by rw [List.length_set]; omega),List.getElem_set_ne (fun h => e h.symm),← nth_get (by omega)]; exact hn j (by omega)
theorem open_ev {s : Nat} (hs : s < N) : Ev (fun k => spec_l20Open.f k N l (s : Int)) ((List.replicate N 99999).set s 0):=by
 have h8:=hg.n8
 unfold spec_l20Open.f
 rw [Int.toNat_natCast];exact Ev.pos (by omega) (Ev.pos (by omega) (open_l hg hs _ 0 _ rfl (Nat.zero_le _) (by simp) (fun j hj => absurd hj (by omega))))
end
theorem cnt_set {s : List Bool} {i : Nat} (hi : i < s.length) (h : rdOf false s (i : Int) = false) : (s.set i true).count false + 1 = s.count false:=by
 have e : s[i] = false:=by
  have : rdOf false s (i : Int) = s[i]:=by simp [rdOf,hi]
  rw [← this]; exact h
 have hp : 0 < s.count false:=List.count_pos_iff.2 (e ▸ List.getElem_mem hi);rw [List.count_set hi,e];simp;omega
theorem both_ev {N : Nat} {l : List Arc} (hg : NetGood N l) : ∀ (d : Nat) (a : List Int) (s : List Bool) (b : List Int) (t : List Bool) (m : Int),s.count false + t.count false ≤ d → a.length = N → s.length = N → b.length = N → t.length = N → BdA a → BdA b →
  ∃ r,Ev (fun k => spec_l20Both.l0 k a b s t m N l N (back l)) r ∧ Ev (fun k => bothF l (back l) k a s b t m) r:=by
 intro d;have h8:=hg.n8;have hgb:=back_good hg
 induction d with
 | zero =>
  intro a s b t m hd la ls lb lt ha hb;have n1:=next_ev ha (by omega : s.length = a.length) (by omega);have n2:=next_ev hb (by omega : t.length = b.length) (by omega);have hsum:=sum_ev ha hb (by omega : b.length = a.length) (by omega);have hneg : nextV a s < 0:=by
   apply Classical.byContradiction
   intro h;have ho:=nextV_open (show 0 ≤ nextV a s by omega);have hbd:=nextV_bd a s;obtain ⟨i,hi⟩:=Int.eq_ofNat_of_zero_le (show 0 ≤ nextV a s by omega);rw [hi] at ho hbd;have:=cnt_set (show i < s.length by omega) ho.2;omega
  refine ⟨(leV a b,m),Ev.go ?_ (fun k => by rw [spec_l20Both.l0]),Ev.go ?_ (fun k => by rw [bothF])⟩
  ·refine Ev.bind n1 (Ev.bind n2 (Ev.pos hneg (Ev.go ?_ (fun k => by rw [spec_l20Both.j1]))));exact Ev.pos rfl (Ev.bind hsum (Ev.now _))
  ·exact Ev.pos hneg (Ev.now _)
 | succ d ih =>
  intro a s b t m hd la ls lb lt ha hb;have n1:=next_ev ha (by omega : s.length = a.length) (by omega);have n2:=next_ev hb (by omega : t.length = b.length) (by omega);have hsum:=sum_ev ha hb (by omega : b.length = a.length) (by omega)
  by_cases c1 : nextV a s < 0
  ·refine ⟨(leV a b,m),Ev.go ?_ (fun k => by rw [spec_l20Both.l0]),Ev.go ?_ (fun k => by rw [bothF])⟩
   ·refine Ev.bind n1 (Ev.bind n2 (Ev.pos c1 (Ev.go ?_ (fun k => by rw [spec_l20Both.j1]))));exact Ev.pos rfl (Ev.bind hsum (Ev.now _))
   ·exact Ev.pos c1 (Ev.now _)
  by_cases c2 : nextV b t < 0
  ·refine ⟨(leV a b,m),Ev.go ?_ (fun k => by rw [spec_l20Both.l0]),Ev.go ?_ (fun k => by rw [bothF])⟩
   ·refine Ev.bind n1 (Ev.bind n2 (Ev.neg c1 (Ev.pos c2 (Ev.go ?_ (fun k => by rw [spec_l20Both.j1])))));exact Ev.pos rfl (Ev.bind hsum (Ev.now _))
   ·exact Ev.neg c1 (Ev.pos c2 (Ev.now _))
  have o1:=nextV_open (show 0 ≤ nextV a s by omega);have o2:=nextV_open (show 0 ≤ nextV b t by omega);have b1:=nextV_bd a s;have b2:=nextV_bd b t;obtain ⟨i,hi⟩:=Int.eq_ofNat_of_zero_le (show 0 ≤ nextV a s by omega);obtain ⟨j,hj⟩:=Int.eq_ofNat_of_zero_le (show 0 ≤ nextV b t by omega);rw [hi] at o1 b1 n1 c1;rw [hj] at o2 b2 n2 c2;have hai:=ha.at (show i < a.length by omega);have hbj:=hb.at (show j < b.length by omega);have hw : wrap64 (rd a (i : Int) + rd b (j : Int)) = rd a (i : Int) + rd b (j : Int):=w64 (by omega) (by omega)
  by_cases c3 : leV a b ≤ rd a (i : Int) + rd b (j : Int)
  ·refine ⟨(leV a b,m),Ev.go ?_ (fun k => by rw [spec_l20Both.l0]),Ev.go ?_ (fun k => by rw [bothF])⟩
   ·refine Ev.bind n1 (Ev.bind n2 (Ev.neg c1 (Ev.neg c2 (Ev.pos (by omega) (Ev.pos (by omega) (Ev.pos (by omega) (Ev.pos (by omega) (Ev.bind hsum (Ev.go ?_ (fun k => by rw [spec_l20Both.j1]))))))))));rw [hw];exact Ev.pos (decide_eq_true c3) (Ev.bind hsum (Ev.now _))
   ·rw [hi,hj,hw];exact Ev.neg c1 (Ev.neg c2 (Ev.pos c3 (Ev.now _)))
  by_cases c4 : rd a (i : Int) ≤ rd b (j : Int)
  case pos =>
   have hc:=cnt_set (show i < s.length by omega) o1.2;obtain ⟨k1,k2⟩:=look_keep hg (show i < N by omega) l.length 0 a (by omega) la ha;obtain ⟨r,r1,r2⟩:=ih (lkF l (i : Int) l.length 0 a) (s.set i true) b t (wrap64 (m + 1)) (by omega) k1 (by rw [List.length_set]; exact ls) lb lt k2 hb;refine ⟨r,Ev.go ?_ (fun k => by rw [spec_l20Both.l0]),Ev.go ?_ (fun k => by rw [bothF])⟩
   ·refine Ev.bind n1 (Ev.bind n2 (Ev.neg c1 (Ev.neg c2 (Ev.pos (by omega) (Ev.pos (by omega) (Ev.pos (by omega) (Ev.pos (by omega) (Ev.bind hsum (Ev.go ?_ (fun k => by rw [spec_l20Both.j1]))))))))));rw [hw,Int.toNat_natCast];exact Ev.neg (by simpa using c3) (Ev.pos (by omega) (Ev.pos (by omega) (Ev.pos (by omega) (Ev.pos (by omega) (Ev.pos c4 (Ev.pos (by omega) (Ev.bind (look_ev hg (show i < N by omega) la ha) r1)))))))
   ·rw [hi,hj,hw,Int.toNat_natCast];exact Ev.neg c1 (Ev.neg c2 (Ev.neg c3 (Ev.pos c4 r2)))
  have hc:=cnt_set (show j < t.length by omega) o2.2;obtain ⟨k1,k2⟩:=look_keep hgb (show j < N by omega) (back l).length 0 b (by omega) lb hb;obtain ⟨r,r1,r2⟩:=ih a s (lkF (back l) (j : Int) (back l).length 0 b) (t.set j true) (wrap64 (m + 1)) (by omega) la ls k1 (by rw [List.length_set]; exact lt) ha k2;refine ⟨r,Ev.go ?_ (fun k => by rw [spec_l20Both.l0]),Ev.go ?_ (fun k => by rw [bothF])⟩
  ·refine Ev.bind n1 (Ev.bind n2 (Ev.neg c1 (Ev.neg c2 (Ev.pos (by omega) (Ev.pos (by omega) (Ev.pos (by omega) (Ev.pos (by omega) (Ev.bind hsum (Ev.go ?_ (fun k => by rw [spec_l20Both.j1]))))))))));rw [hw,Int.toNat_natCast];exact Ev.neg (by simpa using c3) (Ev.pos (by omega) (Ev.pos (by omega) (Ev.pos (by omega) (Ev.pos (by omega) (Ev.neg c4 (Ev.pos (by omega) (Ev.bind (look_ev hgb (show j < N by omega) lb hb) r1)))))))
  ·rw [hi,hj,hw,Int.toNat_natCast];exact Ev.neg c1 (Ev.neg c2 (Ev.neg c3 (Ev.neg c4 r2)))
theorem okTo_good {N : Nat} {l : List Arc} (hg : NetGood N l) : okTo N l = true:=by
 unfold okTo
 rw [List.all_eq_true];intro x hx;obtain ⟨i,hi,rfl⟩:=List.getElem_of_mem hx;have:=hg.ok i hi;rw [arc_get hi] at this;rw [Bool.and_eq_true,decide_eq_true_eq,decide_eq_true_eq];exact ⟨this.2.1.1,this.2.1.2⟩
theorem bothNet_ev {N : Nat} {l : List Arc} (hg : NetGood N l) {s t : Nat} (hs : s < N) (ht : t < N) : ∃ r,Ev (fun k => spec_l20Both.f k N l (s : Int) (t : Int)) r ∧ Ev (fun k => impl_Net_both.f k N l (s : Int) (t : Int)) r ∧ Ev (fun k => bothF l (back l) k ((List.replicate N 99999).set s 0) (List.replicate N false) ((List.replicate N 99999).set t 0) (List.replicate N false) 0) r:=by
 have h1:=hg.n1;have h8:=hg.n8;have h16:=hg.len;have hb0 : BdA (List.replicate N 99999):=fun v hv => by rw [List.eq_of_mem_replicate hv]; omega
 obtain ⟨r,r1,r2⟩:=both_ev hg (N + N) ((List.replicate N 99999).set s 0) (List.replicate N false) ((List.replicate N 99999).set t 0) (List.replicate N false) 0 (by simp) (by simp) (by simp) (by simp) (by simp) (hb0.set _ (by omega)) (hb0.set _ (by omega));refine ⟨r,?_,?_,r2⟩
 ·unfold spec_l20Both.f
  rw [Int.toNat_natCast];exact Ev.bind (l1Back_ev N l (by omega)) (Ev.bind (open_ev hg hs) (Ev.bind (open_ev hg ht) (Ev.pos (by omega) (Ev.pos (by omega) r1))))
 ·unfold impl_Net_both.f
  rw [Int.toNat_natCast,Int.toNat_natCast,Int.toNat_natCast];refine Ev.pos ?_ (Ev.bind (implBack_ev N l (by omega)) (Ev.pos rfl (Ev.pos (by rw [back_len]; omega) (Ev.pos (okTo_good (back_good hg)) r2))))
  unfold okB
  rw [Int.toNat_natCast,okTo_good hg];simp only [Bool.and_eq_true,decide_eq_true_eq,and_true];omega
theorem bothNear_ev (n : Int) (l : List Arc) (hm : l.length ≤ maxLen) (s t : Int) : ∃ r,Ev (fun k => spec_BothNear.f k n l s t) r ∧ Ev (fun k => impl_BothNear.f k n l s t) r ∧ (r.1 < 0 ∨ ∃ N u v : Nat,n = (N : Int) ∧ s = (u : Int) ∧ t = (v : Int) ∧ NetGood N l ∧ u < N ∧ v < N ∧ Ev (fun k => bothF l (back l) k ((List.replicate N 99999).set u 0) (List.replicate N false) ((List.replicate N 99999).set v 0) (List.replicate N false) 0) r):=by
 unfold spec_BothNear.f impl_BothNear.f
 rw [nodesIn_eq];have h1:=l1Ok_ev n l hm;cases hk : netOkB n l with
 | false =>
  rw [hk] at h1;exact ⟨(-1,-1),Ev.bind h1 (Ev.neg (by simp) (Ev.now _)),Ev.bind0 rfl (Ev.neg (by simp) (Ev.now _)),.inl (by show (-1 : Int) < 0; omega)⟩
 | true =>
  rw [hk] at h1;have hg:=(netOkB_iff n l).1 hk;have g1:=hg.n1;have g8:=hg.n8;have hw : wrap64 (n - 1) = n - 1:=w64 (by omega) (by omega);have hin : ∀ z : Int,spec_l1In.f z 0 (wrap64 (n - 1)) = some (okN n z):=by
   intro z;rw [hw]
   unfold spec_l1In.f okN
   by_cases q : z ≥ 0
   case neg => rw [if_neg q]; congr 1; simp; omega
   rw [if_pos q]; congr 1; simp; omega
  by_cases a1 : okN n s = true
  case neg => exact ⟨(-1,-1),Ev.bind h1 (Ev.pos rfl (Ev.bind0 (hin _) (Ev.neg a1 (Ev.now _)))),Ev.bind0 rfl (Ev.neg (by simp [a1]) (Ev.now _)),.inl (by show (-1 : Int) < 0; omega)⟩
  by_cases a2 : okN n t = true
  case neg => exact ⟨(-1,-1),Ev.bind h1 (Ev.pos rfl (Ev.bind0 (hin _) (Ev.pos a1 (Ev.bind0 (hin _) (Ev.neg a2 (Ev.now _)))))),Ev.bind0 rfl (Ev.neg (by simp [a1,a2]) (Ev.now _)),.inl (by show (-1 : Int) < 0; omega)⟩
  have b1 : 0 ≤ s ∧ s < n:=by unfold okN at a1; simp at a1; omega
  have b2 : 0 ≤ t ∧ t < n:=by unfold okN at a2; simp at a2; omega
  obtain ⟨N,rfl⟩:=Int.eq_ofNat_of_zero_le (show 0 ≤ n by omega);obtain ⟨u,rfl⟩:=Int.eq_ofNat_of_zero_le b1.1;obtain ⟨v,rfl⟩:=Int.eq_ofNat_of_zero_le b2.1;obtain ⟨r,r1,r2,r3⟩:=bothNet_ev hg (show u < N by omega) (show v < N by omega);refine ⟨r,Ev.bind h1 (Ev.pos rfl (Ev.bind0 (hin _) (Ev.pos a1 (Ev.bind0 (hin _) (Ev.pos a2 (Ev.bind r1 (Ev.now _))))))),Ev.bind0 rfl (Ev.pos (by simp [a1,a2]) (Ev.bind r2 (Ev.now _))),.inr ⟨N,u,v,rfl,rfl,rfl,hg,by omega,by omega,r3⟩⟩
end Go.Proofs.Ytljdcinpjnijcaa.Pure
end
section
set_option linter.unusedSimpArgs false
set_option linter.unusedVariables false
set_option linter.unusedVariables false
end
section
set_option linter.unusedSimpArgs false
set_option linter.unusedVariables false
set_option linter.unusedVariables false
end
section
set_option linter.unusedSimpArgs false
set_option linter.unusedVariables false
namespace Go.Proofs.Ytljdcinpjnijcaa.Pure
open Go.RowKit Go.Proofs.Ytljdcinpjnijcaa.Pr Go.Proofs.YtljdcinpjnijcaaW.PrintWords Go.Proofs.YtljdcinpjnijcaaW.PrintLast Go.Proofs.YtljdcinpjnijcaaW.PrintMore
theorem FnExactBothNear : laws_FnExactBothNear.Asked:=by
 intro n l s t hn hl _ _;refine Ev.rounds ?_
 unfold laws_FnExactBothNear.f
 refine Ev.bind0 (szNet_eq n l 1048576 (by omega) (by omega) hl.1) ?_
 by_cases hs : (l.length : Int) ≤ 1048576
 case neg =>
  rw [if_pos (by omega)];exact Ev.pos (by omega) (Ev.now _)
 rw [if_neg (by omega)];have ht:=toNet_ev n l (by omega);have hm : (l.map toA).length ≤ maxLen:=by simpa using hl.1
 obtain ⟨r,r1,r2,_⟩:=bothNear_ev n (l.map toA) hm s t;refine Ev.neg (by omega) (Ev.bind ht (Ev.bind r1 (Ev.bind ht (Ev.bind r2 (Ev.pos rfl ?_)))));refine Ev.go ?_ (fun k => by rw [laws_FnExactBothNear.j0]);exact Ev.neg (by simp) (Ev.bind ht (Ev.bind (eqNet_ev n _ hm) (Ev.pos rfl (Ev.now _))))
end Go.Proofs.Ytljdcinpjnijcaa.Pure
end
section
namespace Go.Proofs.Ytljdcinpjnijcaa.fnExactBothNear
open Go.ChangeShapes Go.WideShapes Go.ChangeAt Go.RowKit Go.Proofs.YtljdcinpjnijcaaW.PrintWords Go.Proofs.Ytljdcinpjnijcaa.Pr
open Go.ChangeMaps (open_string shut_string)
set_option linter.unusedVariables false
set_option linter.unusedSimpArgs false
theorem own : ownKnob Try.prog.godebug = none:=by kernel_rfl
theorem laidOut : laidOutB Try.prog = true:=by kernel_rfl
instance inh112 : Inhabited S112:=⟨z112⟩
theorem opens0 : Opens Try.prog (Kd.pair (Kd.int .i64) (Kd.slice 112 k112)) 38 (fun x => I64 x.1 ∧ (fun l => l.length ≤ maxLen ∧ ∀ x ∈ l,(fun b : S112 => (fun x => I64 x.1 ∧ (fun x => I64 x.1 ∧ (fun x => I64 x.1 ∧ (fun x => I64 x.1 ∧ I64 x.2) x.2) x.2) x.2) (b.f0,b.f1,b.f2,b.f3,b.f4)) x) x.2):=(opens_struct (P:=Try.prog) Try.underlying38 (opensF_cons (P:=Try.prog) (by kernel_rfl) (opens_i64 (P:=Try.prog) Try.underlying3) (opensF_last (P:=Try.prog) (by kernel_rfl) (by kernel_rfl) (opens_slice (P:=Try.prog) Try.underlying36 (by kernel_rfl) (opens_iso (P:=Try.prog) (fun x : S112 => (x.f0,x.f1,x.f2,x.f3,x.f4)) (fun x => (⟨x.1,x.2.1,x.2.2.1,x.2.2.2.1,x.2.2.2.2⟩ : S112)) (fun _ => rfl) (opens_struct (P:=Try.prog) Try.underlying112 (opensF_cons (P:=Try.prog) (by kernel_rfl) (opens_i64 (P:=Try.prog) Try.underlying3) (opensF_cons (P:=Try.prog) (by kernel_rfl) (opens_i64 (P:=Try.prog) Try.underlying3) (opensF_cons (P:=Try.prog) (by kernel_rfl) (opens_i64 (P:=Try.prog) Try.underlying3) (opensF_cons (P:=Try.prog) (by kernel_rfl) (opens_i64 (P:=Try.prog) Try.underlying3) (opensF_last (P:=Try.prog) (by kernel_rfl) (by kernel_rfl) (opens_i64 (P:=Try.prog) Try.underlying3))))))))))))
set_option maxRecDepth 100000 in
set_option maxHeartbeats 2000000 in
theorem lifted (os : Os) (started : os.Started) (H : Type) (enc : TypeId × Value → H) :
  ReturnsInHanded {} Try.checked os 4 .any (Rows.fnExactBothNearSpec.pre6 enc Try.prog Try.f4 Rows.fnExactBothNearRow.domain false) (Rows.fnExactBothNearSpec.post enc Try.prog Try.f4 false true false false):=by
 refine returnsInHanded_of_change_sized (C:=Try.checked) own started (by kernel_rfl) Try.func4
  (ChangeSpec.witness6 (enc:=enc) (C:=Try.checked) false ⟨#[],#[(.agg #[(.int .i64 0),(.slice none 0 0)]),(.int .i64 0),(.int .i64 0)],[]⟩ 8 (by kernel_rfl) (by kernel_rfl) (by kernel_rfl) (by kernel_rfl)) ?_
 intro W base args ds gs before hval0 hW hcnd hsz0 _;have hval : ∀ (j : Nat) t v,Try.f4.params[j]? = some t → args[j]? = some v → Value.okWide Try.prog W .any base t v:=hval0
 have hW':=hW;obtain ⟨p,q,hA0,hV,rfl,hfz,hnd⟩:=hW;have hA : DataW.TrodAll enc Try.prog W 0 (fun _ => true) true Try.f4.params.toList args.toList ds p:=hA0;rw [Try.params4] at hA hval;obtain ⟨v0,vs0,d0,ds0,p0,q0,hargs,rfl,rfl,h0,r0⟩:=trodAll_cons hA;obtain ⟨v1,vs1,d1,ds1,p1,q1,rfl,rfl,rfl,h1,r1⟩:=trodAll_cons r0;obtain ⟨v2,vs2,d2,ds2,p2,q2,rfl,rfl,rfl,h2,r2⟩:=trodAll_cons r1;obtain ⟨rfl,rfl,rfl⟩:=trodAll_nil r2;obtain rfl : args = #[v0,v1,v2]:=by cases args; simp_all
 obtain ⟨rfl,rfl⟩:=trodVars_none hV;have k0:=h0;have lt0 : ∀ x ∈ p0,x.block < W.heap.size:=by obtain ⟨m,hm⟩:=k0; exact DataW.trod_lt m _ _ _ hm
 obtain ⟨cs0,rfl,hsz0⟩:=okWide_struct Try.underlying38 (hval 0 38 v0 rfl rfl);obtain ⟨fuel0,hf0⟩:=h0;obtain ⟨x0,hK0,w0⟩:=opens0 hf0;obtain ⟨u0_0,v0_0,e0_0,ha0_0,hb0_0⟩:=hK0;have e0_1 : u0_0 = [.int .i64 x0.1]:=ha0_0;obtain ⟨A0_2,c0_2,e0_2,hc0_2,hr0_2⟩:=hb0_0;have z0 : cs0 = #[.int .i64 x0.1,.slice A0_2 x0.2.length c0_2]:=by
  apply Array.toList_inj.1
  have ee : (Value.agg cs0).cells.toList = cs0.toList:=rfl;rw [← ee];rw [e0_0];subst e0_1;subst e0_2;rfl
 subst z0;clear e0_2 e0_1 e0_0;obtain ⟨a1,rfl,rfl,rfl,w1⟩:=open_int Try.underlying3 (hval 1 3 v1 rfl rfl) h1;obtain ⟨a2,rfl,rfl,rfl,w2⟩:=open_int Try.underlying3 (hval 2 3 v2 rfl rfl) h2;obtain ⟨k,hh⟩:=Pure.FnExactBothNear (x0.1) x0.2 a1 a2 w0.1 w0.2 (I64_of w1) (I64_of w2);refine (laws_FnExactBothNear.calls k (x0.1) A0_2 c0_2 x0.2 a1 a2 true W hr0_2 hc0_2 hh).mono fun e W' ⟨he,bel0⟩ => ?_
 have bel : Below W.heap.size W W':=bel0;subst he;exact ⟨_,rfl,_,_,_,[],_,[],hW',trodAll_mk1 (shut_bool Try.underlying4 _),(trodAll_cons_mk (Below.trod laidOut (by kernel_rfl) (of_decide_eq_true (by kernel_rfl)) k0 bel lt0) (trodAll_cons_mk (shut_int Try.underlying3 w1) (trodAll_cons_mk (shut_int Try.underlying3 w2) trodAll_mk0))),rfl,bel.frame _,fun h => by cases h⟩
theorem over : Rows.fnExactBothNearRow.holds Try.pinned (OpenSpec.ofChange Rows.fnExactBothNearSpec) :=
 OpenClaim.holds_of_wide 4 Try.f4 rfl rfl rfl rfl rfl rfl rfl ⟨rfl,rfl,rfl,rfl,rfl⟩ rfl rfl rfl rfl rfl (by kernel_rfl) Try.func4 (by kernel_rfl)
  (of_decide_eq_true (by kernel_rfl)) (by unfold Func.isWrapper; first | (rw [if_pos (by decide +kernel)]; kernel_rfl) | (rw [if_neg (by decide +kernel)]; exact ⟨rfl,rfl⟩))
  (fun os started H enc _ => lifted os started H enc)
theorem proved : Rows.FnExactBothNearSaid:=over
#print axioms proved
end Go.Proofs.Ytljdcinpjnijcaa.fnExactBothNear
namespace Go.Proofs.Ytljdcinpjnijcaa
theorem fnExactBothNear_holds : Rows.FnExactBothNearSaid:=fnExactBothNear.proved
end Go.Proofs.Ytljdcinpjnijcaa
end
