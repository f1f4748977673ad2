/- For the statement FnHubArcs of this seat: it is proved here, with no further conditions (part 9 of its texts: words, walks of the functions, the plain law, the row). -/
import Derived.Test.YtljdcinpjnijcaaRows
import Derived.WalkKit
import Derived.ProofKit
import Derived.OpenShut
import Derived.ShutString
import Derived.ChangeOld
import Derived.Below
import Derived.SizedLaws
import Derived.WideShapes
import Derived.Test.YtljdcinpjnijcaaKFnHubArcs7
section
set_option linter.unusedSimpArgs false
set_option linter.unusedVariables false
set_option linter.unusedSectionVars false
namespace Go.Proofs.Ytljdcinpjnijcaa.Pure
open Go.RowKit Go.Proofs.Ytljdcinpjnijcaa.Pr Go.Proofs.YtljdcinpjnijcaaW.PrintWords Go.Proofs.YtljdcinpjnijcaaW.PrintLast Go.Proofs.YtljdcinpjnijcaaW.PrintMore
open Go.Proofs.Ytljdcinpjnijcaa.Sp (G Wk Opt lts put relax sweep rounds start)
theorem lst_put {N a : Nat} (L : Nat → Option Int) (x : Int) : (lst N (fun v => far (L v))).set a x = lst N (fun v => far (put L a x v)):=by
 rw [lst_set]
 apply lst_congr
 intro v _
 unfold upd Sp.put
 split <;> rfl
theorem lst_fill (N i : Nat) (c : Int) (F : Nat → Int) (h : i < N) : (lst N (fun v => if v < i then c else F v)).set i c = lst N (fun v => if v < i + 1 then c else F v):=by
 rw [lst_set]
 apply lst_congr
 intro v _
 unfold upd
 by_cases e : v = i
 case pos => subst e; simp
 rw [if_neg e]
 show (if v < i then c else F v) = _
 by_cases e2 : v < i
 case neg => rw [if_neg e2,if_neg (by omega)]
 rw [if_pos e2,if_pos (by omega)]
theorem start_lst {N s : Nat} (hs : s < N) : (lst N (fun _ => (99999 : Int))).set s 0 = lst N (fun v => far (Sp.start s v)):=by
 rw [lst_set]
 apply lst_congr
 intro v _
 unfold upd Sp.start
 split <;> rfl
def Bw (w : Int) (s : Nat) (L : Nat → Option Int) : Prop:=∀ v x,L v = some x → 0 ≤ x ∧ x ≤ w * (s : Int)
theorem Bw.relax {g : G} {w : Int} {s : Nat} {L : Nat → Option Int} (h : Bw w s L) {i : Nat} (h0 : 0 ≤ g.w i) (h1 : g.w i ≤ w) : Bw w (s + 1) (relax g L i):=by
 intro v x hx;have:=Sp.relax_bd h h0 h1 v x hx;refine ⟨this.1,?_⟩;have e : w * ((s + 1 : Nat) : Int) = w * (s : Int) + w:=by rw [Int.natCast_add,Int.mul_add]; simp
 omega
theorem Bw.sweep {g : G} {w : Int} {s : Nat} {L : Nat → Option Int} (h : Bw w s L) (hw : ∀ i,i < g.m → 0 ≤ g.w i ∧ g.w i ≤ w) : ∀ i,i ≤ g.m → Bw w (s + i) (sweep g L i)
 | 0,_ => h
 | i + 1,hi => (Bw.sweep h hw i (by omega)).relax (hw i (by omega)).1 (hw i (by omega)).2
theorem Bw.rounds {g : G} {w : Int} (hw : ∀ i,i < g.m → 0 ≤ g.w i ∧ g.w i ≤ w) (t : Nat) : ∀ r,Bw w (g.m * r) (rounds g t r)
 | 0 => by
  intro v x hx
  unfold Sp.rounds Sp.start at hx
  split at hx
  ·obtain rfl:=Option.some.inj hx; simp
  ·cases hx
 | r + 1 => by
  have:=(Bw.rounds hw t r).sweep hw g.m (Nat.le_refl _);rw [Nat.mul_succ];exact this
section
variable {N : Nat} {l : List Arc} (hg : NetGood N l)
include hg
theorem back_gr_fr (i : Nat) : (gr N (back l)).fr i = (arc l i).f1.toNat:=by show (arc (back l) i).f0.toNat = _; rw [back_arc']; rfl
theorem back_gr_tw (i : Nat) : (gr N (back l)).tw i = (arc l i).f0.toNat:=by show (arc (back l) i).f1.toNat = _; rw [back_arc']; rfl
theorem back_gr_w (i : Nat) : (gr N (back l)).w i = (arc l i).f2:=by show (arc (back l) i).f2 = _; rw [back_arc']; rfl
theorem back_gr_m : (gr N (back l)).m = l.length:=back_len l
theorem back_bw : ∀ i,i < (gr N (back l)).m → 0 ≤ (gr N (back l)).w i ∧ (gr N (back l)).w i ≤ 99:=by
 intro i hi;rw [back_gr_m hg] at hi;rw [back_gr_w hg];exact (hg.ok i hi).2.2.2.1
theorem l3All_arcs (r : Nat) {M : Nat → Option Int} {s : Nat} (hM : Bw 99 s M) (hs : s ≤ 500) (hr : r < N) {R : List Int} : ∀ (m i : Nat),l.length - i = m → i ≤ l.length →
  Ev (fun k => spec_l3All.l1 k (lst N (fun v => far (sweep (gr N (back l)) M l.length v))) ((r + 1 : Nat) : Int) N l) R →
  Ev (fun k => spec_l3All.l2 k (lst N (fun v => far (sweep (gr N (back l)) M i v))) (r : Int) (i : Int) N l) R:=by
 have h8:=hg.n8;have h16:=hg.len;intro m
 induction m with
 | zero =>
  intro i hd hi h;obtain rfl : i = l.length:=by omega
  refine Ev.go ?_ (fun k => by rw [spec_l3All.l2]);rw [up1 hr (by simp only [maxLen]; omega)];exact Ev.neg (by omega) h
 | succ m ih =>
  intro i hd hi h;have hlt : i < l.length:=by omega
  have hn:=ih (i + 1) (by omega) (by omega) h;clear ih h;have hb:=hM.sweep (back_bw hg) i (by rw [back_gr_m hg]; omega);have hsw : sweep (gr N (back l)) M (i + 1) = relax (gr N (back l)) (sweep (gr N (back l)) M i) i:=rfl;rw [hsw] at hn;generalize sweep (gr N (back l)) M i = L at hn hb;obtain ⟨⟨a1,a2⟩,⟨a3,a4⟩,a5,⟨a6,a7⟩,_⟩:=hg.ok i hlt;have ef:=back_gr_fr hg i;have et:=back_gr_tw hg i;have ew:=back_gr_w hg i;obtain ⟨f,hf⟩:=Int.eq_ofNat_of_zero_le a1;obtain ⟨t,ht⟩:=Int.eq_ofNat_of_zero_le a3;rw [hf,Int.toNat_natCast] at et;rw [ht,Int.toNat_natCast] at ef;have hfN : f < N:=by omega
  have htN : t < N:=by omega
  refine Ev.go ?_ (fun k => by rw [spec_l3All.l2]);rw [rda,up1 hlt (by simp only [maxLen]; omega),hf,ht,lst_rd _ htN,lst_rd _ hfN,lst_len];refine Ev.pos (by omega) (Ev.pos (by omega) (Ev.pos (by omega) (Ev.pos (by omega) ?_)));cases e2 : L f with
  | none =>
   have hre : relax (gr N (back l)) L i = L:=by unfold Sp.relax; rw [if_pos (show (gr N (back l)).use i = true from rfl),et,e2]
   rw [hre] at hn;exact Ev.neg (by show ¬ ((99999 : Int) < 99999); omega) hn
  | some x =>
   have hx:=hb f x e2;have w1 : wrap64 (x + (arc l i).f2) = x + (arc l i).f2:=w64 (by omega) (by omega);have hre : relax (gr N (back l)) L i = if lts (x + (arc l i).f2) (L t) = true then put L t (x + (arc l i).f2) else L:=by
    unfold Sp.relax
    rw [if_pos (show (gr N (back l)).use i = true from rfl),et,e2,ef,ew]
   have elt : (x + (arc l i).f2 < far (L t)) ↔ lts (x + (arc l i).f2) (L t) = true:=by
    cases e3 : L t with
    | none => exact ⟨fun _ => rfl,fun _ => by show x + _ < 99999; omega⟩
    | some y => exact ⟨fun h => decide_eq_true h,fun h => of_decide_eq_true h⟩
   rw [hre] at hn
   show Ev (fun k => if x < 99999 then _ else _) R
   rw [show far (some x) = x from rfl,w1,Int.toNat_natCast,lst_put];clear w1 hre;refine Ev.pos (by omega) (Ev.pos (by omega) (Ev.pos (by omega) ?_));cases c : lts (x + (arc l i).f2) (L t) with
   | true =>
    rw [c,if_pos rfl] at hn;exact Ev.pos (elt.2 c) hn
   | false =>
    rw [c,if_neg (by simp)] at hn;exact Ev.neg (fun h => by rw [elt.1 h] at c; cases c) hn
theorem l3All_rounds {s : Nat} (hs : s < N) : ∀ (m r : Nat),N - r = m → r ≤ N → Ev (fun k => spec_l3All.l1 k (lst N (fun v => far (rounds (gr N (back l)) s r v))) (r : Int) N l) (lst N (fun v => far (dst N (back l) s v))):=by
 have h8:=hg.n8;have h16:=hg.len;intro m
 induction m with
 | zero =>
  intro r hd hr;obtain rfl : r = N:=by omega
  refine Ev.go ?_ (fun k => by rw [spec_l3All.l1]);exact Ev.neg (by omega) (Ev.now _)
 | succ m ih =>
  intro r hd hr;have hlt : r < N:=by omega
  refine Ev.go ?_ (fun k => by rw [spec_l3All.l1]);refine Ev.pos (by omega) ?_;have hb:=Bw.rounds (back_bw hg) s r;rw [back_gr_m hg] at hb;have h16r : l.length * r ≤ 16 * 8:=Nat.mul_le_mul h16 (by omega);refine l3All_arcs hg r hb (by omega) hlt _ 0 rfl (Nat.zero_le _) ?_;have e : sweep (gr N (back l)) (rounds (gr N (back l)) s r) l.length = rounds (gr N (back l)) s (r + 1):=by
   show _ = sweep (gr N (back l)) (rounds (gr N (back l)) s r) (gr N (back l)).m
   rw [back_gr_m hg]
  rw [e];exact ih (r + 1) (by omega) (by omega)
theorem l3All_fill {s : Nat} (hs : s < N) : ∀ (m i : Nat),N - i = m → i ≤ N → Ev (fun k => spec_l3All.l0 k (s : Int) (lst N (fun v => if v < i then 99999 else 0)) (i : Int) N l) (lst N (fun v => far (dst N (back l) s v))):=by
 have h8:=hg.n8;intro m
 induction m with
 | zero =>
  intro i hd hi;obtain rfl : i = N:=by omega
  refine Ev.go ?_ (fun k => by rw [spec_l3All.l0]);have e : lst i (fun v => if v < i then (99999 : Int) else 0) = lst i (fun _ => 99999):=lst_congr (fun v hv => by rw [if_pos hv]);rw [e,lst_len];refine Ev.neg (by omega) (Ev.pos (by omega) (Ev.pos (by omega) ?_));rw [Int.toNat_natCast,start_lst hs];exact (l3All_rounds hg hs _ 0 rfl (Nat.zero_le _))
 | succ m ih =>
  intro i hd hi;have hlt : i < N:=by omega
  refine Ev.go ?_ (fun k => by rw [spec_l3All.l0]);rw [lst_len,Int.toNat_natCast,lst_fill N i 99999 (fun _ => 0) hlt,up1 hlt (by simp only [maxLen]; omega)];exact Ev.pos (by omega) (Ev.pos (by omega) (Ev.pos (by omega) (ih (i + 1) (by omega) (by omega))))
theorem zeros_lst : List.replicate N (0 : Int) = lst N (fun v => if v < 0 then 99999 else 0):=by
 apply List.ext_getElem (by simp [lst])
 intro i h1 h2;simp [lst]
theorem l3All_ev {s : Nat} (hs : s < N) : Ev (fun k => spec_l3All.f k N l (s : Int)) (lst N (fun v => far (dst N (back l) s v))):=by
 have h8:=hg.n8
 unfold spec_l3All.f
 rw [Int.toNat_natCast,zeros_lst hg];exact Ev.pos (by omega) (Ev.pos (by omega) (l3All_fill hg hs _ 0 rfl (Nat.zero_le _)))
end
theorem l1Back_l (n m0 : Int) (l : List Arc) (hm : l.length ≤ 1000) : ∀ (m i : Nat),l.length - i = m → i ≤ l.length → Ev (fun k => spec_l1Back.l0 k (i : Int) n l m0 ((back l).take i)) (m0,back l):=by
 intro m
 induction m with
 | zero =>
  intro i hd hi;refine Ev.go ?_ (fun k => by rw [spec_l1Back.l0]);refine Ev.neg (by omega) (Ev.is ?_);rw [List.take_of_length_le (by rw [back_len]; omega)]
 | succ m ih =>
  intro i hd hi;have hlt : i < l.length:=by omega
  refine Ev.go ?_ (fun k => by rw [spec_l1Back.l0]);have ih:=ih (i + 1) (by omega) (by omega);have hlt2 : i < (back l).length:=by rw [back_len]; exact hlt
  rw [List.take_succ_eq_append_getElem hlt2,← arc_get hlt2,back_arc hlt] at ih;rw [up1 hlt (by simp only [maxLen]; omega),rda];exact Ev.pos (by omega) (Ev.pos (by omega) (Ev.pos (by simp; omega) ih))
theorem l1Back_ev (n : Int) (l : List Arc) (hm : l.length ≤ 1000) : Ev (fun k => spec_l1Back.f k n l) (n,back l):=by
 unfold spec_l1Back.f
 simpa using l1Back_l n n l hm _ 0 rfl (Nat.zero_le _)
def walkW (N : Nat) (l : List Arc) (u t : Nat) : List Int × Bool:=match dst N l t u,stp N l t u with
 | some _,some k => (bestW N l t k.toNat u,true)
 | _,_ => ([],false)
section
variable {N : Nat} {l : List Arc} (hg : NetGood N l) {t : Nat} (ht : t < N)
include hg ht
theorem l3Steps_arcs (r : Nat) {M : Nat → Option Int} {s : Nat} (hM : Bw 1 s M) (hs : s ≤ 500) (hr : r < N) {R : List Int} : ∀ (m i : Nat),l.length - i = m → i ≤ l.length →
  Ev (fun k => spec_l3Steps.l1 k (lst N (fun v => far (dst N l t v))) (lst N (fun v => far (sweep (grS N l (dst N l t)) M l.length v))) ((r + 1 : Nat) : Int) N l) R →
  Ev (fun k => spec_l3Steps.l2 k (lst N (fun v => far (dst N l t v))) (lst N (fun v => far (sweep (grS N l (dst N l t)) M i v))) (r : Int) (i : Int) N l) R:=by
 have h8:=hg.n8;have h16:=hg.len;intro m
 induction m with
 | zero =>
  intro i hd hi h;obtain rfl : i = l.length:=by omega
  refine Ev.go ?_ (fun k => by rw [spec_l3Steps.l2]);rw [up1 hr (by simp only [maxLen]; omega)];exact Ev.neg (by omega) h
 | succ m ih =>
  intro i hd hi h;have hlt : i < l.length:=by omega
  have hn:=ih (i + 1) (by omega) (by omega) h;clear ih h;have hb:=hM.sweep (g:=grS N l (dst N l t)) (fun i _ => ⟨by show (0 : Int) ≤ 1; omega,by show (1 : Int) ≤ 1; omega⟩) i hi;have hsw : sweep (grS N l (dst N l t)) M (i + 1) = relax (grS N l (dst N l t)) (sweep (grS N l (dst N l t)) M i) i:=rfl;rw [hsw] at hn;clear hsw;generalize sweep (grS N l (dst N l t)) M i = L at hn hb;obtain ⟨⟨a1,a2⟩,⟨a3,a4⟩,a5,⟨a6,a7⟩,_⟩:=hg.ok i hlt;have ef : (grS N l (dst N l t)).fr i = (arc l i).f0.toNat:=rfl;have et : (grS N l (dst N l t)).tw i = (arc l i).f1.toNat:=rfl;have ew : (grS N l (dst N l t)).w i = 1:=rfl;have eu : (grS N l (dst N l t)).use i = (match dst N l t (arc l i).f1.toNat with | none => false | some x => decide (dst N l t (arc l i).f0.toNat = some ((arc l i).f2 + x))):=rfl;obtain ⟨f,hf⟩:=Int.eq_ofNat_of_zero_le a1;obtain ⟨g,hgg⟩:=Int.eq_ofNat_of_zero_le a3;rw [hf,Int.toNat_natCast] at ef;rw [hgg,Int.toNat_natCast] at et;rw [hf,hgg,Int.toNat_natCast,Int.toNat_natCast] at eu;have hfN : f < N:=by omega
  have hgN : g < N:=by omega
  refine Ev.go ?_ (fun k => by rw [spec_l3Steps.l2]);rw [rda,up1 hlt (by simp only [maxLen]; omega),hf,hgg,lst_rd _ hfN,lst_rd _ hgN,lst_rd _ hfN,lst_rd _ hgN,lst_len,lst_len];refine Ev.pos (by omega) (Ev.pos (by omega) (Ev.pos (by omega) (Ev.pos (by omega) ?_)));cases e1 : dst N l t g with
  | none =>
   rw [e1] at eu;have hre : relax (grS N l (dst N l t)) L i = L:=by unfold Sp.relax; rw [eu]; rfl
   rw [hre] at hn;exact Ev.neg (by show ¬ ((99999 : Int) < 99999); omega) hn
  | some x =>
   have hx:=dst_bd hg ht hgN e1;rw [e1] at eu;dsimp only at eu;have w1 : wrap64 ((arc l i).f2 + x) = (arc l i).f2 + x:=w64 (by omega) (by omega)
   show Ev (fun k => if x < 99999 then _ else _) R
   rw [show far (some x) = x from rfl,w1];clear w1;refine Ev.pos (by omega) (Ev.pos (by omega) (Ev.pos (by omega) ?_))
   by_cases c : dst N l t f = some ((arc l i).f2 + x)
   case neg =>
    rw [decide_eq_false c] at eu;have hre : relax (grS N l (dst N l t)) L i = L:=by unfold Sp.relax; rw [eu]; rfl
    rw [hre] at hn;refine Ev.neg ?_ hn;intro h
    apply c
    cases e3 : dst N l t f with
    | none => rw [e3] at h; have h : (99999 : Int) = (arc l i).f2 + x:=h; omega
    | some z => rw [e3] at h; have h : z = (arc l i).f2 + x:=h; rw [h]
   rw [decide_eq_true c] at eu;refine Ev.pos (by rw [c]; rfl) (Ev.pos (by omega) (Ev.pos (by omega) ?_));cases e2 : L g with
   | none =>
    have hre : relax (grS N l (dst N l t)) L i = L:=by unfold Sp.relax; rw [if_pos eu,et,e2]
    rw [hre] at hn;have hle : far (L f) ≤ 99999:=by
     cases e3 : L f with
     | none => exact Int.le_refl _
     | some y => have:=hb f y e3; show y ≤ 99999; omega
    have w2 : wrap64 (far none + 1) = 100000:=w64 (by decide) (by decide);rw [w2];clear w2;exact Ev.neg (by omega) hn
   | some y =>
    have hy:=hb g y e2;have w2 : wrap64 (far (some y) + 1) = y + 1:=w64 (by show _ ≤ y + 1; omega) (by show y + 1 ≤ _; omega);have hre : relax (grS N l (dst N l t)) L i = if lts (y + 1) (L f) = true then put L f (y + 1) else L:=by
     unfold Sp.relax
     rw [if_pos eu,et,e2,ef,ew]
    have elt : (y + 1 < far (L f)) ↔ lts (y + 1) (L f) = true:=by
     cases e3 : L f with
     | none => exact ⟨fun _ => rfl,fun _ => by show y + 1 < 99999; omega⟩
     | some z => exact ⟨fun h => decide_eq_true h,fun h => of_decide_eq_true h⟩
    rw [hre] at hn;rw [w2,Int.toNat_natCast,lst_put];clear w2 hre;cases c2 : lts (y + 1) (L f) with
    | true =>
     rw [c2,if_pos rfl] at hn;exact Ev.pos (elt.2 c2) hn
    | false =>
     rw [c2,if_neg (by simp)] at hn;exact Ev.neg (fun h => by rw [elt.1 h] at c2; cases c2) hn
theorem l3Steps_rounds : ∀ (m r : Nat),N - r = m → r ≤ N → Ev (fun k => spec_l3Steps.l1 k (lst N (fun v => far (dst N l t v))) (lst N (fun v => far (rounds (grS N l (dst N l t)) t r v))) (r : Int) N l) (lst N (fun v => far (stp N l t v))):=by
 have h8:=hg.n8;have h16:=hg.len;intro m
 induction m with
 | zero =>
  intro r hd hr;obtain rfl : r = N:=by omega
  refine Ev.go ?_ (fun k => by rw [spec_l3Steps.l1]);exact Ev.neg (by omega) (Ev.now _)
 | succ m ih =>
  intro r hd hr;have hlt : r < N:=by omega
  refine Ev.go ?_ (fun k => by rw [spec_l3Steps.l1]);refine Ev.pos (by omega) ?_;have hb:=Bw.rounds (g:=grS N l (dst N l t)) (w:=1) (fun i _ => ⟨by show (0 : Int) ≤ 1; omega,by show (1 : Int) ≤ 1; omega⟩) t r;have h16r : (grS N l (dst N l t)).m * r ≤ 16 * 8:=Nat.mul_le_mul h16 (by omega);exact l3Steps_arcs hg ht r hb (by omega) hlt _ 0 rfl (Nat.zero_le _) (ih (r + 1) (by omega) (by omega))
theorem l3Steps_fill : ∀ (m i : Nat),N - i = m → i ≤ N → Ev (fun k => spec_l3Steps.l0 k (t : Int) (lst N (fun v => far (dst N l t v))) (lst N (fun v => if v < i then 99999 else 0)) (i : Int) N l) (lst N (fun v => far (stp N l t v))):=by
 have h8:=hg.n8;intro m
 induction m with
 | zero =>
  intro i hd hi;obtain rfl : i = N:=by omega
  refine Ev.go ?_ (fun k => by rw [spec_l3Steps.l0]);have e : lst i (fun v => if v < i then (99999 : Int) else 0) = lst i (fun _ => 99999):=lst_congr (fun v hv => by rw [if_pos hv]);rw [e,lst_len];refine Ev.neg (by omega) (Ev.pos (by omega) (Ev.pos (by omega) ?_));rw [Int.toNat_natCast,start_lst ht];exact (l3Steps_rounds hg ht _ 0 rfl (Nat.zero_le _))
 | succ m ih =>
  intro i hd hi;have hlt : i < N:=by omega
  refine Ev.go ?_ (fun k => by rw [spec_l3Steps.l0]);rw [lst_len,Int.toNat_natCast,lst_fill N i 99999 (fun _ => 0) hlt,up1 hlt (by simp only [maxLen]; omega)];exact Ev.pos (by omega) (Ev.pos (by omega) (Ev.pos (by omega) (ih (i + 1) (by omega) (by omega))))
theorem l3All_back : Ev (fun k => spec_l3All.f k N (back l) (t : Int)) (lst N (fun v => far (dst N l t v))):=by
 have:=l3All_ev (back_good hg) ht;rw [back_back] at this;exact this
theorem l3Steps_ev : Ev (fun k => spec_l3Steps.f k N l (t : Int)) (lst N (fun v => far (stp N l t v))):=by
 have h8:=hg.n8;have h16:=hg.len
 unfold spec_l3Steps.f
 refine Ev.bind (l1Back_ev _ l (by omega)) (Ev.bind (l3All_back hg ht) (Ev.pos (by omega) (Ev.pos (by omega) ?_)));rw [Int.toNat_natCast,zeros_lst hg];exact l3Steps_fill hg ht _ 0 rfl (Nat.zero_le _)
theorem l3Walk_scan {u : Nat} (hu : u < N) {d : Int} (hd : dst N l t u = some d) {k : Nat} (hk : stp N l t u = some (k : Int)) (w : List Int) (hw : w.length ≤ 1000) {i0 : Nat} (hi0 : i0 < l.length) (hp : pA N l t u (arc l i0) = true) (hf : ∀ j,j < i0 → pA N l t u (arc l j) = false) {R : List Int × Bool}
  (h : Ev (fun k => spec_l3Walk.l0 k (t : Int) (lst N (fun v => far (dst N l t v))) (lst N (fun v => far (stp N l t v))) (w ++ [(i0 : Int)]) (arc l i0).f1 N l) R) :
  ∀ (m i : Nat),i0 - i = m → i ≤ i0 → Ev (fun k => spec_l3Walk.l1 k (t : Int) (lst N (fun v => far (dst N l t v))) (lst N (fun v => far (stp N l t v))) w (u : Int) (i : Int) N l) R:=by
 have h8:=hg.n8;have h16:=hg.len;have hdb:=dst_bd hg ht hu hd;have key : ∀ (i : Nat),i < l.length → ∀ (A B : Nat → Option (List Int × Bool)),(pA N l t u (arc l i) = true → Ev A R) → (pA N l t u (arc l i) = false → Ev B R) →
   Ev (fun k => if (arc l i).f0 = (u : Int) then (if 0 ≤ (arc l i).f1 then (if (arc l i).f1 < ((lst N (fun v => far (dst N l t v))).length : Int) then (if (rd (lst N (fun v => far (dst N l t v))) ((arc l i).f1)) < 99999 then (if 0 ≤ (u : Int) then (if (u : Int) < ((lst N (fun v => far (dst N l t v))).length : Int) then (if (rd (lst N (fun v => far (dst N l t v))) (u : Int)) = (wrap64 ((arc l i).f2 + (rd (lst N (fun v => far (dst N l t v))) ((arc l i).f1)))) then (if (u : Int) < ((lst N (fun v => far (stp N l t v))).length : Int) then (if (arc l i).f1 < ((lst N (fun v => far (stp N l t v))).length : Int) then (if (rd (lst N (fun v => far (stp N l t v))) (u : Int)) = (wrap64 ((rd (lst N (fun v => far (stp N l t v))) ((arc l i).f1)) + 1)) then A k else B k) else none) else none) else B k) else none) else none) else B k) else none) else none) else B k) R:=by
  intro i hi A B hA hB;have hok:=hg.ok i hi;obtain ⟨g,hgg⟩:=Int.eq_ofNat_of_zero_le hok.2.1.1;have hgN : g < N:=by omega
  have ep : pA N l t u (arc l i) = (decide ((arc l i).f0 = (u : Int)) && match dst N l t g,stp N l t g with | some x,some k' => decide (dst N l t u = some ((arc l i).f2 + x)) && decide (stp N l t u = some (k' + 1)) | _,_ => false):=by
   unfold pA
   rw [hgg,Int.toNat_natCast]
   all_goals (cases dst N l t g <;> cases stp N l t g <;> rfl)
  by_cases c1 : (arc l i).f0 = (u : Int)
  case neg =>
   rw [decide_eq_false c1,Bool.false_and] at ep;exact Ev.neg c1 (hB ep)
  rw [decide_eq_true c1,Bool.true_and] at ep;refine Ev.pos c1 ?_;rw [hgg,lst_rd _ hgN,lst_rd _ hu,lst_rd _ hgN,lst_rd _ hu,lst_len,lst_len];refine Ev.pos (by omega) (Ev.pos (by omega) ?_);cases e1 : dst N l t g with
  | none =>
   rw [e1] at ep;exact Ev.neg (by show ¬ ((99999 : Int) < 99999); omega) (hB ep)
  | some x =>
   obtain ⟨k',e2,h2⟩:=stp_some hg ht hgN e1;have hx:=dst_bd hg ht hgN e1;rw [e1,e2,hd,hk] at ep;dsimp only at ep;have w1 : wrap64 ((arc l i).f2 + far (some x)) = (arc l i).f2 + x:=w64 (by show _ ≤ (arc l i).f2 + x; omega) (by show (arc l i).f2 + x ≤ _; omega);have w2 : wrap64 (far (some (k' : Int)) + 1) = (k' : Int) + 1:=w64 (by show _ ≤ (k' : Int) + 1; omega) (by show (k' : Int) + 1 ≤ _; omega);rw [e2,hd,hk,w1,w2];clear w1 w2;refine Ev.pos (by show x < 99999; omega) (Ev.pos (by omega) (Ev.pos (by omega) ?_))
   by_cases c2 : d = (arc l i).f2 + x
   case neg =>
    refine Ev.neg (show ¬ far (some d) = _ from c2) (hB ?_);rw [decide_eq_false (fun h => c2 (Option.some.inj h)),Bool.false_and] at ep;exact ep
   refine Ev.pos (show far (some d) = _ from c2) (Ev.pos (by omega) (Ev.pos (by omega) ?_));rw [decide_eq_true (show some d = some ((arc l i).f2 + x) by rw [c2]),Bool.true_and] at ep
   by_cases c3 : (k : Int) = (k' : Int) + 1
   case pos => exact Ev.pos (show far (some (k : Int)) = _ from c3) (hA (ep.trans (decide_eq_true (by rw [c3]))))
   exact Ev.neg (show ¬ far (some (k : Int)) = _ from c3) (hB (ep.trans (decide_eq_false (fun h => c3 (Option.some.inj h)))))
 intro m
 induction m with
 | zero =>
  intro i hd' hi;obtain rfl : i = i0:=by omega
  refine Ev.go ?_ (fun k => by rw [spec_l3Walk.l1]);refine Ev.pos (by omega) (Ev.pos (by omega) ?_);rw [rda];exact key i hi0 _ _ (fun _ => Ev.pos (by omega) h) (fun hc => by rw [hp] at hc; cases hc)
 | succ m ih =>
  intro i hd' hi;have hlt : i < l.length:=by omega
  have ih:=ih (i + 1) (by omega) (by omega);rw [← up1 hlt (by simp only [maxLen]; omega)] at ih;refine Ev.go ?_ (fun k => by rw [spec_l3Walk.l1]);refine Ev.pos (by omega) (Ev.pos (by omega) ?_);rw [rda];exact key i hlt _ _ (fun hc => by rw [hf i (by omega)] at hc; cases hc) (fun _ => ih)
theorem l3Walk_l : ∀ (k u : Nat) (d : Int) (w : List Int),u < N → dst N l t u = some d → stp N l t u = some (k : Int) → w.length + k ≤ 100 → Ev (fun q => spec_l3Walk.l0 q (t : Int) (lst N (fun v => far (dst N l t v))) (lst N (fun v => far (stp N l t v))) w (u : Int) N l) (w ++ bestW N l t k u,true)
 | 0,u,d,w,hu,hd,hk,_ => by
  have hut : u = t:=by
   apply Classical.byContradiction
   intro hne;obtain ⟨i,_,_,_,_,_,h0,_⟩:=nx_ok hg ht hu hne hd hk;omega
  subst hut;refine Ev.go ?_ (fun k => by rw [spec_l3Walk.l0]);exact Ev.pos rfl (Ev.is (by simp [bestW]))
 | k + 1,u,d,w,hu,hd,hk,hw => by
  have hne : u ≠ t:=by
   rintro rfl;rw [stp_t hg ht] at hk;have:=Option.some.inj hk;omega
  obtain ⟨i,e,hi,h1,h2,h3,_,h4,h5,h6⟩:=nx_ok hg ht hu hne hd hk;have hok:=hg.ok i hi;have ih:=l3Walk_l k (arc l i).f1.toNat _ (w ++ [(i : Int)]) h2 h3 h4 (by simp; omega);have e0 : bestW N l t (k + 1) u = (i : Int) :: bestW N l t k (arc l i).f1.toNat:=by
   show nxA N l t u :: bestW N l t k (arc l (nxA N l t u).toNat).f1.toNat = _
   rw [e,Int.toNat_natCast]
  refine Ev.go ?_ (fun k => by rw [spec_l3Walk.l0]);refine Ev.neg (by omega) (l3Walk_scan hg ht hu hd hk w (by omega) hi h5 h6 ?_ _ 0 rfl (Nat.zero_le _));rw [show (((arc l i).f1.toNat : Nat) : Int) = (arc l i).f1 by omega] at ih;exact ih.cast (by rw [e0]; simp)
theorem l3Walk_ev {u : Nat} (hu : u < N) : Ev (fun q => spec_l3Walk.f q N l (u : Int) (t : Int)) (walkW N l u t):=by
 have h8:=hg.n8;have h16:=hg.len
 unfold spec_l3Walk.f walkW
 refine Ev.bind (l1Back_ev _ l (by omega)) (Ev.bind (l3All_back hg ht) (Ev.bind (l3Steps_ev hg ht) (Ev.bind0 rfl ?_)));rw [lst_len,lst_rd _ hu];refine Ev.pos (by omega) (Ev.pos (by omega) ?_);cases e1 : dst N l t u with
 | none => exact Ev.pos (by show (99999 : Int) ≥ 99999; omega) (Ev.now _)
 | some d =>
  obtain ⟨k,e2,h2⟩:=stp_some hg ht hu e1;have hx:=dst_bd hg ht hu e1;rw [e2];dsimp only;rw [Int.toNat_natCast];exact Ev.neg (by show ¬ d ≥ 99999; omega) ((l3Walk_l hg ht k u d [] hu e1 e2 (by simp; omega)).cast (by simp))
end
end Go.Proofs.Ytljdcinpjnijcaa.Pure
end
section
set_option linter.unusedSimpArgs false
set_option linter.unusedVariables false
set_option linter.unusedSectionVars false
namespace Go.Proofs.Ytljdcinpjnijcaa.Pure
open Go.RowKit Go.Proofs.Ytljdcinpjnijcaa.Pr Go.Proofs.YtljdcinpjnijcaaW.PrintWords Go.Proofs.YtljdcinpjnijcaaW.PrintLast Go.Proofs.YtljdcinpjnijcaaW.PrintMore
open Go.Proofs.Ytljdcinpjnijcaa.Sp (G Wk Opt)
def addAt (o : List Int) (i : Int) : List Int:=o.set i.toNat (wrap64 (rd o i + 1))
theorem addAt_len (o : List Int) (i : Int) : (addAt o i).length = o.length:=by simp [addAt]
def addAll (o : List Int) (x : List Int) : List Int:=x.foldl addAt o
theorem addAll_len : ∀ (x o : List Int),(addAll o x).length = o.length
 | [],_ => rfl
 | k :: x,o => (addAll_len x (addAt o k)).trans (addAt_len o k)
def mids (l : List Arc) (x : List Int) : List Int:=(x.drop 1).map fun k => (arc l k.toNat).f0
def rowF (st : List Int → List Int → List Int) (N : Nat) (l : List Arc) (a : Nat) : Nat → List Int → List Int
 | 0,o => o
 | d + 1,o => rowF st N l a d (st o (bestV N l a (N - (d + 1))).1)
def allF (st : List Int → List Int → List Int) (N : Nat) (l : List Arc) : Nat → List Int → List Int
 | 0,o => o
 | d + 1,o => allF st N l d (rowF st N l (N - (d + 1)) N o)
section
variable {N : Nat} {l : List Arc} (hg : NetGood N l)
include hg
theorem bestV_ok {a b : Nat} (ha : a < N) (hb : b < N) : (∀ k ∈ (bestV N l a b).1,0 ≤ k ∧ k < l.length) ∧ (bestV N l a b).1.length ≤ 8 ∧ ((bestV N l a b).2 = false → (bestV N l a b).1 = []) ∧ ((bestV N l a b).2 = true → Chain l (a : Int) (bestV N l a b).1 (b : Int)) ∧ ((bestV N l a b).2 = true → a ≠ b → 1 ≤ (bestV N l a b).1.length) ∧ (a = b → (bestV N l a b).1 = []):=by
 have h8:=hg.n8
 unfold bestV
 cases e1 : dst N l b a with
 | none => simp
 | some d =>
  obtain ⟨k,e2,h2⟩:=stp_some hg hb ha e1;rw [e2];dsimp only;rw [Int.toNat_natCast];obtain ⟨c1,c2,c3⟩:=bestW_ok hg hb k a d ha e1 e2;refine ⟨c1.rng _ _ _,by omega,fun h => (by cases h),fun _ => c1,fun _ hne => ?_,fun hab => ?_⟩
  ·rw [c2];cases k with
   | zero =>
    have e0 : bestW N l b 0 a = []:=rfl;rw [e0] at c1;have : (a : Int) = (b : Int):=c1;omega
   | succ k => omega
  ·subst hab;rw [stp_t hg ha] at e2;have:=Option.some.inj e2;have hk : k = 0:=by omega
   subst hk;rfl
theorem hubRow_ev {st : List Int → List Int → Option (List Int)} {sf : List Int → List Int → List Int} {m : Nat} (hst : ∀ a b,a < N → b < N → a ≠ b → (bestV N l a b).2 = true → ∀ o : List Int,o.length = m → st o (bestV N l a b).1 = some (sf o (bestV N l a b).1)) (hlen : ∀ o x,(sf o x).length = o.length) (hnil : ∀ o,sf o [] = o) {a : Nat} (ha : a < N) :
  ∀ (d : Nat) (o : List Int),d ≤ N → o.length = m → Ev (fun k => hubRow st k N l a d o) (rowF sf N l a d o)
 | 0,o,_,_ => Ev.now _
 | d + 1,o,hd,ho => by
  unfold hubRow rowF
  have hb : N - (d + 1) < N:=by omega
  obtain ⟨_,_,h3,_,_,h6⟩:=bestV_ok hg ha hb;refine Ev.bind (best_ev hg hb ha) ?_;cases h : (bestV N l a (N - (d + 1))).2 with
  | false =>
   rw [h3 h,hnil];exact Ev.neg (by simp) (hubRow_ev hst hlen hnil ha d o (by omega) ho)
  | true =>
   refine Ev.pos rfl ?_
   by_cases hab : a = N - (d + 1)
   case pos =>
    rw [h6 hab,hnil];exact Ev.pos hab (hubRow_ev hst hlen hnil ha d o (by omega) ho)
   exact Ev.neg hab (Ev.bind0 (hst a _ ha hb hab h o ho) (hubRow_ev hst hlen hnil ha d _ (by omega) (by rw [hlen]; exact ho)))
theorem rowF_len {sf : List Int → List Int → List Int} (hlen : ∀ o x,(sf o x).length = o.length) (a : Nat) : ∀ (d : Nat) (o : List Int),(rowF sf N l a d o).length = o.length
 | 0,_ => rfl
 | d + 1,o => by
  unfold rowF
  rw [rowF_len hlen a d,hlen]
theorem hubAll_ev {st : List Int → List Int → Option (List Int)} {sf : List Int → List Int → List Int} {m : Nat} (hst : ∀ a b,a < N → b < N → a ≠ b → (bestV N l a b).2 = true → ∀ o : List Int,o.length = m → st o (bestV N l a b).1 = some (sf o (bestV N l a b).1)) (hlen : ∀ o x,(sf o x).length = o.length) (hnil : ∀ o,sf o [] = o) :
  ∀ (d : Nat) (o : List Int),d ≤ N → o.length = m → Ev (fun k => hubAll st k N l d o) (allF sf N l d o)
 | 0,o,_,_ => Ev.now _
 | d + 1,o,hd,ho => by
  unfold hubAll allF
  exact Ev.bind (hubRow_ev hg hst hlen hnil (show N - (d + 1) < N by omega) N o (Nat.le_refl _) ho) (hubAll_ev hst hlen hnil d _ (by omega) (by rw [rowF_len hg hlen]; exact ho))
end
theorem incL_eq : ∀ (x o : List Int),(∀ k ∈ x,0 ≤ k ∧ k < o.length) → incL o x = some (addAll o x)
 | [],o,_ => rfl
 | k :: x,o,h => by
  have hk:=h k (List.mem_cons_self ..)
  unfold incL
  rw [if_pos hk.1,if_pos hk.2];exact incL_eq x (addAt o k) (fun j hj => by rw [addAt_len]; exact h j (List.mem_cons_of_mem _ hj))
def arcsV (n : Int) (l : List Arc) : List Int:=if netOkB n l = true then allF addAll n.toNat l n.toNat (List.replicate l.length 0) else []
theorem implHubArcs_ev (n : Int) (l : List Arc) : Ev (fun k => impl_HubArcs.f k n l) (arcsV n l):=by
 unfold impl_HubArcs.f arcsV
 cases h : netOkB n l with
 | false => exact Ev.neg (by simp) (Ev.is (by simp))
 | true =>
  have hg:=(netOkB_iff n l).1 h;have h1:=hg.n1;obtain ⟨N,rfl⟩:=Int.eq_ofNat_of_zero_le (show 0 ≤ n by omega);rw [if_pos rfl,Int.toNat_natCast];refine Ev.pos rfl (hubAll_ev hg (m:=l.length) (fun a b ha hb _ _ o ho => ?_) (fun o x => addAll_len x o) (fun o => rfl) N _ (Nat.le_refl _) (by simp));obtain ⟨h2,h3,_⟩:=bestV_ok hg ha hb
  unfold stA
  rw [if_pos (by omega)];exact incL_eq _ _ (fun k hk => by rw [ho]; exact h2 k hk)
section
variable {N : Nat} {l : List Arc} (hg : NetGood N l)
include hg
theorem specHubArcs_l2 {a b : Nat} (hb : b < N) {x : List Int} (hx : x.length ≤ 8) (hr : ∀ k ∈ x,0 ≤ k ∧ k < l.length) {R : List Int} : ∀ (m i : Nat) (o : List Int),x.length - i = m → i ≤ x.length → o.length = l.length →
  Ev (fun k => spec_HubArcs.l1 k (addAll o (x.drop i)) (a : Int) ((b + 1 : Nat) : Int) N l) R → Ev (fun k => spec_HubArcs.l2 k o (a : Int) (b : Int) x (i : Int) N l) R:=by
 have h8:=hg.n8;intro m
 induction m with
 | zero =>
  intro i o hd hi ho h;rw [List.drop_of_length_le (by omega)] at h;refine Ev.go ?_ (fun k => by rw [spec_HubArcs.l2]);rw [up1 hb (by simp only [maxLen]; omega)];exact Ev.neg (by omega) h
 | succ m ih =>
  intro i o hd hi ho h;have hlt : i < x.length:=by omega
  have hk:=hr _ (getD_mem hlt);rw [drop_cons hlt,← nth_get hlt] at h;refine Ev.go ?_ (fun k => by rw [spec_HubArcs.l2]);rw [rdg i,up1 hlt (by simp only [maxLen]; omega)];exact Ev.pos (by omega) (Ev.pos (by omega) (Ev.pos (by omega) (Ev.pos (by omega) (ih (i + 1) (addAt o (nth x i)) (by omega) (by omega) (by rw [addAt_len]; exact ho) h))))
theorem specHubArcs_l1 {a : Nat} (ha : a < N) {R : List Int} : ∀ (d : Nat) (o : List Int),d ≤ N → o.length = l.length →
  Ev (fun k => spec_HubArcs.l0 k (rowF addAll N l a d o) ((a + 1 : Nat) : Int) N l) R → Ev (fun k => spec_HubArcs.l1 k o (a : Int) ((N - d : Nat) : Int) N l) R
 | 0,o,_,ho,h => by
  have h8:=hg.n8;refine Ev.go ?_ (fun k => by rw [spec_HubArcs.l1]);rw [up1 ha (by simp only [maxLen]; omega)];exact Ev.neg (by omega) h
 | d + 1,o,hd,ho,h => by
  have hb : N - (d + 1) < N:=by omega
  obtain ⟨h2,h3,_⟩:=bestV_ok hg ha hb;refine Ev.go ?_ (fun k => by rw [spec_HubArcs.l1]);refine Ev.pos (by omega) (Ev.bind (l3Walk_ev hg hb ha) ?_);refine specHubArcs_l2 hg hb h3 h2 _ 0 o rfl (Nat.zero_le _) ho ?_;rw [List.drop_zero,show N - (d + 1) + 1 = N - d by omega];exact specHubArcs_l1 ha d _ (by omega) (by rw [addAll_len]; exact ho) h
theorem specHubArcs_l0 : ∀ (d : Nat) (o : List Int),d ≤ N → o.length = l.length → Ev (fun k => spec_HubArcs.l0 k o ((N - d : Nat) : Int) N l) (allF addAll N l d o)
 | 0,o,_,ho => by
  refine Ev.go ?_ (fun k => by rw [spec_HubArcs.l0]);exact Ev.neg (by omega) (Ev.now _)
 | d + 1,o,hd,ho => by
  have ha : N - (d + 1) < N:=by omega
  refine Ev.go ?_ (fun k => by rw [spec_HubArcs.l0]);refine Ev.pos (by omega) ?_;have h:=specHubArcs_l1 hg ha (R:=allF addAll N l (d + 1) o) N o (Nat.le_refl _) ho;rw [Nat.sub_self] at h;refine h ?_;rw [show N - (d + 1) + 1 = N - d by omega];exact specHubArcs_l0 d _ (by omega) (by rw [rowF_len hg (fun o x => addAll_len x o)]; exact ho)
end
theorem specHubArcs_ev (n : Int) (l : List Arc) (hm : l.length ≤ maxLen) : Ev (fun k => spec_HubArcs.f k n l) (arcsV n l):=by
 unfold spec_HubArcs.f arcsV
 refine Ev.bind (l1Ok_ev n l hm) ?_;cases h : netOkB n l with
 | false => exact Ev.neg (by simp) (Ev.is (by simp))
 | true =>
  have hg:=(netOkB_iff n l).1 h;have h1:=hg.n1;have h16:=hg.len;obtain ⟨N,rfl⟩:=Int.eq_ofNat_of_zero_le (show 0 ≤ n by omega);rw [if_pos rfl,Int.toNat_natCast,Int.toNat_natCast];refine Ev.pos rfl (Ev.pos (by omega) (Ev.pos (by omega) ?_));have:=specHubArcs_l0 hg N (List.replicate l.length 0) (Nat.le_refl _) (by simp);rw [Nat.sub_self] at this;exact this
theorem incC_eq {l : List Arc} : ∀ (x o : List Int),(∀ k ∈ x,(0 ≤ k ∧ k < l.length) ∧ 0 ≤ (arc l k.toNat).f0 ∧ (arc l k.toNat).f0 < o.length) → incC l o x = some (addAll o (x.map fun k => (arc l k.toNat).f0))
 | [],o,_ => rfl
 | k :: x,o,h => by
  obtain ⟨⟨k0,k1⟩,k2,k3⟩:=h k (List.mem_cons_self ..);have e : rd_T34 l k = arc l k.toNat:=by unfold arc; rw [Int.toNat_of_nonneg k0]
  unfold incC
  rw [if_pos k0,if_pos k1,e,if_pos k2,if_pos k3];exact incC_eq x (addAt o _) (fun j hj => by rw [addAt_len]; exact h j (List.mem_cons_of_mem _ hj))
def cntF (l : List Arc) (o x : List Int) : List Int:=addAll o (mids l x)
def cntV (n : Int) (l : List Arc) : List Int:=if netOkB n l = true then allF (cntF l) n.toNat l n.toNat (List.replicate n.toNat 0) else []
theorem implHubCount_ev (n : Int) (l : List Arc) : Ev (fun k => impl_HubCount.f k n l) (cntV n l):=by
 unfold impl_HubCount.f cntV
 cases h : netOkB n l with
 | false => exact Ev.neg (by simp) (Ev.is (by simp))
 | true =>
  have hg:=(netOkB_iff n l).1 h;have h1:=hg.n1;obtain ⟨N,rfl⟩:=Int.eq_ofNat_of_zero_le (show 0 ≤ n by omega);rw [if_pos rfl,Int.toNat_natCast];refine Ev.pos rfl (hubAll_ev hg (sf:=cntF l) (m:=N) (fun a b ha hb hab hq o ho => ?_) (fun o x => addAll_len _ o) (fun o => rfl) N _ (Nat.le_refl _) (by simp));obtain ⟨h2,h3,_,_,h5,_⟩:=bestV_ok hg ha hb
  unfold stC
  rw [if_pos (by omega),if_pos (h5 hq hab)];refine incC_eq _ _ (fun k hk => ?_);have hk':=h2 k (List.mem_of_mem_drop hk);obtain ⟨q1,q2,_⟩:=hg.ok k.toNat (by omega);exact ⟨hk',q1.1,by rw [ho]; exact q1.2⟩
section
variable {N : Nat} {l : List Arc} (hg : NetGood N l)
include hg
end
def eV (N : Nat) (l : List Arc) (t : Nat) : Nat → Option Int:=Sp.both (dst N l t) (stp N l t)
section
variable {N : Nat} {l : List Arc} (hg : NetGood N l)
include hg
theorem eV_opt {t : Nat} (ht : t < N) : Opt (grE N l) t (eV N l t):=by
 have h8:=hg.n8;exact (dbl N l (dst N l t)).opt (dst_opt hg ht) (stp_opt hg ht) ht (gr_ok hg) (by show N ≤ 1000; omega)
theorem eV_of {t u : Nat} {d k : Int} (hd : dst N l t u = some d) (hk : stp N l t u = some k) : eV N l t u = some (1000 * d + k):=by
 unfold eV Sp.both
 rw [hd,hk]
theorem eV_some {t u : Nat} (ht : t < N) (hu : u < N) {y : Int} (h : eV N l t u = some y) : ∃ (d : Int) (k : Nat),dst N l t u = some d ∧ stp N l t u = some (k : Int) ∧ k < N ∧ y = 1000 * d + k:=by
 unfold eV Sp.both at h
 cases e1 : dst N l t u with
 | none => rw [e1] at h; cases h
 | some d =>
  obtain ⟨k,e2,h2⟩:=stp_some hg ht hu e1;rw [e1,e2] at h;exact ⟨d,k,rfl,e2,h2,(Option.some.inj h).symm⟩
theorem eV_self {t : Nat} (ht : t < N) : eV N l t t = some 0:=eV_of hg (dst_t hg ht) (stp_t hg ht)
theorem eV_tri {a b c : Nat} (ha : a < N) (hb : b < N) (hc : c < N) {x y : Int} (h1 : eV N l b a = some x) (h2 : eV N l c b = some y) : ∃ z,eV N l c a = some z ∧ z ≤ x + y:=by
 obtain ⟨k,w⟩:=(eV_opt hg hb a ha).1 x h1;obtain ⟨j,w2⟩:=(eV_opt hg hc b hb).1 y h2;exact (eV_opt hg hc a ha).2 _ _ (w.trans w2)
theorem eV_arc {i : Nat} (hi : i < l.length) : ∃ z,eV N l (arc l i).f1.toNat (arc l i).f0.toNat = some z ∧ z ≤ 1000 * (arc l i).f2 + 1:=by
 have hok:=hg.ok i hi;exact (eV_opt hg (show (arc l i).f1.toNat < N by omega) (arc l i).f0.toNat (show (arc l i).f0.toNat < N by omega)).2 _ _ (Wk.one (g:=grE N l) hi rfl)
theorem pA_iff {t u : Nat} (ht : t < N) (hu : u < N) {i : Nat} (hi : i < l.length) : pA N l t u (arc l i) = true ↔ (arc l i).f0 = (u : Int) ∧ ∃ y,eV N l t (arc l i).f1.toNat = some y ∧ eV N l t u = some (1000 * (arc l i).f2 + 1 + y):=by
 have h8:=hg.n8;have hok:=hg.ok i hi;have h1N : (arc l i).f1.toNat < N:=by omega
 unfold pA
 rw [Bool.and_eq_true,decide_eq_true_eq];constructor
 ·rintro ⟨h1,h2⟩;refine ⟨h1,?_⟩;cases e1 : dst N l t (arc l i).f1.toNat with
  | none => rw [e1] at h2; cases h2
  | some x =>
   obtain ⟨k,e2,_⟩:=stp_some hg ht h1N e1;rw [e1,e2] at h2;dsimp only at h2;rw [Bool.and_eq_true,decide_eq_true_eq,decide_eq_true_eq] at h2;refine ⟨_,eV_of hg e1 e2,?_⟩;rw [eV_of hg h2.1 h2.2]
   congr 1; omega
 ·rintro ⟨h1,y,h2,h3⟩;refine ⟨h1,?_⟩;obtain ⟨x,k,e1,e2,hk,rfl⟩:=eV_some hg ht h1N h2;obtain ⟨d,m,e3,e4,hm,e5⟩:=eV_some hg ht hu h3;rw [e1,e2];dsimp only;rw [Bool.and_eq_true,decide_eq_true_eq,decide_eq_true_eq,e3,e4];exact ⟨by congr 1; omega,by congr 1; omega⟩
theorem on_best {t : Nat} (ht : t < N) {i : Nat} : ∀ (k u : Nat) (d : Int),u < N → dst N l t u = some d → stp N l t u = some (k : Int) → (i : Int) ∈ bestW N l t k u →
  i < l.length ∧ pA N l t (arc l i).f0.toNat (arc l i) = true ∧ (∀ j,j < i → pA N l t (arc l i).f0.toNat (arc l j) = false) ∧ ∃ k' : Nat,stp N l t (arc l i).f0.toNat = some (k' : Int) ∧ k' ≤ k
 | 0,u,d,hu,hd,hk,h => by simp [bestW] at h
 | k + 1,u,d,hu,hd,hk,h => by
  have hne : u ≠ t:=by
   rintro rfl;rw [stp_t hg ht] at hk;have:=Option.some.inj hk;omega
  obtain ⟨i0,e,hi,h1,h2,h3,_,h4,h5,h6⟩:=nx_ok hg ht hu hne hd hk;have e0 : bestW N l t (k + 1) u = (i0 : Int) :: bestW N l t k (arc l i0).f1.toNat:=by
   show nxA N l t u :: bestW N l t k (arc l (nxA N l t u).toNat).f1.toNat = _
   rw [e,Int.toNat_natCast]
  rw [e0] at h
  rcases List.mem_cons.1 h with q | q
  ·have q : i = i0:=by omega
   subst q;rw [h1,Int.toNat_natCast];exact ⟨hi,h5,h6,k + 1,hk,Nat.le_refl _⟩
  ·obtain ⟨a1,a2,a3,k',a4,a5⟩:=on_best ht k _ _ h2 h3 h4 q;exact ⟨a1,a2,a3,k',a4,by omega⟩
theorem best_nodup {t : Nat} (ht : t < N) : ∀ (k u : Nat) (d : Int),u < N → dst N l t u = some d → stp N l t u = some (k : Int) → (bestW N l t k u).Nodup
 | 0,u,d,hu,hd,hk => List.nodup_nil
 | k + 1,u,d,hu,hd,hk => by
  have hne : u ≠ t:=by
   rintro rfl;rw [stp_t hg ht] at hk;have:=Option.some.inj hk;omega
  obtain ⟨i0,e,hi,h1,h2,h3,_,h4,h5,h6⟩:=nx_ok hg ht hu hne hd hk;have e0 : bestW N l t (k + 1) u = (i0 : Int) :: bestW N l t k (arc l i0).f1.toNat:=by
   show nxA N l t u :: bestW N l t k (arc l (nxA N l t u).toNat).f1.toNat = _
   rw [e,Int.toNat_natCast]
  rw [e0];refine List.nodup_cons.2 ⟨fun q => ?_,best_nodup ht k _ _ h2 h3 h4⟩;obtain ⟨_,_,_,k',a4,a5⟩:=on_best hg ht k _ _ h2 h3 h4 q;rw [h1,Int.toNat_natCast,hk] at a4;have:=Option.some.inj a4;omega
theorem arc_best {t : Nat} (ht : t < N) {i : Nat} (hi : i < l.length) (hp : pA N l t (arc l i).f0.toNat (arc l i) = true) (hf : ∀ j,j < i → pA N l t (arc l i).f0.toNat (arc l j) = false) : bestV N l (arc l i).f0.toNat (arc l i).f1.toNat = ([(i : Int)],true):=by
 have h8:=hg.n8;have hok:=hg.ok i hi;have hu : (arc l i).f0.toNat < N:=by omega
 have hv : (arc l i).f1.toNat < N:=by omega
 obtain ⟨_,y,p1,p2⟩:=(pA_iff hg ht hu hi).1 hp;obtain ⟨z,q1,q2⟩:=eV_arc hg hi;obtain ⟨z2,q3,q4⟩:=eV_tri hg hu hv ht q1 p1;rw [p2] at q3;have q3:=Option.some.inj q3;have hz : z = 1000 * (arc l i).f2 + 1:=by omega
 subst hz;obtain ⟨d,k,e1,e2,hk,e3⟩:=eV_some hg hv hu q1;have hk1 : k = 1:=by omega
 subst hk1;have hne : (arc l i).f0.toNat ≠ (arc l i).f1.toNat:=by
  intro h;rw [← h] at p1;rw [p1] at p2;have:=Option.some.inj p2;omega
 obtain ⟨i0,b1,b2,b3,b4,b5,b6,b7,b8,b9⟩:=nx_ok hg hv hu hne e1 e2;have hpi : pA N l (arc l i).f1.toNat (arc l i).f0.toNat (arc l i) = true:=(pA_iff hg hv hu hi).2 ⟨by omega,0,eV_self hg hv,by rw [q1]; congr 1; omega⟩;have hii : i0 = i:=by
  by_cases c1 : i < i0
  ·rw [b9 i c1] at hpi; cases hpi
  by_cases c2 : i0 < i
  case neg => omega
  exfalso
  have hok0:=hg.ok i0 b2;have hw0 : (arc l i0).f1.toNat < N:=by omega
  obtain ⟨_,z',r1,r2⟩:=(pA_iff hg hv hu b2).1 b8;rw [q1] at r2;have r2:=Option.some.inj r2;obtain ⟨y',r3,r4⟩:=eV_tri hg hw0 hv ht r1 p1;obtain ⟨s,s1,s2⟩:=eV_arc hg b2;rw [b3,Int.toNat_natCast] at s1;obtain ⟨s3,s4,s5⟩:=eV_tri hg hu hw0 ht s1 r3;rw [p2] at s4;have s4:=Option.some.inj s4;have:=hf i0 c2;rw [(pA_iff hg ht hu b2).2 ⟨b3,y',r3,by rw [p2]; congr 1; omega⟩] at this;cases this
 subst hii
 unfold bestV
 rw [e1,e2]
 show (bestW N l (arc l i0).f1.toNat 1 (arc l i0).f0.toNat,true) = _
 show ([nxA N l (arc l i0).f1.toNat (arc l i0).f0.toNat],true) = _
 rw [b1]
theorem on_bestV {a b : Nat} (ha : a < N) (hb : b < N) {i : Nat} (h : (i : Int) ∈ (bestV N l a b).1) : bestV N l (arc l i).f0.toNat (arc l i).f1.toNat = ([(i : Int)],true):=by
 unfold bestV at h
 cases e1 : dst N l b a with
 | none => rw [e1] at h; simp at h
 | some d =>
  obtain ⟨k,e2,h2⟩:=stp_some hg hb ha e1;rw [e1,e2] at h;dsimp only at h;rw [Int.toNat_natCast] at h;obtain ⟨h1,h2,h3,_⟩:=on_best hg hb k a d ha e1 e2 h;exact arc_best hg hb h1 h2 h3
theorem bestV_nodup {a b : Nat} (ha : a < N) (hb : b < N) : (bestV N l a b).1.Nodup:=by
 unfold bestV
 cases e1 : dst N l b a with
 | none => simp
 | some d =>
  obtain ⟨k,e2,h2⟩:=stp_some hg hb ha e1;rw [e2];dsimp only;rw [Int.toNat_natCast];exact best_nodup hg hb k a d ha e1 e2
end
def rowG (f : List Int → List Int) (N : Nat) (l : List Arc) (a : Nat) : Nat → List Int
 | 0 => []
 | d + 1 => f (bestV N l a (N - (d + 1))).1 ++ rowG f N l a d
def allG (f : List Int → List Int) (N : Nat) (l : List Arc) : Nat → List Int
 | 0 => []
 | d + 1 => rowG f N l (N - (d + 1)) N ++ allG f N l d
theorem addAll_app (o x y : List Int) : addAll o (x ++ y) = addAll (addAll o x) y:=List.foldl_append ..
theorem rowF_row (f : List Int → List Int) (N : Nat) (l : List Arc) (a : Nat) : ∀ (d : Nat) (o : List Int),rowF (fun o x => addAll o (f x)) N l a d o = addAll o (rowG f N l a d)
 | 0,o => rfl
 | d + 1,o => by
  unfold rowF rowG
  rw [rowF_row f N l a d,addAll_app]
theorem allF_all (f : List Int → List Int) (N : Nat) (l : List Arc) : ∀ (d : Nat) (o : List Int),allF (fun o x => addAll o (f x)) N l d o = addAll o (allG f N l d)
 | 0,o => rfl
 | d + 1,o => by
  unfold allF allG
  rw [rowF_row,allF_all f N l d,addAll_app]
def Bnd0 (o : List Int) (c : Nat) : Prop:=∀ v ∈ o,0 ≤ v ∧ v ≤ (c : Int)
theorem addAll_get : ∀ (x o : List Int) (c : Nat),(∀ k ∈ x,0 ≤ k ∧ k < o.length) → Bnd0 o c → c + x.length ≤ 100000 → ∀ i,i < o.length → nth (addAll o x) i = nth o i + (x.count (i : Int) : Nat)
 | [],o,c,_,h,_,i,hi => by simp [addAll]
 | k :: x,o,c,hk,h,hc,i,hi => by
  obtain ⟨k0,k1⟩:=hk k (List.mem_cons_self ..);obtain ⟨j,rfl⟩:=Int.eq_ofNat_of_zero_le k0;have hj : j < o.length:=by omega
  have hv:=h _ (List.getElem_mem hj);simp only [List.length_cons] at hc;have e : addAt o (j : Int) = o.set j (o[j] + 1):=by
   unfold addAt
   rw [rdn hj,w64 (by omega) (by omega),Int.toNat_natCast]
  have h' : Bnd0 (addAt o (j : Int)) (c + 1):=by
   intro v hm;rw [e] at hm
   rcases List.mem_or_eq_of_mem_set hm with q | q
   ·have:=h v q;omega
   ·omega
  have s1:=addAll_get x (addAt o (j : Int)) (c + 1) (fun i hi => by rw [addAt_len]; exact hk i (List.mem_cons_of_mem _ hi)) h' (by omega) i (by rw [addAt_len]; exact hi)
  show nth (addAll (addAt o (j : Int)) x) i = _
  rw [s1,List.count_cons,e]
  by_cases hij : j = i
  case pos =>
   subst hij;rw [nth_get (by rw [List.length_set]; exact hi),List.getElem_set_self,nth_get hi];simp;omega
  rw [nth_get (by rw [List.length_set]; exact hi),List.getElem_set_ne hij,nth_get hi,if_neg (by simp; omega)];omega
theorem addAll_zero {m : Nat} {x : List Int} (h : ∀ k ∈ x,0 ≤ k ∧ k < (m : Int)) (hx : x.length ≤ 90000) {i : Nat} (hi : i < m) : nth (addAll (List.replicate m 0) x) i = (x.count (i : Int) : Nat):=by
 rw [addAll_get x _ 0 (by simpa using h) (fun v hv => by rw [List.eq_of_mem_replicate hv]; omega) (by omega) i (by simpa using hi),nth_get (by simpa using hi)];simp
theorem count_le {x : List Int} (h : x.Nodup) (k : Int) : x.count k ≤ 1:=by
 induction x with
 | nil => simp
 | cons a x ih =>
  obtain ⟨h1,h2⟩:=List.nodup_cons.1 h;have:=ih h2;rw [List.count_cons]
  by_cases e : a = k
  case neg =>
   rw [if_neg (by simpa using e)];omega
  subst e;rw [List.count_eq_zero.2 h1];simp
section
variable {N : Nat} {l : List Arc} (hg : NetGood N l)
include hg
theorem rowG_in {f : List Int → List Int} {P : Int → Prop} (hf : ∀ a b,a < N → b < N → ∀ k ∈ f (bestV N l a b).1,P k) {a : Nat} (ha : a < N) : ∀ d,d ≤ N → ∀ k ∈ rowG f N l a d,P k
 | 0,_,k,h => by simp [rowG] at h
 | d + 1,hd,k,h => by
  unfold rowG at h
  rcases List.mem_append.1 h with q | q
  ·exact hf a _ ha (by omega) k q
  ·exact rowG_in hf ha d (by omega) k q
theorem allG_in {f : List Int → List Int} {P : Int → Prop} (hf : ∀ a b,a < N → b < N → ∀ k ∈ f (bestV N l a b).1,P k) : ∀ d,d ≤ N → ∀ k ∈ allG f N l d,P k
 | 0,_,k,h => by simp [allG] at h
 | d + 1,hd,k,h => by
  unfold allG at h
  rcases List.mem_append.1 h with q | q
  ·exact rowG_in hg hf (by omega) N (Nat.le_refl _) k q
  ·exact allG_in hf d (by omega) k q
theorem rowG_of {f : List Int → List Int} {a b : Nat} (hb : b < N) {k : Int} (hk : k ∈ f (bestV N l a b).1) : ∀ d,d ≤ N → N ≤ b + d → k ∈ rowG f N l a d
 | 0,_,h => absurd h (by omega)
 | d + 1,hd,h => by
  unfold rowG
  by_cases e : N - (d + 1) = b
  case pos => rw [e]; exact List.mem_append_left _ hk
  exact List.mem_append_right _ (rowG_of hb hk d (by omega) (by omega))
theorem allG_of {f : List Int → List Int} {a b : Nat} (ha : a < N) (hb : b < N) {k : Int} (hk : k ∈ f (bestV N l a b).1) : ∀ d,d ≤ N → N ≤ a + d → k ∈ allG f N l d
 | 0,_,h => absurd h (by omega)
 | d + 1,hd,h => by
  unfold allG
  by_cases e : N - (d + 1) = a
  case neg => exact List.mem_append_right _ (allG_of ha hb hk d (by omega) (by omega))
  rw [e]; exact List.mem_append_left _ (rowG_of hg hb hk N (Nat.le_refl _) (by omega))
theorem rowG_cnt {f : List Int → List Int} {c : List Int → Nat} {m : Nat} (h0 : c [] = 0) (ha : ∀ x y,c (x ++ y) = c x + c y) (hf : ∀ a b,a < N → b < N → c (f (bestV N l a b).1) ≤ m) {a : Nat} (haN : a < N) : ∀ d,d ≤ N → c (rowG f N l a d) ≤ d * m
 | 0,_ => by simp [rowG,h0]
 | d + 1,hd => by
  unfold rowG
  have:=hf a (N - (d + 1)) haN (by omega);have:=rowG_cnt h0 ha hf haN d (by omega);rw [ha,Nat.succ_mul];omega
theorem allG_cnt {f : List Int → List Int} {c : List Int → Nat} {m : Nat} (h0 : c [] = 0) (ha : ∀ x y,c (x ++ y) = c x + c y) (hf : ∀ a b,a < N → b < N → c (f (bestV N l a b).1) ≤ m) : ∀ d,d ≤ N → c (allG f N l d) ≤ d * (N * m)
 | 0,_ => by simp [allG,h0]
 | d + 1,hd => by
  unfold allG
  have:=rowG_cnt hg h0 ha hf (show N - (d + 1) < N by omega) N (Nat.le_refl _);have:=allG_cnt h0 ha hf d (by omega);rw [ha,Nat.succ_mul];omega
theorem rowG_le {f e : List Int → List Int} (c : List Int → Nat) (ha : ∀ x y,c (x ++ y) = c x + c y) (hf : ∀ a b,a < N → b < N → c (f (bestV N l a b).1) ≤ c (e (bestV N l a b).1)) {a : Nat} (haN : a < N) : ∀ d,d ≤ N → c (rowG f N l a d) ≤ c (rowG e N l a d)
 | 0,_ => Nat.le_refl _
 | d + 1,hd => by
  unfold rowG
  have:=hf a (N - (d + 1)) haN (by omega);have:=rowG_le c ha hf haN d (by omega);rw [ha,ha];omega
theorem allG_le {f e : List Int → List Int} (c : List Int → Nat) (ha : ∀ x y,c (x ++ y) = c x + c y) (hf : ∀ a b,a < N → b < N → c (f (bestV N l a b).1) ≤ c (e (bestV N l a b).1)) : ∀ d,d ≤ N → c (allG f N l d) ≤ c (allG e N l d)
 | 0,_ => Nat.le_refl _
 | d + 1,hd => by
  unfold allG
  have:=rowG_le hg c ha hf (show N - (d + 1) < N by omega) N (Nat.le_refl _);have:=allG_le c ha hf d (by omega);rw [ha,ha];omega
end
def tos (l : List Arc) (x : List Int) : List Int:=x.map fun k => (arc l k.toNat).f1
theorem rowG_tos (N : Nat) (l : List Arc) (a : Nat) : ∀ d,rowG (tos l) N l a d = tos l (rowG id N l a d)
 | 0 => rfl
 | d + 1 => by
  unfold rowG
  rw [rowG_tos N l a d];simp [tos]
theorem allG_tos (N : Nat) (l : List Arc) : ∀ d,allG (tos l) N l d = tos l (allG id N l d)
 | 0 => rfl
 | d + 1 => by
  unfold allG
  rw [allG_tos N l d,rowG_tos];simp [tos]
theorem mids_le {l : List Arc} (k : Int) : ∀ (x : List Int) (u v : Int),Chain l u x v → (mids l x).count k ≤ (tos l x).count k
 | [],_,_,_ => Nat.le_refl _
 | [i],_,_,_ => by simp [mids]
 | i :: j :: x,u,v,h => by
  have ih:=mids_le k (j :: x) _ v h.2;have e1 : mids l (i :: j :: x) = (arc l j.toNat).f0 :: mids l (j :: x):=rfl;have e2 : tos l (i :: j :: x) = (arc l i.toNat).f1 :: tos l (j :: x):=rfl;have e3 : (arc l j.toNat).f0 = (arc l i.toNat).f1:=h.2.1.2.2;rw [e1,e2,e3,List.count_cons,List.count_cons];omega
def low (j : Nat) (x : List Int) : List Int:=x.filter fun q => decide (q < (j : Int))
theorem low_step {l : List Arc} (j : Nat) (k : Int) : ∀ x : List Int,(∀ q ∈ x,0 ≤ q) → (tos l (low (j + 1) x)).count k = (tos l (low j x)).count k + (if (arc l j).f1 = k then x.count (j : Int) else 0)
 | [],_ => by simp [low,tos]
 | q :: x,hx => by
  have ih:=low_step (l:=l) j k x (fun r hr => hx r (List.mem_cons_of_mem _ hr));have h0:=hx q (List.mem_cons_self ..);have e : ∀ y,tos l (q :: y) = (arc l q.toNat).f1 :: tos l y:=fun y => rfl
  by_cases c1 : q < (j : Int)
  case pos =>
   have l1 : low (j + 1) (q :: x) = q :: low (j + 1) x:=List.filter_cons_of_pos (decide_eq_true (by omega));have l2 : low j (q :: x) = q :: low j x:=List.filter_cons_of_pos (decide_eq_true (by omega));have l3 : (q :: x).count (j : Int) = x.count (j : Int):=List.count_cons_of_ne (by omega);rw [l1,l2,l3,e,e,List.count_cons,List.count_cons,ih];omega
  by_cases c2 : q = (j : Int)
  case neg =>
   have l1 : low (j + 1) (q :: x) = low (j + 1) x:=List.filter_cons_of_neg (by simp; omega);have l2 : low j (q :: x) = low j x:=List.filter_cons_of_neg (by simp; omega);have l3 : (q :: x).count (j : Int) = x.count (j : Int):=List.count_cons_of_ne (by omega);rw [l1,l2,l3,ih]
  have l1 : low (j + 1) (q :: x) = q :: low (j + 1) x:=List.filter_cons_of_pos (decide_eq_true (by omega));have l2 : low j (q :: x) = low j x:=List.filter_cons_of_neg (by simp; omega);have l3 : (q :: x).count (j : Int) = x.count (j : Int) + 1:=by rw [c2]; exact List.count_cons_self
  have l4 : (arc l q.toNat).f1 = (arc l j).f1:=by rw [c2,Int.toNat_natCast]
  rw [l1,l2,l3,e,l4,List.count_cons,ih]
  by_cases c3 : (arc l j).f1 = k
  case neg => rw [if_neg c3,if_neg c3,if_neg (by simpa using c3)]
  rw [if_pos c3,if_pos c3,if_pos (by simpa using c3)]; omega
theorem low_all {x : List Int} {m : Nat} (hx : ∀ q ∈ x,q < (m : Int)) : low m x = x:=by
 unfold low
 exact List.filter_eq_self.2 (fun q hq => by simpa using hx q hq)
end Go.Proofs.Ytljdcinpjnijcaa.Pure
end
section
set_option linter.unusedSimpArgs false
set_option linter.unusedVariables false
namespace Go.Proofs.Ytljdcinpjnijcaa.Pure
open Go.RowKit Go.Proofs.Ytljdcinpjnijcaa.Pr Go.Proofs.YtljdcinpjnijcaaW.PrintWords Go.Proofs.YtljdcinpjnijcaaW.PrintLast Go.Proofs.YtljdcinpjnijcaaW.PrintMore
structure Rdr (b : List Int) : Prop where
 len : b.length ≤ 2000
 rng : ∀ i,i < b.length → 0 ≤ nth b i ∧ nth b i ≤ 255
theorem Rdr.rd {b : List Int} (h : Rdr b) (i : Int) : 0 ≤ Go.Proofs.YtljdcinpjnijcaaW.PrintWords.rd b i ∧ Go.Proofs.YtljdcinpjnijcaaW.PrintWords.rd b i ≤ 255:=by
 have e : Go.Proofs.YtljdcinpjnijcaaW.PrintWords.rd b i = nth b i.toNat:=rfl;rw [e]
 by_cases c : i.toNat < b.length
 case pos => exact h.rng _ c
 have c2 : b.length ≤ i.toNat:=by omega
 simp [nth,List.getElem?_eq_none c2]
theorem tm {x a : Int} (hx : 0 ≤ x) (ha : 0 < a) : 0 ≤ Int.tmod x a ∧ Int.tmod x a < a:=by
 rw [Int.tmod_eq_emod_of_nonneg hx];exact ⟨Int.emod_nonneg _ (by omega),Int.emod_lt_of_pos _ ha⟩
theorem td {x a : Int} (hx : 0 ≤ x) (ha : 0 < a) : 0 ≤ Int.tdiv x a ∧ Int.tdiv x a ≤ x:=by
 rw [Int.tdiv_eq_ediv_of_nonneg hx];exact ⟨Int.ediv_nonneg hx (by omega),Int.ediv_le_self _ hx⟩
theorem xor_nn {x y : Int} (hx : 0 ≤ x) (hx' : x < 4294967296) (hy : 0 ≤ y) (hy' : y < 4294967296) : 0 ≤ Go.bits .xor .i64 x y:=by
 obtain ⟨x,rfl⟩:=Int.eq_ofNat_of_zero_le hx;obtain ⟨y,rfl⟩:=Int.eq_ofNat_of_zero_le hy;have h1 : x ^^^ y < 2 ^ 32:=Nat.xor_lt_two_pow (by omega) (by omega);have e : Go.bits .xor .i64 ((x : Nat) : Int) ((y : Nat) : Int) = wrap64 (((BitVec.ofInt 64 ((x : Nat) : Int) ^^^ BitVec.ofInt 64 ((y : Nat) : Int)).toNat : Nat) : Int):=by
  unfold Go.bits
  simp only [i64_w];rfl
 rw [e,BitVec.toNat_xor,BitVec.ofInt_natCast,BitVec.ofInt_natCast,BitVec.toNat_ofNat,BitVec.toNat_ofNat,Nat.mod_eq_of_lt (by omega),Nat.mod_eq_of_lt (by omega),w64 (by omega) (by omega)];omega
theorem pick_pv {b : List Int} (h : Rdr b) {p a : Int} (hp : 0 ≤ p) (hp' : p ≤ 1000000) : Pv (fun k => spec_l30Rd_pick.f k b p a) (fun r => (0 ≤ r.1 ∧ (a < 1 → r.1 = 0) ∧ (1 ≤ a → r.1 < a)) ∧ r.2 = p + 1):=by
 have w1 : wrap64 (p + 1) = p + 1:=w64 (by omega) (by omega);have w2 : wrap64 (p + 1 - 1) = p:=by rw [w64 (by omega) (by omega)]; omega
 unfold spec_l30Rd_pick.f
 refine Pv.ite (fun c => ?_) (fun c => ?_)
 ·refine Pv.go ?_ (fun k => by rw [spec_l30Rd_pick.j0]);exact Pv.pos rfl (Pv.now ⟨⟨Int.le_refl _,fun _ => rfl,fun c2 => by omega⟩,w1⟩)
 ·refine Pv.go ?_ (fun k => by rw [spec_l30Rd_pick.j0]);refine Pv.ite (fun _ => Pv.now ⟨⟨Int.le_refl _,fun _ => rfl,fun c2 => by dsimp only; omega⟩,w1⟩) (fun c0 => ?_);have hb : 0 < (b.length : Int):=by
   have : (b.length : Int) ≠ 0:=by simpa using c0
   omega
  have hb2:=h.len;rw [w1,w2];have fin : ∀ X : Int,0 ≤ X → Pv (fun _ => some (Int.tmod X a,p + 1)) (fun r => (0 ≤ r.1 ∧ (a < 1 → r.1 = 0) ∧ (1 ≤ a → r.1 < a)) ∧ r.2 = p + 1):=by
   intro X hX;have:=tm hX (show 0 < a by omega);exact Pv.now ⟨⟨this.1,fun c2 => absurd c2 c,fun _ => this.2⟩,rfl⟩
  refine Pv.ite (fun c1 => Pv.pos hp (Pv.neg (by omega) ?_)) (fun c1 => ?_)
  ·have:=h.rd p;rw [w64 (n:=Go.Proofs.YtljdcinpjnijcaaW.PrintWords.rd b p) (by omega) (by omega)];exact fin _ (by omega)
  ·have t1:=tm hp hb;have e1 : wrap64 (p * 7) = p * 7:=w64 (by omega) (by omega);have e2 : wrap64 (p * 7 + 3) = p * 7 + 3:=w64 (by omega) (by omega);rw [e1,e2];have t2:=tm (show 0 ≤ p * 7 + 3 by omega) hb;have r1:=h.rd (Int.tmod p b.length);have r2:=h.rd (Int.tmod (p * 7 + 3) b.length);have d1:=td hp hb;refine Pv.neg (by omega) (Pv.pos t1.1 (Pv.pos t1.2 (Pv.pos t2.1 (Pv.pos t2.2 (Pv.neg (by omega) ?_)))));generalize Go.Proofs.YtljdcinpjnijcaaW.PrintWords.rd b (Int.tmod p b.length) = u at r1;generalize Go.Proofs.YtljdcinpjnijcaaW.PrintWords.rd b (Int.tmod (p * 7 + 3) b.length) = v at r2;generalize Int.tdiv p b.length = q at d1;rw [w64 (n:=u) (by omega) (by omega),w64 (n:=v) (by omega) (by omega),w64 (n:=q) (by omega) (by omega),w64 (n:=u * 131) (by omega) (by omega),w64 (n:=v * 1117) (by omega) (by omega),w64 (n:=p * 29) (by omega) (by omega),w64 (n:=q * 53) (by omega) (by omega),w64 (n:=u * 131 + v * 1117) (by omega) (by omega),w64 (n:=u * 131 + v * 1117 + p * 29) (by omega) (by omega),w64 (n:=u * 131 + v * 1117 + p * 29 + q * 53) (by omega) (by omega)];have d2:=td (show 0 ≤ u * 131 + v * 1117 + p * 29 + q * 53 by omega) (show (0 : Int) < 64 by omega);generalize Int.tdiv (u * 131 + v * 1117 + p * 29 + q * 53) 64 = z at d2;rw [w64 (n:=z) (by omega) (by omega)];exact fin _ (xor_nn (by omega) (by omega) (by omega) (by omega))
theorem one_pv {b : List Int} (h : Rdr b) {p : Int} (hp : 0 ≤ p) (hp' : p ≤ 1000000) {l : List Int} (hl : 0 < l.length) : Pv (fun k => spec_l30Rd_one.f k b p l) (fun r => r.1 ∈ l ∧ r.2 = p + 1):=by
 unfold spec_l30Rd_one.f
 refine Pv.bind (pick_pv h hp hp') (fun r ⟨⟨h1,_,h2⟩,h3⟩ => ?_);have h2:=h2 (by omega);refine Pv.pos h1 (Pv.pos h2 (Pv.now ⟨?_,h3⟩));have e : Go.Proofs.YtljdcinpjnijcaaW.PrintWords.rd l r.1 = nth l r.1.toNat:=rfl;dsimp only;rw [e];exact getD_mem (by omega)
theorem u8_range {x : Int} (h : (Lit.int .u8 x).wf = true) : 0 ≤ x ∧ x ≤ 255:=by
 simp only [Lit.wf] at h;have h2 : IntKind.u8.min ≤ x ∧ x ≤ IntKind.u8.max:=by simpa using h
 have e1 : IntKind.u8.min = 0:=by decide
 have e2 : IntKind.u8.max = 255:=by decide
 omega
theorem open_pv {l : List Int} (hl : ∀ x ∈ l,(Lit.int .u8 x).wf = true) : ∃ b,spec_l30Open.f l = some (b,0) ∧ Rdr b:=by
 have key : ∀ m : List Int,m.length ≤ 2000 → (∀ x ∈ m,x ∈ l) → Rdr m:=fun m h1 h2 => ⟨h1,fun i hi => u8_range (hl _ (h2 _ (getD_mem hi)))⟩
 unfold spec_l30Open.f
 by_cases c : (l.length : Int) > 2000
 case neg =>
  rw [if_neg c];exact ⟨_,rfl,key _ (by omega) (fun x hx => hx)⟩
 rw [if_pos c,if_pos (by omega)];exact ⟨_,rfl,key _ (by simp; omega) (fun x hx => List.mem_of_mem_take hx)⟩
def NetSz (p : Int) (r : Int × List Arc × Int) : Prop:=(0 ≤ r.1 ∧ r.1 ≤ 9) ∧ r.2.1.length ≤ 13 ∧ (p ≤ r.2.2 ∧ r.2.2 ≤ p + 100)
theorem net_l {b : List Int} (h : Rdr b) (n : Int) (hn : 1 ≤ n ∧ n ≤ 9) : ∀ (m : Nat) (p : Int) (l : List Arc),0 ≤ p → p + 6 * m ≤ 100000 → m ≤ 13 → l.length ≤ 13 - m → Pv (fun k => spec_l30Net.l0 k (m : Int) b p n l) (fun r => r.1 = n ∧ r.2.1.length ≤ 13 ∧ (p ≤ r.2.2 ∧ r.2.2 ≤ p + 6 * m)):=by
 intro m
 induction m with
 | zero =>
  intro p l hp hp' hm hl;refine Pv.go ?_ (fun k => by rw [spec_l30Net.l0]);exact Pv.neg (by omega) (Pv.now ⟨rfl,by dsimp only; omega,by dsimp only; omega⟩)
 | succ m ih =>
  intro p l hp hp' hm hl;have hw : wrap64 (((m + 1 : Nat) : Int) - 1) = (m : Int):=by rw [w64 (by omega) (by omega)]; omega
  refine Pv.go ?_ (fun k => by rw [spec_l30Net.l0]);rw [hw];refine Pv.pos (by omega) (Pv.bind (pick_pv h hp (by omega)) (fun r1 ⟨a1,e1⟩ => Pv.bind (pick_pv h (p:=r1.2) (by omega) (by omega)) (fun r2 ⟨a2,e2⟩ => Pv.bind (pick_pv h (p:=r2.2) (by omega) (by omega)) (fun r3 ⟨a3,e3⟩ => Pv.bind (one_pv h (p:=r3.2) (by omega) (by omega) (by simp)) (fun r4 ⟨a4,e4⟩ => Pv.bind (one_pv h (p:=r4.2) (by omega) (by omega) (by simp)) (fun r5 ⟨a5,e5⟩ => Pv.bind (pick_pv h (p:=r5.2) (by omega) (by omega)) (fun r6 ⟨a6,e6⟩ => ?_)))))));have step : ∀ x : Arc,Pv (fun k => spec_l30Net.l0 k (m : Int) b r6.2 n (l ++ [x])) (fun r => r.1 = n ∧ r.2.1.length ≤ 13 ∧ (p ≤ r.2.2 ∧ r.2.2 ≤ p + 6 * ((m + 1 : Nat) : Int))):=fun x => (ih r6.2 (l ++ [x]) (by omega) (by omega) (by omega) (by simp; omega)).mono (fun r hr => ⟨hr.1,hr.2.1,by omega,by omega⟩)
  refine Pv.ite (fun _ => Pv.neg (by omega) (Pv.pos (by omega) (step _))) (fun _ => Pv.pos (by omega) (step _))
theorem net_pv {b : List Int} (h : Rdr b) {p : Int} (hp : 0 ≤ p) (hp' : p ≤ 10000) : Pv (fun k => spec_l30Net.f k b p) (fun r => (2 ≤ r.1 ∧ r.1 ≤ 6) ∧ r.2.1.length ≤ 13 ∧ (p ≤ r.2.2 ∧ r.2.2 ≤ p + 90)):=by
 unfold spec_l30Net.f
 refine Pv.bind (pick_pv h hp (by omega)) (fun r1 ⟨a1,e1⟩ => Pv.bind (pick_pv h (p:=r1.2) (by omega) (by omega)) (fun r2 ⟨a2,e2⟩ => ?_));have b1:=a1.2.2 (by omega);have b2:=a2.2.2 (by omega);have hw : wrap64 (2 + r1.1) = 2 + r1.1:=w64 (by omega) (by omega);rw [hw];have:=net_l h (2 + r1.1) (by omega) r2.1.toNat r2.2 [] (by omega) (by omega) (by omega) (by simp);rw [Int.toNat_of_nonneg a2.1] at this;exact this.mono (fun r hr => ⟨⟨by omega,by omega⟩,hr.2.1,by omega,by omega⟩)
theorem anyNet_pv {b : List Int} (h : Rdr b) {p : Int} (hp : 0 ≤ p) (hp' : p ≤ 10000) : Pv (fun k => spec_l30AnyNet.f k b p) (NetSz p):=by
 unfold spec_l30AnyNet.f
 refine Pv.bind (net_pv h hp hp') (fun r0 ⟨a0,l0,e0⟩ => ?_);refine Pv.ite (fun c => ?_) (fun c => Pv.now ⟨by dsimp only; omega,l0,by dsimp only; omega⟩);refine Pv.bind (pick_pv h (p:=r0.2.2) (by omega) (by omega)) (fun r1 ⟨a1,e1⟩ => Pv.bind (pick_pv h (p:=r1.2) (by omega) (by omega)) (fun r2 ⟨a2,e2⟩ => ?_));have b1:=a1.2.2 (by omega);refine Pv.ite (fun c1 => Pv.pos a1.1 (Pv.pos b1 (Pv.bind (one_pv h (p:=r2.2) (by omega) (by omega) (by simp)) (fun r3 ⟨a3,e3⟩ => Pv.now ⟨by dsimp only; omega,by simpa using l0,by dsimp only; omega⟩)))) (fun c1 => ?_);refine Pv.ite (fun c2 => Pv.bind (one_pv h (p:=r2.2) (by omega) (by omega) (by simp)) (fun r3 ⟨a3,e3⟩ => Pv.pos a1.1 (Pv.pos b1 (Pv.now ⟨by dsimp only; omega,by simpa using l0,by dsimp only; omega⟩)))) (fun c2 => ?_);refine Pv.ite (fun c3 => Pv.bind (one_pv h (p:=r2.2) (by omega) (by omega) (by simp)) (fun r3 ⟨a3,e3⟩ => Pv.now ⟨?_,l0,by dsimp only; omega⟩)) (fun c3 => Pv.now ⟨by dsimp only; omega,l0,by dsimp only; omega⟩);simp only [List.mem_cons,List.not_mem_nil,or_false] at a3;dsimp only;omega
theorem wkInts_l (a b : List Int) (hm : a.length ≤ maxLen) (hl : a.length = b.length) : ∀ (m i : Nat),a.length - i = m → i ≤ a.length → Ev (fun k => laws_wkInts.l0 k a b (i : Int)) (decide (a.drop i = b.drop i)):=by
 intro m
 induction m with
 | zero =>
  intro i hd hi;refine Ev.go ?_ (fun k => by rw [laws_wkInts.l0]);refine Ev.neg (by omega) (Ev.is ?_);rw [List.drop_of_length_le (by omega),List.drop_of_length_le (by omega)];rfl
 | succ m ih =>
  intro i hd hi;have hlt : i < a.length:=by omega
  have hlt2 : i < b.length:=by omega
  refine Ev.go ?_ (fun k => by rw [laws_wkInts.l0]);refine Ev.pos (by omega) (Ev.pos (by omega) (Ev.pos (by omega) ?_));rw [rdn hlt,rdn hlt2,up1 hlt hm,drop_cons hlt,drop_cons hlt2]
  by_cases c : a[i] = b[i]
  case neg => exact Ev.neg c (Ev.is (by simp only [List.cons.injEq,c,false_and]; rfl))
  exact Ev.pos c ((ih (i + 1) (by omega) (by omega)).cast (by rw [c]; simp only [List.cons.injEq,true_and]))
theorem wkInts_ev (a b : List Int) (hm : a.length ≤ maxLen) : Ev (fun k => laws_wkInts.f k a b) (decide (a = b)):=by
 unfold laws_wkInts.f
 by_cases c : a.length = b.length
 case pos => exact Ev.pos (by omega) (by simpa using wkInts_l a b hm c _ 0 rfl (Nat.zero_le _))
 exact Ev.neg (by omega) (Ev.is (by rw [eq_comm]; exact decide_eq_false (fun e => c (by rw [e]))))
end Go.Proofs.Ytljdcinpjnijcaa.Pure
end
section
set_option linter.unusedSimpArgs false
set_option linter.unusedVariables false
set_option linter.unusedSectionVars false
namespace Go.Proofs.Ytljdcinpjnijcaa.Pure
open Go.RowKit Go.Proofs.Ytljdcinpjnijcaa.Pr Go.Proofs.YtljdcinpjnijcaaW.PrintWords Go.Proofs.YtljdcinpjnijcaaW.PrintLast Go.Proofs.YtljdcinpjnijcaaW.PrintMore
section
variable {N : Nat} {l : List Arc} (hg : NetGood N l)
include hg
theorem hubF_len : (allG id N l N).length ≤ 512:=by
 have h8:=hg.n8;have:=allG_cnt hg (f:=id) (c:=List.length) (m:=8) rfl (fun x y => List.length_append) (fun a b ha hb => (bestV_ok hg ha hb).2.1) N (Nat.le_refl _);have : N * (N * 8) ≤ 8 * (8 * 8):=Nat.mul_le_mul (by omega) (Nat.mul_le_mul (by omega) (Nat.le_refl _));omega
theorem hubF_in : ∀ k ∈ allG id N l N,0 ≤ k ∧ k < (l.length : Int):=allG_in hg (fun a b ha hb => (bestV_ok hg ha hb).1) N (Nat.le_refl _)
theorem hubM_in : ∀ k ∈ allG (mids l) N l N,0 ≤ k ∧ k < (N : Int):=allG_in hg (fun a b ha hb k hk => by
 unfold mids at hk
 obtain ⟨q,hq,rfl⟩:=List.mem_map.1 hk;have hq':=(bestV_ok hg ha hb).1 q (List.mem_of_mem_drop hq);exact (hg.ok q.toNat (by omega)).1) N (Nat.le_refl _)
theorem hubM_len : (allG (mids l) N l N).length ≤ 512:=by
 have h8:=hg.n8;have:=allG_cnt hg (f:=mids l) (c:=List.length) (m:=8) rfl (fun x y => List.length_append) (fun a b ha hb => by
  have:=(bestV_ok hg ha hb).2.1
  unfold mids
  rw [List.length_map,List.length_drop];omega) N (Nat.le_refl _)
 have : N * (N * 8) ≤ 8 * (8 * 8):=Nat.mul_le_mul (by omega) (Nat.mul_le_mul (by omega) (Nat.le_refl _));omega
theorem hub_sq (i : Nat) : (allG id N l N).count (i : Int) ≤ N * N:=by
 have:=allG_cnt hg (f:=id) (c:=List.count (i : Int)) (m:=1) rfl (fun x y => List.count_append) (fun a b ha hb => count_le (bestV_nodup hg ha hb) _) N (Nat.le_refl _)
 rwa [Nat.mul_one] at this
theorem hub_into (k : Int) : (allG (mids l) N l N).count k ≤ (tos l (allG id N l N)).count k:=by
 rw [← allG_tos];refine allG_le hg (List.count k) (fun x y => List.count_append) (fun a b ha hb => ?_) N (Nat.le_refl _);obtain ⟨_,_,h3,h4,_⟩:=bestV_ok hg ha hb;cases h : (bestV N l a b).2 with
 | false => rw [h3 h]; exact Nat.le_refl _
 | true => exact mids_le k _ _ _ (h4 h)
theorem hub_iff {i : Nat} (hi : i < l.length) : 0 < (allG id N l N).count (i : Int) ↔ (bestV N l (arc l i).f0.toNat (arc l i).f1.toNat).1 = [(i : Int)]:=by
 have hok:=hg.ok i hi;constructor
 ·intro h;have hm:=List.count_pos_iff.1 h;have:=allG_in hg (f:=id) (P:=fun k => k = (i : Int) → (bestV N l (arc l i).f0.toNat (arc l i).f1.toNat).1 = [(i : Int)]) (fun a b ha hb k hk e => by
   subst e;rw [on_bestV hg ha hb hk]) N (Nat.le_refl _) _ hm rfl
  exact this
 ·intro h;refine List.count_pos_iff.2 (allG_of hg (f:=id) (a:=(arc l i).f0.toNat) (b:=(arc l i).f1.toNat) (by omega) (by omega) ?_ N (Nat.le_refl _) (by omega))
  show (i : Int) ∈ (bestV N l (arc l i).f0.toNat (arc l i).f1.toNat).1
  rw [h];simp
theorem hubArcs_l2 {C T : List Int} (hC : C.length = N) (hT : T.length = N) (h : ∀ k,k < N → nth C k ≤ nth T k) : ∀ d i,N - i = d → i ≤ N → Ev (fun k => laws_FnHubArcs.l2 k C T (i : Int) N l) true:=by
 have h8:=hg.n8;intro d
 induction d with
 | zero =>
  intro i hd hi;refine Ev.go ?_ (fun k => by rw [laws_FnHubArcs.l2]);exact Ev.neg (by omega) (Ev.now _)
 | succ d ih =>
  intro i hd hi;have hlt : i < N:=by omega
  have:=h i hlt;refine Ev.go ?_ (fun k => by rw [laws_FnHubArcs.l2]);rw [rdg i,rdg i,up1 hlt (by simp only [maxLen]; omega)];exact Ev.pos (by omega) (Ev.pos (by omega) (Ev.pos (by omega) (Ev.pos (by omega) (Ev.neg (by omega) (ih (i + 1) (by omega) (by omega))))))
theorem hubArcs_l1 {L C : List Int} (hL : L.length = l.length) (hv : ∀ i,i < l.length → nth L i = ((allG id N l N).count (i : Int) : Nat)) (hC : C.length = N) (hc : ∀ k,k < N → nth C k = ((allG (mids l) N l N).count (k : Int) : Nat)) :
  ∀ (d i : Nat) (T : List Int),l.length - i = d → i ≤ l.length → T.length = N → (∀ k,k < N → nth T k = ((tos l (low i (allG id N l N))).count (k : Int) : Nat)) → Ev (fun k => laws_FnHubArcs.l1 k L C T (i : Int) N l) true:=by
 have h8:=hg.n8;have h16:=hg.len;have hF:=hubF_len hg;have hin:=hubF_in hg;intro d
 induction d with
 | zero =>
  intro i T hd hi hT hn;refine Ev.go ?_ (fun k => by rw [laws_FnHubArcs.l1]);refine Ev.neg (by omega) (hubArcs_l2 hg hC hT (fun k hk => ?_) N 0 rfl (Nat.zero_le _));rw [hc k hk,hn k hk,show i = l.length by omega,low_all (fun q hq => (hin q hq).2)];have:=hub_into hg (k : Int);omega
 | succ d ih =>
  intro i T hd hi hT hn;have hlt : i < l.length:=by omega
  have hok:=hg.ok i hlt;obtain ⟨t,ht⟩ : ∃ t : Nat,(arc l i).f1 = (t : Int):=⟨_,(Int.toNat_of_nonneg hok.2.1.1).symm⟩
  have htN : t < N:=by omega
  refine Ev.go ?_ (fun k => by rw [laws_FnHubArcs.l1]);have e:=rda l i;rw [e,ht,rdg i,rdg t,up1 hlt (by simp only [maxLen]; omega),Int.toNat_natCast];refine Ev.pos (by omega) (Ev.pos (by omega) (Ev.pos (by omega) (Ev.pos (by omega) (Ev.pos (by omega) ?_))));have h1 : (tos l (low i (allG id N l N))).count (t : Int) ≤ 512:=by
   refine Nat.le_trans List.count_le_length ?_
   unfold tos low
   rw [List.length_map];exact Nat.le_trans (List.length_filter_le ..) hF
  have h2 : (allG id N l N).count (i : Int) ≤ 512:=Nat.le_trans List.count_le_length hF;rw [hn t htN,hv i hlt,w64 (by omega) (by omega)];refine ih (i + 1) _ (by omega) (by omega) (by rw [List.length_set]; exact hT) (fun k hk => ?_);rw [low_step i (k : Int) _ (fun q hq => (hin q hq).1)]
  by_cases hkt : k = t
  case pos =>
   subst hkt;rw [nth_get (by rw [List.length_set]; omega),List.getElem_set_self,if_pos ht];omega
  rw [nth_get (by rw [List.length_set]; omega),List.getElem_set_ne (fun h => hkt h.symm),← nth_get (by omega),hn k hk,if_neg (by omega)];omega
theorem hubArcs_l0 {L C : List Int} (hL : L.length = l.length) (hv : ∀ i,i < l.length → nth L i = ((allG id N l N).count (i : Int) : Nat)) (hC : C.length = N) (hc : ∀ k,k < N → nth C k = ((allG (mids l) N l N).count (k : Int) : Nat)) :
  ∀ d i,l.length - i = d → i ≤ l.length → Ev (fun k => laws_FnHubArcs.l0 k L C (i : Int) N l) true:=by
 have h8:=hg.n8;have h16:=hg.len;intro d
 induction d with
 | zero =>
  intro i hd hi;refine Ev.go ?_ (fun k => by rw [laws_FnHubArcs.l0]);refine Ev.neg (by omega) (Ev.pos (by omega) (Ev.pos (by omega) ?_));rw [Int.toNat_natCast];refine hubArcs_l1 hg hL hv hC hc _ 0 _ rfl (Nat.zero_le _) (by simp) (fun k hk => ?_);have : low 0 (allG id N l N) = []:=List.filter_eq_nil_iff.2 (fun q hq => by have:=hubF_in hg q hq; simp; omega);rw [this,nth_get (by simpa using hk)];simp [tos]
 | succ d ih =>
  intro i hd hi;have hlt : i < l.length:=by omega
  have hok:=hg.ok i hlt;have hif:=hub_iff hg hlt;have hsq:=hub_sq hg i;have hnn : N * N ≤ 8 * 8:=Nat.mul_le_mul (by omega) (by omega);obtain ⟨u,hu⟩ : ∃ u : Nat,(arc l i).f0 = (u : Int):=⟨_,(Int.toNat_of_nonneg hok.1.1).symm⟩
  obtain ⟨t,ht⟩ : ∃ t : Nat,(arc l i).f1 = (t : Int):=⟨_,(Int.toNat_of_nonneg hok.2.1.1).symm⟩
  have huN : u < N:=by omega
  have htN : t < N:=by omega
  rw [hu,ht,Int.toNat_natCast,Int.toNat_natCast] at hif;have e:=rda l i;refine Ev.go ?_ (fun k => by rw [laws_FnHubArcs.l0]);rw [e,hu,ht,rdg i,hv i hlt,up1 hlt (by simp only [maxLen]; omega),show ((N : Int) * (N : Int)) = ((N * N : Nat) : Int) by simp,w64 (by omega) (by omega)];refine Ev.pos (by omega) (Ev.pos (by omega) (Ev.pos (by omega) (Ev.bind (nearWalk_ev hg huN htN) ?_)));have hgo:=ih (i + 1) (by omega) (by omega);generalize (allG id N l N).count (i : Int) = c at hif hsq ⊢;generalize (bestV N l u t).1 = x at hif ⊢;have fin : Ev (fun k => if ((c : Nat) : Int) > ((N * N : Nat) : Int) then some false else laws_FnHubArcs.l0 k L C ((i + 1 : Nat) : Int) N l) true:=Ev.neg (by omega) hgo
  by_cases h1 : x.length = 1
  case neg =>
   have h2 : ¬ 0 < c:=fun h => h1 (by rw [hif.1 h]; rfl)
   have h3 : decide (((c : Nat) : Int) > 0) = false:=decide_eq_false (by omega);refine Ev.neg (by omega) ?_;rw [h3];exact Ev.neg (by simp) fin
  obtain ⟨j,rfl⟩:=List.length_eq_one_iff.1 h1;have e0 : rd [j] 0 = j:=rfl;refine Ev.pos (by simp) (Ev.pos (by simp) ?_);rw [e0];refine Ev.neg ?_ fin
  by_cases hj : j = (i : Int)
  case pos =>
   have:=hif.2 (by rw [hj]);have h3 : decide (((c : Nat) : Int) > 0) = true:=decide_eq_true (by omega);have h4 : (j == (i : Int)) = true:=by simpa using hj
   rw [h3,h4]; simp
  have h2 : ¬ 0 < c:=fun h => hj (by simpa using hif.1 h)
  have h3 : decide (((c : Nat) : Int) > 0) = false:=decide_eq_false (by omega);have h4 : (j == (i : Int)) = false:=by simpa using hj
  rw [h3,h4]; simp
end
theorem FnHubArcs : laws_FnHubArcs.Asked:=by
 intro b hc;refine Pv.rounds ?_
 unfold laws_FnHubArcs.f
 by_cases hs : (b.length : Int) > 1048576
 ·exact Pv.pos hs (Pv.now rfl)
 refine Pv.neg hs ?_
 unfold spec_DrawHubArcs.f
 obtain ⟨bb,e,hb⟩:=open_pv hc.2;refine Pv.bind (R:=fun r => r.2.length ≤ 13) (Pv.bind0 e (Pv.bind (anyNet_pv hb (p:=0) (by omega) (by omega)) (fun r1 h1 => Pv.now h1.2.1))) (fun r h2 => ?_);obtain ⟨n,l⟩:=r;dsimp only at h2 ⊢;have hm : l.length ≤ maxLen:=by simp only [maxLen]; omega
 cases hk : netOkB n l with
 | false =>
  have hz : arcsV n l = []:=by unfold arcsV; rw [hk]; rfl
  have hi:=implHubArcs_ev n l;have hsv:=specHubArcs_ev n l hm;rw [hz] at hi hsv;have hw:=wkInts_ev [] [] (by simp);refine Pv.of (Ev.bind hi (Ev.bind hsv (Ev.bind hw (Ev.pos (by simp) (Ev.go (r:=true) ?_ (fun k => by rw [laws_FnHubArcs.j0])))))) rfl;exact Ev.pos (by simp) (Ev.bind hsv (Ev.bind hw (Ev.is (by simp))))
 | true =>
  have hg:=(netOkB_iff n l).1 hk;have h1:=hg.n1;have h8:=hg.n8;obtain ⟨N,rfl⟩:=Int.eq_ofNat_of_zero_le (show 0 ≤ n by omega);have eL : arcsV (N : Int) l = addAll (List.replicate l.length 0) (allG id N l N):=by
   unfold arcsV
   rw [hk,if_pos rfl,Int.toNat_natCast];exact allF_all id N l N _
  have eC : cntV (N : Int) l = addAll (List.replicate N 0) (allG (mids l) N l N):=by
   unfold cntV
   rw [hk,if_pos rfl,Int.toNat_natCast];exact allF_all (mids l) N l N _
  have hL : (arcsV (N : Int) l).length = l.length:=by rw [eL,addAll_len]; simp
  have hC : (cntV (N : Int) l).length = N:=by rw [eC,addAll_len]; simp
  have hw:=wkInts_ev (arcsV (N : Int) l) (arcsV (N : Int) l) (by omega);have hF:=hubF_len hg;have hM:=hubM_len hg;refine Pv.of (Ev.bind (implHubArcs_ev N l) (Ev.bind (specHubArcs_ev N l hm) (Ev.bind hw (Ev.pos (by simp) (Ev.go (r:=true) ?_ (fun k => by rw [laws_FnHubArcs.j0])))))) rfl
  by_cases h0 : (arcsV (N : Int) l).length = 0
  case pos => exact Ev.pos (by simp [h0]) (Ev.bind (specHubArcs_ev N l hm) (Ev.bind hw (Ev.is (by simp))))
  refine Ev.neg (by simpa using h0) (Ev.bind (implHubCount_ev N l) ?_);exact hubArcs_l0 hg hL (fun i hi => by rw [eL]; exact addAll_zero (hubF_in hg) (by omega) hi) hC (fun k hk => by rw [eC]; exact addAll_zero (hubM_in hg) (by omega) hk) _ 0 rfl (Nat.zero_le _)
end Go.Proofs.Ytljdcinpjnijcaa.Pure
end
section
namespace Go.Proofs.Ytljdcinpjnijcaa.fnHubArcs
open Go.ChangeShapes Go.WideShapes Go.ChangeAt Go.RowKit Go.Proofs.YtljdcinpjnijcaaW.PrintWords Go.Proofs.Ytljdcinpjnijcaa.Pr
open Go.ChangeMaps (open_string shut_string)
set_option linter.unusedVariables false
set_option linter.unusedSimpArgs false
theorem own : ownKnob Try.prog.godebug = none:=by kernel_rfl
theorem laidOut : laidOutB Try.prog = true:=by kernel_rfl
theorem opens0 : Opens Try.prog (Kd.slice 5 (Kd.int .u8)) 22 (fun l => l.length ≤ maxLen ∧ ∀ x ∈ l,(fun n => (Lit.int .u8 n).wf = true) x):=(opens_slice (P:=Try.prog) Try.underlying22 (by kernel_rfl) (opens_int (P:=Try.prog) (k:=.u8) Try.underlying5))
set_option maxRecDepth 100000 in
set_option maxHeartbeats 2000000 in
theorem lifted (os : Os) (started : os.Started) (H : Type) (enc : TypeId × Value → H) :
  ReturnsInHanded {} Try.checked os 7 .any (Rows.fnHubArcsSpec.pre6 enc Try.prog Try.f7 Rows.fnHubArcsRow.domain false) (Rows.fnHubArcsSpec.post enc Try.prog Try.f7 false true false false):=by
 refine returnsInHanded_of_change_sized (C:=Try.checked) own started (by kernel_rfl) Try.func7
  (ChangeSpec.witness6 (enc:=enc) (C:=Try.checked) false ⟨#[],#[(.slice none 0 0)],[]⟩ 8 (by kernel_rfl) (by kernel_rfl) (by kernel_rfl) (by kernel_rfl)) ?_
 intro W base args ds gs before hval0 hW hcnd hsz0 _;have hval : ∀ (j : Nat) t v,Try.f7.params[j]? = some t → args[j]? = some v → Value.okWide Try.prog W .any base t v:=hval0
 have hW':=hW;obtain ⟨p,q,hA0,hV,rfl,hfz,hnd⟩:=hW;have hA : DataW.TrodAll enc Try.prog W 0 (fun _ => true) true Try.f7.params.toList args.toList ds p:=hA0;rw [Try.params7] at hA hval;obtain ⟨v0,vs0,d0,ds0,p0,q0,hargs,rfl,rfl,h0,r0⟩:=trodAll_cons hA;obtain ⟨rfl,rfl,rfl⟩:=trodAll_nil r0;obtain rfl : args = #[v0]:=by cases args; simp_all
 obtain ⟨rfl,rfl⟩:=trodVars_none hV;have k0:=h0;have lt0 : ∀ x ∈ p0,x.block < W.heap.size:=by obtain ⟨m,hm⟩:=k0; exact DataW.trod_lt m _ _ _ hm
 obtain ⟨a0,len0,cap0,rfl⟩:=okWide_slice Try.underlying22 (hval 0 22 v0 rfl rfl);obtain ⟨fuel0,hf0⟩:=h0;obtain ⟨l0,⟨A0,c0,e0,hc0,hr0⟩,w0⟩:=opens0 hf0;have e0' : (Value.slice a0 len0 cap0) = .slice A0 l0.length c0:=(List.cons.inj e0).1;injection e0' with e0a e0b e0c
 subst e0a e0b e0c;obtain ⟨k,hh⟩:=Pure.FnHubArcs l0 w0;refine (laws_FnHubArcs.calls k _ _ l0 true W hr0 hc0 hh).mono fun e W' ⟨he,bel0⟩ => ?_
 have bel : Below W.heap.size W W':=bel0;subst he;exact ⟨_,rfl,_,_,_,[],_,[],hW',trodAll_mk1 (shut_bool Try.underlying4 _),(trodAll_cons_mk (Below.trod laidOut (by kernel_rfl) (of_decide_eq_true (by kernel_rfl)) k0 bel lt0) trodAll_mk0),rfl,bel.frame _,fun h => by cases h⟩
theorem over : Rows.fnHubArcsRow.holds Try.pinned (OpenSpec.ofChange Rows.fnHubArcsSpec) :=
 OpenClaim.holds_of_wide 7 Try.f7 rfl rfl rfl rfl rfl rfl rfl ⟨rfl,rfl,rfl,rfl,rfl⟩ rfl rfl rfl rfl rfl (by kernel_rfl) Try.func7 (by kernel_rfl)
  (of_decide_eq_true (by kernel_rfl)) (by unfold Func.isWrapper; first | (rw [if_pos (by decide +kernel)]; kernel_rfl) | (rw [if_neg (by decide +kernel)]; exact ⟨rfl,rfl⟩))
  (fun os started H enc _ => lifted os started H enc)
theorem proved : Rows.FnHubArcsSaid:=over
#print axioms proved
end Go.Proofs.Ytljdcinpjnijcaa.fnHubArcs
namespace Go.Proofs.Ytljdcinpjnijcaa
theorem fnHubArcs_holds : Rows.FnHubArcsSaid:=fnHubArcs.proved
end Go.Proofs.Ytljdcinpjnijcaa
end
