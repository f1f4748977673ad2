/- For the statement FnRingWay of this seat: it is proved here, with no further conditions (part 9 of its texts: words, walks of the functions, the plain law, the row). -/
import Derived.Test.YtljdcinpjnijcaaRows
import Derived.WalkKit
import Derived.ProofKit
import Derived.OpenShut
import Derived.ShutString
import Derived.ChangeOld
import Derived.Below
import Derived.SizedLaws
import Derived.WideShapes
import Derived.Test.YtljdcinpjnijcaaKFnRingWay7
section
set_option linter.unusedSimpArgs false
set_option linter.unusedVariables false
set_option linter.unusedSectionVars false
namespace Go.Proofs.Ytljdcinpjnijcaa.Pure
open Go.RowKit Go.Proofs.Ytljdcinpjnijcaa.Pr Go.Proofs.YtljdcinpjnijcaaW.PrintWords Go.Proofs.YtljdcinpjnijcaaW.PrintLast Go.Proofs.YtljdcinpjnijcaaW.PrintMore
open Go.Proofs.Ytljdcinpjnijcaa.Sp (G Wk Opt lts put relax sweep rounds start)
theorem lst_put {N a : Nat} (L : Nat → Option Int) (x : Int) : (lst N (fun v => far (L v))).set a x = lst N (fun v => far (put L a x v)):=by
 rw [lst_set]
 apply lst_congr
 intro v _
 unfold upd Sp.put
 split <;> rfl
theorem lst_fill (N i : Nat) (c : Int) (F : Nat → Int) (h : i < N) : (lst N (fun v => if v < i then c else F v)).set i c = lst N (fun v => if v < i + 1 then c else F v):=by
 rw [lst_set]
 apply lst_congr
 intro v _
 unfold upd
 by_cases e : v = i
 case pos => subst e; simp
 rw [if_neg e]
 show (if v < i then c else F v) = _
 by_cases e2 : v < i
 case neg => rw [if_neg e2,if_neg (by omega)]
 rw [if_pos e2,if_pos (by omega)]
theorem start_lst {N s : Nat} (hs : s < N) : (lst N (fun _ => (99999 : Int))).set s 0 = lst N (fun v => far (Sp.start s v)):=by
 rw [lst_set]
 apply lst_congr
 intro v _
 unfold upd Sp.start
 split <;> rfl
def Bw (w : Int) (s : Nat) (L : Nat → Option Int) : Prop:=∀ v x,L v = some x → 0 ≤ x ∧ x ≤ w * (s : Int)
theorem Bw.relax {g : G} {w : Int} {s : Nat} {L : Nat → Option Int} (h : Bw w s L) {i : Nat} (h0 : 0 ≤ g.w i) (h1 : g.w i ≤ w) : Bw w (s + 1) (relax g L i):=by
 intro v x hx;have:=Sp.relax_bd h h0 h1 v x hx;refine ⟨this.1,?_⟩;have e : w * ((s + 1 : Nat) : Int) = w * (s : Int) + w:=by rw [Int.natCast_add,Int.mul_add]; simp
 omega
theorem Bw.sweep {g : G} {w : Int} {s : Nat} {L : Nat → Option Int} (h : Bw w s L) (hw : ∀ i,i < g.m → 0 ≤ g.w i ∧ g.w i ≤ w) : ∀ i,i ≤ g.m → Bw w (s + i) (sweep g L i)
 | 0,_ => h
 | i + 1,hi => (Bw.sweep h hw i (by omega)).relax (hw i (by omega)).1 (hw i (by omega)).2
theorem Bw.rounds {g : G} {w : Int} (hw : ∀ i,i < g.m → 0 ≤ g.w i ∧ g.w i ≤ w) (t : Nat) : ∀ r,Bw w (g.m * r) (rounds g t r)
 | 0 => by
  intro v x hx
  unfold Sp.rounds Sp.start at hx
  split at hx
  ·obtain rfl:=Option.some.inj hx; simp
  ·cases hx
 | r + 1 => by
  have:=(Bw.rounds hw t r).sweep hw g.m (Nat.le_refl _);rw [Nat.mul_succ];exact this
section
variable {N : Nat} {l : List Arc} (hg : NetGood N l)
include hg
theorem back_gr_fr (i : Nat) : (gr N (back l)).fr i = (arc l i).f1.toNat:=by show (arc (back l) i).f0.toNat = _; rw [back_arc']; rfl
theorem back_gr_tw (i : Nat) : (gr N (back l)).tw i = (arc l i).f0.toNat:=by show (arc (back l) i).f1.toNat = _; rw [back_arc']; rfl
theorem back_gr_w (i : Nat) : (gr N (back l)).w i = (arc l i).f2:=by show (arc (back l) i).f2 = _; rw [back_arc']; rfl
theorem back_gr_m : (gr N (back l)).m = l.length:=back_len l
theorem back_bw : ∀ i,i < (gr N (back l)).m → 0 ≤ (gr N (back l)).w i ∧ (gr N (back l)).w i ≤ 99:=by
 intro i hi;rw [back_gr_m hg] at hi;rw [back_gr_w hg];exact (hg.ok i hi).2.2.2.1
theorem l3All_arcs (r : Nat) {M : Nat → Option Int} {s : Nat} (hM : Bw 99 s M) (hs : s ≤ 500) (hr : r < N) {R : List Int} : ∀ (m i : Nat),l.length - i = m → i ≤ l.length →
  Ev (fun k => spec_l3All.l1 k (lst N (fun v => far (sweep (gr N (back l)) M l.length v))) ((r + 1 : Nat) : Int) N l) R →
  Ev (fun k => spec_l3All.l2 k (lst N (fun v => far (sweep (gr N (back l)) M i v))) (r : Int) (i : Int) N l) R:=by
 have h8:=hg.n8;have h16:=hg.len;intro m
 induction m with
 | zero =>
  intro i hd hi h;obtain rfl : i = l.length:=by omega
  refine Ev.go ?_ (fun k => by rw [spec_l3All.l2]);rw [up1 hr (by simp only [maxLen]; omega)];exact Ev.neg (by omega) h
 | succ m ih =>
  intro i hd hi h;have hlt : i < l.length:=by omega
  have hn:=ih (i + 1) (by omega) (by omega) h;clear ih h;have hb:=hM.sweep (back_bw hg) i (by rw [back_gr_m hg]; omega);have hsw : sweep (gr N (back l)) M (i + 1) = relax (gr N (back l)) (sweep (gr N (back l)) M i) i:=rfl;rw [hsw] at hn;generalize sweep (gr N (back l)) M i = L at hn hb;obtain ⟨⟨a1,a2⟩,⟨a3,a4⟩,a5,⟨a6,a7⟩,_⟩:=hg.ok i hlt;have ef:=back_gr_fr hg i;have et:=back_gr_tw hg i;have ew:=back_gr_w hg i;obtain ⟨f,hf⟩:=Int.eq_ofNat_of_zero_le a1;obtain ⟨t,ht⟩:=Int.eq_ofNat_of_zero_le a3;rw [hf,Int.toNat_natCast] at et;rw [ht,Int.toNat_natCast] at ef;have hfN : f < N:=by omega
  have htN : t < N:=by omega
  refine Ev.go ?_ (fun k => by rw [spec_l3All.l2]);rw [rda,up1 hlt (by simp only [maxLen]; omega),hf,ht,lst_rd _ htN,lst_rd _ hfN,lst_len];refine Ev.pos (by omega) (Ev.pos (by omega) (Ev.pos (by omega) (Ev.pos (by omega) ?_)));cases e2 : L f with
  | none =>
   have hre : relax (gr N (back l)) L i = L:=by unfold Sp.relax; rw [if_pos (show (gr N (back l)).use i = true from rfl),et,e2]
   rw [hre] at hn;exact Ev.neg (by show ¬ ((99999 : Int) < 99999); omega) hn
  | some x =>
   have hx:=hb f x e2;have w1 : wrap64 (x + (arc l i).f2) = x + (arc l i).f2:=w64 (by omega) (by omega);have hre : relax (gr N (back l)) L i = if lts (x + (arc l i).f2) (L t) = true then put L t (x + (arc l i).f2) else L:=by
    unfold Sp.relax
    rw [if_pos (show (gr N (back l)).use i = true from rfl),et,e2,ef,ew]
   have elt : (x + (arc l i).f2 < far (L t)) ↔ lts (x + (arc l i).f2) (L t) = true:=by
    cases e3 : L t with
    | none => exact ⟨fun _ => rfl,fun _ => by show x + _ < 99999; omega⟩
    | some y => exact ⟨fun h => decide_eq_true h,fun h => of_decide_eq_true h⟩
   rw [hre] at hn
   show Ev (fun k => if x < 99999 then _ else _) R
   rw [show far (some x) = x from rfl,w1,Int.toNat_natCast,lst_put];clear w1 hre;refine Ev.pos (by omega) (Ev.pos (by omega) (Ev.pos (by omega) ?_));cases c : lts (x + (arc l i).f2) (L t) with
   | true =>
    rw [c,if_pos rfl] at hn;exact Ev.pos (elt.2 c) hn
   | false =>
    rw [c,if_neg (by simp)] at hn;exact Ev.neg (fun h => by rw [elt.1 h] at c; cases c) hn
theorem l3All_rounds {s : Nat} (hs : s < N) : ∀ (m r : Nat),N - r = m → r ≤ N → Ev (fun k => spec_l3All.l1 k (lst N (fun v => far (rounds (gr N (back l)) s r v))) (r : Int) N l) (lst N (fun v => far (dst N (back l) s v))):=by
 have h8:=hg.n8;have h16:=hg.len;intro m
 induction m with
 | zero =>
  intro r hd hr;obtain rfl : r = N:=by omega
  refine Ev.go ?_ (fun k => by rw [spec_l3All.l1]);exact Ev.neg (by omega) (Ev.now _)
 | succ m ih =>
  intro r hd hr;have hlt : r < N:=by omega
  refine Ev.go ?_ (fun k => by rw [spec_l3All.l1]);refine Ev.pos (by omega) ?_;have hb:=Bw.rounds (back_bw hg) s r;rw [back_gr_m hg] at hb;have h16r : l.length * r ≤ 16 * 8:=Nat.mul_le_mul h16 (by omega);refine l3All_arcs hg r hb (by omega) hlt _ 0 rfl (Nat.zero_le _) ?_;have e : sweep (gr N (back l)) (rounds (gr N (back l)) s r) l.length = rounds (gr N (back l)) s (r + 1):=by
   show _ = sweep (gr N (back l)) (rounds (gr N (back l)) s r) (gr N (back l)).m
   rw [back_gr_m hg]
  rw [e];exact ih (r + 1) (by omega) (by omega)
theorem l3All_fill {s : Nat} (hs : s < N) : ∀ (m i : Nat),N - i = m → i ≤ N → Ev (fun k => spec_l3All.l0 k (s : Int) (lst N (fun v => if v < i then 99999 else 0)) (i : Int) N l) (lst N (fun v => far (dst N (back l) s v))):=by
 have h8:=hg.n8;intro m
 induction m with
 | zero =>
  intro i hd hi;obtain rfl : i = N:=by omega
  refine Ev.go ?_ (fun k => by rw [spec_l3All.l0]);have e : lst i (fun v => if v < i then (99999 : Int) else 0) = lst i (fun _ => 99999):=lst_congr (fun v hv => by rw [if_pos hv]);rw [e,lst_len];refine Ev.neg (by omega) (Ev.pos (by omega) (Ev.pos (by omega) ?_));rw [Int.toNat_natCast,start_lst hs];exact (l3All_rounds hg hs _ 0 rfl (Nat.zero_le _))
 | succ m ih =>
  intro i hd hi;have hlt : i < N:=by omega
  refine Ev.go ?_ (fun k => by rw [spec_l3All.l0]);rw [lst_len,Int.toNat_natCast,lst_fill N i 99999 (fun _ => 0) hlt,up1 hlt (by simp only [maxLen]; omega)];exact Ev.pos (by omega) (Ev.pos (by omega) (Ev.pos (by omega) (ih (i + 1) (by omega) (by omega))))
theorem zeros_lst : List.replicate N (0 : Int) = lst N (fun v => if v < 0 then 99999 else 0):=by
 apply List.ext_getElem (by simp [lst])
 intro i h1 h2;simp [lst]
theorem l3All_ev {s : Nat} (hs : s < N) : Ev (fun k => spec_l3All.f k N l (s : Int)) (lst N (fun v => far (dst N (back l) s v))):=by
 have h8:=hg.n8
 unfold spec_l3All.f
 rw [Int.toNat_natCast,zeros_lst hg];exact Ev.pos (by omega) (Ev.pos (by omega) (l3All_fill hg hs _ 0 rfl (Nat.zero_le _)))
end
theorem l1Back_l (n m0 : Int) (l : List Arc) (hm : l.length ≤ 1000) : ∀ (m i : Nat),l.length - i = m → i ≤ l.length → Ev (fun k => spec_l1Back.l0 k (i : Int) n l m0 ((back l).take i)) (m0,back l):=by
 intro m
 induction m with
 | zero =>
  intro i hd hi;refine Ev.go ?_ (fun k => by rw [spec_l1Back.l0]);refine Ev.neg (by omega) (Ev.is ?_);rw [List.take_of_length_le (by rw [back_len]; omega)]
 | succ m ih =>
  intro i hd hi;have hlt : i < l.length:=by omega
  refine Ev.go ?_ (fun k => by rw [spec_l1Back.l0]);have ih:=ih (i + 1) (by omega) (by omega);have hlt2 : i < (back l).length:=by rw [back_len]; exact hlt
  rw [List.take_succ_eq_append_getElem hlt2,← arc_get hlt2,back_arc hlt] at ih;rw [up1 hlt (by simp only [maxLen]; omega),rda];exact Ev.pos (by omega) (Ev.pos (by omega) (Ev.pos (by simp; omega) ih))
theorem l1Back_ev (n : Int) (l : List Arc) (hm : l.length ≤ 1000) : Ev (fun k => spec_l1Back.f k n l) (n,back l):=by
 unfold spec_l1Back.f
 simpa using l1Back_l n n l hm _ 0 rfl (Nat.zero_le _)
def walkW (N : Nat) (l : List Arc) (u t : Nat) : List Int × Bool:=match dst N l t u,stp N l t u with
 | some _,some k => (bestW N l t k.toNat u,true)
 | _,_ => ([],false)
section
variable {N : Nat} {l : List Arc} (hg : NetGood N l) {t : Nat} (ht : t < N)
include hg ht
theorem l3Steps_arcs (r : Nat) {M : Nat → Option Int} {s : Nat} (hM : Bw 1 s M) (hs : s ≤ 500) (hr : r < N) {R : List Int} : ∀ (m i : Nat),l.length - i = m → i ≤ l.length →
  Ev (fun k => spec_l3Steps.l1 k (lst N (fun v => far (dst N l t v))) (lst N (fun v => far (sweep (grS N l (dst N l t)) M l.length v))) ((r + 1 : Nat) : Int) N l) R →
  Ev (fun k => spec_l3Steps.l2 k (lst N (fun v => far (dst N l t v))) (lst N (fun v => far (sweep (grS N l (dst N l t)) M i v))) (r : Int) (i : Int) N l) R:=by
 have h8:=hg.n8;have h16:=hg.len;intro m
 induction m with
 | zero =>
  intro i hd hi h;obtain rfl : i = l.length:=by omega
  refine Ev.go ?_ (fun k => by rw [spec_l3Steps.l2]);rw [up1 hr (by simp only [maxLen]; omega)];exact Ev.neg (by omega) h
 | succ m ih =>
  intro i hd hi h;have hlt : i < l.length:=by omega
  have hn:=ih (i + 1) (by omega) (by omega) h;clear ih h;have hb:=hM.sweep (g:=grS N l (dst N l t)) (fun i _ => ⟨by show (0 : Int) ≤ 1; omega,by show (1 : Int) ≤ 1; omega⟩) i hi;have hsw : sweep (grS N l (dst N l t)) M (i + 1) = relax (grS N l (dst N l t)) (sweep (grS N l (dst N l t)) M i) i:=rfl;rw [hsw] at hn;clear hsw;generalize sweep (grS N l (dst N l t)) M i = L at hn hb;obtain ⟨⟨a1,a2⟩,⟨a3,a4⟩,a5,⟨a6,a7⟩,_⟩:=hg.ok i hlt;have ef : (grS N l (dst N l t)).fr i = (arc l i).f0.toNat:=rfl;have et : (grS N l (dst N l t)).tw i = (arc l i).f1.toNat:=rfl;have ew : (grS N l (dst N l t)).w i = 1:=rfl;have eu : (grS N l (dst N l t)).use i = (match dst N l t (arc l i).f1.toNat with | none => false | some x => decide (dst N l t (arc l i).f0.toNat = some ((arc l i).f2 + x))):=rfl;obtain ⟨f,hf⟩:=Int.eq_ofNat_of_zero_le a1;obtain ⟨g,hgg⟩:=Int.eq_ofNat_of_zero_le a3;rw [hf,Int.toNat_natCast] at ef;rw [hgg,Int.toNat_natCast] at et;rw [hf,hgg,Int.toNat_natCast,Int.toNat_natCast] at eu;have hfN : f < N:=by omega
  have hgN : g < N:=by omega
  refine Ev.go ?_ (fun k => by rw [spec_l3Steps.l2]);rw [rda,up1 hlt (by simp only [maxLen]; omega),hf,hgg,lst_rd _ hfN,lst_rd _ hgN,lst_rd _ hfN,lst_rd _ hgN,lst_len,lst_len];refine Ev.pos (by omega) (Ev.pos (by omega) (Ev.pos (by omega) (Ev.pos (by omega) ?_)));cases e1 : dst N l t g with
  | none =>
   rw [e1] at eu;have hre : relax (grS N l (dst N l t)) L i = L:=by unfold Sp.relax; rw [eu]; rfl
   rw [hre] at hn;exact Ev.neg (by show ¬ ((99999 : Int) < 99999); omega) hn
  | some x =>
   have hx:=dst_bd hg ht hgN e1;rw [e1] at eu;dsimp only at eu;have w1 : wrap64 ((arc l i).f2 + x) = (arc l i).f2 + x:=w64 (by omega) (by omega)
   show Ev (fun k => if x < 99999 then _ else _) R
   rw [show far (some x) = x from rfl,w1];clear w1;refine Ev.pos (by omega) (Ev.pos (by omega) (Ev.pos (by omega) ?_))
   by_cases c : dst N l t f = some ((arc l i).f2 + x)
   case neg =>
    rw [decide_eq_false c] at eu;have hre : relax (grS N l (dst N l t)) L i = L:=by unfold Sp.relax; rw [eu]; rfl
    rw [hre] at hn;refine Ev.neg ?_ hn;intro h
    apply c
    cases e3 : dst N l t f with
    | none => rw [e3] at h; have h : (99999 : Int) = (arc l i).f2 + x:=h; omega
    | some z => rw [e3] at h; have h : z = (arc l i).f2 + x:=h; rw [h]
   rw [decide_eq_true c] at eu;refine Ev.pos (by rw [c]; rfl) (Ev.pos (by omega) (Ev.pos (by omega) ?_));cases e2 : L g with
   | none =>
    have hre : relax (grS N l (dst N l t)) L i = L:=by unfold Sp.relax; rw [if_pos eu,et,e2]
    rw [hre] at hn;have hle : far (L f) ≤ 99999:=by
     cases e3 : L f with
     | none => exact Int.le_refl _
     | some y => have:=hb f y e3; show y ≤ 99999; omega
    have w2 : wrap64 (far none + 1) = 100000:=w64 (by decide) (by decide);rw [w2];clear w2;exact Ev.neg (by omega) hn
   | some y =>
    have hy:=hb g y e2;have w2 : wrap64 (far (some y) + 1) = y + 1:=w64 (by show _ ≤ y + 1; omega) (by show y + 1 ≤ _; omega);have hre : relax (grS N l (dst N l t)) L i = if lts (y + 1) (L f) = true then put L f (y + 1) else L:=by
     unfold Sp.relax
     rw [if_pos eu,et,e2,ef,ew]
    have elt : (y + 1 < far (L f)) ↔ lts (y + 1) (L f) = true:=by
     cases e3 : L f with
     | none => exact ⟨fun _ => rfl,fun _ => by show y + 1 < 99999; omega⟩
     | some z => exact ⟨fun h => decide_eq_true h,fun h => of_decide_eq_true h⟩
    rw [hre] at hn;rw [w2,Int.toNat_natCast,lst_put];clear w2 hre;cases c2 : lts (y + 1) (L f) with
    | true =>
     rw [c2,if_pos rfl] at hn;exact Ev.pos (elt.2 c2) hn
    | false =>
     rw [c2,if_neg (by simp)] at hn;exact Ev.neg (fun h => by rw [elt.1 h] at c2; cases c2) hn
theorem l3Steps_rounds : ∀ (m r : Nat),N - r = m → r ≤ N → Ev (fun k => spec_l3Steps.l1 k (lst N (fun v => far (dst N l t v))) (lst N (fun v => far (rounds (grS N l (dst N l t)) t r v))) (r : Int) N l) (lst N (fun v => far (stp N l t v))):=by
 have h8:=hg.n8;have h16:=hg.len;intro m
 induction m with
 | zero =>
  intro r hd hr;obtain rfl : r = N:=by omega
  refine Ev.go ?_ (fun k => by rw [spec_l3Steps.l1]);exact Ev.neg (by omega) (Ev.now _)
 | succ m ih =>
  intro r hd hr;have hlt : r < N:=by omega
  refine Ev.go ?_ (fun k => by rw [spec_l3Steps.l1]);refine Ev.pos (by omega) ?_;have hb:=Bw.rounds (g:=grS N l (dst N l t)) (w:=1) (fun i _ => ⟨by show (0 : Int) ≤ 1; omega,by show (1 : Int) ≤ 1; omega⟩) t r;have h16r : (grS N l (dst N l t)).m * r ≤ 16 * 8:=Nat.mul_le_mul h16 (by omega);exact l3Steps_arcs hg ht r hb (by omega) hlt _ 0 rfl (Nat.zero_le _) (ih (r + 1) (by omega) (by omega))
theorem l3Steps_fill : ∀ (m i : Nat),N - i = m → i ≤ N → Ev (fun k => spec_l3Steps.l0 k (t : Int) (lst N (fun v => far (dst N l t v))) (lst N (fun v => if v < i then 99999 else 0)) (i : Int) N l) (lst N (fun v => far (stp N l t v))):=by
 have h8:=hg.n8;intro m
 induction m with
 | zero =>
  intro i hd hi;obtain rfl : i = N:=by omega
  refine Ev.go ?_ (fun k => by rw [spec_l3Steps.l0]);have e : lst i (fun v => if v < i then (99999 : Int) else 0) = lst i (fun _ => 99999):=lst_congr (fun v hv => by rw [if_pos hv]);rw [e,lst_len];refine Ev.neg (by omega) (Ev.pos (by omega) (Ev.pos (by omega) ?_));rw [Int.toNat_natCast,start_lst ht];exact (l3Steps_rounds hg ht _ 0 rfl (Nat.zero_le _))
 | succ m ih =>
  intro i hd hi;have hlt : i < N:=by omega
  refine Ev.go ?_ (fun k => by rw [spec_l3Steps.l0]);rw [lst_len,Int.toNat_natCast,lst_fill N i 99999 (fun _ => 0) hlt,up1 hlt (by simp only [maxLen]; omega)];exact Ev.pos (by omega) (Ev.pos (by omega) (Ev.pos (by omega) (ih (i + 1) (by omega) (by omega))))
theorem l3All_back : Ev (fun k => spec_l3All.f k N (back l) (t : Int)) (lst N (fun v => far (dst N l t v))):=by
 have:=l3All_ev (back_good hg) ht;rw [back_back] at this;exact this
theorem l3Steps_ev : Ev (fun k => spec_l3Steps.f k N l (t : Int)) (lst N (fun v => far (stp N l t v))):=by
 have h8:=hg.n8;have h16:=hg.len
 unfold spec_l3Steps.f
 refine Ev.bind (l1Back_ev _ l (by omega)) (Ev.bind (l3All_back hg ht) (Ev.pos (by omega) (Ev.pos (by omega) ?_)));rw [Int.toNat_natCast,zeros_lst hg];exact l3Steps_fill hg ht _ 0 rfl (Nat.zero_le _)
theorem l3Walk_scan {u : Nat} (hu : u < N) {d : Int} (hd : dst N l t u = some d) {k : Nat} (hk : stp N l t u = some (k : Int)) (w : List Int) (hw : w.length ≤ 1000) {i0 : Nat} (hi0 : i0 < l.length) (hp : pA N l t u (arc l i0) = true) (hf : ∀ j,j < i0 → pA N l t u (arc l j) = false) {R : List Int × Bool}
  (h : Ev (fun k => spec_l3Walk.l0 k (t : Int) (lst N (fun v => far (dst N l t v))) (lst N (fun v => far (stp N l t v))) (w ++ [(i0 : Int)]) (arc l i0).f1 N l) R) :
  ∀ (m i : Nat),i0 - i = m → i ≤ i0 → Ev (fun k => spec_l3Walk.l1 k (t : Int) (lst N (fun v => far (dst N l t v))) (lst N (fun v => far (stp N l t v))) w (u : Int) (i : Int) N l) R:=by
 have h8:=hg.n8;have h16:=hg.len;have hdb:=dst_bd hg ht hu hd;have key : ∀ (i : Nat),i < l.length → ∀ (A B : Nat → Option (List Int × Bool)),(pA N l t u (arc l i) = true → Ev A R) → (pA N l t u (arc l i) = false → Ev B R) →
   Ev (fun k => if (arc l i).f0 = (u : Int) then (if 0 ≤ (arc l i).f1 then (if (arc l i).f1 < ((lst N (fun v => far (dst N l t v))).length : Int) then (if (rd (lst N (fun v => far (dst N l t v))) ((arc l i).f1)) < 99999 then (if 0 ≤ (u : Int) then (if (u : Int) < ((lst N (fun v => far (dst N l t v))).length : Int) then (if (rd (lst N (fun v => far (dst N l t v))) (u : Int)) = (wrap64 ((arc l i).f2 + (rd (lst N (fun v => far (dst N l t v))) ((arc l i).f1)))) then (if (u : Int) < ((lst N (fun v => far (stp N l t v))).length : Int) then (if (arc l i).f1 < ((lst N (fun v => far (stp N l t v))).length : Int) then (if (rd (lst N (fun v => far (stp N l t v))) (u : Int)) = (wrap64 ((rd (lst N (fun v => far (stp N l t v))) ((arc l i).f1)) + 1)) then A k else B k) else none) else none) else B k) else none) else none) else B k) else none) else none) else B k) R:=by
  intro i hi A B hA hB;have hok:=hg.ok i hi;obtain ⟨g,hgg⟩:=Int.eq_ofNat_of_zero_le hok.2.1.1;have hgN : g < N:=by omega
  have ep : pA N l t u (arc l i) = (decide ((arc l i).f0 = (u : Int)) && match dst N l t g,stp N l t g with | some x,some k' => decide (dst N l t u = some ((arc l i).f2 + x)) && decide (stp N l t u = some (k' + 1)) | _,_ => false):=by
   unfold pA
   rw [hgg,Int.toNat_natCast]
   all_goals (cases dst N l t g <;> cases stp N l t g <;> rfl)
  by_cases c1 : (arc l i).f0 = (u : Int)
  case neg =>
   rw [decide_eq_false c1,Bool.false_and] at ep;exact Ev.neg c1 (hB ep)
  rw [decide_eq_true c1,Bool.true_and] at ep;refine Ev.pos c1 ?_;rw [hgg,lst_rd _ hgN,lst_rd _ hu,lst_rd _ hgN,lst_rd _ hu,lst_len,lst_len];refine Ev.pos (by omega) (Ev.pos (by omega) ?_);cases e1 : dst N l t g with
  | none =>
   rw [e1] at ep;exact Ev.neg (by show ¬ ((99999 : Int) < 99999); omega) (hB ep)
  | some x =>
   obtain ⟨k',e2,h2⟩:=stp_some hg ht hgN e1;have hx:=dst_bd hg ht hgN e1;rw [e1,e2,hd,hk] at ep;dsimp only at ep;have w1 : wrap64 ((arc l i).f2 + far (some x)) = (arc l i).f2 + x:=w64 (by show _ ≤ (arc l i).f2 + x; omega) (by show (arc l i).f2 + x ≤ _; omega);have w2 : wrap64 (far (some (k' : Int)) + 1) = (k' : Int) + 1:=w64 (by show _ ≤ (k' : Int) + 1; omega) (by show (k' : Int) + 1 ≤ _; omega);rw [e2,hd,hk,w1,w2];clear w1 w2;refine Ev.pos (by show x < 99999; omega) (Ev.pos (by omega) (Ev.pos (by omega) ?_))
   by_cases c2 : d = (arc l i).f2 + x
   case neg =>
    refine Ev.neg (show ¬ far (some d) = _ from c2) (hB ?_);rw [decide_eq_false (fun h => c2 (Option.some.inj h)),Bool.false_and] at ep;exact ep
   refine Ev.pos (show far (some d) = _ from c2) (Ev.pos (by omega) (Ev.pos (by omega) ?_));rw [decide_eq_true (show some d = some ((arc l i).f2 + x) by rw [c2]),Bool.true_and] at ep
   by_cases c3 : (k : Int) = (k' : Int) + 1
   case pos => exact Ev.pos (show far (some (k : Int)) = _ from c3) (hA (ep.trans (decide_eq_true (by rw [c3]))))
   exact Ev.neg (show ¬ far (some (k : Int)) = _ from c3) (hB (ep.trans (decide_eq_false (fun h => c3 (Option.some.inj h)))))
 intro m
 induction m with
 | zero =>
  intro i hd' hi;obtain rfl : i = i0:=by omega
  refine Ev.go ?_ (fun k => by rw [spec_l3Walk.l1]);refine Ev.pos (by omega) (Ev.pos (by omega) ?_);rw [rda];exact key i hi0 _ _ (fun _ => Ev.pos (by omega) h) (fun hc => by rw [hp] at hc; cases hc)
 | succ m ih =>
  intro i hd' hi;have hlt : i < l.length:=by omega
  have ih:=ih (i + 1) (by omega) (by omega);rw [← up1 hlt (by simp only [maxLen]; omega)] at ih;refine Ev.go ?_ (fun k => by rw [spec_l3Walk.l1]);refine Ev.pos (by omega) (Ev.pos (by omega) ?_);rw [rda];exact key i hlt _ _ (fun hc => by rw [hf i (by omega)] at hc; cases hc) (fun _ => ih)
theorem l3Walk_l : ∀ (k u : Nat) (d : Int) (w : List Int),u < N → dst N l t u = some d → stp N l t u = some (k : Int) → w.length + k ≤ 100 → Ev (fun q => spec_l3Walk.l0 q (t : Int) (lst N (fun v => far (dst N l t v))) (lst N (fun v => far (stp N l t v))) w (u : Int) N l) (w ++ bestW N l t k u,true)
 | 0,u,d,w,hu,hd,hk,_ => by
  have hut : u = t:=by
   apply Classical.byContradiction
   intro hne;obtain ⟨i,_,_,_,_,_,h0,_⟩:=nx_ok hg ht hu hne hd hk;omega
  subst hut;refine Ev.go ?_ (fun k => by rw [spec_l3Walk.l0]);exact Ev.pos rfl (Ev.is (by simp [bestW]))
 | k + 1,u,d,w,hu,hd,hk,hw => by
  have hne : u ≠ t:=by
   rintro rfl;rw [stp_t hg ht] at hk;have:=Option.some.inj hk;omega
  obtain ⟨i,e,hi,h1,h2,h3,_,h4,h5,h6⟩:=nx_ok hg ht hu hne hd hk;have hok:=hg.ok i hi;have ih:=l3Walk_l k (arc l i).f1.toNat _ (w ++ [(i : Int)]) h2 h3 h4 (by simp; omega);have e0 : bestW N l t (k + 1) u = (i : Int) :: bestW N l t k (arc l i).f1.toNat:=by
   show nxA N l t u :: bestW N l t k (arc l (nxA N l t u).toNat).f1.toNat = _
   rw [e,Int.toNat_natCast]
  refine Ev.go ?_ (fun k => by rw [spec_l3Walk.l0]);refine Ev.neg (by omega) (l3Walk_scan hg ht hu hd hk w (by omega) hi h5 h6 ?_ _ 0 rfl (Nat.zero_le _));rw [show (((arc l i).f1.toNat : Nat) : Int) = (arc l i).f1 by omega] at ih;exact ih.cast (by rw [e0]; simp)
theorem l3Walk_ev {u : Nat} (hu : u < N) : Ev (fun q => spec_l3Walk.f q N l (u : Int) (t : Int)) (walkW N l u t):=by
 have h8:=hg.n8;have h16:=hg.len
 unfold spec_l3Walk.f walkW
 refine Ev.bind (l1Back_ev _ l (by omega)) (Ev.bind (l3All_back hg ht) (Ev.bind (l3Steps_ev hg ht) (Ev.bind0 rfl ?_)));rw [lst_len,lst_rd _ hu];refine Ev.pos (by omega) (Ev.pos (by omega) ?_);cases e1 : dst N l t u with
 | none => exact Ev.pos (by show (99999 : Int) ≥ 99999; omega) (Ev.now _)
 | some d =>
  obtain ⟨k,e2,h2⟩:=stp_some hg ht hu e1;have hx:=dst_bd hg ht hu e1;rw [e2];dsimp only;rw [Int.toNat_natCast];exact Ev.neg (by show ¬ d ≥ 99999; omega) ((l3Walk_l hg ht k u d [] hu e1 e2 (by simp; omega)).cast (by simp))
end
end Go.Proofs.Ytljdcinpjnijcaa.Pure
end
section
set_option linter.unusedSimpArgs false
set_option linter.unusedVariables false
set_option linter.unusedSectionVars false
namespace Go.Proofs.Ytljdcinpjnijcaa.Pure
open Go.RowKit Go.Proofs.Ytljdcinpjnijcaa.Pr Go.Proofs.YtljdcinpjnijcaaW.PrintWords Go.Proofs.YtljdcinpjnijcaaW.PrintLast Go.Proofs.YtljdcinpjnijcaaW.PrintMore
open Go.Proofs.Ytljdcinpjnijcaa.Sp (G Wk Opt)
def rW (N : Nat) (l : List Arc) (i : Nat) : List Int × Bool:=bestV N l (arc l i).f1.toNat (arc l i).f0.toNat
def rC (N : Nat) (l : List Arc) (i : Nat) : Int:=(arc l i).f2 + sumW l (rW N l i).1
def ringN (N : Nat) (l : List Arc) : Nat → List Int × Int
 | 0 => ([],99999)
 | i + 1 => if (rW N l i).2 = true ∧ rC N l i < (ringN N l i).2 then ((i : Int) :: (rW N l i).1,rC N l i) else ringN N l i
def ringV (n : Int) (l : List Arc) : List Int × Int:=if netOkB n l = true then ringN n.toNat l l.length else ([],-1)
theorem concat1 (i : Int) (x : List Int) (h : x.length ≤ 1000) : slices_Concat_int_int.f [[i],x] = some (i :: x):=by
 unfold slices_Concat_int_int.f
 rw [if_pos (by simp; omega)];simp
section
variable {N : Nat} {l : List Arc} (hg : NetGood N l)
include hg
theorem rW_ok {i : Nat} (hi : i < l.length) : (∀ k ∈ (rW N l i).1,0 ≤ k ∧ k < l.length) ∧ (rW N l i).1.length ≤ 8 ∧ ((rW N l i).2 = false → (rW N l i).1 = []) ∧ ((rW N l i).2 = true → Chain l (arc l i).f1 (rW N l i).1 (arc l i).f0 ∧ dst N l (arc l i).f0.toNat (arc l i).f1.toNat = some (sumW l (rW N l i).1)):=by
 have h8:=hg.n8;have hok:=hg.ok i hi;have hs : (arc l i).f1.toNat < N:=by omega
 have ht : (arc l i).f0.toNat < N:=by omega
 unfold rW bestV
 cases e1 : dst N l (arc l i).f0.toNat (arc l i).f1.toNat with
 | none => simp
 | some d =>
  obtain ⟨k,e2,h2⟩:=stp_some hg ht hs e1;rw [e2];dsimp only;rw [Int.toNat_natCast];obtain ⟨c1,c2,c3⟩:=bestW_ok hg ht k _ d hs e1 e2;refine ⟨c1.rng _ _ _,by omega,fun h => (by cases h),fun _ => ⟨?_,by rw [c3]⟩⟩;rw [Int.toNat_of_nonneg hok.2.1.1,Int.toNat_of_nonneg hok.1.1] at c1;exact c1
theorem rC_bd {i : Nat} (hi : i < l.length) : 0 ≤ sumW l (rW N l i).1 ∧ sumW l (rW N l i).1 ≤ 792:=by
 obtain ⟨h1,h2,_⟩:=rW_ok hg hi;have:=sumW_bd hg _ h1;omega
theorem implRing_l : ∀ d i,l.length - i = d → i ≤ l.length → Ev (fun k => impl_RingBest.l0 k (ringN N l i).1 (ringN N l i).2 l (l.length : Int) (i : Int) N l) (ringN N l l.length):=by
 have h8:=hg.n8;have h16:=hg.len;intro d
 induction d with
 | zero =>
  intro i hd hi;obtain rfl : i = l.length:=by omega
  refine Ev.go ?_ (fun k => by rw [impl_RingBest.l0]);exact Ev.neg (by omega) (Ev.now _)
 | succ d ih =>
  intro i hd hi;have hlt : i < l.length:=by omega
  have hok:=hg.ok i hlt;have ih:=ih (i + 1) (by omega) (by omega);obtain ⟨h1,h2,h3,h4⟩:=rW_ok hg hlt;have hb:=rC_bd hg hlt;have e:=rda l i;have e0 : (arc l i).f0 = (((arc l i).f0.toNat : Nat) : Int):=(Int.toNat_of_nonneg hok.1.1).symm;have e1 : (arc l i).f1 = (((arc l i).f1.toNat : Nat) : Int):=(Int.toNat_of_nonneg hok.2.1.1).symm;have hbest:=best_ev hg (t:=(arc l i).f0.toNat) (by omega) (u:=(arc l i).f1.toNat) (by omega);rw [← e0,← e1] at hbest;have hcost:=cost_ev hg (w:=(rW N l i).1) (by omega) h1;refine Ev.go ?_ (fun k => by rw [impl_RingBest.l0]);rw [e];refine Ev.pos (by omega) (Ev.pos (by omega) (Ev.pos (by omega) (Ev.bind hbest ?_)))
  show Ev (fun k => if (rW N l i).2 = true then _ else _) _
  cases h : (rW N l i).2 with
  | false =>
   have er : ringN N l (i + 1) = ringN N l i:=by show (if _ then _ else _) = _; rw [if_neg (by rw [h]; simp)]
   rw [er] at ih;refine Ev.neg (by simp) (Ev.go ?_ (fun k => by rw [impl_RingBest.j1]));rw [up1 hlt (by simp only [maxLen]; omega)];exact Ev.neg (by simp) ih
  | true =>
   refine Ev.pos rfl (Ev.bind hcost (Ev.go ?_ (fun k => by rw [impl_RingBest.j1])));rw [up1 hlt (by simp only [maxLen]; omega),w64 (n:=(arc l i).f2 + _) (by omega) (by omega)]
   by_cases hc : rC N l i < (ringN N l i).2
   case neg =>
    have er : ringN N l (i + 1) = ringN N l i:=by show (if _ then _ else _) = _; rw [if_neg (fun q => hc q.2)]
    rw [er] at ih;exact Ev.neg (by simpa [rC] using hc) ih
   have er : ringN N l (i + 1) = ((i : Int) :: (rW N l i).1,rC N l i):=by show (if _ then _ else _) = _; rw [if_pos ⟨h,hc⟩]
   rw [er] at ih;refine Ev.pos (decide_eq_true hc) (Ev.bind0 (concat1 _ _ (by show (rW N l i).1.length ≤ 1000; omega)) (Ev.bind hcost ?_));rw [w64 (n:=(arc l i).f2 + _) (by omega) (by omega)];exact ih
theorem l2Cost_l {w : List Int} (hw : w.length ≤ 1000) (hk : ∀ k ∈ w,0 ≤ k ∧ k < l.length) : ∀ (m i : Nat),w.length - i = m → i ≤ w.length → Ev (fun k => spec_l2Cost.l0 k w (sumW l (w.take i)) (i : Int) N l) (sumW l w):=by
 intro m
 induction m with
 | zero =>
  intro i hd hi;refine Ev.go ?_ (fun k => by rw [spec_l2Cost.l0]);rw [List.take_of_length_le (by omega)];exact Ev.neg (by omega) (Ev.now _)
 | succ m ih =>
  intro i hd hi;have hlt : i < w.length:=by omega
  have h1:=hk w[i] (List.getElem_mem hlt);have h2:=(hg.ok w[i].toNat (by omega)).2.2.2.1;have hb:=sumW_bd hg (w.take i) (fun k hx => hk k (List.mem_of_mem_take hx));rw [List.length_take] at hb;refine Ev.go ?_ (fun k => by rw [spec_l2Cost.l0]);have ih:=ih (i + 1) (by omega) (by omega);have e : sumW l (w.take (i + 1)) = sumW l (w.take i) + (arc l w[i].toNat).f2:=by
   unfold sumW
   rw [List.take_succ_eq_append_getElem hlt,List.map_append,List.sum_append_int,List.map_singleton,List.sum_singleton]
  rw [e] at ih;have ea : rd_T34 l w[i] = arc l w[i].toNat:=by rw [← rda]; congr 1; omega
  rw [rdg i,nth_get hlt,ea,up1 hlt (by simp only [maxLen]; omega),w64 (n:=sumW l (w.take i) + _) (by omega) (by omega)];exact Ev.pos (by omega) (Ev.pos (by omega) (Ev.pos (by omega) (Ev.pos (by omega) ih)))
theorem l2Cost_ev {w : List Int} (hw : w.length ≤ 1000) (hk : ∀ k ∈ w,0 ≤ k ∧ k < l.length) : Ev (fun k => spec_l2Cost.f k N l w) (sumW l w):=by
 unfold spec_l2Cost.f
 simpa [sumW] using l2Cost_l hg hw hk _ 0 rfl (Nat.zero_le _)
theorem specRing_l : ∀ d i,l.length - i = d → i ≤ l.length → Ev (fun k => spec_l24Best.l0 k (ringN N l i).2 (ringN N l i).1 (i : Int) N l) (ringN N l l.length):=by
 have h8:=hg.n8;have h16:=hg.len;intro d
 induction d with
 | zero =>
  intro i hd hi;obtain rfl : i = l.length:=by omega
  refine Ev.go ?_ (fun k => by rw [spec_l24Best.l0]);exact Ev.neg (by omega) (Ev.now _)
 | succ d ih =>
  intro i hd hi;have hlt : i < l.length:=by omega
  have hok:=hg.ok i hlt;have ih:=ih (i + 1) (by omega) (by omega);obtain ⟨h1,h2,h3,h4⟩:=rW_ok hg hlt;have hb:=rC_bd hg hlt;have e:=rda l i;have e0 : (arc l i).f0 = (((arc l i).f0.toNat : Nat) : Int):=(Int.toNat_of_nonneg hok.1.1).symm;have e1 : (arc l i).f1 = (((arc l i).f1.toNat : Nat) : Int):=(Int.toNat_of_nonneg hok.2.1.1).symm;have hbest : Ev (fun q => spec_l3Walk.f q N l (((arc l i).f1.toNat : Nat) : Int) (((arc l i).f0.toNat : Nat) : Int)) (rW N l i):=l3Walk_ev hg (t:=(arc l i).f0.toNat) (by omega) (u:=(arc l i).f1.toNat) (by omega);rw [← e0,← e1] at hbest;have hcost:=l2Cost_ev hg (w:=(rW N l i).1) (by omega) h1;refine Ev.go ?_ (fun k => by rw [spec_l24Best.l0]);rw [e];refine Ev.pos (by omega) (Ev.pos (by omega) (Ev.bind hbest (Ev.bind hcost ?_)));rw [up1 hlt (by simp only [maxLen]; omega),w64 (n:=(arc l i).f2 + _) (by omega) (by omega)];cases h : (rW N l i).2 with
  | false =>
   have er : ringN N l (i + 1) = ringN N l i:=by show (if _ then _ else _) = _; rw [if_neg (by rw [h]; simp)]
   rw [er] at ih;exact Ev.neg (by simp) ih
  | true =>
   refine Ev.pos rfl ?_
   by_cases hc : rC N l i < (ringN N l i).2
   case neg =>
    have er : ringN N l (i + 1) = ringN N l i:=by show (if _ then _ else _) = _; rw [if_neg (fun q => hc q.2)]
    rw [er] at ih;exact Ev.neg hc ih
   have er : ringN N l (i + 1) = ((i : Int) :: (rW N l i).1,rC N l i):=by show (if _ then _ else _) = _; rw [if_pos ⟨h,hc⟩]
   rw [er] at ih;exact Ev.pos hc (Ev.bind0 rfl (Ev.pos (by simp; omega) ih))
end
theorem implRing_ev (n : Int) (l : List Arc) : Ev (fun k => impl_RingBest.f k n l) (ringV n l):=by
 unfold impl_RingBest.f ringV
 refine Ev.bind0 (show impl_NetOk.f n l = some (netOkB n l) from rfl) ?_;cases h : netOkB n l with
 | false => exact Ev.neg (by simp) (Ev.is (by simp))
 | true =>
  have hg:=(netOkB_iff n l).1 h;have h1:=hg.n1;obtain ⟨N,rfl⟩:=Int.eq_ofNat_of_zero_le (show 0 ≤ n by omega);rw [if_pos rfl,Int.toNat_natCast];exact Ev.pos rfl (implRing_l hg _ 0 rfl (Nat.zero_le _))
theorem specRingB_ev (n : Int) (l : List Arc) (hm : l.length ≤ maxLen) : Ev (fun k => spec_RingBest.f k n l) (ringV n l):=by
 unfold spec_RingBest.f ringV
 refine Ev.bind (l1Ok_ev n l hm) ?_;cases h : netOkB n l with
 | false => exact Ev.neg (by simp) (Ev.is (by simp))
 | true =>
  have hg:=(netOkB_iff n l).1 h;have h1:=hg.n1;obtain ⟨N,rfl⟩:=Int.eq_ofNat_of_zero_le (show 0 ≤ n by omega);rw [if_pos rfl,Int.toNat_natCast];refine Ev.pos rfl ?_
  unfold spec_l24Best.f
  exact Ev.bind (specRing_l hg _ 0 rfl (Nat.zero_le _)) (Ev.now _)
theorem ringN_len {N : Nat} {l : List Arc} (hg : NetGood N l) : ∀ i,i ≤ l.length → (ringN N l i).1.length ≤ 9
 | 0,_ => by simp [ringN]
 | i + 1,h => by
  have ih:=ringN_len hg i (by omega);obtain ⟨_,h2,_⟩:=rW_ok hg (show i < l.length by omega)
  unfold ringN
  split
  ·simp; omega
  ·exact ih
theorem ringV_len (n : Int) (l : List Arc) : (ringV n l).1.length ≤ 9:=by
 unfold ringV
 cases h : netOkB n l with
 | false => simp
 | true =>
  have hg:=(netOkB_iff n l).1 h;have h1:=hg.n1;obtain ⟨N,rfl⟩:=Int.eq_ofNat_of_zero_le (show 0 ≤ n by omega);rw [if_pos rfl,Int.toNat_natCast];exact ringN_len hg _ (Nat.le_refl _)
theorem Chain.app {l : List Arc} : ∀ (a b : List Int) (u v t : Int),Chain l u a v → Chain l v b t → Chain l u (a ++ b) t
 | [],b,u,v,t,h,k => by have h : u = v:=h; subst h; exact k
 | i :: a,b,u,v,t,h,k => ⟨h.1,Chain.app a b _ v t h.2 k⟩
theorem Chain.cut {l : List Arc} : ∀ (a b : List Int) (k u t : Int),Chain l u (a ++ k :: b) t → Chain l u a (arc l k.toNat).f0 ∧ (0 ≤ k ∧ k < l.length) ∧ Chain l (arc l k.toNat).f1 b t
 | [],b,k,u,t,h => ⟨h.1.2.2.symm,⟨h.1.1,h.1.2.1⟩,h.2⟩
 | i :: a,b,k,u,t,h => by
  obtain ⟨h1,h2,h3⟩:=Chain.cut a b k _ t h.2;exact ⟨⟨h.1,h1⟩,h2,h3⟩
theorem sumW_app (l : List Arc) (a b : List Int) : sumW l (a ++ b) = sumW l a + sumW l b:=by
 unfold sumW
 rw [List.map_append,List.sum_append_int]
theorem sumW_cons (l : List Arc) (k : Int) (b : List Int) : sumW l (k :: b) = (arc l k.toNat).f2 + sumW l b:=by
 unfold sumW
 rw [List.map_cons,List.sum_cons]
section
variable {N : Nat} {l : List Arc} (hg : NetGood N l)
include hg
theorem ringN_spec : ∀ i,i ≤ l.length → (ringN N l i = ([],99999) ∧ ∀ j,j < i → (rW N l j).2 = false) ∨ ∃ j,j < i ∧ (rW N l j).2 = true ∧ ringN N l i = ((j : Int) :: (rW N l j).1,rC N l j) ∧ ∀ q,q < i → (rW N l q).2 = true → rC N l j ≤ rC N l q
 | 0,_ => .inl ⟨rfl,fun j h => absurd h (by omega)⟩
 | i + 1,h => by
  have hi : i < l.length:=by omega
  have hok:=hg.ok i hi;have hb:=rC_bd hg hi;have hbd : rC N l i ≤ 99 + 792:=by unfold rC; omega
  have step : ringN N l (i + 1) = if (rW N l i).2 = true ∧ rC N l i < (ringN N l i).2 then ((i : Int) :: (rW N l i).1,rC N l i) else ringN N l i:=rfl
  rcases ringN_spec i (by omega) with ⟨h1,h2⟩ | ⟨j,h1,h2,h3,h4⟩
  ·cases hw : (rW N l i).2 with
   | false =>
    left
    rw [step,if_neg (by rw [hw]; simp)];refine ⟨h1,fun j hj => ?_⟩
    by_cases e : j = i
    case pos => rw [e]; exact hw
    exact h2 j (by omega)
   | true =>
    right
    rw [step,if_pos ⟨hw,by rw [h1]; show rC N l i < 99999; omega⟩];refine ⟨i,by omega,hw,rfl,fun q hq hq2 => ?_⟩
    by_cases e : q = i
    case pos => rw [e]; exact Int.le_refl _
    rw [h2 q (by omega)] at hq2; cases hq2
  ·right
   by_cases c : (rW N l i).2 = true ∧ rC N l i < (ringN N l i).2
   case pos =>
    rw [step,if_pos c];rw [h3] at c;refine ⟨i,by omega,c.1,rfl,fun q hq hq2 => ?_⟩
    by_cases e : q = i
    case pos => rw [e]; exact Int.le_refl _
    have:=h4 q (by omega) hq2;have:=c.2;dsimp only at this;omega
   rw [step,if_neg c];refine ⟨j,by omega,h2,h3,fun q hq hq2 => ?_⟩
   by_cases e : q = i
   case neg => exact h4 q (by omega) hq2
   subst e;rw [h3] at c;dsimp only at c;have : ¬ rC N l q < rC N l j:=fun h => c ⟨hq2,h⟩
   omega
theorem rW_true {i : Nat} (hi : i < l.length) {d : Int} (h : dst N l (arc l i).f0.toNat (arc l i).f1.toNat = some d) : (rW N l i).2 = true ∧ sumW l (rW N l i).1 = d:=by
 have hok:=hg.ok i hi;have ht : (rW N l i).2 = true:=by
  obtain ⟨k,e2,_⟩:=stp_some hg (show (arc l i).f0.toNat < N by omega) (show (arc l i).f1.toNat < N by omega) h
  unfold rW bestV
  rw [h,e2]
 obtain ⟨_,_,_,h4⟩:=rW_ok hg hi;have:=(h4 ht).2;rw [h] at this;exact ⟨ht,(Option.some.inj this).symm⟩
theorem ring_chain {j : Nat} (hj : j < l.length) (h : (rW N l j).2 = true) : Chain l (arc l j).f0 ((j : Int) :: (rW N l j).1) (arc l j).f0 ∧ sumW l ((j : Int) :: (rW N l j).1) = rC N l j:=by
 obtain ⟨_,_,_,h4⟩:=rW_ok hg hj;refine ⟨⟨⟨by omega,by omega,by rw [Int.toNat_natCast]⟩,?_⟩,?_⟩
 ·rw [Int.toNat_natCast]; exact (h4 h).1
 ·rw [sumW_cons,Int.toNat_natCast]; rfl
theorem ring_arc {w : List Int} {u : Int} (hw : Chain l u w u) {k : Int} (hk : k ∈ w) : ∃ i : Nat,k = (i : Int) ∧ i < l.length ∧ (rW N l i).2 = true ∧ rC N l i ≤ sumW l w:=by
 obtain ⟨a,b,rfl⟩:=List.append_of_mem hk;obtain ⟨h1,h2,h3⟩:=Chain.cut a b k u u hw;obtain ⟨i,rfl⟩:=Int.eq_ofNat_of_zero_le h2.1;have hi : i < l.length:=by omega
 have hok:=hg.ok i hi;rw [Int.toNat_natCast] at h1 h3;have hc:=(Chain.app b a _ _ _ h3 h1).walk hg;obtain ⟨d,h4,h5⟩:=(dst_opt hg (show (arc l i).f0.toNat < N by omega) (arc l i).f1.toNat (show (arc l i).f1.toNat < N by omega)).2 _ _ hc;obtain ⟨h6,h7⟩:=rW_true hg hi h4;refine ⟨i,rfl,hi,h6,?_⟩;rw [sumW_app,sumW_cons,Int.toNat_natCast];rw [sumW_app] at h5
 unfold rC
 omega
end
end Go.Proofs.Ytljdcinpjnijcaa.Pure
end
section
set_option linter.unusedSimpArgs false
set_option linter.unusedVariables false
namespace Go.Proofs.Ytljdcinpjnijcaa.Pure
open Go.RowKit Go.Proofs.Ytljdcinpjnijcaa.Pr Go.Proofs.YtljdcinpjnijcaaW.PrintWords Go.Proofs.YtljdcinpjnijcaaW.PrintLast Go.Proofs.YtljdcinpjnijcaaW.PrintMore
structure Rdr (b : List Int) : Prop where
 len : b.length ≤ 2000
 rng : ∀ i,i < b.length → 0 ≤ nth b i ∧ nth b i ≤ 255
theorem Rdr.rd {b : List Int} (h : Rdr b) (i : Int) : 0 ≤ Go.Proofs.YtljdcinpjnijcaaW.PrintWords.rd b i ∧ Go.Proofs.YtljdcinpjnijcaaW.PrintWords.rd b i ≤ 255:=by
 have e : Go.Proofs.YtljdcinpjnijcaaW.PrintWords.rd b i = nth b i.toNat:=rfl;rw [e]
 by_cases c : i.toNat < b.length
 case pos => exact h.rng _ c
 have c2 : b.length ≤ i.toNat:=by omega
 simp [nth,List.getElem?_eq_none c2]
theorem tm {x a : Int} (hx : 0 ≤ x) (ha : 0 < a) : 0 ≤ Int.tmod x a ∧ Int.tmod x a < a:=by
 rw [Int.tmod_eq_emod_of_nonneg hx];exact ⟨Int.emod_nonneg _ (by omega),Int.emod_lt_of_pos _ ha⟩
theorem td {x a : Int} (hx : 0 ≤ x) (ha : 0 < a) : 0 ≤ Int.tdiv x a ∧ Int.tdiv x a ≤ x:=by
 rw [Int.tdiv_eq_ediv_of_nonneg hx];exact ⟨Int.ediv_nonneg hx (by omega),Int.ediv_le_self _ hx⟩
theorem xor_nn {x y : Int} (hx : 0 ≤ x) (hx' : x < 4294967296) (hy : 0 ≤ y) (hy' : y < 4294967296) : 0 ≤ Go.bits .xor .i64 x y:=by
 obtain ⟨x,rfl⟩:=Int.eq_ofNat_of_zero_le hx;obtain ⟨y,rfl⟩:=Int.eq_ofNat_of_zero_le hy;have h1 : x ^^^ y < 2 ^ 32:=Nat.xor_lt_two_pow (by omega) (by omega);have e : Go.bits .xor .i64 ((x : Nat) : Int) ((y : Nat) : Int) = wrap64 (((BitVec.ofInt 64 ((x : Nat) : Int) ^^^ BitVec.ofInt 64 ((y : Nat) : Int)).toNat : Nat) : Int):=by
  unfold Go.bits
  simp only [i64_w];rfl
 rw [e,BitVec.toNat_xor,BitVec.ofInt_natCast,BitVec.ofInt_natCast,BitVec.toNat_ofNat,BitVec.toNat_ofNat,Nat.mod_eq_of_lt (by omega),Nat.mod_eq_of_lt (by omega),w64 (by omega) (by omega)];omega
theorem pick_pv {b : List Int} (h : Rdr b) {p a : Int} (hp : 0 ≤ p) (hp' : p ≤ 1000000) : Pv (fun k => spec_l30Rd_pick.f k b p a) (fun r => (0 ≤ r.1 ∧ (a < 1 → r.1 = 0) ∧ (1 ≤ a → r.1 < a)) ∧ r.2 = p + 1):=by
 have w1 : wrap64 (p + 1) = p + 1:=w64 (by omega) (by omega);have w2 : wrap64 (p + 1 - 1) = p:=by rw [w64 (by omega) (by omega)]; omega
 unfold spec_l30Rd_pick.f
 refine Pv.ite (fun c => ?_) (fun c => ?_)
 ·refine Pv.go ?_ (fun k => by rw [spec_l30Rd_pick.j0]);exact Pv.pos rfl (Pv.now ⟨⟨Int.le_refl _,fun _ => rfl,fun c2 => by omega⟩,w1⟩)
 ·refine Pv.go ?_ (fun k => by rw [spec_l30Rd_pick.j0]);refine Pv.ite (fun _ => Pv.now ⟨⟨Int.le_refl _,fun _ => rfl,fun c2 => by dsimp only; omega⟩,w1⟩) (fun c0 => ?_);have hb : 0 < (b.length : Int):=by
   have : (b.length : Int) ≠ 0:=by simpa using c0
   omega
  have hb2:=h.len;rw [w1,w2];have fin : ∀ X : Int,0 ≤ X → Pv (fun _ => some (Int.tmod X a,p + 1)) (fun r => (0 ≤ r.1 ∧ (a < 1 → r.1 = 0) ∧ (1 ≤ a → r.1 < a)) ∧ r.2 = p + 1):=by
   intro X hX;have:=tm hX (show 0 < a by omega);exact Pv.now ⟨⟨this.1,fun c2 => absurd c2 c,fun _ => this.2⟩,rfl⟩
  refine Pv.ite (fun c1 => Pv.pos hp (Pv.neg (by omega) ?_)) (fun c1 => ?_)
  ·have:=h.rd p;rw [w64 (n:=Go.Proofs.YtljdcinpjnijcaaW.PrintWords.rd b p) (by omega) (by omega)];exact fin _ (by omega)
  ·have t1:=tm hp hb;have e1 : wrap64 (p * 7) = p * 7:=w64 (by omega) (by omega);have e2 : wrap64 (p * 7 + 3) = p * 7 + 3:=w64 (by omega) (by omega);rw [e1,e2];have t2:=tm (show 0 ≤ p * 7 + 3 by omega) hb;have r1:=h.rd (Int.tmod p b.length);have r2:=h.rd (Int.tmod (p * 7 + 3) b.length);have d1:=td hp hb;refine Pv.neg (by omega) (Pv.pos t1.1 (Pv.pos t1.2 (Pv.pos t2.1 (Pv.pos t2.2 (Pv.neg (by omega) ?_)))));generalize Go.Proofs.YtljdcinpjnijcaaW.PrintWords.rd b (Int.tmod p b.length) = u at r1;generalize Go.Proofs.YtljdcinpjnijcaaW.PrintWords.rd b (Int.tmod (p * 7 + 3) b.length) = v at r2;generalize Int.tdiv p b.length = q at d1;rw [w64 (n:=u) (by omega) (by omega),w64 (n:=v) (by omega) (by omega),w64 (n:=q) (by omega) (by omega),w64 (n:=u * 131) (by omega) (by omega),w64 (n:=v * 1117) (by omega) (by omega),w64 (n:=p * 29) (by omega) (by omega),w64 (n:=q * 53) (by omega) (by omega),w64 (n:=u * 131 + v * 1117) (by omega) (by omega),w64 (n:=u * 131 + v * 1117 + p * 29) (by omega) (by omega),w64 (n:=u * 131 + v * 1117 + p * 29 + q * 53) (by omega) (by omega)];have d2:=td (show 0 ≤ u * 131 + v * 1117 + p * 29 + q * 53 by omega) (show (0 : Int) < 64 by omega);generalize Int.tdiv (u * 131 + v * 1117 + p * 29 + q * 53) 64 = z at d2;rw [w64 (n:=z) (by omega) (by omega)];exact fin _ (xor_nn (by omega) (by omega) (by omega) (by omega))
theorem one_pv {b : List Int} (h : Rdr b) {p : Int} (hp : 0 ≤ p) (hp' : p ≤ 1000000) {l : List Int} (hl : 0 < l.length) : Pv (fun k => spec_l30Rd_one.f k b p l) (fun r => r.1 ∈ l ∧ r.2 = p + 1):=by
 unfold spec_l30Rd_one.f
 refine Pv.bind (pick_pv h hp hp') (fun r ⟨⟨h1,_,h2⟩,h3⟩ => ?_);have h2:=h2 (by omega);refine Pv.pos h1 (Pv.pos h2 (Pv.now ⟨?_,h3⟩));have e : Go.Proofs.YtljdcinpjnijcaaW.PrintWords.rd l r.1 = nth l r.1.toNat:=rfl;dsimp only;rw [e];exact getD_mem (by omega)
theorem u8_range {x : Int} (h : (Lit.int .u8 x).wf = true) : 0 ≤ x ∧ x ≤ 255:=by
 simp only [Lit.wf] at h;have h2 : IntKind.u8.min ≤ x ∧ x ≤ IntKind.u8.max:=by simpa using h
 have e1 : IntKind.u8.min = 0:=by decide
 have e2 : IntKind.u8.max = 255:=by decide
 omega
theorem open_pv {l : List Int} (hl : ∀ x ∈ l,(Lit.int .u8 x).wf = true) : ∃ b,spec_l30Open.f l = some (b,0) ∧ Rdr b:=by
 have key : ∀ m : List Int,m.length ≤ 2000 → (∀ x ∈ m,x ∈ l) → Rdr m:=fun m h1 h2 => ⟨h1,fun i hi => u8_range (hl _ (h2 _ (getD_mem hi)))⟩
 unfold spec_l30Open.f
 by_cases c : (l.length : Int) > 2000
 case neg =>
  rw [if_neg c];exact ⟨_,rfl,key _ (by omega) (fun x hx => hx)⟩
 rw [if_pos c,if_pos (by omega)];exact ⟨_,rfl,key _ (by simp; omega) (fun x hx => List.mem_of_mem_take hx)⟩
def NetSz (p : Int) (r : Int × List Arc × Int) : Prop:=(0 ≤ r.1 ∧ r.1 ≤ 9) ∧ r.2.1.length ≤ 13 ∧ (p ≤ r.2.2 ∧ r.2.2 ≤ p + 100)
theorem net_l {b : List Int} (h : Rdr b) (n : Int) (hn : 1 ≤ n ∧ n ≤ 9) : ∀ (m : Nat) (p : Int) (l : List Arc),0 ≤ p → p + 6 * m ≤ 100000 → m ≤ 13 → l.length ≤ 13 - m → Pv (fun k => spec_l30Net.l0 k (m : Int) b p n l) (fun r => r.1 = n ∧ r.2.1.length ≤ 13 ∧ (p ≤ r.2.2 ∧ r.2.2 ≤ p + 6 * m)):=by
 intro m
 induction m with
 | zero =>
  intro p l hp hp' hm hl;refine Pv.go ?_ (fun k => by rw [spec_l30Net.l0]);exact Pv.neg (by omega) (Pv.now ⟨rfl,by dsimp only; omega,by dsimp only; omega⟩)
 | succ m ih =>
  intro p l hp hp' hm hl;have hw : wrap64 (((m + 1 : Nat) : Int) - 1) = (m : Int):=by rw [w64 (by omega) (by omega)]; omega
  refine Pv.go ?_ (fun k => by rw [spec_l30Net.l0]);rw [hw];refine Pv.pos (by omega) (Pv.bind (pick_pv h hp (by omega)) (fun r1 ⟨a1,e1⟩ => Pv.bind (pick_pv h (p:=r1.2) (by omega) (by omega)) (fun r2 ⟨a2,e2⟩ => Pv.bind (pick_pv h (p:=r2.2) (by omega) (by omega)) (fun r3 ⟨a3,e3⟩ => Pv.bind (one_pv h (p:=r3.2) (by omega) (by omega) (by simp)) (fun r4 ⟨a4,e4⟩ => Pv.bind (one_pv h (p:=r4.2) (by omega) (by omega) (by simp)) (fun r5 ⟨a5,e5⟩ => Pv.bind (pick_pv h (p:=r5.2) (by omega) (by omega)) (fun r6 ⟨a6,e6⟩ => ?_)))))));have step : ∀ x : Arc,Pv (fun k => spec_l30Net.l0 k (m : Int) b r6.2 n (l ++ [x])) (fun r => r.1 = n ∧ r.2.1.length ≤ 13 ∧ (p ≤ r.2.2 ∧ r.2.2 ≤ p + 6 * ((m + 1 : Nat) : Int))):=fun x => (ih r6.2 (l ++ [x]) (by omega) (by omega) (by omega) (by simp; omega)).mono (fun r hr => ⟨hr.1,hr.2.1,by omega,by omega⟩)
  refine Pv.ite (fun _ => Pv.neg (by omega) (Pv.pos (by omega) (step _))) (fun _ => Pv.pos (by omega) (step _))
theorem net_pv {b : List Int} (h : Rdr b) {p : Int} (hp : 0 ≤ p) (hp' : p ≤ 10000) : Pv (fun k => spec_l30Net.f k b p) (fun r => (2 ≤ r.1 ∧ r.1 ≤ 6) ∧ r.2.1.length ≤ 13 ∧ (p ≤ r.2.2 ∧ r.2.2 ≤ p + 90)):=by
 unfold spec_l30Net.f
 refine Pv.bind (pick_pv h hp (by omega)) (fun r1 ⟨a1,e1⟩ => Pv.bind (pick_pv h (p:=r1.2) (by omega) (by omega)) (fun r2 ⟨a2,e2⟩ => ?_));have b1:=a1.2.2 (by omega);have b2:=a2.2.2 (by omega);have hw : wrap64 (2 + r1.1) = 2 + r1.1:=w64 (by omega) (by omega);rw [hw];have:=net_l h (2 + r1.1) (by omega) r2.1.toNat r2.2 [] (by omega) (by omega) (by omega) (by simp);rw [Int.toNat_of_nonneg a2.1] at this;exact this.mono (fun r hr => ⟨⟨by omega,by omega⟩,hr.2.1,by omega,by omega⟩)
theorem anyNet_pv {b : List Int} (h : Rdr b) {p : Int} (hp : 0 ≤ p) (hp' : p ≤ 10000) : Pv (fun k => spec_l30AnyNet.f k b p) (NetSz p):=by
 unfold spec_l30AnyNet.f
 refine Pv.bind (net_pv h hp hp') (fun r0 ⟨a0,l0,e0⟩ => ?_);refine Pv.ite (fun c => ?_) (fun c => Pv.now ⟨by dsimp only; omega,l0,by dsimp only; omega⟩);refine Pv.bind (pick_pv h (p:=r0.2.2) (by omega) (by omega)) (fun r1 ⟨a1,e1⟩ => Pv.bind (pick_pv h (p:=r1.2) (by omega) (by omega)) (fun r2 ⟨a2,e2⟩ => ?_));have b1:=a1.2.2 (by omega);refine Pv.ite (fun c1 => Pv.pos a1.1 (Pv.pos b1 (Pv.bind (one_pv h (p:=r2.2) (by omega) (by omega) (by simp)) (fun r3 ⟨a3,e3⟩ => Pv.now ⟨by dsimp only; omega,by simpa using l0,by dsimp only; omega⟩)))) (fun c1 => ?_);refine Pv.ite (fun c2 => Pv.bind (one_pv h (p:=r2.2) (by omega) (by omega) (by simp)) (fun r3 ⟨a3,e3⟩ => Pv.pos a1.1 (Pv.pos b1 (Pv.now ⟨by dsimp only; omega,by simpa using l0,by dsimp only; omega⟩)))) (fun c2 => ?_);refine Pv.ite (fun c3 => Pv.bind (one_pv h (p:=r2.2) (by omega) (by omega) (by simp)) (fun r3 ⟨a3,e3⟩ => Pv.now ⟨?_,l0,by dsimp only; omega⟩)) (fun c3 => Pv.now ⟨by dsimp only; omega,l0,by dsimp only; omega⟩);simp only [List.mem_cons,List.not_mem_nil,or_false] at a3;dsimp only;omega
theorem wkInts_l (a b : List Int) (hm : a.length ≤ maxLen) (hl : a.length = b.length) : ∀ (m i : Nat),a.length - i = m → i ≤ a.length → Ev (fun k => laws_wkInts.l0 k a b (i : Int)) (decide (a.drop i = b.drop i)):=by
 intro m
 induction m with
 | zero =>
  intro i hd hi;refine Ev.go ?_ (fun k => by rw [laws_wkInts.l0]);refine Ev.neg (by omega) (Ev.is ?_);rw [List.drop_of_length_le (by omega),List.drop_of_length_le (by omega)];rfl
 | succ m ih =>
  intro i hd hi;have hlt : i < a.length:=by omega
  have hlt2 : i < b.length:=by omega
  refine Ev.go ?_ (fun k => by rw [laws_wkInts.l0]);refine Ev.pos (by omega) (Ev.pos (by omega) (Ev.pos (by omega) ?_));rw [rdn hlt,rdn hlt2,up1 hlt hm,drop_cons hlt,drop_cons hlt2]
  by_cases c : a[i] = b[i]
  case neg => exact Ev.neg c (Ev.is (by simp only [List.cons.injEq,c,false_and]; rfl))
  exact Ev.pos c ((ih (i + 1) (by omega) (by omega)).cast (by rw [c]; simp only [List.cons.injEq,true_and]))
theorem wkInts_ev (a b : List Int) (hm : a.length ≤ maxLen) : Ev (fun k => laws_wkInts.f k a b) (decide (a = b)):=by
 unfold laws_wkInts.f
 by_cases c : a.length = b.length
 case pos => exact Ev.pos (by omega) (by simpa using wkInts_l a b hm c _ 0 rfl (Nat.zero_le _))
 exact Ev.neg (by omega) (Ev.is (by rw [eq_comm]; exact decide_eq_false (fun e => c (by rw [e]))))
end Go.Proofs.Ytljdcinpjnijcaa.Pure
end
section
set_option linter.unusedSimpArgs false
set_option linter.unusedVariables false
set_option linter.unusedSectionVars false
namespace Go.Proofs.Ytljdcinpjnijcaa.Pure
open Go.RowKit Go.Proofs.Ytljdcinpjnijcaa.Pr Go.Proofs.YtljdcinpjnijcaaW.PrintWords Go.Proofs.YtljdcinpjnijcaaW.PrintLast Go.Proofs.YtljdcinpjnijcaaW.PrintMore
section
variable {N : Nat} {l : List Arc} (hg : NetGood N l)
include hg
theorem ringWay_l {x : List Int} {j : Nat} (hj : j < l.length) (hx : rW N l j = (x,true)) (hm : ∀ q,q < l.length → (rW N l q).2 = true → rC N l j ≤ rC N l q) : ∀ d i,(x.length + 1) - i = d → i ≤ x.length + 1 → Ev (fun k => laws_FnRingWay.l0 k ((j : Int) :: x) (rC N l j) (i : Int) N l) true:=by
 have h8:=hg.n8;have h16:=hg.len;obtain ⟨r1,r2,_,_⟩:=rW_ok hg hj;obtain ⟨c1,c2⟩:=ring_chain hg hj (by rw [hx]);rw [hx] at r1 r2 c1 c2;dsimp only at r1 r2 c1 c2;have hlen : ((j : Int) :: x).length = x.length + 1:=rfl;intro d
 induction d with
 | zero =>
  intro i hd hi;have hok:=hg.ok j hj;have e0 : (arc l j).f0 = (((arc l j).f0.toNat : Nat) : Int):=(Int.toNat_of_nonneg hok.1.1).symm;have e1 : (arc l j).f1 = (((arc l j).f1.toNat : Nat) : Int):=(Int.toNat_of_nonneg hok.2.1.1).symm;have hn:=nearWalk_ev hg (u:=(arc l j).f1.toNat) (t:=(arc l j).f0.toNat) (by omega) (by omega);rw [← e0,← e1] at hn;have hw:=wkInts_ev x x (by simp only [maxLen]; omega);have e : rd ((j : Int) :: x) 0 = (j : Int):=rfl;refine Ev.go ?_ (fun k => by rw [laws_FnRingWay.l0]);rw [e,rda l j,hlen];refine Ev.neg (by omega) (Ev.pos (by omega) (Ev.pos (by omega) (Ev.pos (by omega) (Ev.bind hn ?_))))
  show Ev (fun k => if (rW N l j).2 = true then (if 1 ≤ ((x.length + 1 : Nat) : Int) then ((laws_wkInts.f k (rW N l j).1 (((j : Int) :: x).drop 1)).bind fun t => some t) else none) else some false) true
  rw [hx];exact Ev.pos rfl (Ev.pos (by omega) (Ev.bind hw (Ev.is (by simp))))
 | succ d ih =>
  intro i hd hi;have hlt : i < ((j : Int) :: x).length:=by rw [hlen]; omega
  obtain ⟨q,hq,q1,q2,q3⟩:=ring_arc hg c1 (getD_mem hlt);have hok:=hg.ok q q1;have e0 : (arc l q).f0 = (((arc l q).f0.toNat : Nat) : Int):=(Int.toNat_of_nonneg hok.1.1).symm;have e1 : (arc l q).f1 = (((arc l q).f1.toNat : Nat) : Int):=(Int.toNat_of_nonneg hok.2.1.1).symm;have hn:=nearAll_ev hg (s:=(arc l q).f1.toNat) (by omega);rw [← e1] at hn;have hd2:=((rW_ok hg q1).2.2.2 q2).2;have hb:=rC_bd hg q1;have hmin:=hm q q1 q2;have hu : (arc l q).f0.toNat < N:=by omega
  refine Ev.go ?_ (fun k => by rw [laws_FnRingWay.l0]);rw [rdg i,hq,rda l q,up1 hlt (by simp only [maxLen,hlen]; omega)];refine Ev.pos (by omega) (Ev.pos (by omega) (Ev.pos (by omega) (Ev.pos (by omega) (Ev.bind hn ?_))));rw [e0,lst_rd _ hu,lst_len,hd2];refine Ev.pos (by omega) (Ev.pos (by omega) (Ev.pos ?_ (ih (i + 1) (by omega) (by omega))))
  show wrap64 (sumW l (rW N l q).1 + (arc l q).f2) = rC N l j
  rw [w64 (by omega) (by omega)];have : rC N l q = (arc l q).f2 + sumW l (rW N l q).1:=rfl;omega
end
theorem FnRingWay : laws_FnRingWay.Asked:=by
 intro b hc;refine Pv.rounds ?_
 unfold laws_FnRingWay.f
 by_cases hs : (b.length : Int) > 1048576
 ·exact Pv.pos hs (Pv.now rfl)
 refine Pv.neg hs ?_
 unfold spec_DrawRingBest.f
 obtain ⟨bb,e,hb⟩:=open_pv hc.2;refine Pv.bind (R:=fun r => r.2.length ≤ 13) (Pv.bind0 e (Pv.bind (anyNet_pv hb (p:=0) (by omega) (by omega)) (fun r1 h1 => Pv.now h1.2.1))) (fun r h2 => ?_);obtain ⟨n,l⟩:=r;dsimp only at h2 ⊢;have hm : l.length ≤ maxLen:=by simp only [maxLen]; omega
 have hv:=ringV_len n l;have hw:=wkInts_ev (ringV n l).1 (ringV n l).1 (by simp only [maxLen]; omega);refine Pv.of (Ev.bind (implRing_ev n l) (Ev.bind (specRingB_ev n l hm) (Ev.pos rfl (Ev.bind hw (Ev.pos (by simp) (Ev.go (r:=true) ?_ (fun k => by rw [laws_FnRingWay.j0]))))))) rfl
 by_cases h0 : (ringV n l).1.length = 0
 case pos => exact Ev.pos (by simp [h0]) (Ev.pos rfl (Ev.bind hw (Ev.is (by simp))))
 refine Ev.neg (by simpa using h0) ?_;cases hk : netOkB n l with
 | false => exact absurd (by unfold ringV; rw [hk]; rfl) h0
 | true =>
  have hg:=(netOkB_iff n l).1 hk;have h1:=hg.n1;obtain ⟨N,rfl⟩:=Int.eq_ofNat_of_zero_le (show 0 ≤ n by omega);have ev : ringV (N : Int) l = ringN N l l.length:=by unfold ringV; rw [hk,if_pos rfl,Int.toNat_natCast]
  rw [ev] at h0 ⊢
  rcases ringN_spec hg l.length (Nat.le_refl _) with ⟨h3,_⟩ | ⟨j,j1,j2,j3,j4⟩
  ·exact absurd (by rw [h3]; rfl) h0
  ·rw [j3];exact ringWay_l hg j1 (x:=(rW N l j).1) (by rw [← j2]) j4 _ 0 rfl (Nat.zero_le _)
end Go.Proofs.Ytljdcinpjnijcaa.Pure
end
section
namespace Go.Proofs.Ytljdcinpjnijcaa.fnRingWay
open Go.ChangeShapes Go.WideShapes Go.ChangeAt Go.RowKit Go.Proofs.YtljdcinpjnijcaaW.PrintWords Go.Proofs.Ytljdcinpjnijcaa.Pr
open Go.ChangeMaps (open_string shut_string)
set_option linter.unusedVariables false
set_option linter.unusedSimpArgs false
theorem own : ownKnob Try.prog.godebug = none:=by kernel_rfl
theorem laidOut : laidOutB Try.prog = true:=by kernel_rfl
theorem opens0 : Opens Try.prog (Kd.slice 5 (Kd.int .u8)) 22 (fun l => l.length ≤ maxLen ∧ ∀ x ∈ l,(fun n => (Lit.int .u8 n).wf = true) x):=(opens_slice (P:=Try.prog) Try.underlying22 (by kernel_rfl) (opens_int (P:=Try.prog) (k:=.u8) Try.underlying5))
set_option maxRecDepth 100000 in
set_option maxHeartbeats 2000000 in
theorem lifted (os : Os) (started : os.Started) (H : Type) (enc : TypeId × Value → H) :
  ReturnsInHanded {} Try.checked os 10 .any (Rows.fnRingWaySpec.pre6 enc Try.prog Try.f10 Rows.fnRingWayRow.domain false) (Rows.fnRingWaySpec.post enc Try.prog Try.f10 false true false false):=by
 refine returnsInHanded_of_change_sized (C:=Try.checked) own started (by kernel_rfl) Try.func10
  (ChangeSpec.witness6 (enc:=enc) (C:=Try.checked) false ⟨#[],#[(.slice none 0 0)],[]⟩ 8 (by kernel_rfl) (by kernel_rfl) (by kernel_rfl) (by kernel_rfl)) ?_
 intro W base args ds gs before hval0 hW hcnd hsz0 _;have hval : ∀ (j : Nat) t v,Try.f10.params[j]? = some t → args[j]? = some v → Value.okWide Try.prog W .any base t v:=hval0
 have hW':=hW;obtain ⟨p,q,hA0,hV,rfl,hfz,hnd⟩:=hW;have hA : DataW.TrodAll enc Try.prog W 0 (fun _ => true) true Try.f10.params.toList args.toList ds p:=hA0;rw [Try.params10] at hA hval;obtain ⟨v0,vs0,d0,ds0,p0,q0,hargs,rfl,rfl,h0,r0⟩:=trodAll_cons hA;obtain ⟨rfl,rfl,rfl⟩:=trodAll_nil r0;obtain rfl : args = #[v0]:=by cases args; simp_all
 obtain ⟨rfl,rfl⟩:=trodVars_none hV;have k0:=h0;have lt0 : ∀ x ∈ p0,x.block < W.heap.size:=by obtain ⟨m,hm⟩:=k0; exact DataW.trod_lt m _ _ _ hm
 obtain ⟨a0,len0,cap0,rfl⟩:=okWide_slice Try.underlying22 (hval 0 22 v0 rfl rfl);obtain ⟨fuel0,hf0⟩:=h0;obtain ⟨l0,⟨A0,c0,e0,hc0,hr0⟩,w0⟩:=opens0 hf0;have e0' : (Value.slice a0 len0 cap0) = .slice A0 l0.length c0:=(List.cons.inj e0).1;injection e0' with e0a e0b e0c
 subst e0a e0b e0c;obtain ⟨k,hh⟩:=Pure.FnRingWay l0 w0;refine (laws_FnRingWay.calls k _ _ l0 true W hr0 hc0 hh).mono fun e W' ⟨he,bel0⟩ => ?_
 have bel : Below W.heap.size W W':=bel0;subst he;exact ⟨_,rfl,_,_,_,[],_,[],hW',trodAll_mk1 (shut_bool Try.underlying4 _),(trodAll_cons_mk (Below.trod laidOut (by kernel_rfl) (of_decide_eq_true (by kernel_rfl)) k0 bel lt0) trodAll_mk0),rfl,bel.frame _,fun h => by cases h⟩
theorem over : Rows.fnRingWayRow.holds Try.pinned (OpenSpec.ofChange Rows.fnRingWaySpec) :=
 OpenClaim.holds_of_wide 10 Try.f10 rfl rfl rfl rfl rfl rfl rfl ⟨rfl,rfl,rfl,rfl,rfl⟩ rfl rfl rfl rfl rfl (by kernel_rfl) Try.func10 (by kernel_rfl)
  (of_decide_eq_true (by kernel_rfl)) (by unfold Func.isWrapper; first | (rw [if_pos (by decide +kernel)]; kernel_rfl) | (rw [if_neg (by decide +kernel)]; exact ⟨rfl,rfl⟩))
  (fun os started H enc _ => lifted os started H enc)
theorem proved : Rows.FnRingWaySaid:=over
#print axioms proved
end Go.Proofs.Ytljdcinpjnijcaa.fnRingWay
namespace Go.Proofs.Ytljdcinpjnijcaa
theorem fnRingWay_holds : Rows.FnRingWaySaid:=fnRingWay.proved
end Go.Proofs.Ytljdcinpjnijcaa
end
