/- For the statement FnBothNear of this seat: it is proved here, with no further conditions (part 8 of its texts: words, walks of the functions, the plain law, the row). -/
import Derived.Test.YtljdcinpjnijcaaRows
import Derived.WalkKit
import Derived.ProofKit
import Derived.OpenShut
import Derived.ShutString
import Derived.ChangeOld
import Derived.Below
import Derived.SizedLaws
import Derived.WideShapes
import Derived.Test.YtljdcinpjnijcaaKFnBothNear6
section
set_option linter.unusedSimpArgs false
set_option linter.unusedVariables false
namespace Go.Proofs.Ytljdcinpjnijcaa.Pure
open Go.RowKit Go.Proofs.Ytljdcinpjnijcaa.Pr Go.Proofs.YtljdcinpjnijcaaW.PrintWords Go.Proofs.YtljdcinpjnijcaaW.PrintLast Go.Proofs.YtljdcinpjnijcaaW.PrintMore
def inB (x a b : Int) : Bool:=decide (a ≤ x) && decide (x ≤ b)
theorem inB_iff {x a b : Int} : inB x a b = true ↔ a ≤ x ∧ x ≤ b:=by simp [inB]
theorem in1 (x a b : Int) : spec_l1In.f x a b = some (inB x a b):=by
 unfold spec_l1In.f inB
 by_cases h : x ≥ a
 case pos => rw [if_pos h]; simp [show a ≤ x from h]
 rw [if_neg h]; simp [show ¬ a ≤ x from h]
theorem up1 {i n : Nat} (h : i < n) (hn : n ≤ maxLen) : wrap64 ((i : Int) + 1) = ((i + 1 : Nat) : Int):=by
 simp only [maxLen] at hn;rw [w64 (by omega) (by omega)]; omega
theorem rdn {l : List Int} {i : Nat} (h : i < l.length) : rd l (i : Int) = l[i]:=rd_nat h
def nth (l : List Int) (i : Nat) : Int:=l.getD i 0
theorem rdg {l : List Int} (i : Nat) : rd l (i : Int) = nth l i:=by simp [rd,nth]
theorem nth_get {l : List Int} {i : Nat} (h : i < l.length) : nth l i = l[i]:=by simp [nth,h]
theorem getD_mem {l : List Int} {i : Nat} (h : i < l.length) : nth l i ∈ l:=by
 rw [nth_get h];exact List.getElem_mem h
theorem drop_cons {α : Type} {l : List α} {i : Nat} (h : i < l.length) : l.drop i = l[i] :: l.drop (i + 1):=List.drop_eq_getElem_cons h
def Pv {α : Type} (g : Nat → Option α) (P : α → Prop) : Prop:=∃ r,Ev g r ∧ P r
section
variable {α β : Type} {P : α → Prop}
theorem Pv.of {g : Nat → Option α} {r : α} (h : Ev g r) (hp : P r) : Pv g P:=⟨r,h,hp⟩
theorem Pv.now {a : α} (h : P a) : Pv (fun _ => some a) P:=⟨a,Ev.now a,h⟩
theorem Pv.pos {c : Prop} [Decidable c] {t e : Nat → Option α} (h : c) (k : Pv t P) : Pv (fun n => if c then t n else e n) P:=by
 obtain ⟨r,k,hp⟩:=k;exact ⟨r,Ev.pos h k,hp⟩
theorem Pv.neg {c : Prop} [Decidable c] {t e : Nat → Option α} (h : ¬ c) (k : Pv e P) : Pv (fun n => if c then t n else e n) P:=by
 obtain ⟨r,k,hp⟩:=k;exact ⟨r,Ev.neg h k,hp⟩
theorem Pv.ite {c : Prop} [Decidable c] {t e : Nat → Option α} (h : c → Pv t P) (k : ¬ c → Pv e P) : Pv (fun n => if c then t n else e n) P:=by
 by_cases hc : c
 case neg => exact Pv.neg hc (k hc)
 exact Pv.pos hc (h hc)
theorem Pv.bind {g : Nat → Option β} {f : Nat → β → Option α} {R : β → Prop} (h : Pv g R) (k : ∀ b,R b → Pv (fun n => f n b) P) : Pv (fun n => (g n).bind (f n)) P:=by
 obtain ⟨b,h,hb⟩:=h;obtain ⟨r,k,hp⟩:=k b hb;exact ⟨r,Ev.bind h k,hp⟩
theorem Pv.bind0 {g : Option β} {f : Nat → β → Option α} {b : β} (h : g = some b) (k : Pv (fun n => f n b) P) : Pv (fun n => g.bind (f n)) P:=by
 obtain ⟨r,k,hp⟩:=k;exact ⟨r,Ev.bind0 h k,hp⟩
theorem Pv.go {g f : Nat → Option α} (k : Pv f P) (h : ∀ k,g (k + 1) = f k) : Pv g P:=by
 obtain ⟨r,k,hp⟩:=k;exact ⟨r,Ev.go k h,hp⟩
theorem Pv.mono {g : Nat → Option α} {R : α → Prop} (h : Pv g R) (k : ∀ a,R a → P a) : Pv g P:=by
 obtain ⟨r,h,hr⟩:=h;exact ⟨r,h,k r hr⟩
end
theorem Pv.rounds {g : Nat → Option Bool} (h : Pv g (· = true)) : ∃ k,g k = some true:=by
 obtain ⟨r,h,rfl⟩:=h;exact Ev.rounds h
end Go.Proofs.Ytljdcinpjnijcaa.Pure
end
section
set_option linter.unusedSimpArgs false
set_option linter.unusedVariables false
namespace Go.Proofs.Ytljdcinpjnijcaa.Pure
open Go.RowKit Go.Proofs.Ytljdcinpjnijcaa.Pr Go.Proofs.YtljdcinpjnijcaaW.PrintWords Go.Proofs.YtljdcinpjnijcaaW.PrintLast Go.Proofs.YtljdcinpjnijcaaW.PrintMore
section
variable {t e : Nat → Option Bool} {r : Bool}
theorem Ev.and {b : Bool} (k : Ev t r) : Ev (fun n => if b = true then t n else some false) (b && r):=by
 cases b with
 | false => exact Ev.neg (by simp) (Ev.now _)
 | true => exact Ev.pos rfl k
theorem Ev.nand {c : Prop} [Decidable c] (k : Ev t r) : Ev (fun n => if c then some false else t n) (!decide c && r):=by
 by_cases h : c
 case pos => exact Ev.pos h (Ev.is (by simp [h]))
 exact Ev.neg h (k.cast (by simp [h]))
end
abbrev Arc:=S34
def arc (l : List Arc) (i : Nat) : Arc:=rd_T34 l (i : Int)
theorem rda (l : List Arc) (i : Nat) : rd_T34 l (i : Int) = arc l i:=rfl
theorem arc_get {l : List Arc} {i : Nat} (h : i < l.length) : arc l i = l[i]:=by simp [arc,rd_T34,h]
theorem arc_mem {l : List Arc} {i : Nat} (h : i < l.length) : arc l i ∈ l:=by
 rw [arc_get h];exact List.getElem_mem h
attribute [irreducible] arc
def okArcW (n : Int) (a : Arc) : Bool:=inB a.f0 0 (wrap64 (n - 1)) && (inB a.f1 0 (wrap64 (n - 1)) && (!decide (a.f0 = a.f1) && (inB a.f2 0 99 && (inB a.f3 0 99 && inB a.f4 0 9))))
theorem l1Ok_l (n : Int) (l : List Arc) (hm : l.length ≤ maxLen) : ∀ (m i : Nat),l.length - i = m → i ≤ l.length → Ev (fun k => spec_l1Ok.l0 k (i : Int) n l) ((l.drop i).all (okArcW n) && (inB n 1 8 && decide ((l.length : Int) ≤ 16))):=by
 intro m
 induction m with
 | zero =>
  intro i hd hi;refine Ev.go ?_ (fun k => by rw [spec_l1Ok.l0]);refine Ev.neg (by omega) (Ev.bind0 (in1 _ _ _) ?_);rw [List.drop_of_length_le (by omega)];exact (Ev.and (Ev.now _)).cast (by simp)
 | succ m ih =>
  intro i hd hi;have hlt : i < l.length:=by omega
  refine Ev.go ?_ (fun k => by rw [spec_l1Ok.l0]);rw [drop_cons hlt,← arc_get hlt,List.all_cons,rda,up1 hlt hm];refine Ev.pos (by omega) (Ev.pos (by omega) ?_);refine Ev.cast (Ev.bind0 (in1 _ _ _) (Ev.and (Ev.bind0 (in1 _ _ _) (Ev.and (Ev.nand (Ev.bind0 (in1 _ _ _) (Ev.and (Ev.bind0 (in1 _ _ _) (Ev.and (Ev.bind0 (in1 _ _ _) (Ev.and (ih (i + 1) (by omega) (by omega))))))))))))) ?_;simp only [okArcW,Bool.and_assoc]
theorem okArcW_okArc {n : Int} (h : 1 ≤ n) (h8 : n ≤ 8) (a : Arc) : okArcW n a = okArc n a:=by
 unfold okArcW okArc inB okN okC
 rw [w64 (by omega) (by omega)];have e : (a.f4 ≤ 9) ↔ (a.f4 ≤ 10 - 1):=by omega
 have e2 : (a.f0 == a.f1) = decide (a.f0 = a.f1):=by
  by_cases c : a.f0 = a.f1 <;> simp [c]
 rw [e2];simp only [Bool.and_assoc,e]
theorem l1Ok_ev (n : Int) (l : List Arc) (hm : l.length ≤ maxLen) : Ev (fun k => spec_l1Ok.f k n l) (netOkB n l):=by
 unfold spec_l1Ok.f
 refine (l1Ok_l n l hm _ 0 rfl (by omega)).cast ?_
 unfold netOkB
 rw [List.drop_zero]
 by_cases h : 1 ≤ n ∧ n ≤ 8
 case pos =>
  have e : l.all (okArcW n) = l.all (okArc n):=by
   congr 1
   funext a
   exact okArcW_okArc h.1 h.2 a
  rw [e,show inB n 1 8 = true from inB_iff.2 h];simp [h.1,h.2,Bool.and_comm]
 have e : inB n 1 8 = false:=by
  cases c : inB n 1 8 with
  | false => rfl
  | true => exact absurd (inB_iff.1 c) h
 rw [e];have e2 : (decide (1 ≤ n) && decide (n ≤ 8)) = false:=e;simp only [e2,Bool.false_and,Bool.and_false]
structure NetGood (n : Int) (l : List Arc) : Prop where
 n1 : 1 ≤ n
 n8 : n ≤ 8
 len : l.length ≤ 16
 ok : ∀ i,i < l.length → (0 ≤ (arc l i).f0 ∧ (arc l i).f0 < n) ∧ (0 ≤ (arc l i).f1 ∧ (arc l i).f1 < n) ∧ (arc l i).f0 ≠ (arc l i).f1 ∧ (0 ≤ (arc l i).f2 ∧ (arc l i).f2 ≤ 99) ∧ (0 ≤ (arc l i).f3 ∧ (arc l i).f3 ≤ 99) ∧ (0 ≤ (arc l i).f4 ∧ (arc l i).f4 ≤ 9)
theorem okArc_iff (n : Int) (a : Arc) : okArc n a = true ↔ (0 ≤ a.f0 ∧ a.f0 < n) ∧ (0 ≤ a.f1 ∧ a.f1 < n) ∧ a.f0 ≠ a.f1 ∧ (0 ≤ a.f2 ∧ a.f2 ≤ 99) ∧ (0 ≤ a.f3 ∧ a.f3 ≤ 99) ∧ (0 ≤ a.f4 ∧ a.f4 ≤ 9):=by
 simp only [okArc,okN,okC,Bool.and_eq_true,decide_eq_true_eq,Bool.not_eq_true',beq_eq_false_iff_ne];constructor
 ·rintro ⟨⟨⟨⟨⟨⟨a1,a2⟩,a3,a4⟩,a5⟩,a6⟩,a7⟩,a8,a9⟩;exact ⟨⟨a1,by omega⟩,⟨a3,by omega⟩,a5,a6,a7,a8,by omega⟩
 ·rintro ⟨⟨a1,a2⟩,⟨a3,a4⟩,a5,a6,a7,a8,a9⟩;exact ⟨⟨⟨⟨⟨⟨a1,by omega⟩,a3,by omega⟩,a5⟩,a6⟩,a7⟩,a8,by omega⟩
theorem netOkB_iff (n : Int) (l : List Arc) : netOkB n l = true ↔ NetGood n l:=by
 simp only [netOkB,Bool.and_eq_true,decide_eq_true_eq,List.all_eq_true];constructor
 ·rintro ⟨⟨⟨h1,h2⟩,h3⟩,h4⟩;exact ⟨h1,h2,by omega,fun i hi => (okArc_iff n _).1 (h4 _ (arc_mem hi))⟩
 ·rintro ⟨h1,h2,h3,h4⟩;refine ⟨⟨⟨h1,h2⟩,by omega⟩,fun a ha => ?_⟩;obtain ⟨i,hi,rfl⟩:=List.getElem_of_mem ha;rw [← arc_get hi];exact (okArc_iff n _).2 (h4 i hi)
theorem hasOf {n : Int} {l : List Arc} (h : NetGood n l) (v : List Int) : impl_Net_has.f n l v = some (v.all (okN n)):=by
 have:=h.n1;have:=h.n8
 unfold impl_Net_has.f
 rw [if_pos (by omega),if_pos (by omega)]
theorem nodesIn_eq (n : Int) (l : List Arc) (v : List Int) : impl_nodesIn.f n l v = some (netOkB n l && v.all (okN n)):=by
 unfold impl_nodesIn.f
 rw [show impl_NetOk.f n l = some (netOkB n l) from rfl,Option.bind_some];cases h : netOkB n l with
 | false => rfl
 | true => rw [if_pos rfl,hasOf ((netOkB_iff n l).1 h),Option.bind_some,Bool.true_and]
end Go.Proofs.Ytljdcinpjnijcaa.Pure
end
section
set_option linter.unusedSimpArgs false
set_option linter.unusedVariables false
namespace Go.Proofs.Ytljdcinpjnijcaa.Pure
open Go.RowKit Go.Proofs.Ytljdcinpjnijcaa.Pr Go.Proofs.YtljdcinpjnijcaaW.PrintWords Go.Proofs.YtljdcinpjnijcaaW.PrintLast Go.Proofs.YtljdcinpjnijcaaW.PrintMore
def flip (a : Arc) : Arc:=⟨a.f1,a.f0,a.f2,a.f3,a.f4⟩
def back (l : List Arc) : List Arc:=l.map flip
theorem back_len (l : List Arc) : (back l).length = l.length:=by simp [back]
theorem back_arc {l : List Arc} {i : Nat} (h : i < l.length) : arc (back l) i = flip (arc l i):=by
 rw [arc_get (by rw [back_len]; exact h),arc_get h];simp [back]
theorem back_good {n : Int} {l : List Arc} (h : NetGood n l) : NetGood n (back l):=by
 refine ⟨h.n1,h.n8,by rw [back_len]; exact h.len,fun i hi => ?_⟩;rw [back_len] at hi;obtain ⟨a1,a2,a3,a4⟩:=h.ok i hi;rw [back_arc hi];exact ⟨a2,a1,fun e => a3 e.symm,a4⟩
theorem implBack_l (n : Int) (l : List Arc) (hm : l.length ≤ 1000) : ∀ (m i : Nat),l.length - i = m → i ≤ l.length → Ev (fun k => impl_Net_back.l0 k l (l.length : Int) (i : Int) n ((back l).take i)) (n,back l):=by
 intro m
 induction m with
 | zero =>
  intro i hd hi;refine Ev.go ?_ (fun k => by rw [impl_Net_back.l0]);refine Ev.neg (by omega) (Ev.is ?_);rw [List.take_of_length_le (by rw [back_len]; omega)]
 | succ m ih =>
  intro i hd hi;have hlt : i < l.length:=by omega
  refine Ev.go ?_ (fun k => by rw [impl_Net_back.l0]);have ih:=ih (i + 1) (by omega) (by omega);have hlt2 : i < (back l).length:=by rw [back_len]; exact hlt
  rw [List.take_succ_eq_append_getElem hlt2,← arc_get hlt2,back_arc hlt] at ih;rw [up1 hlt (by simp only [maxLen]; omega),rda];exact Ev.pos (by omega) (Ev.pos (by omega) (Ev.pos (by omega) (Ev.pos (by simp; omega) ih)))
theorem implBack_ev (n : Int) (l : List Arc) (hm : l.length ≤ 1000) : Ev (fun k => impl_Net_back.f k n l) (n,back l):=by
 unfold impl_Net_back.f
 exact Ev.pos (by omega) (Ev.pos (by omega) (by simpa using implBack_l n l hm _ 0 rfl (Nat.zero_le _)))
def lst (n : Nat) (F : Nat → Int) : List Int:=(List.range n).map F
theorem lst_len (n : Nat) (F : Nat → Int) : (lst n F).length = n:=by simp [lst]
theorem lst_nth {n v : Nat} (F : Nat → Int) (h : v < n) : nth (lst n F) v = F v:=by
 simp [nth,lst,h]
theorem lst_rd {n v : Nat} (F : Nat → Int) (h : v < n) : rd (lst n F) (v : Int) = F v:=by rw [rdg,lst_nth F h]
theorem lst_congr {n : Nat} {F G : Nat → Int} (h : ∀ v,v < n → F v = G v) : lst n F = lst n G:=by
 unfold lst
 exact List.map_congr_left (fun v hv => h v (List.mem_range.1 hv))
theorem lst_snoc (n : Nat) (F : Nat → Int) : lst n F ++ [F n] = lst (n + 1) F:=by
 simp [lst,List.range_succ]
inductive Conn (E : Nat → Nat → Prop) : Nat → Nat → Prop
 | refl (v : Nat) : Conn E v v
 | tail {u v w : Nat} : Conn E u v → (E v w ∨ E w v) → Conn E u w
end Go.Proofs.Ytljdcinpjnijcaa.Pure
end
section
set_option linter.unusedSectionVars false
namespace Go.Proofs.Ytljdcinpjnijcaa.Sp
structure G where
 n : Nat
 m : Nat
 fr : Nat → Nat
 tw : Nat → Nat
 w : Nat → Int
 use : Nat → Bool
structure G.Ok (g : G) : Prop where
 fl : ∀ i,i < g.m → g.fr i < g.n
 tl : ∀ i,i < g.m → g.tw i < g.n
 w0 : ∀ i,i < g.m → 0 ≤ g.w i
inductive Wk (g : G) : Nat → Nat → Nat → Int → Prop
 | nil (v : Nat) : Wk g v v 0 0
 | cons {i v k : Nat} {c : Int} : i < g.m → g.use i = true → Wk g (g.tw i) v k c → Wk g (g.fr i) v (k + 1) (g.w i + c)
theorem Wk.cast {g : G} {u v k k' : Nat} {c c' : Int} (h : Wk g u v k c) (hk : k = k') (hc : c = c') : Wk g u v k' c':=by
 subst hk; subst hc; exact h
theorem Wk.trans {g : G} {u v x k j : Nat} {c d : Int} (h : Wk g u v k c) (h' : Wk g v x j d) : Wk g u x (k + j) (c + d):=by
 induction h with
 | nil => exact h'.cast (by omega) (by omega)
 | cons hi hu _ ih => exact (Wk.cons hi hu (ih h')).cast (by omega) (by omega)
theorem Wk.one {g : G} {i : Nat} (hi : i < g.m) (hu : g.use i = true) : Wk g (g.fr i) (g.tw i) 1 (g.w i) :=
 (Wk.cons hi hu (.nil _)).cast rfl (by omega)
theorem Wk.nonneg {g : G} (ok : g.Ok) {u v k : Nat} {c : Int} (h : Wk g u v k c) : 0 ≤ c:=by
 induction h with
 | nil => omega
 | cons hi _ _ ih => have:=ok.w0 _ hi; omega
theorem nodup_len : ∀ (n : Nat) (l : List Nat),l.Nodup → (∀ x ∈ l,x < n) → l.length ≤ n:=by
 intro n
 induction n with
 | zero =>
  intro l _ h;cases l with
  | nil => simp
  | cons a l => exact absurd (h a (by simp)) (by omega)
 | succ n ih =>
  intro l hn h;have h1:=ih (l.erase n) (hn.erase n) (fun x hx => by
   have h2:=h x (List.mem_of_mem_erase hx);have h3 : x ≠ n:=by
    rintro rfl;exact (List.Nodup.not_mem_erase hn) hx
   omega)
  have:=List.length_erase_le (a:=n) (l:=l);have h4 : l.length ≤ (l.erase n).length + 1:=by
   rw [List.length_erase]
   split <;> omega
  omega
inductive Sm (g : G) (t : Nat) : Nat → List Nat → Nat → Int → Prop
 | nil : Sm g t t [t] 0 0
 | cons {i k : Nat} {L : List Nat} {c : Int} : i < g.m → g.use i = true → Sm g t (g.tw i) L k c → g.fr i ∉ L → Sm g t (g.fr i) (g.fr i :: L) (k + 1) (g.w i + c)
theorem Sm.wk {g : G} {t u k : Nat} {L : List Nat} {c : Int} (h : Sm g t u L k c) : Wk g u t k c:=by
 induction h with
 | nil => exact .nil _
 | cons hi hu _ _ ih => exact .cons hi hu ih
theorem Sm.facts {g : G} (ok : g.Ok) {t u k : Nat} (ht : t < g.n) {L : List Nat} {c : Int} (h : Sm g t u L k c) : L.Nodup ∧ (∀ x ∈ L,x < g.n) ∧ L.length = k + 1:=by
 induction h with
 | nil => simp [ht]
 | cons hi _ _ hn ih =>
  refine ⟨List.nodup_cons.2 ⟨hn,ih.1⟩,?_,by simp [ih.2.2]⟩;intro x hx
  rcases List.mem_cons.1 hx with rfl | hx
  ·exact ok.fl _ hi
  ·exact ih.2.1 x hx
theorem Sm.tail {g : G} (ok : g.Ok) {t u k : Nat} {L : List Nat} {c : Int} (h : Sm g t u L k c) {x : Nat} (hx : x ∈ L) : ∃ L' k' c',Sm g t x L' k' c' ∧ k' ≤ k ∧ c' ≤ c:=by
 induction h with
 | nil =>
  obtain rfl : x = t:=by simpa using hx
  exact ⟨_,_,_,.nil,Nat.le_refl _,Int.le_refl _⟩
 | cons hi hu h hn ih =>
  rcases List.mem_cons.1 hx with rfl | hx
  ·exact ⟨_,_,_,.cons hi hu h hn,Nat.le_refl _,Int.le_refl _⟩
  ·obtain ⟨L',k',c',h1,h2,h3⟩:=ih hx;have:=ok.w0 _ hi;exact ⟨L',k',c',h1,by omega,by omega⟩
theorem Wk.simple {g : G} (ok : g.Ok) {u v k : Nat} {c : Int} (h : Wk g u v k c) : ∃ L k' c',Sm g v u L k' c' ∧ k' ≤ k ∧ c' ≤ c:=by
 induction h with
 | nil v => exact ⟨_,_,_,.nil,Nat.le_refl _,Int.le_refl _⟩
 | @cons i v k c hi hu h ih =>
  obtain ⟨L,k',c',h1,h2,h3⟩:=ih
  by_cases hm : g.fr i ∈ L
  case neg => exact ⟨_,_,_,.cons hi hu h1 hm,by omega,by omega⟩
  obtain ⟨L'',k'',c'',h4,h5,h6⟩:=h1.tail ok hm;have:=ok.w0 _ hi;exact ⟨L'',k'',c'',h4,by omega,by omega⟩
theorem Wk.short {g : G} (ok : g.Ok) {u v k : Nat} (hv : v < g.n) {c : Int} (h : Wk g u v k c) : ∃ k' c',Wk g u v k' c' ∧ k' < g.n ∧ k' ≤ k ∧ c' ≤ c:=by
 obtain ⟨L,k',c',h1,h2,h3⟩:=h.simple ok;obtain ⟨f1,f2,f3⟩:=h1.facts ok hv;have:=nodup_len _ _ f1 f2;exact ⟨k',c',h1.wk,by omega,h2,h3⟩
def Opt (g : G) (t : Nat) (L : Nat → Option Int) : Prop:=∀ v,v < g.n → (∀ x,L v = some x → ∃ k,Wk g v t k x) ∧ (∀ k c,Wk g v t k c → ∃ x,L v = some x ∧ x ≤ c)
theorem Opt.uniq {g : G} {t : Nat} {L L' : Nat → Option Int} (h : Opt g t L) (h' : Opt g t L') : ∀ v,v < g.n → L v = L' v:=by
 intro v hv;obtain ⟨a,b⟩:=h v hv;obtain ⟨a',b'⟩:=h' v hv;cases e : L v with
 | none =>
  cases e' : L' v with
  | none => rfl
  | some y =>
   obtain ⟨k,hk⟩:=a' y e';obtain ⟨x,hx,_⟩:=b k y hk;rw [e] at hx; cases hx
 | some x =>
  obtain ⟨k,hk⟩:=a x e;obtain ⟨y,hy,h1⟩:=b' k x hk;obtain ⟨k',hk'⟩:=a' y hy;obtain ⟨x',hx',h2⟩:=b k' y hk';rw [e] at hx';obtain rfl:=Option.some.inj hx';rw [hy]
  congr 1
  omega
def lts (a : Int) : Option Int → Bool
 | none => true
 | some y => decide (a < y)
def put (L : Nat → Option Int) (a : Nat) (x : Int) : Nat → Option Int:=fun v => if v = a then some x else L v
def relax (g : G) (L : Nat → Option Int) (i : Nat) : Nat → Option Int :=
 if g.use i = true then
  match L (g.tw i) with
  | none => L
  | some x => if lts (x + g.w i) (L (g.fr i)) = true then put L (g.fr i) (x + g.w i) else L
 else L
theorem relax_cases (g : G) (L : Nat → Option Int) (i : Nat) : (relax g L i = L ∧ (g.use i = true → ∀ x,L (g.tw i) = some x → lts (x + g.w i) (L (g.fr i)) = false)) ∨ (g.use i = true ∧ ∃ x,L (g.tw i) = some x ∧ lts (x + g.w i) (L (g.fr i)) = true ∧ relax g L i = put L (g.fr i) (x + g.w i)):=by
 unfold relax
 by_cases hu : g.use i = true
 case neg =>
  rw [if_neg hu];exact .inl ⟨rfl,fun h => absurd h hu⟩
 rw [if_pos hu];cases e : L (g.tw i) with
 | none => exact .inl ⟨rfl,fun _ x hx => by cases hx⟩
 | some x =>
  dsimp only
  by_cases hl : lts (x + g.w i) (L (g.fr i)) = true
  case pos =>
   rw [if_pos hl];exact .inr ⟨hu,x,rfl,hl,rfl⟩
  rw [if_neg hl];refine .inl ⟨rfl,fun _ y hy => ?_⟩;obtain rfl:=Option.some.inj hy
  simpa using hl
def sweep (g : G) (L : Nat → Option Int) : Nat → (Nat → Option Int)
 | 0 => L
 | i + 1 => relax g (sweep g L i) i
def Le (a b : Option Int) : Prop:=∀ y,b = some y → ∃ x,a = some x ∧ x ≤ y
theorem Le.refl (a : Option Int) : Le a a:=fun y h => ⟨y,h,Int.le_refl _⟩
theorem Le.trans {a b c : Option Int} (h : Le a b) (k : Le b c) : Le a c:=by
 intro y hy;obtain ⟨x,hx,h1⟩:=k y hy;obtain ⟨z,hz,h2⟩:=h x hx;exact ⟨z,hz,by omega⟩
theorem put_same (L : Nat → Option Int) (a : Nat) (x : Int) : put L a x a = some x:=by simp [put]
theorem put_far (L : Nat → Option Int) {a v : Nat} (x : Int) (h : v ≠ a) : put L a x v = L v:=by simp [put,h]
theorem relax_le (g : G) (L : Nat → Option Int) (i v : Nat) : Le (relax g L i v) (L v):=by
 rcases relax_cases g L i with ⟨e,_⟩ | ⟨_,x,hx,hl,e⟩
 ·rw [e]; exact Le.refl _
 ·rw [e]
  by_cases hv : v = g.fr i
  case neg => rw [put_far _ _ hv]; exact Le.refl _
  subst hv;rw [put_same];intro y hy;rw [hy] at hl;exact ⟨_,rfl,by simp [lts] at hl; omega⟩
theorem relax_arc (g : G) (L : Nat → Option Int) (i : Nat) (hu : g.use i = true) {x : Int} (hx : L (g.tw i) = some x) : Le (relax g L i (g.fr i)) (some (x + g.w i)):=by
 intro y hy;obtain rfl:=Option.some.inj hy
 unfold relax
 rw [if_pos hu,hx];dsimp only
 split
 ·exact ⟨_,by simp [put],Int.le_refl _⟩
 ·rename_i hl;cases e : L (g.fr i) with
  | none => rw [e] at hl; simp [lts] at hl
  | some z => rw [e] at hl; exact ⟨z,rfl,by simp [lts] at hl; omega⟩
theorem sweep_le (g : G) (L : Nat → Option Int) (i s v : Nat) : Le (sweep g L (i + s) v) (sweep g L i v):=by
 induction s with
 | zero => exact Le.refl _
 | succ s ih => exact (relax_le g _ _ v).trans ih
theorem sweep_arc (g : G) (L : Nat → Option Int) {i : Nat} (hi : i < g.m) (hu : g.use i = true) {x : Int} (hx : L (g.tw i) = some x) : ∃ y,sweep g L g.m (g.fr i) = some y ∧ y ≤ x + g.w i:=by
 have h0:=sweep_le g L 0 i (g.tw i);rw [Nat.zero_add] at h0;obtain ⟨x',hx',h1⟩:=h0 x hx;have h2:=relax_arc g (sweep g L i) i hu hx';have h3:=sweep_le g L (i + 1) (g.m - (i + 1)) (g.fr i);rw [show i + 1 + (g.m - (i + 1)) = g.m by omega] at h3;obtain ⟨y,hy,h4⟩:=(h3.trans h2) _ rfl;exact ⟨y,hy,by omega⟩
def Real (g : G) (t : Nat) (L : Nat → Option Int) : Prop:=∀ v x,L v = some x → ∃ k,Wk g v t k x
theorem relax_real {g : G} {t : Nat} {L : Nat → Option Int} (h : Real g t L) {i : Nat} (hi : i < g.m) : Real g t (relax g L i):=by
 intro v x hx
 rcases relax_cases g L i with ⟨e,_⟩ | ⟨hu,y,hy,hl,e⟩
 ·rw [e] at hx; exact h v x hx
 ·rw [e] at hx
  by_cases hv : v = g.fr i
  case neg => rw [put_far _ _ hv] at hx; exact h v x hx
  subst hv;rw [put_same] at hx;obtain rfl:=Option.some.inj hx;obtain ⟨k,hk⟩:=h _ _ hy;exact ⟨k + 1,(Wk.cons hi hu hk).cast rfl (by omega)⟩
theorem sweep_real {g : G} {t : Nat} {L : Nat → Option Int} (h : Real g t L) : ∀ i,i ≤ g.m → Real g t (sweep g L i):=by
 intro i
 induction i with
 | zero => exact fun _ => h
 | succ i ih => exact fun hi => relax_real (ih (by omega)) (by omega)
theorem opt_of_fix {g : G} {t : Nat} {L : Nat → Option Int} (h : Real g t L) (ht : Le (L t) (some 0)) (hf : ∀ v,sweep g L g.m v = L v) : Opt g t L:=by
 intro v hv0;clear hv0;refine ⟨fun x hx => h v x hx,fun k c hw => ?_⟩;clear h
 induction hw with
 | nil =>
  obtain ⟨x,hx,h1⟩:=ht 0 rfl;exact ⟨x,hx,h1⟩
 | cons hi hu _ ih =>
  obtain ⟨x,hx,h1⟩:=ih ht;obtain ⟨y,hy,h2⟩:=sweep_arc g L hi hu hx;rw [hf] at hy;exact ⟨y,hy,by omega⟩
def start (t : Nat) : Nat → Option Int:=fun v => if v = t then some 0 else none
def rounds (g : G) (t : Nat) : Nat → (Nat → Option Int)
 | 0 => start t
 | r + 1 => sweep g (rounds g t r) g.m
theorem start_real (g : G) (t : Nat) : Real g t (start t):=by
 intro v x hx
 unfold start at hx
 split at hx
 ·rename_i e;obtain rfl:=Option.some.inj hx;subst e;exact ⟨0,.nil _⟩
 ·cases hx
theorem rounds_real (g : G) (t : Nat) : ∀ r,Real g t (rounds g t r):=by
 intro r
 induction r with
 | zero => exact start_real g t
 | succ r ih => exact sweep_real ih _ (Nat.le_refl _)
theorem rounds_le (g : G) (t r s v : Nat) : Le (rounds g t (r + s) v) (rounds g t r v):=by
 induction s with
 | zero => exact Le.refl _
 | succ s ih =>
  have:=sweep_le g (rounds g t (r + s)) 0 g.m v;rw [Nat.zero_add] at this;exact this.trans ih
theorem rounds_t (g : G) (t r : Nat) : Le (rounds g t r t) (some 0):=by
 have:=rounds_le g t 0 r t;rw [Nat.zero_add] at this;exact this.trans (by simp [rounds,start]; exact Le.refl _)
theorem rounds_walk {g : G} {t r u k : Nat} {c : Int} (h : Wk g u t k c) (hk : k ≤ r) : ∃ x,rounds g t r u = some x ∧ x ≤ c:=by
 induction h generalizing r with
 | nil => exact rounds_t g _ r 0 rfl
 | cons hi hu _ ih =>
  obtain ⟨r,rfl⟩ : ∃ q,r = q + 1:=⟨r - 1,by omega⟩
  obtain ⟨x,hx,h1⟩:=ih (r:=r) (by omega);obtain ⟨y,hy,h2⟩:=sweep_arc g _ hi hu hx;exact ⟨y,hy,by omega⟩
theorem rounds_opt {g : G} (ok : g.Ok) {t r : Nat} (ht : t < g.n) (hr : g.n ≤ r + 1) : Opt g t (rounds g t r):=by
 intro v _;refine ⟨fun x hx => rounds_real g t r v x hx,fun k c hw => ?_⟩;obtain ⟨k',c',h1,h2,h3,h4⟩:=hw.short ok ht;obtain ⟨x,hx,h5⟩:=rounds_walk (r:=r) h1 (by omega);exact ⟨x,hx,by omega⟩
theorem relax_none {g : G} {L : Nat → Option Int} (hn : ∀ v,g.n ≤ v → L v = none) (ok : g.Ok) {i : Nat} (hi : i < g.m) : ∀ v,g.n ≤ v → relax g L i v = none:=by
 intro v hv
 rcases relax_cases g L i with ⟨e,_⟩ | ⟨_,x,hx,hl,e⟩
 ·rw [e]; exact hn v hv
 ·rw [e,put_far _ _ (by have:=ok.fl i hi; omega)]; exact hn v hv
theorem sweep_none {g : G} {L : Nat → Option Int} (ok : g.Ok) (hn : ∀ v,g.n ≤ v → L v = none) : ∀ i,i ≤ g.m → ∀ v,g.n ≤ v → sweep g L i v = none:=by
 intro i
 induction i with
 | zero => exact fun _ => hn
 | succ i ih => exact fun hi => relax_none (ih (by omega)) ok (by omega)
theorem rounds_none {g : G} (ok : g.Ok) {t : Nat} (ht : t < g.n) : ∀ r v,g.n ≤ v → rounds g t r v = none:=by
 intro r
 induction r with
 | zero => intro v hv; simp [rounds,start]; omega
 | succ r ih => exact sweep_none ok ih _ (Nat.le_refl _)
theorem rounds_fix {g : G} (ok : g.Ok) {t r : Nat} (ht : t < g.n) (hr : g.n ≤ r + 1) : ∀ v,rounds g t (r + 1) v = rounds g t r v:=by
 intro v
 by_cases hv : v < g.n
 case pos => exact (rounds_opt ok ht (by omega)).uniq (rounds_opt ok ht hr) v hv
 rw [rounds_none ok ht _ v (by omega),rounds_none ok ht _ v (by omega)]
theorem sweep_same {g : G} {L : Nat → Option Int} (h : ∀ v,sweep g L g.m v = L v) {i : Nat} (hi : i ≤ g.m) : ∀ v,sweep g L i v = L v:=by
 intro v;have h1:=sweep_le g L 0 i v;have h2:=sweep_le g L i (g.m - i) v;rw [Nat.zero_add] at h1;rw [show i + (g.m - i) = g.m by omega,h v] at h2;cases e : L v with
 | none =>
  cases e' : sweep g L i v with
  | none => rfl
  | some y =>
   obtain ⟨x,hx,_⟩:=h2 y e';rw [e] at hx; cases hx
 | some x =>
  obtain ⟨y,hy,a1⟩:=h1 x (by simpa [sweep] using e);obtain ⟨x',hx',a2⟩:=h2 y hy;rw [e] at hx';obtain rfl:=Option.some.inj hx';rw [hy]; congr 1; omega
end Go.Proofs.Ytljdcinpjnijcaa.Sp
namespace Go.Proofs.Ytljdcinpjnijcaa.Sp
structure Dbl (g e s : G) (D : Nat → Option Int) : Prop where
 en : e.n = g.n
 em : e.m = g.m
 ef : e.fr = g.fr
 et : e.tw = g.tw
 eu : e.use = g.use
 ew : ∀ i,i < g.m → e.w i = 1000 * g.w i + 1
 sn : s.n = g.n
 sm : s.m = g.m
 sf : s.fr = g.fr
 st : s.tw = g.tw
 sw : ∀ i,i < g.m → s.w i = 1
 su : ∀ i,i < g.m → (s.use i = true ↔ g.use i = true ∧ ∃ x,D (g.tw i) = some x ∧ D (g.fr i) = some (g.w i + x))
def both (D S : Nat → Option Int) : Nat → Option Int:=fun v =>
 match D v with
 | none => none
 | some d => match S v with
  | none => none
  | some k => some (1000 * d + k)
section
variable {g e s : G} {t : Nat} {D S : Nat → Option Int} (h : Dbl g e s D) (ok : g.Ok) (hD : Opt g t D) (hS : Opt s t S) (ht : t < g.n)
include h
theorem Dbl.okS (ok : g.Ok) : s.Ok:=by
 refine ⟨?_,?_,?_⟩
 ·rw [h.sf,h.sm,h.sn]; exact ok.fl
 ·rw [h.st,h.sm,h.sn]; exact ok.tl
 ·intro i hi;rw [h.sm] at hi;rw [h.sw i hi]; omega
theorem Dbl.toE {u v k : Nat} {c : Int} (w : Wk g u v k c) : Wk e u v k (1000 * c + k):=by
 induction w with
 | nil => exact (Wk.nil _).cast rfl (by omega)
 | @cons i v k c hi hu _ ih =>
  have h1 : Wk e (e.tw i) v k (1000 * c + k):=by rw [h.et]; exact ih
  have h2:=Wk.cons (i:=i) (by rw [h.em]; exact hi) (by rw [h.eu]; exact hu) h1;rw [h.ef,h.ew i hi] at h2;exact h2.cast rfl (by omega)
theorem Dbl.ofE {u v k : Nat} {c : Int} (w : Wk e u v k c) : ∃ c',Wk g u v k c' ∧ c = 1000 * c' + k:=by
 induction w with
 | nil => exact ⟨0,.nil _,by omega⟩
 | @cons i v k c hi hu _ ih =>
  obtain ⟨c',h1,h2⟩:=ih;rw [h.em] at hi;rw [h.eu] at hu;rw [h.et] at h1;refine ⟨g.w i + c',?_,by rw [h.ew i hi]; omega⟩;rw [h.ef];exact .cons hi hu h1
theorem Dbl.ofS (hD : Opt g t D) (ht : t < g.n) (ok : g.Ok) {u k : Nat} {c : Int} (w : Wk s u t k c) : ∃ d,D u = some d ∧ Wk g u t k d ∧ c = k:=by
 generalize ev : t = v at w
 induction w with
 | nil v =>
  subst ev;obtain ⟨x,hx,h1⟩:=(hD t ht).2 0 0 (.nil _);obtain ⟨k,hk⟩:=(hD t ht).1 x hx;have:=hk.nonneg ok;have e0 : x = 0:=by omega
  subst e0;exact ⟨0,hx,.nil _,rfl⟩
 | @cons i v k c hi hu _ ih =>
  obtain ⟨d,h1,h2,h3⟩:=ih ev;rw [h.sm] at hi;obtain ⟨g1,x,g2,g3⟩:=(h.su i hi).1 hu;rw [h.st] at h1 h2;rw [g2] at h1;obtain rfl:=Option.some.inj h1;rw [h.sf];exact ⟨_,g3,.cons hi g1 h2,by rw [h.sw i hi,h3]; omega⟩
theorem Dbl.toS (hD : Opt g t D) (ok : g.Ok) {u k : Nat} {c : Int} (w : Wk g u t k c) (hc : D u = some c) : Wk s u t k k:=by
 generalize ev : t = v at w
 induction w with
 | nil => exact .nil _
 | @cons i v k c hi hu w ih =>
  subst ev;obtain ⟨x,hx,h1⟩:=(hD _ (ok.tl i hi)).2 k c w;obtain ⟨j,hj⟩:=(hD _ (ok.tl i hi)).1 x hx;obtain ⟨y,hy,h2⟩:=(hD _ (ok.fl i hi)).2 _ _ (Wk.cons hi hu hj);rw [hc] at hy;obtain rfl:=Option.some.inj hy;have ex : x = c:=by omega
  subst ex;have h3:=ih hx rfl;rw [← h.st] at h3;have h4:=Wk.cons (i:=i) (by rw [h.sm]; exact hi) ((h.su i hi).2 ⟨hu,x,hx,hc⟩) h3;rw [h.sf,h.sw i hi] at h4;exact h4.cast rfl (by omega)
theorem Dbl.some (hD : Opt g t D) (hS : Opt s t S) (ht : t < g.n) (ok : g.Ok) {v : Nat} (hv : v < g.n) {d : Int} (hd : D v = .some d) : ∃ k : Nat,S v = .some (k : Int) ∧ k < g.n ∧ Wk s v t k k:=by
 obtain ⟨k,hk⟩:=(hD v hv).1 d hd;have w:=h.toS hD ok hk hd;obtain ⟨x,hx,h1⟩:=(hS v (by rw [h.sn]; exact hv)).2 _ _ w;obtain ⟨j,hj⟩:=(hS v (by rw [h.sn]; exact hv)).1 x hx;obtain ⟨d',e1,e2,e3⟩:=h.ofS hD ht ok hj;obtain ⟨j',c',w1,w2,w3,w4⟩:=hj.short (h.okS ok) (by rw [h.sn]; exact ht);obtain ⟨y,hy,h5⟩:=(hS v (by rw [h.sn]; exact hv)).2 _ _ w1;rw [hx] at hy;obtain rfl:=Option.some.inj hy;obtain ⟨_,_,_,e5⟩:=h.ofS hD ht ok w1;rw [h.sn] at w2;exact ⟨j,by rw [hx,e3],by omega,e3 ▸ hj⟩
theorem Dbl.opt (hD : Opt g t D) (hS : Opt s t S) (ht : t < g.n) (ok : g.Ok) (h8 : g.n ≤ 1000) : Opt e t (both D S):=by
 intro v hv;rw [h.en] at hv;constructor
 ·intro x hx
  unfold both at hx
  cases ed : D v with
  | none => rw [ed] at hx; cases hx
  | some d =>
   obtain ⟨k,hk,h1,h2⟩:=h.some hD hS ht ok hv ed;rw [ed,hk] at hx;obtain rfl:=Option.some.inj hx;obtain ⟨d',g1,g2,g3⟩:=h.ofS hD ht ok h2;rw [ed] at g1;obtain rfl:=Option.some.inj g1;exact ⟨k,h.toE g2⟩
 ·intro k c w;obtain ⟨c',w1,rfl⟩:=h.ofE w;obtain ⟨d,hd,h1⟩:=(hD v hv).2 _ _ w1;obtain ⟨j,hj,h2,h3⟩:=h.some hD hS ht ok hv hd;refine ⟨1000 * d + j,by simp [both,hd,hj],?_⟩
  by_cases e0 : d = c'
  case neg => omega
  subst e0;have w2:=h.toS hD ok w1 hd;obtain ⟨x,hx,h4⟩:=(hS v (by rw [h.sn]; exact hv)).2 _ _ w2;rw [hj] at hx;obtain rfl:=Option.some.inj hx;omega
end
end Go.Proofs.Ytljdcinpjnijcaa.Sp
end
section
set_option linter.unusedSimpArgs false
set_option linter.unusedVariables false
set_option linter.unusedSectionVars false
namespace Go.Proofs.Ytljdcinpjnijcaa.Pure
open Go.RowKit Go.Proofs.Ytljdcinpjnijcaa.Pr Go.Proofs.YtljdcinpjnijcaaW.PrintWords Go.Proofs.YtljdcinpjnijcaaW.PrintLast Go.Proofs.YtljdcinpjnijcaaW.PrintMore
open Go.Proofs.Ytljdcinpjnijcaa.Sp (G Wk Opt lts put relax sweep rounds start Dbl)
def gr (N : Nat) (l : List Arc) : G:=⟨N,l.length,fun i => (arc l i).f0.toNat,fun i => (arc l i).f1.toNat,fun i => (arc l i).f2,fun _ => true⟩
def grE (N : Nat) (l : List Arc) : G:={ gr N l with w:=fun i => 1000 * (arc l i).f2 + 1 }
def grS (N : Nat) (l : List Arc) (D : Nat → Option Int) : G:={ gr N l with w:=fun _ => 1,use:=fun i => match D (arc l i).f1.toNat with | none => false | some x => decide (D (arc l i).f0.toNat = some ((arc l i).f2 + x)) }
section
variable {N : Nat} {l : List Arc} (hg : NetGood N l)
include hg
theorem gr_ok : (gr N l).Ok:=⟨fun i hi => by have:=hg.ok i hi; show (arc l i).f0.toNat < N; omega,fun i hi => by have:=hg.ok i hi; show (arc l i).f1.toNat < N; omega,fun i hi => by have:=hg.ok i hi; show 0 ≤ (arc l i).f2; omega⟩
theorem grE_ok : (grE N l).Ok:=⟨fun i hi => by have:=hg.ok i hi; show (arc l i).f0.toNat < N; omega,fun i hi => by have:=hg.ok i hi; show (arc l i).f1.toNat < N; omega,fun i hi => by have:=hg.ok i hi; show 0 ≤ 1000 * (arc l i).f2 + 1; omega⟩
theorem grS_ok (D : Nat → Option Int) : (grS N l D).Ok:=⟨fun i hi => by have:=hg.ok i hi; show (arc l i).f0.toNat < N; omega,fun i hi => by have:=hg.ok i hi; show (arc l i).f1.toNat < N; omega,fun i hi => by show (0 : Int) ≤ 1; omega⟩
end
theorem dbl (N : Nat) (l : List Arc) (D : Nat → Option Int) : Dbl (gr N l) (grE N l) (grS N l D) D:=by
 refine ⟨rfl,rfl,rfl,rfl,rfl,fun i _ => rfl,rfl,rfl,rfl,rfl,fun i _ => rfl,fun i _ => ?_⟩
 show (match D (arc l i).f1.toNat with | none => false | some x => decide (D (arc l i).f0.toNat = some ((arc l i).f2 + x))) = true ↔ _
 cases e : D (arc l i).f1.toNat with
 | none =>
  refine ⟨fun h => (by cases h),fun ⟨_,x,h,_⟩ => ?_⟩;have h : D (arc l i).f1.toNat = some x:=h;rw [e] at h; cases h
 | some x =>
  dsimp only;rw [decide_eq_true_iff];refine ⟨fun h => ⟨rfl,x,e,h⟩,fun ⟨_,y,h,h2⟩ => ?_⟩;have h : D (arc l i).f1.toNat = some y:=h;rw [e] at h;obtain rfl:=Option.some.inj h;exact h2
def dst (N : Nat) (l : List Arc) (t : Nat) : Nat → Option Int:=rounds (gr N l) t N
def stp (N : Nat) (l : List Arc) (t : Nat) : Nat → Option Int:=rounds (grS N l (dst N l t)) t N
section
variable {N : Nat} {l : List Arc} (hg : NetGood N l) {t : Nat} (ht : t < N)
include hg ht
theorem dst_opt : Opt (gr N l) t (dst N l t):=Sp.rounds_opt (gr_ok hg) ht (by show N ≤ N + 1; omega)
theorem stp_opt : Opt (grS N l (dst N l t)) t (stp N l t):=Sp.rounds_opt (grS_ok hg _) ht (by show N ≤ N + 1; omega)
theorem stp_some {v : Nat} (hv : v < N) {d : Int} (hd : dst N l t v = some d) : ∃ k : Nat,stp N l t v = some (k : Int) ∧ k < N:=by
 obtain ⟨k,h1,h2,_⟩:=(dbl N l (dst N l t)).some (dst_opt hg ht) (stp_opt hg ht) ht (gr_ok hg) hv hd;exact ⟨k,h1,h2⟩
theorem tow_both {v : Nat} (hv : v < N) : rounds (grE N l) t N v = Sp.both (dst N l t) (stp N l t) v:=by
 have h8:=hg.n8;have h1:=Sp.rounds_opt (g:=grE N l) (t:=t) (r:=N) (grE_ok hg) ht (by show N ≤ N + 1; omega);have h2:=(dbl N l (dst N l t)).opt (dst_opt hg ht) (stp_opt hg ht) ht (gr_ok hg) (by show N ≤ 1000; omega);exact h1.uniq h2 v hv
end
abbrev Msr:=S104
def ent : Option Int → Msr
 | none => ⟨99999,0⟩
 | some x => ⟨x / 1000,x % 1000⟩
def far : Option Int → Int
 | none => 99999
 | some x => x
def lstM (N : Nat) (F : Nat → Msr) : List Msr:=(List.range N).map F
theorem lstM_len (N : Nat) (F : Nat → Msr) : (lstM N F).length = N:=by simp [lstM]
theorem lstM_rd {N v : Nat} (F : Nat → Msr) (h : v < N) : rd_T104 (lstM N F) (v : Int) = F v:=by
 simp [rd_T104,lstM,h]
theorem lstM_congr {N : Nat} {F H : Nat → Msr} (h : ∀ v,v < N → F v = H v) : lstM N F = lstM N H:=by
 unfold lstM
 exact List.map_congr_left (fun v hv => h v (List.mem_range.1 hv))
theorem lstM_set {N a : Nat} (L : Nat → Option Int) (x : Int) : (lstM N (fun v => ent (L v))).set a (ent (some x)) = lstM N (fun v => ent (put L a x v)):=by
 apply List.ext_getElem (by simp [lstM])
 intro i h1 h2;simp only [List.getElem_set]
 by_cases e : a = i
 case pos => subst e; simp [lstM,put]
 simp [lstM,put,e,show ¬ i = a from fun h => e h.symm]
theorem less_eq (a b c d : Int) : impl_measure_less.f a b c d = some (decide (a < c ∨ a = c ∧ b < d)):=by
 unfold impl_measure_less.f
 by_cases h : a < c
 case pos => rw [if_pos h,decide_eq_true (.inl h)]
 rw [if_neg h]
 by_cases h2 : a = c
 case neg => rw [if_neg h2,decide_eq_false (fun h3 => h3.elim h (fun h4 => h2 h4.1))]
 rw [if_pos h2]
 congr 1
 simp only [decide_eq_decide];exact ⟨fun h3 => .inr ⟨h2,h3⟩,fun h3 => h3.elim (fun h4 => absurd h4 h) (fun h4 => h4.2)⟩
def Bd (s : Nat) (L : Nat → Option Int) : Prop:=∀ v x,L v = some x → 0 ≤ x ∧ x / 1000 ≤ 99 * (s : Int) ∧ x % 1000 ≤ (s : Int)
theorem Bd.relax {N : Nat} {l : List Arc} (hg : NetGood N l) {s : Nat} {L : Nat → Option Int} (h : Bd s L) (hs : s < 900) {i : Nat} (hi : i < l.length) : Bd (s + 1) (relax (grE N l) L i):=by
 obtain ⟨_,_,_,⟨a1,a2⟩,_⟩:=hg.ok i hi;intro v x hx
 rcases Sp.relax_cases (grE N l) L i with ⟨e,_⟩ | ⟨_,y,hy,hl,e⟩
 ·rw [e] at hx; have:=h v x hx; omega
 ·rw [e] at hx
  by_cases hv : v = (grE N l).fr i
  case neg => rw [Sp.put_far _ _ hv] at hx; have:=h v x hx; omega
  subst hv;rw [Sp.put_same] at hx;have hx : some (y + (1000 * (arc l i).f2 + 1)) = some x:=hx;obtain rfl:=Option.some.inj hx;have:=h _ _ hy;omega
theorem Bd.sweep {N : Nat} {l : List Arc} (hg : NetGood N l) {s : Nat} {L : Nat → Option Int} (h : Bd s L) : ∀ i,i ≤ l.length → s + i ≤ 900 → Bd (s + i) (sweep (grE N l) L i):=by
 intro i
 induction i with
 | zero => exact fun _ _ => h
 | succ i ih => exact fun hi hs => (ih (by omega) (by omega)).relax hg (by omega) (by omega)
theorem Bd.mono {s r : Nat} {L : Nat → Option Int} (h : Bd s L) (hs : s ≤ r) : Bd r L:=fun v x hx => by have:=h v x hx; omega
theorem Bd.rounds {N : Nat} {l : List Arc} (hg : NetGood N l) (t : Nat) : ∀ r,r ≤ 9 → Bd (16 * r) (rounds (grE N l) t r):=by
 intro r
 induction r with
 | zero =>
  intro _ v x hx
  unfold Sp.rounds Sp.start at hx
  split at hx
  ·obtain rfl:=Option.some.inj hx; omega
  ·cases hx
 | succ r ih =>
  intro hr;have:=hg.len;exact ((ih (by omega)).sweep hg l.length (Nat.le_refl _) (by omega)).mono (by omega)
def hit (g : G) (L : Nat → Option Int) (i : Nat) : Bool:=match L (g.tw i) with
 | none => false
 | some x => lts (x + g.w i) (L (g.fr i))
def fl (g : G) (L : Nat → Option Int) : Nat → Bool
 | 0 => false
 | i + 1 => fl g L i || hit g (sweep g L i) i
theorem relax_hit {g : G} {L : Nat → Option Int} {i : Nat} (h : hit g L i = false) : relax g L i = L:=by
 unfold hit at h
 unfold Sp.relax
 split
 ·cases e : L (g.tw i) with
  | none => rfl
  | some x => rw [e] at h; dsimp only at h ⊢; rw [h]; rfl
 ·rfl
theorem fl_none {g : G} {L : Nat → Option Int} : ∀ i,fl g L i = false → sweep g L i = L
 | 0,_ => rfl
 | i + 1,h => by
  have h : (fl g L i || hit g (sweep g L i) i) = false:=h;rw [Bool.or_eq_false_iff] at h
  show relax g (sweep g L i) i = L
  rw [relax_hit h.2,fl_none i h.1]
theorem fl_same {g : G} (hu : ∀ i,g.use i = true) {L : Nat → Option Int} (h : ∀ v,sweep g L g.m v = L v) : ∀ i,i ≤ g.m → fl g L i = false
 | 0,_ => rfl
 | i + 1,hi => by
  show (fl g L i || hit g (sweep g L i) i) = false
  rw [fl_same hu h i (by omega),Bool.false_or];have e1 : sweep g L i = L:=funext (Sp.sweep_same h (by omega));have e2 : relax g L i = L:=by
   have : sweep g L (i + 1) = L:=funext (Sp.sweep_same h hi);have e3 : sweep g L (i + 1) = relax g (sweep g L i) i:=rfl;rw [e3,e1] at this;exact this
  rw [e1]
  unfold hit
  unfold Sp.relax at e2
  rw [if_pos (hu i)] at e2;cases e : L (g.tw i) with
  | none => rfl
  | some x =>
   rw [e] at e2;dsimp only at e2 ⊢;cases hl : lts (x + g.w i) (L (g.fr i)) with
   | false => rfl
   | true =>
    rw [if_pos hl] at e2;have:=congrFun e2 (g.fr i);rw [Sp.put_same] at this;rw [← this] at hl;simp [Sp.lts] at hl
section
variable {N : Nat} {l : List Arc} (hg : NetGood N l)
include hg
theorem tow_l1 (L : Nat → Option Int) {s : Nat} (hs : s ≤ 700) (hL : Bd s L) {R : List Msr} : ∀ (m i : Nat),l.length - i = m → i ≤ l.length →
  Ev (fun k => impl_Net_toward.l0 k (lstM N (fun v => ent (sweep (grE N l) L l.length v))) (fl (grE N l) L l.length) N l) R →
  Ev (fun k => impl_Net_toward.l1 k (lstM N (fun v => ent (sweep (grE N l) L i v))) (fl (grE N l) L i) l (l.length : Int) (i : Int) N l) R:=by
 have h16:=hg.len;intro m
 induction m with
 | zero =>
  intro i hd hi h;have e : i = l.length:=by omega
  subst e;refine Ev.go ?_ (fun k => by rw [impl_Net_toward.l1]);exact Ev.neg (by omega) h
 | succ m ih =>
  intro i hd hi h;have hlt : i < l.length:=by omega
  have hn:=ih (i + 1) (by omega) (by omega) h;clear ih h;have hb:=hL.sweep hg i hi (by omega);obtain ⟨⟨a1,a2⟩,⟨a3,a4⟩,a5,⟨a6,a7⟩,_⟩:=hg.ok i hlt;have ef : (grE N l).fr i = (arc l i).f0.toNat:=rfl;have et : (grE N l).tw i = (arc l i).f1.toNat:=rfl;have ew : (grE N l).w i = 1000 * (arc l i).f2 + 1:=rfl;obtain ⟨f,hf⟩:=Int.eq_ofNat_of_zero_le a1;obtain ⟨t,ht⟩:=Int.eq_ofNat_of_zero_le a3;rw [hf,Int.toNat_natCast] at ef;rw [ht,Int.toNat_natCast] at et;have hfN : f < N:=by omega
  have htN : t < N:=by omega
  have hsw : sweep (grE N l) L (i + 1) = relax (grE N l) (sweep (grE N l) L i) i:=rfl;have hfl : fl (grE N l) L (i + 1) = (fl (grE N l) L i || hit (grE N l) (sweep (grE N l) L i) i):=rfl;rw [hsw,hfl] at hn;clear hsw hfl;generalize sweep (grE N l) L i = M at hn hb;generalize fl (grE N l) L i = b at hn;refine Ev.go ?_ (fun k => by rw [impl_Net_toward.l1]);rw [rda,up1 hlt (by simp only [maxLen]; omega),hf,ht,lstM_rd _ htN,lstM_rd _ hfN,lstM_len];refine Ev.pos (by omega) (Ev.pos (by omega) (Ev.pos (by omega) (Ev.pos (by omega) (Ev.pos (by omega) ?_))));cases et2 : M t with
  | none =>
   have hh : hit (grE N l) M i = false:=by unfold hit; rw [et,et2]
   rw [hh,relax_hit hh,Bool.or_false] at hn;exact Ev.pos rfl hn
  | some x =>
   have hx:=hb t x et2;have hq : 0 ≤ x / 1000:=by omega
   have hr : 0 ≤ x % 1000:=by omega
   have w1 : wrap64 (x / 1000 + (arc l i).f2) = x / 1000 + (arc l i).f2:=w64 (by omega) (by omega);have w2 : wrap64 (x % 1000 + 1) = x % 1000 + 1:=w64 (by omega) (by omega);have e1 : (x + (1000 * (arc l i).f2 + 1)) / 1000 = x / 1000 + (arc l i).f2:=by omega
   have e2 : (x + (1000 * (arc l i).f2 + 1)) % 1000 = x % 1000 + 1:=by omega
   have eent : (⟨x / 1000 + (arc l i).f2,x % 1000 + 1⟩ : Msr) = ent (some (x + (1000 * (arc l i).f2 + 1))):=by simp only [ent,e1,e2]
   have hne : ¬ ((ent (some x)).f0 = 99999):=by show ¬ (x / 1000 = 99999); omega
   have elts : decide ((x / 1000 + (arc l i).f2) < (ent (M f)).f0 ∨ (x / 1000 + (arc l i).f2) = (ent (M f)).f0 ∧ (x % 1000 + 1) < (ent (M f)).f1) = lts (x + (1000 * (arc l i).f2 + 1)) (M f):=by
    cases ef2 : M f with
    | none => exact decide_eq_true (.inl (by show x / 1000 + (arc l i).f2 < 99999; omega))
    | some y =>
     have hy:=hb f y ef2
     show decide (_ < y / 1000 ∨ _ = y / 1000 ∧ _ < y % 1000) = decide (_ < y)
     rw [decide_eq_decide];omega
   have hh : hit (grE N l) M i = lts (x + (1000 * (arc l i).f2 + 1)) (M f):=by unfold hit; rw [et,et2,ef,ew]
   have hre : relax (grE N l) M i = if lts (x + (1000 * (arc l i).f2 + 1)) (M f) = true then put M f (x + (1000 * (arc l i).f2 + 1)) else M:=by
    unfold Sp.relax
    rw [if_pos (show (grE N l).use i = true from rfl),et,et2,ef,ew]
   rw [hh,hre] at hn;clear hh hre;refine Ev.neg hne ?_
   show Ev (fun k => if 0 ≤ ((f : Nat) : Int) then _ else _) R
   rw [show (ent (some x)).f0 = x / 1000 from rfl,show (ent (some x)).f1 = x % 1000 from rfl,w1,w2,Int.toNat_natCast,eent,lstM_set];clear w1 w2 hne;refine Ev.pos (by omega) (Ev.pos (by omega) (Ev.bind0 (less_eq _ _ _ _) ?_));rw [elts];cases c : lts (x + (1000 * (arc l i).f2 + 1)) (M f) with
   | true =>
    rw [c,if_pos rfl,Bool.or_true] at hn;exact Ev.pos rfl hn
   | false =>
    rw [c,if_neg (by simp),Bool.or_false] at hn;exact Ev.neg (by simp) hn
theorem tow_l0 {t : Nat} (ht : t < N) : ∀ d r,r + d = N → Ev (fun k => impl_Net_toward.l0 k (lstM N (fun v => ent (rounds (grE N l) t r v))) true N l) (lstM N (fun v => ent (rounds (grE N l) t N v))):=by
 have h8:=hg.n8;have stop : ∀ r,r ≤ N → fl (grE N l) (rounds (grE N l) t r) l.length = false → lstM N (fun v => ent (rounds (grE N l) t (r + 1) v)) = lstM N (fun v => ent (rounds (grE N l) t N v)):=by
  intro r hr hf;have e:=fl_none l.length hf;have o1 : Opt (grE N l) t (rounds (grE N l) t r):=Sp.opt_of_fix (Sp.rounds_real _ _ _) (Sp.rounds_t _ _ _) (fun v => congrFun e v);have o2:=Sp.rounds_opt (g:=grE N l) (t:=t) (r:=N) (grE_ok hg) ht (by show N ≤ N + 1; omega);refine lstM_congr (fun v hv => ?_);have e2 : rounds (grE N l) t (r + 1) = rounds (grE N l) t r:=e;rw [e2,o1.uniq o2 v hv]
 intro d
 induction d with
 | zero =>
  intro r hr;obtain rfl : r = N:=by omega
  refine Ev.go ?_ (fun k => by rw [impl_Net_toward.l0]);refine Ev.pos rfl (tow_l1 hg (rounds (grE r l) t r) (s:=16 * r) (by omega) (Bd.rounds hg t r (by omega)) _ 0 rfl (Nat.zero_le _) ?_);have hf:=fl_same (g:=grE r l) (fun _ => rfl) (L:=rounds (grE r l) t r) (Sp.rounds_fix (grE_ok hg) ht (by show r ≤ r + 1; omega)) l.length (Nat.le_refl _);rw [hf];refine Ev.go ?_ (fun k => by rw [impl_Net_toward.l0]);exact Ev.neg (by simp) (Ev.is (stop r (Nat.le_refl _) hf))
 | succ d ih =>
  intro r hr;refine Ev.go ?_ (fun k => by rw [impl_Net_toward.l0]);refine Ev.pos rfl (tow_l1 hg (rounds (grE N l) t r) (s:=16 * r) (by omega) (Bd.rounds hg t r (by omega)) _ 0 rfl (Nat.zero_le _) ?_);cases hf : fl (grE N l) (rounds (grE N l) t r) l.length with
  | true => exact ih (r + 1) (by omega)
  | false =>
   refine Ev.go ?_ (fun k => by rw [impl_Net_toward.l0]);exact Ev.neg (by simp) (Ev.is (stop r (by omega) hf))
theorem tow_ev {t : Nat} (ht : t < N) : Ev (fun k => impl_Net_toward.f k N l (t : Int)) (lstM N (fun v => ent (rounds (grE N l) t N v))):=by
 have h8:=hg.n8
 unfold impl_Net_toward.f
 refine Ev.bind0 (rep_measure _ N (by omega)) ?_;refine Ev.pos (by omega) (Ev.pos (by simp; omega) ?_);have e : (List.replicate N (⟨99999,0⟩ : Msr)).set (t : Int).toNat ⟨0,0⟩ = lstM N (fun v => ent (rounds (grE N l) t 0 v)):=by
  apply List.ext_getElem (by simp [lstM])
  intro i h1 h2;simp only [Int.toNat_natCast,List.getElem_set]
  by_cases c : t = i
  case pos => subst c; simp [lstM,Sp.rounds,Sp.start,ent]
  simp [lstM,Sp.rounds,Sp.start,ent,c,show ¬ i = t from fun h => c h.symm]
 rw [e];exact tow_l0 hg ht N 0 (by omega)
theorem ent_far {t : Nat} (ht : t < N) {v : Nat} (hv : v < N) : (ent (rounds (grE N l) t N v)).f0 = far (dst N l t v):=by
 have h8:=hg.n8;rw [tow_both hg ht hv]
 unfold Sp.both
 cases e : dst N l t v with
 | none => rfl
 | some d =>
  obtain ⟨k,h1,h2⟩:=stp_some hg ht hv e;rw [h1]
  show (1000 * d + (k : Int)) / 1000 = d
  omega
end
theorem costs_l (N : Nat) (hN : N ≤ 64) (F : Nat → Msr) : ∀ (m i : Nat),N - i = m → i ≤ N → Ev (fun k => impl_costs.l0 k (lst i (fun v => (F v).f0)) (lstM N F) (N : Int) (i : Int)) (lst N (fun v => (F v).f0)):=by
 intro m
 induction m with
 | zero =>
  intro i hd hi;refine Ev.go ?_ (fun k => by rw [impl_costs.l0]);obtain rfl : i = N:=by omega
  exact Ev.neg (by omega) (Ev.now _)
 | succ m ih =>
  intro i hd hi;refine Ev.go ?_ (fun k => by rw [impl_costs.l0]);rw [up1 (show i < N by omega) (by simp only [maxLen]; omega),lstM_rd F (show i < N by omega),lst_snoc i (fun v => (F v).f0),lst_len,lstM_len];exact Ev.pos (by omega) (Ev.pos (by omega) (Ev.pos (by omega) (Ev.pos (by omega) (ih (i + 1) (by omega) (by omega)))))
theorem costs_ev (N : Nat) (hN : N ≤ 64) (F : Nat → Msr) : Ev (fun k => impl_costs.f k (lstM N F)) (lst N (fun v => (F v).f0)):=by
 unfold impl_costs.f
 rw [lstM_len];exact Ev.pos (by omega) (Ev.pos (by omega) (costs_l N hN F _ 0 rfl (Nat.zero_le _)))
theorem from_ev {N : Nat} {l : List Arc} (hg : NetGood N l) {s : Nat} (hs : s < N) : Ev (fun k => impl_Net_from.f k N l (s : Int)) (lst N (fun v => far (dst N (back l) s v))):=by
 have h8:=hg.n8;have h16:=hg.len
 unfold impl_Net_from.f
 refine Ev.bind (implBack_ev _ l (by omega)) (Ev.bind (tow_ev (back_good hg) hs) (Ev.bind (costs_ev N (by omega) _) (Ev.is ?_)));exact lst_congr (fun v hv => ent_far (back_good hg) hs hv)
end Go.Proofs.Ytljdcinpjnijcaa.Pure
end
section
set_option linter.unusedSimpArgs false
set_option linter.unusedVariables false
set_option linter.unusedSectionVars false
namespace Go.Proofs.Ytljdcinpjnijcaa.Pure
open Go.RowKit Go.Proofs.Ytljdcinpjnijcaa.Pr Go.Proofs.YtljdcinpjnijcaaW.PrintWords Go.Proofs.YtljdcinpjnijcaaW.PrintLast Go.Proofs.YtljdcinpjnijcaaW.PrintMore
open Go.Proofs.Ytljdcinpjnijcaa.Sp (G Wk Opt)
theorem back_arc' (l : List Arc) (i : Nat) : arc (back l) i = flip (arc l i):=by
 by_cases h : i < l.length
 case pos => exact back_arc h
 have e1 : arc (back l) i = z34:=by unfold arc; simp [rd_T34,back_len,List.getElem?_eq_none (show l.length ≤ i by omega),List.getElem?_eq_none (show (back l).length ≤ i by rw [back_len]; omega)]
 have e2 : arc l i = z34:=by unfold arc; simp [rd_T34,List.getElem?_eq_none (show l.length ≤ i by omega)]
 rw [e1,e2]; rfl
theorem back_back (l : List Arc) : back (back l) = l:=by
 unfold back
 rw [List.map_map];have : (flip ∘ flip : Arc → Arc) = id:=by funext a; rfl
 rw [this,List.map_id]
theorem walk_back {N : Nat} {l : List Arc} {u v k : Nat} {c : Int} (h : Wk (gr N l) u v k c) : Wk (gr N (back l)) v u k c:=by
 induction h with
 | nil v => exact .nil v
 | @cons i v k c hi hu _ ih =>
  have h1:=Wk.one (g:=gr N (back l)) (i:=i) (by show i < (back l).length; rw [back_len]; exact hi) rfl;have e1 : (gr N (back l)).fr i = (gr N l).tw i:=by show (arc (back l) i).f0.toNat = _; rw [back_arc']; rfl
  have e2 : (gr N (back l)).tw i = (gr N l).fr i:=by show (arc (back l) i).f1.toNat = _; rw [back_arc']; rfl
  have e3 : (gr N (back l)).w i = (gr N l).w i:=by show (arc (back l) i).f2 = _; rw [back_arc']; rfl
  rw [e1,e2,e3] at h1;exact (ih.trans h1).cast rfl (by omega)
theorem wk_cost {N : Nat} {l : List Arc} (hg : NetGood N l) {u v k : Nat} {c : Int} (w : Wk (gr N l) u v k c) : c ≤ 99 * (k : Int):=by
 induction w with
 | nil => omega
 | @cons i _ _ c hi _ _ ih =>
  have h : (gr N l).w i ≤ 99:=(hg.ok i hi).2.2.2.1.2;omega
section
variable {N : Nat} {l : List Arc} (hg : NetGood N l) {t : Nat} (ht : t < N)
include hg ht
theorem dst_bd {v : Nat} (hv : v < N) {d : Int} (h : dst N l t v = some d) : 0 ≤ d ∧ d ≤ 693:=by
 have h8:=hg.n8;obtain ⟨k,w⟩:=(dst_opt hg ht v hv).1 d h;obtain ⟨k',c',w',h1,h2,h3⟩:=w.short (gr_ok hg) ht;obtain ⟨x,h4,h5⟩:=(dst_opt hg ht v hv).2 _ _ w';rw [h] at h4;obtain rfl:=Option.some.inj h4;have h6:=wk_cost hg w';have h7 : k' < N:=h1;exact ⟨w.nonneg (gr_ok hg),by omega⟩
end
end Go.Proofs.Ytljdcinpjnijcaa.Pure
end
section
set_option linter.unusedSimpArgs false
set_option linter.unusedVariables false
set_option linter.unusedSectionVars false
namespace Go.Proofs.Ytljdcinpjnijcaa.Pure
open Go.RowKit Go.Proofs.Ytljdcinpjnijcaa.Pr Go.Proofs.YtljdcinpjnijcaaW.PrintWords Go.Proofs.YtljdcinpjnijcaaW.PrintLast Go.Proofs.YtljdcinpjnijcaaW.PrintMore
open Go.Proofs.Ytljdcinpjnijcaa.Sp (G Wk Opt rounds)
section
variable {N : Nat} {l : List Arc} (hg : NetGood N l) {t : Nat} (ht : t < N)
include hg ht
end
section
variable {N : Nat} {l : List Arc} (hg : NetGood N l)
include hg
theorem dst_flip {s t : Nat} (hs : s < N) (ht : t < N) : dst N (back l) s t = dst N l t s:=by
 have h1:=dst_opt (back_good hg) hs t ht;have h2:=dst_opt hg ht s hs;cases e1 : dst N (back l) s t with
 | none =>
  cases e2 : dst N l t s with
  | none => rfl
  | some y =>
   obtain ⟨k,w⟩:=h2.1 y e2;obtain ⟨x,h,_⟩:=h1.2 _ _ (walk_back w);rw [e1] at h; cases h
 | some x =>
  obtain ⟨k,w⟩:=h1.1 x e1;have w:=walk_back w;rw [back_back] at w;obtain ⟨y,h3,h4⟩:=h2.2 _ _ w;obtain ⟨k2,w2⟩:=h2.1 y h3;obtain ⟨x',h5,h6⟩:=h1.2 _ _ (walk_back w2);rw [e1] at h5;obtain rfl:=Option.some.inj h5;rw [h3]; congr 1; omega
theorem nearAll_ev {s : Nat} (hs : s < N) : Ev (fun q => impl_NearAll.f q N l (s : Int)) (lst N (fun v => far (dst N l v s))):=by
 unfold impl_NearAll.f
 refine Ev.bind0 (a:=true) (by rw [nodesIn_eq,(netOkB_iff _ _).2 hg]; simp [okN]; omega) (Ev.pos rfl (Ev.bind (from_ev hg hs) (Ev.is ?_)));exact lst_congr (fun v hv => by rw [dst_flip hg hs hv])
end
end Go.Proofs.Ytljdcinpjnijcaa.Pure
end
section
set_option linter.unusedSimpArgs false
set_option linter.unusedVariables false
set_option linter.unusedSectionVars false
namespace Go.Proofs.Ytljdcinpjnijcaa.Pure
open Go.RowKit Go.Proofs.Ytljdcinpjnijcaa.Pr Go.Proofs.YtljdcinpjnijcaaW.PrintWords Go.Proofs.YtljdcinpjnijcaaW.PrintLast Go.Proofs.YtljdcinpjnijcaaW.PrintMore
open Go.Proofs.Ytljdcinpjnijcaa.Sp (G Wk Opt lts put relax sweep rounds start)
section
variable {N : Nat} {l : List Arc} (hg : NetGood N l)
include hg
end
theorem l1Back_l (n m0 : Int) (l : List Arc) (hm : l.length ≤ 1000) : ∀ (m i : Nat),l.length - i = m → i ≤ l.length → Ev (fun k => spec_l1Back.l0 k (i : Int) n l m0 ((back l).take i)) (m0,back l):=by
 intro m
 induction m with
 | zero =>
  intro i hd hi;refine Ev.go ?_ (fun k => by rw [spec_l1Back.l0]);refine Ev.neg (by omega) (Ev.is ?_);rw [List.take_of_length_le (by rw [back_len]; omega)]
 | succ m ih =>
  intro i hd hi;have hlt : i < l.length:=by omega
  refine Ev.go ?_ (fun k => by rw [spec_l1Back.l0]);have ih:=ih (i + 1) (by omega) (by omega);have hlt2 : i < (back l).length:=by rw [back_len]; exact hlt
  rw [List.take_succ_eq_append_getElem hlt2,← arc_get hlt2,back_arc hlt] at ih;rw [up1 hlt (by simp only [maxLen]; omega),rda];exact Ev.pos (by omega) (Ev.pos (by omega) (Ev.pos (by simp; omega) ih))
theorem l1Back_ev (n : Int) (l : List Arc) (hm : l.length ≤ 1000) : Ev (fun k => spec_l1Back.f k n l) (n,back l):=by
 unfold spec_l1Back.f
 simpa using l1Back_l n n l hm _ 0 rfl (Nat.zero_le _)
end Go.Proofs.Ytljdcinpjnijcaa.Pure
end
section
set_option linter.unusedSimpArgs false
set_option linter.unusedVariables false
set_option linter.unusedSectionVars false
namespace Go.Proofs.Ytljdcinpjnijcaa.Pure
open Go.RowKit Go.Proofs.Ytljdcinpjnijcaa.Pr Go.Proofs.YtljdcinpjnijcaaW.PrintWords Go.Proofs.YtljdcinpjnijcaaW.PrintLast Go.Proofs.YtljdcinpjnijcaaW.PrintMore
def BdA (x : List Int) : Prop:=∀ v ∈ x,0 ≤ v ∧ v ≤ 99999
theorem BdA.at {x : List Int} (h : BdA x) {i : Nat} (hi : i < x.length) : 0 ≤ rd x (i : Int) ∧ rd x (i : Int) ≤ 99999:=by rw [rdn hi]; exact h _ (List.getElem_mem hi)
theorem BdA.set {x : List Int} (h : BdA x) (i : Nat) {v : Int} (hv : 0 ≤ v ∧ v ≤ 99999) : BdA (x.set i v):=by
 intro u hu
 rcases List.mem_or_eq_of_mem_set hu with q | q
 ·exact h u q
 ·rw [q]; exact hv
theorem next_l {a : List Int} {s : List Bool} (ha : BdA a) (hs : s.length = a.length) (hm : a.length ≤ 1000) : ∀ (d i : Nat) (t : Int),a.length - i = d → i ≤ a.length → -1 ≤ t → t < (i : Int) → Ev (fun k => spec_l20Next.l0 k a s t (i : Int)) (nxF a s d i t)
 | 0,i,t,hd,hi,_,_ => by
  refine Ev.go ?_ (fun k => by rw [spec_l20Next.l0]);exact Ev.neg (by omega) (Ev.now _)
 | d + 1,i,t,hd,hi,h0,h1 => by
  have hlt : i < a.length:=by omega
  have hb:=ha.at hlt;have e : nxF a s (d + 1) i t = nxF a s d (i + 1) (if rd a (i : Int) ≠ 99999 ∧ rdOf false s (i : Int) = false ∧ (t < 0 ∨ rd a (i : Int) < rd a t) then (i : Int) else t):=rfl;have iht:=next_l ha hs hm d (i + 1) t (by omega) (by omega) h0 (by omega);have ihi:=next_l ha hs hm d (i + 1) (i : Int) (by omega) (by omega) (by omega) (by omega);refine Ev.go ?_ (fun k => by rw [spec_l20Next.l0]);rw [up1 hlt (by simp only [maxLen]; omega),e];refine Ev.pos (by omega) (Ev.pos (by omega) (Ev.pos (by omega) ?_));cases hq : rdOf false s (i : Int) with
  | true =>
   rw [if_neg (fun z => by simp at z)];exact Ev.pos rfl iht
  | false =>
   refine Ev.neg (by simp) ?_
   by_cases c : rd a (i : Int) < 99999
   case neg =>
    rw [if_neg (fun z => z.1 (by omega))];exact Ev.neg c iht
   refine Ev.pos c ?_
   by_cases c1 : t < 0
   case pos =>
    rw [if_pos ⟨by omega,rfl,.inl c1⟩];exact Ev.pos c1 ihi
   refine Ev.neg c1 (Ev.pos (by omega) (Ev.pos (by omega) ?_))
   by_cases c2 : rd a (i : Int) < rd a t
   case pos =>
    rw [if_pos ⟨by omega,rfl,.inr c2⟩];exact Ev.pos c2 ihi
   rw [if_neg (fun z => by rcases z.2.2 with q | q; exact c1 q; exact c2 q)];exact Ev.neg c2 iht
theorem next_ev {a : List Int} {s : List Bool} (ha : BdA a) (hs : s.length = a.length) (hm : a.length ≤ 1000) : Ev (fun k => spec_l20Next.f k a s) (nextV a s) :=
 next_l ha hs hm _ 0 (-1) rfl (Nat.zero_le _) (by omega) (by omega)
theorem nxF_open {a : List Int} {s : List Bool} : ∀ (d i : Nat) (t : Int),(0 ≤ t → rd a t ≠ 99999 ∧ rdOf false s t = false) → (0 ≤ nxF a s d i t → rd a (nxF a s d i t) ≠ 99999 ∧ rdOf false s (nxF a s d i t) = false)
 | 0,_,_,h => h
 | d + 1,i,t,h => by
  unfold nxF
  refine nxF_open d (i + 1) _ (fun h0 => ?_)
  split
  ·rename_i c; exact ⟨c.1,c.2.1⟩
  ·rename_i c; rw [if_neg c] at h0; exact h h0
theorem nextV_open {a : List Int} {s : List Bool} (h : 0 ≤ nextV a s) : rd a (nextV a s) ≠ 99999 ∧ rdOf false s (nextV a s) = false:=nxF_open _ _ _ (fun h => absurd h (by omega)) h
theorem sum_l {a b : List Int} (ha : BdA a) (hb : BdA b) (hl : b.length = a.length) (hm : a.length ≤ 1000) : ∀ (d i : Nat) (m : Int),a.length - i = d → i ≤ a.length → m ≤ 99999 → Ev (fun k => spec_l20Sum.l0 k a b m (i : Int)) (leF a b d i m)
 | 0,i,m,hd,hi,_ => by
  refine Ev.go ?_ (fun k => by rw [spec_l20Sum.l0]);exact Ev.neg (by omega) (Ev.now _)
 | d + 1,i,m,hd,hi,h0 => by
  have hlt : i < a.length:=by omega
  have h1:=ha.at hlt;have h2:=hb.at (show i < b.length by omega);have e : leF a b (d + 1) i m = leF a b d (i + 1) (if rd a (i : Int) ≠ 99999 ∧ rd b (i : Int) ≠ 99999 then mn m (wrap64 (rd a (i : Int) + rd b (i : Int))) else m):=rfl;have ihm:=sum_l ha hb hl hm d (i + 1) m (by omega) (by omega) h0;refine Ev.go ?_ (fun k => by rw [spec_l20Sum.l0]);rw [up1 hlt (by simp only [maxLen]; omega),e,w64 (n:=rd a (i : Int) + rd b (i : Int)) (by omega) (by omega)];refine Ev.pos (by omega) (Ev.pos (by omega) (Ev.pos (by omega) ?_))
  by_cases c : rd a (i : Int) + rd b (i : Int) < m
  case pos =>
   rw [if_pos ⟨by omega,by omega⟩,mn_lt c];exact Ev.pos c (sum_l ha hb hl hm d (i + 1) _ (by omega) (by omega) (by omega))
  refine Ev.neg c ?_
  by_cases c2 : rd a (i : Int) ≠ 99999 ∧ rd b (i : Int) ≠ 99999
  case neg => rw [if_neg c2]; exact ihm
  rw [if_pos c2,mn_ge c]; exact ihm
theorem sum_ev {a b : List Int} (ha : BdA a) (hb : BdA b) (hl : b.length = a.length) (hm : a.length ≤ 1000) : Ev (fun k => spec_l20Sum.f k a b) (leV a b):=sum_l ha hb hl hm _ 0 99999 rfl (Nat.zero_le _) (Int.le_refl _)
section
variable {N : Nat} {l : List Arc} (hg : NetGood N l)
include hg
theorem look_step {v : Nat} (hv : v < N) {i : Nat} (hi : i < l.length) {x : List Int} (hx : x.length = N) (hb : BdA x) : (lkS (v : Int) (arc l i) x).length = N ∧ BdA (lkS (v : Int) (arc l i) x):=by
 have hok:=hg.ok i hi;have h1:=hb.at (show v < x.length by omega)
 unfold lkS
 split
 ·obtain ⟨t,ht⟩:=Int.eq_ofNat_of_zero_le hok.2.1.1;have h2:=hb.at (show t < x.length by omega);refine ⟨by rw [List.length_set]; exact hx,hb.set _ ?_⟩;rw [ht,w64 (by omega) (by omega)]
  unfold mn
  split <;> omega
 ·exact ⟨hx,hb⟩
theorem look_l {v : Nat} (hv : v < N) : ∀ (d i : Nat) (x : List Int),l.length - i = d → i ≤ l.length → x.length = N → BdA x → Ev (fun k => spec_l20Look.l0 k (v : Int) x (i : Int) N l) (lkF l (v : Int) d i x)
 | 0,i,x,hd,hi,hx,hb => by
  refine Ev.go ?_ (fun k => by rw [spec_l20Look.l0]);exact Ev.neg (by omega) (Ev.now _)
 | d + 1,i,x,hd,hi,hx,hb => by
  have h16:=hg.len;have h8:=hg.n8;have hlt : i < l.length:=by omega
  have hok:=hg.ok i hlt;have h1:=hb.at (show v < x.length by omega);obtain ⟨t,ht⟩:=Int.eq_ofNat_of_zero_le hok.2.1.1;have htl : t < x.length:=by omega
  have h2:=hb.at htl;have hst:=look_step hg hv hlt hx hb;have ih:=look_l hv d (i + 1) _ (by omega) (by omega) hst.1 hst.2;have e : lkF l (v : Int) (d + 1) i x = lkF l (v : Int) d (i + 1) (lkS (v : Int) (arc l i) x):=by rw [← rda l i]; rfl
  refine Ev.go ?_ (fun k => by rw [spec_l20Look.l0]);rw [e,rda l i,up1 hlt (by simp only [maxLen]; omega)];refine Ev.pos (by omega) (Ev.pos (by omega) ?_)
  by_cases c : (arc l i).f0 = (v : Int)
  case neg =>
   have e2 : lkS (v : Int) (arc l i) x = x:=by unfold lkS; rw [if_neg c]
   rw [e2] at ih ⊢;exact Ev.neg c ih
  have e2 : lkS (v : Int) (arc l i) x = x.set t (mn (rd x (t : Int)) (rd x (v : Int) + (arc l i).f2)):=by
   unfold lkS
   rw [if_pos c,ht,w64 (by omega) (by omega),Int.toNat_natCast]
  rw [e2] at ih ⊢;rw [ht,w64 (n:=rd x (v : Int) + _) (by omega) (by omega),Int.toNat_natCast];refine Ev.pos c (Ev.pos (by omega) (Ev.pos (by omega) (Ev.pos (by omega) (Ev.pos (by omega) ?_))))
  by_cases c2 : rd x (v : Int) + (arc l i).f2 < rd x (t : Int)
  case pos =>
   rw [mn_lt c2] at ih ⊢;exact Ev.pos c2 ih
  rw [mn_ge c2,rdn htl,List.set_getElem_self] at ih ⊢;rw [← rdn htl];exact Ev.neg c2 ih
theorem look_keep {v : Nat} (hv : v < N) : ∀ (d i : Nat) (x : List Int),i + d ≤ l.length → x.length = N → BdA x → (lkF l (v : Int) d i x).length = N ∧ BdA (lkF l (v : Int) d i x)
 | 0,i,x,hd,hx,hb => ⟨hx,hb⟩
 | d + 1,i,x,hd,hx,hb => by
  have hst:=look_step hg hv (show i < l.length by omega) hx hb;have e : lkF l (v : Int) (d + 1) i x = lkF l (v : Int) d (i + 1) (lkS (v : Int) (arc l i) x):=by rw [← rda l i]; rfl
  rw [e];exact look_keep hv d (i + 1) _ (by omega) hst.1 hst.2
theorem look_ev {v : Nat} (hv : v < N) {x : List Int} (hx : x.length = N) (hb : BdA x) : Ev (fun k => spec_l20Look.f k N l x (v : Int)) (lkF l (v : Int) l.length 0 x):=by
 have h8:=hg.n8
 unfold spec_l20Look.f
 refine Ev.bind0 rfl (Ev.pos (by simp; omega) ?_);rw [List.nil_append];exact look_l hg hv _ 0 x rfl (Nat.zero_le _) hx hb
theorem open_l {s : Nat} (hs : s < N) : ∀ (d i : Nat) (x : List Int),N - i = d → i ≤ N → x.length = N → (∀ j,j < i → nth x j = 99999) → Ev (fun k => spec_l20Open.l0 k (s : Int) x (i : Int) N l) ((List.replicate N 99999).set s 0)
 | 0,i,x,hd,hi,hx,hn => by
  have e : x = List.replicate N 99999:=by
   apply List.ext_getElem (by simpa using hx)
   intro j h1 h2;have:=hn j (by omega);rw [nth_get h1] at this
   simpa using this
  refine Ev.go ?_ (fun k => by rw [spec_l20Open.l0]);refine Ev.neg (by omega) (Ev.pos (by omega) (Ev.pos (by omega) (Ev.is ?_)));rw [e,Int.toNat_natCast]
 | d + 1,i,x,hd,hi,hx,hn => by
  have h8:=hg.n8;have hlt : i < N:=by omega
  refine Ev.go ?_ (fun k => by rw [spec_l20Open.l0]);rw [up1 hlt (by simp only [maxLen]; omega),Int.toNat_natCast];refine Ev.pos (by omega) (Ev.pos (by omega) (Ev.pos (by omega) (open_l hs d (i + 1) _ (by omega) (by omega) (by rw [List.length_set]; exact hx) (fun j hj => ?_))))
  by_cases e : j = i
  case pos => subst e; rw [nth_get (by rw [List.length_set]; omega),List.getElem_set_self]
  rw [nth_get (by rw [List.length_set]; omega),List.getElem_set_ne (fun h => e h.symm),← nth_get (by omega)]; exact hn j (by omega)
theorem open_ev {s : Nat} (hs : s < N) : Ev (fun k => spec_l20Open.f k N l (s : Int)) ((List.replicate N 99999).set s 0):=by
 have h8:=hg.n8
 unfold spec_l20Open.f
 rw [Int.toNat_natCast];exact Ev.pos (by omega) (Ev.pos (by omega) (open_l hg hs _ 0 _ rfl (Nat.zero_le _) (by simp) (fun j hj => absurd hj (by omega))))
end
theorem cnt_set {s : List Bool} {i : Nat} (hi : i < s.length) (h : rdOf false s (i : Int) = false) : (s.set i true).count false + 1 = s.count false:=by
 have e : s[i] = false:=by
  have : rdOf false s (i : Int) = s[i]:=by simp [rdOf,hi]
  rw [← this]; exact h
 have hp : 0 < s.count false:=List.count_pos_iff.2 (e ▸ List.getElem_mem hi);rw [List.count_set hi,e];simp;omega
theorem both_ev {N : Nat} {l : List Arc} (hg : NetGood N l) : ∀ (d : Nat) (a : List Int) (s : List Bool) (b : List Int) (t : List Bool) (m : Int),s.count false + t.count false ≤ d → a.length = N → s.length = N → b.length = N → t.length = N → BdA a → BdA b →
  ∃ r,Ev (fun k => spec_l20Both.l0 k a b s t m N l N (back l)) r ∧ Ev (fun k => bothF l (back l) k a s b t m) r:=by
 intro d;have h8:=hg.n8;have hgb:=back_good hg
 induction d with
 | zero =>
  intro a s b t m hd la ls lb lt ha hb;have n1:=next_ev ha (by omega : s.length = a.length) (by omega);have n2:=next_ev hb (by omega : t.length = b.length) (by omega);have hsum:=sum_ev ha hb (by omega : b.length = a.length) (by omega);have hneg : nextV a s < 0:=by
   apply Classical.byContradiction
   intro h;have ho:=nextV_open (show 0 ≤ nextV a s by omega);have hbd:=nextV_bd a s;obtain ⟨i,hi⟩:=Int.eq_ofNat_of_zero_le (show 0 ≤ nextV a s by omega);rw [hi] at ho hbd;have:=cnt_set (show i < s.length by omega) ho.2;omega
  refine ⟨(leV a b,m),Ev.go ?_ (fun k => by rw [spec_l20Both.l0]),Ev.go ?_ (fun k => by rw [bothF])⟩
  ·refine Ev.bind n1 (Ev.bind n2 (Ev.pos hneg (Ev.go ?_ (fun k => by rw [spec_l20Both.j1]))));exact Ev.pos rfl (Ev.bind hsum (Ev.now _))
  ·exact Ev.pos hneg (Ev.now _)
 | succ d ih =>
  intro a s b t m hd la ls lb lt ha hb;have n1:=next_ev ha (by omega : s.length = a.length) (by omega);have n2:=next_ev hb (by omega : t.length = b.length) (by omega);have hsum:=sum_ev ha hb (by omega : b.length = a.length) (by omega)
  by_cases c1 : nextV a s < 0
  ·refine ⟨(leV a b,m),Ev.go ?_ (fun k => by rw [spec_l20Both.l0]),Ev.go ?_ (fun k => by rw [bothF])⟩
   ·refine Ev.bind n1 (Ev.bind n2 (Ev.pos c1 (Ev.go ?_ (fun k => by rw [spec_l20Both.j1]))));exact Ev.pos rfl (Ev.bind hsum (Ev.now _))
   ·exact Ev.pos c1 (Ev.now _)
  by_cases c2 : nextV b t < 0
  ·refine ⟨(leV a b,m),Ev.go ?_ (fun k => by rw [spec_l20Both.l0]),Ev.go ?_ (fun k => by rw [bothF])⟩
   ·refine Ev.bind n1 (Ev.bind n2 (Ev.neg c1 (Ev.pos c2 (Ev.go ?_ (fun k => by rw [spec_l20Both.j1])))));exact Ev.pos rfl (Ev.bind hsum (Ev.now _))
   ·exact Ev.neg c1 (Ev.pos c2 (Ev.now _))
  have o1:=nextV_open (show 0 ≤ nextV a s by omega);have o2:=nextV_open (show 0 ≤ nextV b t by omega);have b1:=nextV_bd a s;have b2:=nextV_bd b t;obtain ⟨i,hi⟩:=Int.eq_ofNat_of_zero_le (show 0 ≤ nextV a s by omega);obtain ⟨j,hj⟩:=Int.eq_ofNat_of_zero_le (show 0 ≤ nextV b t by omega);rw [hi] at o1 b1 n1 c1;rw [hj] at o2 b2 n2 c2;have hai:=ha.at (show i < a.length by omega);have hbj:=hb.at (show j < b.length by omega);have hw : wrap64 (rd a (i : Int) + rd b (j : Int)) = rd a (i : Int) + rd b (j : Int):=w64 (by omega) (by omega)
  by_cases c3 : leV a b ≤ rd a (i : Int) + rd b (j : Int)
  ·refine ⟨(leV a b,m),Ev.go ?_ (fun k => by rw [spec_l20Both.l0]),Ev.go ?_ (fun k => by rw [bothF])⟩
   ·refine Ev.bind n1 (Ev.bind n2 (Ev.neg c1 (Ev.neg c2 (Ev.pos (by omega) (Ev.pos (by omega) (Ev.pos (by omega) (Ev.pos (by omega) (Ev.bind hsum (Ev.go ?_ (fun k => by rw [spec_l20Both.j1]))))))))));rw [hw];exact Ev.pos (decide_eq_true c3) (Ev.bind hsum (Ev.now _))
   ·rw [hi,hj,hw];exact Ev.neg c1 (Ev.neg c2 (Ev.pos c3 (Ev.now _)))
  by_cases c4 : rd a (i : Int) ≤ rd b (j : Int)
  case pos =>
   have hc:=cnt_set (show i < s.length by omega) o1.2;obtain ⟨k1,k2⟩:=look_keep hg (show i < N by omega) l.length 0 a (by omega) la ha;obtain ⟨r,r1,r2⟩:=ih (lkF l (i : Int) l.length 0 a) (s.set i true) b t (wrap64 (m + 1)) (by omega) k1 (by rw [List.length_set]; exact ls) lb lt k2 hb;refine ⟨r,Ev.go ?_ (fun k => by rw [spec_l20Both.l0]),Ev.go ?_ (fun k => by rw [bothF])⟩
   ·refine Ev.bind n1 (Ev.bind n2 (Ev.neg c1 (Ev.neg c2 (Ev.pos (by omega) (Ev.pos (by omega) (Ev.pos (by omega) (Ev.pos (by omega) (Ev.bind hsum (Ev.go ?_ (fun k => by rw [spec_l20Both.j1]))))))))));rw [hw,Int.toNat_natCast];exact Ev.neg (by simpa using c3) (Ev.pos (by omega) (Ev.pos (by omega) (Ev.pos (by omega) (Ev.pos (by omega) (Ev.pos c4 (Ev.pos (by omega) (Ev.bind (look_ev hg (show i < N by omega) la ha) r1)))))))
   ·rw [hi,hj,hw,Int.toNat_natCast];exact Ev.neg c1 (Ev.neg c2 (Ev.neg c3 (Ev.pos c4 r2)))
  have hc:=cnt_set (show j < t.length by omega) o2.2;obtain ⟨k1,k2⟩:=look_keep hgb (show j < N by omega) (back l).length 0 b (by omega) lb hb;obtain ⟨r,r1,r2⟩:=ih a s (lkF (back l) (j : Int) (back l).length 0 b) (t.set j true) (wrap64 (m + 1)) (by omega) la ls k1 (by rw [List.length_set]; exact lt) ha k2;refine ⟨r,Ev.go ?_ (fun k => by rw [spec_l20Both.l0]),Ev.go ?_ (fun k => by rw [bothF])⟩
  ·refine Ev.bind n1 (Ev.bind n2 (Ev.neg c1 (Ev.neg c2 (Ev.pos (by omega) (Ev.pos (by omega) (Ev.pos (by omega) (Ev.pos (by omega) (Ev.bind hsum (Ev.go ?_ (fun k => by rw [spec_l20Both.j1]))))))))));rw [hw,Int.toNat_natCast];exact Ev.neg (by simpa using c3) (Ev.pos (by omega) (Ev.pos (by omega) (Ev.pos (by omega) (Ev.pos (by omega) (Ev.neg c4 (Ev.pos (by omega) (Ev.bind (look_ev hgb (show j < N by omega) lb hb) r1)))))))
  ·rw [hi,hj,hw,Int.toNat_natCast];exact Ev.neg c1 (Ev.neg c2 (Ev.neg c3 (Ev.neg c4 r2)))
theorem okTo_good {N : Nat} {l : List Arc} (hg : NetGood N l) : okTo N l = true:=by
 unfold okTo
 rw [List.all_eq_true];intro x hx;obtain ⟨i,hi,rfl⟩:=List.getElem_of_mem hx;have:=hg.ok i hi;rw [arc_get hi] at this;rw [Bool.and_eq_true,decide_eq_true_eq,decide_eq_true_eq];exact ⟨this.2.1.1,this.2.1.2⟩
theorem bothNet_ev {N : Nat} {l : List Arc} (hg : NetGood N l) {s t : Nat} (hs : s < N) (ht : t < N) : ∃ r,Ev (fun k => spec_l20Both.f k N l (s : Int) (t : Int)) r ∧ Ev (fun k => impl_Net_both.f k N l (s : Int) (t : Int)) r ∧ Ev (fun k => bothF l (back l) k ((List.replicate N 99999).set s 0) (List.replicate N false) ((List.replicate N 99999).set t 0) (List.replicate N false) 0) r:=by
 have h1:=hg.n1;have h8:=hg.n8;have h16:=hg.len;have hb0 : BdA (List.replicate N 99999):=fun v hv => by rw [List.eq_of_mem_replicate hv]; omega
 obtain ⟨r,r1,r2⟩:=both_ev hg (N + N) ((List.replicate N 99999).set s 0) (List.replicate N false) ((List.replicate N 99999).set t 0) (List.replicate N false) 0 (by simp) (by simp) (by simp) (by simp) (by simp) (hb0.set _ (by omega)) (hb0.set _ (by omega));refine ⟨r,?_,?_,r2⟩
 ·unfold spec_l20Both.f
  rw [Int.toNat_natCast];exact Ev.bind (l1Back_ev N l (by omega)) (Ev.bind (open_ev hg hs) (Ev.bind (open_ev hg ht) (Ev.pos (by omega) (Ev.pos (by omega) r1))))
 ·unfold impl_Net_both.f
  rw [Int.toNat_natCast,Int.toNat_natCast,Int.toNat_natCast];refine Ev.pos ?_ (Ev.bind (implBack_ev N l (by omega)) (Ev.pos rfl (Ev.pos (by rw [back_len]; omega) (Ev.pos (okTo_good (back_good hg)) r2))))
  unfold okB
  rw [Int.toNat_natCast,okTo_good hg];simp only [Bool.and_eq_true,decide_eq_true_eq,and_true];omega
theorem bothNear_ev (n : Int) (l : List Arc) (hm : l.length ≤ maxLen) (s t : Int) : ∃ r,Ev (fun k => spec_BothNear.f k n l s t) r ∧ Ev (fun k => impl_BothNear.f k n l s t) r ∧ (r.1 < 0 ∨ ∃ N u v : Nat,n = (N : Int) ∧ s = (u : Int) ∧ t = (v : Int) ∧ NetGood N l ∧ u < N ∧ v < N ∧ Ev (fun k => bothF l (back l) k ((List.replicate N 99999).set u 0) (List.replicate N false) ((List.replicate N 99999).set v 0) (List.replicate N false) 0) r):=by
 unfold spec_BothNear.f impl_BothNear.f
 rw [nodesIn_eq];have h1:=l1Ok_ev n l hm;cases hk : netOkB n l with
 | false =>
  rw [hk] at h1;exact ⟨(-1,-1),Ev.bind h1 (Ev.neg (by simp) (Ev.now _)),Ev.bind0 rfl (Ev.neg (by simp) (Ev.now _)),.inl (by show (-1 : Int) < 0; omega)⟩
 | true =>
  rw [hk] at h1;have hg:=(netOkB_iff n l).1 hk;have g1:=hg.n1;have g8:=hg.n8;have hw : wrap64 (n - 1) = n - 1:=w64 (by omega) (by omega);have hin : ∀ z : Int,spec_l1In.f z 0 (wrap64 (n - 1)) = some (okN n z):=by
   intro z;rw [hw]
   unfold spec_l1In.f okN
   by_cases q : z ≥ 0
   case neg => rw [if_neg q]; congr 1; simp; omega
   rw [if_pos q]; congr 1; simp; omega
  by_cases a1 : okN n s = true
  case neg => exact ⟨(-1,-1),Ev.bind h1 (Ev.pos rfl (Ev.bind0 (hin _) (Ev.neg a1 (Ev.now _)))),Ev.bind0 rfl (Ev.neg (by simp [a1]) (Ev.now _)),.inl (by show (-1 : Int) < 0; omega)⟩
  by_cases a2 : okN n t = true
  case neg => exact ⟨(-1,-1),Ev.bind h1 (Ev.pos rfl (Ev.bind0 (hin _) (Ev.pos a1 (Ev.bind0 (hin _) (Ev.neg a2 (Ev.now _)))))),Ev.bind0 rfl (Ev.neg (by simp [a1,a2]) (Ev.now _)),.inl (by show (-1 : Int) < 0; omega)⟩
  have b1 : 0 ≤ s ∧ s < n:=by unfold okN at a1; simp at a1; omega
  have b2 : 0 ≤ t ∧ t < n:=by unfold okN at a2; simp at a2; omega
  obtain ⟨N,rfl⟩:=Int.eq_ofNat_of_zero_le (show 0 ≤ n by omega);obtain ⟨u,rfl⟩:=Int.eq_ofNat_of_zero_le b1.1;obtain ⟨v,rfl⟩:=Int.eq_ofNat_of_zero_le b2.1;obtain ⟨r,r1,r2,r3⟩:=bothNet_ev hg (show u < N by omega) (show v < N by omega);refine ⟨r,Ev.bind h1 (Ev.pos rfl (Ev.bind0 (hin _) (Ev.pos a1 (Ev.bind0 (hin _) (Ev.pos a2 (Ev.bind r1 (Ev.now _))))))),Ev.bind0 rfl (Ev.pos (by simp [a1,a2]) (Ev.bind r2 (Ev.now _))),.inr ⟨N,u,v,rfl,rfl,rfl,hg,by omega,by omega,r3⟩⟩
end Go.Proofs.Ytljdcinpjnijcaa.Pure
end
section
set_option linter.unusedSectionVars false
namespace Go.Proofs.Ytljdcinpjnijcaa.Sp
structure Dij (g : G) (s : Nat) (a : Nat → Int) (d : Nat → Bool) : Prop where
 top : ∀ v,a v ≤ 99999
 real : ∀ v,a v < 99999 → ∃ k,Wk g s v k (a v)
 s0 : a s ≤ 0
 fin : ∀ v,d v = true → a v < 99999
 told : ∀ i,i < g.m → g.use i = true → d (g.fr i) = true → a (g.tw i) ≤ a (g.fr i) + g.w i
 low : ∀ u v,d u = true → d v = false → a u ≤ a v
def ask (g : G) (a : Nat → Int) (v i : Nat) : Nat → Int:=if g.use i = true ∧ g.fr i = v then fun x => if x = g.tw i then min (a x) (a v + g.w i) else a x else a
def askTo (g : G) (a : Nat → Int) (v : Nat) : Nat → (Nat → Int)
 | 0 => a
 | i + 1 => ask g (askTo g a v i) v i
def shut (d : Nat → Bool) (v : Nat) : Nat → Bool:=fun x => if x = v then true else d x
section
variable {g : G} (ok : g.Ok) {a : Nat → Int} {v : Nat}
include ok
omit ok in
theorem ask_le (i x : Nat) : ask g a v i x ≤ a x:=by
 unfold ask
 split
 ·dsimp only; split <;> omega
 ·omega
theorem ask_ge {i : Nat} (hi : i < g.m) (x : Nat) (h : ¬ a v < a x) : ask g a v i x = a x:=by
 have:=ok.w0 i hi
 unfold ask
 split
 ·dsimp only; split <;> omega
 ·rfl
theorem askTo_le (x : Nat) : ∀ i j,i ≤ j → askTo g a v j x ≤ askTo g a v i x:=by
 intro i j h
 induction j with
 | zero => rw [show i = 0 by omega]; omega
 | succ j ih =>
  by_cases e : i = j + 1
  case pos => subst e; omega
  exact Int.le_trans (ask_le j x) (ih (by omega))
theorem askTo_keep {x : Nat} (h : ¬ a v < a x) : ∀ i,i ≤ g.m → askTo g a v i x = a x ∧ askTo g a v i v = a v:=by
 intro i
 induction i with
 | zero => exact fun _ => ⟨rfl,rfl⟩
 | succ i ih =>
  intro hi;obtain ⟨h1,h2⟩:=ih (by omega);have e1:=ask_ge ok (a:=askTo g a v i) (v:=v) (i:=i) (by omega) x (by omega);have e2:=ask_ge ok (a:=askTo g a v i) (v:=v) (i:=i) (by omega) v (by omega);exact ⟨e1.trans h1,e2.trans h2⟩
theorem askTo_low {x : Nat} : ∀ i,i ≤ g.m → min (a x) (a v) ≤ askTo g a v i x:=by
 intro i
 induction i with
 | zero => intro _; simp only [askTo]; omega
 | succ i ih =>
  intro hi;have h1:=ih (by omega);have h2:=(askTo_keep ok (a:=a) (v:=v) (x:=v) (by omega) i (by omega)).2;have:=ok.w0 i (by omega);simp only [askTo,ask]
  split
  ·dsimp only; split <;> omega
  ·exact h1
theorem askTo_arc {i : Nat} (hi : i < g.m) (hu : g.use i = true) (hv : g.fr i = v) : askTo g a v g.m (g.tw i) ≤ a v + g.w i:=by
 have h1:=askTo_le ok (a:=a) (v:=v) (g.tw i) (i + 1) g.m (by omega);have h2:=(askTo_keep ok (a:=a) (v:=v) (x:=v) (by omega) i (by omega)).2;refine Int.le_trans h1 ?_;simp only [askTo,ask];rw [if_pos ⟨hu,hv⟩];simp only [if_true];rw [h2];omega
theorem askTo_real {s : Nat} (hv : a v < 99999) (hr : ∀ v,a v < 99999 → ∃ k,Wk g s v k (a v)) : ∀ i,i ≤ g.m → ∀ x,askTo g a v i x < 99999 → ∃ k,Wk g s x k (askTo g a v i x):=by
 intro i
 induction i with
 | zero => exact fun _ => hr
 | succ i ih =>
  intro hi x hx;have h2:=(askTo_keep ok (a:=a) (v:=v) (x:=v) (by omega) i (by omega)).2;have ih:=ih (by omega);simp only [askTo,ask] at hx ⊢
  split at hx
  ·rename_i c;rw [if_pos c] at *;dsimp only at hx ⊢
   split at hx
   ·rename_i e;subst e;rw [if_pos rfl]
    by_cases c2 : askTo g a v i (g.tw i) ≤ askTo g a v i v + g.w i
    case pos =>
     rw [Int.min_eq_left c2] at hx ⊢;exact ih _ hx
    rw [Int.min_eq_right (by omega)];obtain ⟨k,hk⟩:=ih v (by omega);have h3:=Wk.one (g:=g) (i:=i) (by omega) c.1;rw [c.2] at h3;exact ⟨k + 1,hk.trans h3⟩
   ·rename_i e;rw [if_neg e];exact ih x hx
  ·rename_i c;rw [if_neg c] at *;exact ih x hx
theorem Dij.step {s : Nat} {d : Nat → Bool} (h : Dij g s a d) (hv : a v < 99999) (hd : d v = false) (hm : ∀ x,d x = false → a x < 99999 → a v ≤ a x) : Dij g s (askTo g a v g.m) (shut d v):=by
 have keep : ∀ x,d x = true → askTo g a v g.m x = a x:=by
  intro x hx;have:=h.low x v hx hd;exact (askTo_keep ok (x:=x) (by omega) g.m (Nat.le_refl _)).1
 have keepv : askTo g a v g.m v = a v:=(askTo_keep ok (x:=v) (by omega) g.m (Nat.le_refl _)).1;have keeps : ∀ x,shut d v x = true → askTo g a v g.m x = a x:=by
  intro x hx
  unfold shut at hx
  split at hx
  ·rename_i e; subst e; exact keepv
  ·exact keep x hx
 refine ⟨fun x => Int.le_trans (askTo_le ok x 0 g.m (by omega)) (h.top x),askTo_real ok hv h.real g.m (Nat.le_refl _),Int.le_trans (askTo_le ok s 0 g.m (by omega)) h.s0,?_,?_,?_⟩
 ·intro x hx;rw [keeps x hx]
  unfold shut at hx
  split at hx
  ·rename_i e; subst e; exact hv
  ·exact h.fin x hx
 ·intro i hi hu hx;rw [keeps _ hx]
  unfold shut at hx
  split at hx
  ·rename_i e;rw [e];exact askTo_arc ok hi hu e
  ·exact Int.le_trans (askTo_le ok _ 0 g.m (by omega)) (h.told i hi hu hx)
 ·intro u x hu hx;rw [keeps u hu];have hl:=askTo_low ok (a:=a) (v:=v) (x:=x) g.m (Nat.le_refl _)
  unfold shut at hx hu
  split at hx
  ·cases hx
  ·have hvx : a v ≤ a x:=by
    by_cases c : a x < 99999
    case neg => omega
    exact hm x hx c
   split at hu
   ·rename_i e; subst e; omega
   ·have:=h.low u x hu hx;have:=h.low u v hu hd;omega
theorem Dij.start {s : Nat} : Dij g s (fun v => if v = s then 0 else 99999) (fun _ => false):=by
 refine ⟨fun v => by split <;> omega,fun v hv => ?_,by simp,fun v h => by simp at h,fun i _ _ h => by simp at h,fun u v h => by simp at h⟩
 split at hv
 ·rename_i e; subst e; rw [if_pos rfl]; exact ⟨0,.nil _⟩
 ·omega
end
def G.back (g : G) : G:={ g with fr:=g.tw,tw:=g.fr }
theorem Wk.back {g : G} {u v k : Nat} {c : Int} (h : Wk g u v k c) : Wk g.back v u k c:=by
 induction h with
 | nil => exact .nil _
 | @cons i v k c hi hu h ih =>
  have h1 : Wk g.back (g.tw i) (g.fr i) 1 (g.w i):=Wk.one (g:=g.back) (i:=i) hi hu;exact (ih.trans h1).cast rfl (by omega)
section
variable {g : G} (ok : g.Ok) {s t : Nat} {a b : Nat → Int} {d e : Nat → Bool} (ha : Dij g s a d) (hb : Dij g.back t b e)
include ok hb
theorem back_claim {T : Int} (hT : ∀ x,e x = false → b x < 99999 → T ≤ b x) {v k : Nat} {c : Int} (w : Wk g v t k c) : b v ≤ c ∨ T ≤ c ∨ 99999 ≤ c:=by
 generalize ev : t = t' at w
 induction w with
 | nil => subst ev; exact .inl hb.s0
 | @cons i v k c hi hu _ ih =>
  have hw:=ok.w0 i hi
  rcases ih ev with h | h | h
  ·by_cases he : e (g.tw i) = true
   case pos =>
    left
    have : b (g.fr i) ≤ b (g.tw i) + g.w i:=hb.told i hi hu he;omega
   have he : e (g.tw i) = false:=by simpa using he
   by_cases c2 : b (g.tw i) < 99999
   case neg => omega
   right; left
   have:=hT _ he c2;omega
  ·omega
  ·omega
include ha
theorem both_claim {Sf Tb B : Int} (hS : ∀ x,d x = false → a x < 99999 → Sf ≤ a x) (hT : ∀ x,e x = false → b x < 99999 → Tb ≤ b x) (hB : ∀ x,a x < 99999 → b x < 99999 → B ≤ a x + b x) (hB1 : B ≤ 99999) (hst : B ≤ Sf + Tb ∨ (∀ x,d x = false → ¬ a x < 99999) ∨ ∀ x,e x = false → ¬ b x < 99999) {k : Nat} {c : Int} (w : Wk g s t k c) : B ≤ c:=by
 have bc : ∀ T : Int,(∀ x,e x = false → b x < 99999 → T ≤ b x) → ∀ {v k : Nat} {c : Int},Wk g v t k c → b v ≤ c ∨ T ≤ c ∨ 99999 ≤ c:=fun T hT _ _ _ w => back_claim ok hb hT w
 have key : ∀ {v t' k : Nat} {c2 : Int},t' = t → Wk g v t' k c2 → ∀ c1 : Int,0 ≤ c1 → a v ≤ c1 → c1 + c2 < B → False:=by
  intro v t' k c2 et w
  induction w with
  | nil v =>
   intro c1 h0 h1 h2;subst et;have hb0:=hb.s0;have:=hB v (by omega) (by omega);omega
  | @cons i v k c hi hu w' ih =>
   intro c1 h0 h1 h2;have hw:=ok.w0 i hi;have hc:=w'.nonneg ok
   by_cases hd : d (g.fr i) = true
   case pos =>
    have h3:=ha.told i hi hu hd;exact ih et (c1 + g.w i) (by omega) (by omega) (by omega)
   have hd : d (g.fr i) = false:=by simpa using hd
   subst et;have w2:=Wk.cons hi hu w';have hs:=hS _ hd (by omega);have fin : ∀ T : Int,(∀ x,e x = false → b x < 99999 → T ≤ b x) → B ≤ Sf + T → False:=by
    intro T hT hst
    rcases bc T hT w2 with h | h | h
    ·have:=hB _ (show a (g.fr i) < 99999 by omega) (by omega);omega
    ·omega
    ·omega
   rcases hst with hst | hst | hst
   ·exact fin Tb hT hst
   ·exact hst _ hd (by omega)
   ·exact fin (B - Sf) (fun x hx hx2 => absurd hx2 (hst x hx)) (by omega)
 apply Classical.byContradiction
 intro hc;exact key rfl w 0 (by omega) ha.s0 (by omega)
end
end Go.Proofs.Ytljdcinpjnijcaa.Sp
end
section
set_option linter.unusedSimpArgs false
set_option linter.unusedVariables false
set_option linter.unusedSectionVars false
namespace Go.Proofs.Ytljdcinpjnijcaa.Pure
open Go.RowKit Go.Proofs.Ytljdcinpjnijcaa.Pr Go.Proofs.YtljdcinpjnijcaaW.PrintWords Go.Proofs.YtljdcinpjnijcaaW.PrintLast Go.Proofs.YtljdcinpjnijcaaW.PrintMore
open Go.Proofs.Ytljdcinpjnijcaa.Sp (G Wk Opt Dij askTo shut)
def fA (x : List Int) (v : Nat) : Int:=if v < x.length then rd x (v : Int) else 99999
def fD (s : List Bool) (v : Nat) : Bool:=rdOf false s (v : Int)
theorem fA_in {x : List Int} {v : Nat} (h : v < x.length) : fA x v = rd x (v : Int):=if_pos h
theorem fA_out {x : List Int} {v : Nat} (h : ¬ v < x.length) : fA x v = 99999:=if_neg h
theorem fA_lt {x : List Int} {v : Nat} (h : fA x v < 99999) : v < x.length:=by
 apply Classical.byContradiction
 intro q;rw [fA_out q] at h;omega
theorem fA_set {x : List Int} {i : Nat} (hi : i < x.length) (c : Int) : fA (x.set i c) = fun v => if v = i then c else fA x v:=by
 funext v
 unfold fA
 rw [List.length_set]
 by_cases h : v < x.length
 case neg => rw [if_neg h,if_neg h,if_neg (by omega)]
 rw [if_pos h,if_pos h,rdn (by rw [List.length_set]; exact h),rdn h]
 by_cases e : v = i
 case pos => subst e; rw [if_pos rfl,List.getElem_set_self]
 rw [if_neg e,List.getElem_set_ne (fun q => e q.symm)]
theorem fD_set {s : List Bool} {i : Nat} (hi : i < s.length) : fD (s.set i true) = shut (fD s) i:=by
 funext v
 unfold fD shut
 unfold rdOf
 simp only [Int.toNat_natCast]
 by_cases e : v = i
 case pos => subst e; rw [if_pos rfl]; simp [hi]
 rw [if_neg e]; simp [List.getElem?_set_ne (fun q => e q.symm)]
section
variable {N : Nat} {l : List Arc} (hg : NetGood N l)
include hg
theorem fA_lkS {v : Nat} (hv : v < N) {i : Nat} (hi : i < l.length) {x : List Int} (hx : x.length = N) (hb : BdA x) : fA (lkS (v : Int) (arc l i) x) = Sp.ask (gr N l) (fA x) v i:=by
 have hok:=hg.ok i hi;have h1:=hb.at (show v < x.length by omega);obtain ⟨f,hf⟩:=Int.eq_ofNat_of_zero_le hok.1.1;obtain ⟨t,ht⟩:=Int.eq_ofNat_of_zero_le hok.2.1.1;have htl : t < x.length:=by omega
 have h2:=hb.at htl;have e1 : (gr N l).fr i = f:=by show (arc l i).f0.toNat = f; rw [hf]; rfl
 have e2 : (gr N l).tw i = t:=by show (arc l i).f1.toNat = t; rw [ht]; rfl
 have e3 : (gr N l).w i = (arc l i).f2:=rfl;have e4 : (gr N l).use i = true:=rfl
 unfold lkS Sp.ask
 rw [e1,e2,e3,e4,hf,ht]
 by_cases c : f = v
 case neg => rw [if_neg (by omega),if_neg (fun q => c q.2)]
 rw [if_pos (by omega),if_pos ⟨rfl,c⟩,w64 (by omega) (by omega),Int.toNat_natCast,fA_set htl]
 funext u
 by_cases e : u = t
 case neg => rw [if_neg e,if_neg e]
 subst e;rw [if_pos rfl,if_pos rfl,fA_in htl,fA_in (by omega)]
 unfold mn
 split <;> omega
theorem fA_lkF {v : Nat} (hv : v < N) (a0 : Nat → Int) : ∀ (d i : Nat) (x : List Int),i + d = l.length → x.length = N → BdA x → fA x = askTo (gr N l) a0 v i → fA (lkF l (v : Int) d i x) = askTo (gr N l) a0 v l.length
 | 0,i,x,hd,hx,hb,h => by
  rw [show l.length = i by omega];exact h
 | d + 1,i,x,hd,hx,hb,h => by
  have hi : i < l.length:=by omega
  have hst:=look_step hg hv hi hx hb;have e : lkF l (v : Int) (d + 1) i x = lkF l (v : Int) d (i + 1) (lkS (v : Int) (arc l i) x):=by rw [← rda l i]; rfl
  rw [e];refine fA_lkF hv a0 d (i + 1) _ (by omega) hst.1 hst.2 ?_;rw [fA_lkS hg hv hi hx hb,h];rfl
end
theorem nxF_least {a : List Int} {s : List Bool} : ∀ (d i : Nat) (t : Int),i + d = a.length → (t < 0 → ∀ j : Nat,j < i → rd a (j : Int) ≠ 99999 → rdOf false s (j : Int) = false → False) → (0 ≤ t → ∀ j : Nat,j < i → rd a (j : Int) ≠ 99999 → rdOf false s (j : Int) = false → rd a t ≤ rd a (j : Int)) →
  (nxF a s d i t < 0 → ∀ j : Nat,j < a.length → rd a (j : Int) ≠ 99999 → rdOf false s (j : Int) = false → False) ∧ (0 ≤ nxF a s d i t → ∀ j : Nat,j < a.length → rd a (j : Int) ≠ 99999 → rdOf false s (j : Int) = false → rd a (nxF a s d i t) ≤ rd a (j : Int))
 | 0,i,t,hd,h1,h2 => by
  rw [show a.length = i by omega];exact ⟨h1,h2⟩
 | d + 1,i,t,hd,h1,h2 => by
  unfold nxF
  by_cases c : rd a (i : Int) ≠ 99999 ∧ rdOf false s (i : Int) = false ∧ (t < 0 ∨ rd a (i : Int) < rd a t)
  case neg =>
   rw [if_neg c];refine nxF_least d (i + 1) t (by omega) (fun h j hj q1 q2 => ?_) (fun h j hj q1 q2 => ?_)
   ·by_cases e : j = i
    case neg => exact h1 h j (by omega) q1 q2
    subst e; exact c ⟨q1,q2,.inl h⟩
   ·by_cases e : j = i
    case neg => exact h2 h j (by omega) q1 q2
    subst e
    apply Classical.byContradiction
    intro q;exact c ⟨q1,q2,.inr (by omega)⟩
  rw [if_pos c];refine nxF_least d (i + 1) (i : Int) (by omega) (fun h => by omega) (fun _ j hj q1 q2 => ?_)
  by_cases e : j = i
  case pos => subst e; exact Int.le_refl _
  rcases c.2.2 with q | q
  ·exact (h1 q j (by omega) q1 q2).elim
  ·by_cases c0 : t < 0
   case pos => exact (h1 c0 j (by omega) q1 q2).elim
   have:=h2 (by omega) j (by omega) q1 q2;omega
theorem nextV_least (a : List Int) (s : List Bool) : (nextV a s < 0 → ∀ v,fD s v = false → ¬ fA a v < 99999) ∧ (0 ≤ nextV a s → ∀ v,fD s v = false → fA a v < 99999 → rd a (nextV a s) ≤ fA a v):=by
 obtain ⟨h1,h2⟩:=nxF_least (a:=a) (s:=s) a.length 0 (-1) (by omega) (fun _ j hj => absurd hj (by omega)) (fun h => absurd h (by omega));refine ⟨fun h v hv hl => ?_,fun h v hv hl => ?_⟩
 ·have hlt:=fA_lt hl;rw [fA_in hlt] at hl;exact h1 h v hlt (by omega) hv
 ·have hlt:=fA_lt hl;rw [fA_in hlt] at hl ⊢;exact h2 h v hlt (by omega) hv
theorem leF_all {a b : List Int} (ha : BdA a) (hb : BdA b) (hl : b.length = a.length) : ∀ (d i : Nat) (m : Int),i + d = a.length → leF a b d i m ≤ m ∧ (∀ j,i ≤ j → j < a.length → rd a (j : Int) ≠ 99999 → rd b (j : Int) ≠ 99999 → leF a b d i m ≤ rd a (j : Int) + rd b (j : Int)) ∧ (leF a b d i m = m ∨ ∃ j,j < a.length ∧ rd a (j : Int) ≠ 99999 ∧ rd b (j : Int) ≠ 99999 ∧ leF a b d i m = rd a (j : Int) + rd b (j : Int))
 | 0,i,m,hd => ⟨Int.le_refl _,fun j h1 h2 => absurd h2 (by omega),.inl rfl⟩
 | d + 1,i,m,hd => by
  have hlt : i < a.length:=by omega
  have h1:=ha.at hlt;have h2:=hb.at (show i < b.length by omega)
  unfold leF
  rw [w64 (n:=rd a (i : Int) + rd b (i : Int)) (by omega) (by omega)]
  by_cases c : rd a (i : Int) ≠ 99999 ∧ rd b (i : Int) ≠ 99999
  case neg =>
   rw [if_neg c];obtain ⟨p1,p2,p3⟩:=leF_all ha hb hl d (i + 1) m (by omega);refine ⟨p1,fun j h3 h4 h5 h6 => ?_,p3⟩
   by_cases e : j = i
   case neg => exact p2 j (by omega) h4 h5 h6
   subst e; exact (c ⟨h5,h6⟩).elim
  rw [if_pos c];obtain ⟨p1,p2,p3⟩:=leF_all ha hb hl d (i + 1) (mn m (rd a (i : Int) + rd b (i : Int))) (by omega);have q1 : mn m (rd a (i : Int) + rd b (i : Int)) ≤ m:=by unfold mn; split <;> omega
  have q2 : mn m (rd a (i : Int) + rd b (i : Int)) ≤ rd a (i : Int) + rd b (i : Int):=by unfold mn; split <;> omega
  refine ⟨by omega,fun j h3 h4 h5 h6 => ?_,?_⟩
  ·by_cases e : j = i
   case pos => subst e; omega
   exact p2 j (by omega) h4 h5 h6
  ·rcases p3 with q | q
   ·by_cases c2 : rd a (i : Int) + rd b (i : Int) < m
    case neg => left; rw [q]; exact mn_ge c2
    right; exact ⟨i,hlt,c.1,c.2,by rw [q]; exact mn_lt c2⟩
   ·exact .inr q
theorem back_gr (N : Nat) (l : List Arc) : gr N (back l) = (gr N l).back:=by
 have e1 : (gr N (back l)).fr = (gr N l).tw:=by funext i; show (arc (back l) i).f0.toNat = (arc l i).f1.toNat; rw [back_arc']; rfl
 have e2 : (gr N (back l)).tw = (gr N l).fr:=by funext i; show (arc (back l) i).f1.toNat = (arc l i).f0.toNat; rw [back_arc']; rfl
 have e3 : (gr N (back l)).w = (gr N l).w:=by funext i; show (arc (back l) i).f2 = (arc l i).f2; rw [back_arc']; rfl
 have e4 : (gr N (back l)).m = (gr N l).m:=back_len l
 show (⟨_,_,_,_,_,_⟩ : G) = ⟨_,_,_,_,_,_⟩
 congr 1
section
variable {N : Nat} {l : List Arc} (hg : NetGood N l)
include hg
theorem stop_claim {s t : Nat} (hs : s < N) (ht : t < N) {a b : List Int} {d e : List Bool} (la : a.length = N) (lb : b.length = N) (ha : BdA a) (hb : BdA b) (da : Dij (gr N l) s (fA a) (fD d)) (db : Dij (gr N (back l)) t (fA b) (fD e)) (hst : nextV a d < 0 ∨ nextV b e < 0 ∨ leV a b ≤ rd a (nextV a d) + rd b (nextV b e)) : leV a b = far (dst N l t s):=by
 obtain ⟨p1,p2,p3⟩:=leF_all ha hb (by omega : b.length = a.length) a.length 0 99999 (by omega);replace p1 : leV a b ≤ 99999:=p1;replace p3 : leV a b = 99999 ∨ ∃ j,j < a.length ∧ rd a (j : Int) ≠ 99999 ∧ rd b (j : Int) ≠ 99999 ∧ leV a b = rd a (j : Int) + rd b (j : Int):=p3
 have hopt:=dst_opt hg ht s hs;rw [back_gr] at db;obtain ⟨n1,n2⟩:=nextV_least a d;obtain ⟨m1,m2⟩:=nextV_least b e;have hB : ∀ x,fA a x < 99999 → fA b x < 99999 → leV a b ≤ fA a x + fA b x:=by
  intro x h1 h2;have hx:=fA_lt h1;rw [fA_in hx] at h1 ⊢;rw [fA_in (by omega)] at h2 ⊢;exact p2 x (Nat.zero_le _) hx (by omega) (by omega)
 have low : ∀ k c,Wk (gr N l) s t k c → leV a b ≤ c:=by
  intro k c hw;have hS : ∃ Sf : Int,(∀ x,fD d x = false → fA a x < 99999 → Sf ≤ fA a x) ∧ (0 ≤ nextV a d → Sf = rd a (nextV a d)):=by
   by_cases c : 0 ≤ nextV a d
   case pos => exact ⟨rd a (nextV a d),fun x h1 h2 => n2 c x h1 h2,fun _ => rfl⟩
   exact ⟨0,fun x h1 h2 => absurd h2 (n1 (by omega) x h1),fun h => absurd h c⟩
  have hT : ∃ Tb : Int,(∀ x,fD e x = false → fA b x < 99999 → Tb ≤ fA b x) ∧ (0 ≤ nextV b e → Tb = rd b (nextV b e)):=by
   by_cases c : 0 ≤ nextV b e
   case pos => exact ⟨rd b (nextV b e),fun x h1 h2 => m2 c x h1 h2,fun _ => rfl⟩
   exact ⟨0,fun x h1 h2 => absurd h2 (m1 (by omega) x h1),fun h => absurd h c⟩
  obtain ⟨Sf,s1,s2⟩:=hS;obtain ⟨Tb,t1,t2⟩:=hT;refine Sp.both_claim (gr_ok hg) da db s1 t1 hB p1 ?_ hw
  by_cases c1 : nextV a d < 0
  ·exact .inr (.inl (fun x h => n1 c1 x h))
  by_cases c2 : nextV b e < 0
  case pos => exact .inr (.inr (fun x h => m1 c2 x h))
  rcases hst with q | q | q
  ·exact (c1 q).elim
  ·exact (c2 q).elim
  ·rw [s2 (by omega),t2 (by omega)]; exact .inl q
 cases hd : dst N l t s with
 | none =>
  rcases p3 with q | ⟨j,h1,h2,h3,h4⟩
  ·exact q
  ·have b1:=ha.at h1;have b2:=hb.at (show j < b.length by omega);obtain ⟨k1,w1⟩:=da.real j (by rw [fA_in h1]; omega);obtain ⟨k2,w2⟩:=db.real j (by rw [fA_in (by omega)]; omega);have w3 : Wk (gr N l) s t _ _:=w1.trans w2.back;obtain ⟨x,hx,_⟩:=hopt.2 _ _ w3;rw [hd] at hx;cases hx
 | some x =>
  show leV a b = x
  obtain ⟨k,w⟩:=hopt.1 x hd;have h1:=low _ _ w;have h2:=dst_bd hg ht hs hd
  rcases p3 with q | ⟨j,h3,h4,h5,h6⟩
  ·omega
  ·have b1:=ha.at h3;have b2:=hb.at (show j < b.length by omega);obtain ⟨k1,w1⟩:=da.real j (by rw [fA_in h3]; omega);obtain ⟨k2,w2⟩:=db.real j (by rw [fA_in (by omega)]; omega);have w3 : Wk (gr N l) s t _ _:=w1.trans w2.back;obtain ⟨y,hy,hle⟩:=hopt.2 _ _ w3;rw [hd] at hy;cases hy;rw [fA_in h3,fA_in (by omega)] at hle;omega
theorem dij_look {s : Nat} {a : List Int} {d : List Bool} (la : a.length = N) (ld : d.length = N) (ha : BdA a) (da : Dij (gr N l) s (fA a) (fD d)) {i : Nat} (hi : nextV a d = (i : Int)) (hiN : i < N) : Dij (gr N l) s (fA (lkF l (i : Int) l.length 0 a)) (fD (d.set i true)):=by
 have ho:=nextV_open (a:=a) (s:=d) (by omega);rw [hi] at ho;have hb:=ha.at (show i < a.length by omega);obtain ⟨_,n2⟩:=nextV_least a d;rw [fA_lkF hg hiN (fA a) l.length 0 a (by omega) la ha rfl,fD_set (by omega)];refine da.step (gr_ok hg) ?_ ho.2 (fun x h1 h2 => ?_)
 ·rw [fA_in (by omega)]; omega
 ·have:=n2 (by omega) x h1 h2;rw [hi] at this;rw [fA_in (by omega)];exact this
end
theorem bothF_claim {N : Nat} {l : List Arc} (hg : NetGood N l) {s t : Nat} (hs : s < N) (ht : t < N) : ∀ (k : Nat) (a : List Int) (d : List Bool) (b : List Int) (e : List Bool) (m : Int) (r : Int × Int),bothF l (back l) k a d b e m = some r → a.length = N → d.length = N → b.length = N → e.length = N → BdA a → BdA b → Dij (gr N l) s (fA a) (fD d) → Dij (gr N (back l)) t (fA b) (fD e) → 0 ≤ m → m + d.count false + e.count false ≤ 100 →
  r.1 = far (dst N l t s) ∧ m ≤ r.2 ∧ r.2 ≤ m + d.count false + e.count false ∧ (leV a b ≤ 0 → r.2 = m):=by
 have h8:=hg.n8;have hgb:=back_good hg;intro k
 induction k with
 | zero => intro a d b e m r h; cases h
 | succ k ih =>
  intro a d b e m r h la ld lb le ha hb da db h0 hm;rw [bothF] at h;have stop : (nextV a d < 0 ∨ nextV b e < 0 ∨ leV a b ≤ rd a (nextV a d) + rd b (nextV b e)) → some (leV a b,m) = some r → r.1 = far (dst N l t s) ∧ m ≤ r.2 ∧ r.2 ≤ m + d.count false + e.count false ∧ (leV a b ≤ 0 → r.2 = m):=by
   intro hst q;cases q;exact ⟨stop_claim hg hs ht la lb ha hb da db hst,Int.le_refl _,by show m ≤ m + _ + _; omega,fun _ => rfl⟩
  by_cases c1 : nextV a d < 0
  ·rw [if_pos c1] at h; exact stop (.inl c1) h
  rw [if_neg c1] at h
  by_cases c2 : nextV b e < 0
  ·rw [if_pos c2] at h; exact stop (.inr (.inl c2)) h
  rw [if_neg c2] at h;have o1:=nextV_open (show 0 ≤ nextV a d by omega);have o2:=nextV_open (show 0 ≤ nextV b e by omega);have b1:=nextV_bd a d;have b2:=nextV_bd b e;obtain ⟨i,hi⟩:=Int.eq_ofNat_of_zero_le (show 0 ≤ nextV a d by omega);obtain ⟨j,hj⟩:=Int.eq_ofNat_of_zero_le (show 0 ≤ nextV b e by omega);rw [hi] at o1 b1;rw [hj] at o2 b2;have hai:=ha.at (show i < a.length by omega);have hbj:=hb.at (show j < b.length by omega);have hw : wrap64 (rd a (i : Int) + rd b (j : Int)) = rd a (i : Int) + rd b (j : Int):=w64 (by omega) (by omega);rw [hi,hj,hw] at h
  by_cases c3 : leV a b ≤ rd a (i : Int) + rd b (j : Int)
  ·rw [if_pos c3] at h;exact stop (.inr (.inr (by rw [hi,hj]; exact c3))) h
  rw [if_neg c3] at h;have hwm : wrap64 (m + 1) = m + 1:=w64 (by omega) (by omega);rw [hwm,Int.toNat_natCast,Int.toNat_natCast] at h
  by_cases c4 : rd a (i : Int) ≤ rd b (j : Int)
  case pos =>
   rw [if_pos c4] at h;have hc:=cnt_set (show i < d.length by omega) o1.2;obtain ⟨k1,k2⟩:=look_keep hg (show i < N by omega) l.length 0 a (by omega) la ha;obtain ⟨q1,q2,q3,_⟩:=ih _ _ _ _ _ r h k1 (by rw [List.length_set]; exact ld) lb le k2 hb (dij_look hg la ld ha da hi (by omega)) db (by omega) (by omega);exact ⟨q1,by omega,by omega,fun z => absurd z (by omega)⟩
  rw [if_neg c4] at h;have hc:=cnt_set (show j < e.length by omega) o2.2;obtain ⟨k1,k2⟩:=look_keep hgb (show j < N by omega) (back l).length 0 b (by omega) lb hb;obtain ⟨q1,q2,q3,_⟩:=ih _ _ _ _ _ r h la ld k1 (by rw [List.length_set]; exact le) ha k2 da (dij_look hgb lb le hb db hj (by omega)) (by omega) (by omega);exact ⟨q1,by omega,by omega,fun z => absurd z (by omega)⟩
theorem dij_start {N : Nat} {g : G} (ok : g.Ok) {s : Nat} (hs : s < N) : Dij g s (fA ((List.replicate N 99999).set s 0)) (fD (List.replicate N false)):=by
 have e1 : fA ((List.replicate N 99999).set s 0) = fun v => if v = s then 0 else 99999:=by
  rw [fA_set (by simpa using hs)]
  funext v
  split
  ·rfl
  ·unfold fA
   split
   ·rename_i h;rw [rdn h];simp
   ·rfl
 have e2 : fD (List.replicate N false) = fun _ => false:=by
  funext v
  unfold fD rdOf
  simp only [Int.toNat_natCast]
  by_cases h : v < N
  case neg => simp [h]
  simp [h]
 rw [e1,e2];exact Dij.start ok
theorem bothF_start {N : Nat} {l : List Arc} (hg : NetGood N l) {s t : Nat} (hs : s < N) (ht : t < N) {r : Int × Int} (h : Ev (fun k => bothF l (back l) k ((List.replicate N 99999).set s 0) (List.replicate N false) ((List.replicate N 99999).set t 0) (List.replicate N false) 0) r) : r.1 = far (dst N l t s) ∧ 0 ≤ r.2 ∧ r.2 ≤ 2 * (N : Int) ∧ (s = t → r.2 = 0):=by
 have h8:=hg.n8;obtain ⟨k,h⟩:=h;have h:=h k (Nat.le_refl _);have hb0 : BdA (List.replicate N 99999):=fun v hv => by rw [List.eq_of_mem_replicate hv]; omega
 have hc : (List.replicate N false).count false = N:=by simp
 obtain ⟨q1,q2,q3,q4⟩:=bothF_claim hg hs ht k _ _ _ _ _ r h (by simp) (by simp) (by simp) (by simp) (hb0.set _ (by omega)) (hb0.set _ (by omega)) (dij_start (gr_ok hg) hs) (dij_start (gr_ok (back_good hg)) ht) (by omega) (by omega);refine ⟨q1,q2,by omega,fun e => q4 ?_⟩;subst e;have hbs:=hb0.set s (v:=0) (by omega);obtain ⟨_,p2,_⟩:=leF_all hbs hbs rfl ((List.replicate N (99999 : Int)).set s 0).length 0 99999 (by omega);have e0 : rd ((List.replicate N (99999 : Int)).set s 0) (s : Int) = 0:=by rw [rdn (by simpa using hs),List.getElem_set_self]
 have:=p2 s (Nat.zero_le _) (by simpa using hs) (by omega) (by omega);rw [e0] at this;exact this
end Go.Proofs.Ytljdcinpjnijcaa.Pure
end
section
set_option linter.unusedSimpArgs false
set_option linter.unusedVariables false
namespace Go.Proofs.Ytljdcinpjnijcaa.Pure
open Go.RowKit Go.Proofs.Ytljdcinpjnijcaa.Pr Go.Proofs.YtljdcinpjnijcaaW.PrintWords Go.Proofs.YtljdcinpjnijcaaW.PrintLast Go.Proofs.YtljdcinpjnijcaaW.PrintMore
structure Rdr (b : List Int) : Prop where
 len : b.length ≤ 2000
 rng : ∀ i,i < b.length → 0 ≤ nth b i ∧ nth b i ≤ 255
theorem Rdr.rd {b : List Int} (h : Rdr b) (i : Int) : 0 ≤ Go.Proofs.YtljdcinpjnijcaaW.PrintWords.rd b i ∧ Go.Proofs.YtljdcinpjnijcaaW.PrintWords.rd b i ≤ 255:=by
 have e : Go.Proofs.YtljdcinpjnijcaaW.PrintWords.rd b i = nth b i.toNat:=rfl;rw [e]
 by_cases c : i.toNat < b.length
 case pos => exact h.rng _ c
 have c2 : b.length ≤ i.toNat:=by omega
 simp [nth,List.getElem?_eq_none c2]
theorem tm {x a : Int} (hx : 0 ≤ x) (ha : 0 < a) : 0 ≤ Int.tmod x a ∧ Int.tmod x a < a:=by
 rw [Int.tmod_eq_emod_of_nonneg hx];exact ⟨Int.emod_nonneg _ (by omega),Int.emod_lt_of_pos _ ha⟩
theorem td {x a : Int} (hx : 0 ≤ x) (ha : 0 < a) : 0 ≤ Int.tdiv x a ∧ Int.tdiv x a ≤ x:=by
 rw [Int.tdiv_eq_ediv_of_nonneg hx];exact ⟨Int.ediv_nonneg hx (by omega),Int.ediv_le_self _ hx⟩
theorem xor_nn {x y : Int} (hx : 0 ≤ x) (hx' : x < 4294967296) (hy : 0 ≤ y) (hy' : y < 4294967296) : 0 ≤ Go.bits .xor .i64 x y:=by
 obtain ⟨x,rfl⟩:=Int.eq_ofNat_of_zero_le hx;obtain ⟨y,rfl⟩:=Int.eq_ofNat_of_zero_le hy;have h1 : x ^^^ y < 2 ^ 32:=Nat.xor_lt_two_pow (by omega) (by omega);have e : Go.bits .xor .i64 ((x : Nat) : Int) ((y : Nat) : Int) = wrap64 (((BitVec.ofInt 64 ((x : Nat) : Int) ^^^ BitVec.ofInt 64 ((y : Nat) : Int)).toNat : Nat) : Int):=by
  unfold Go.bits
  simp only [i64_w];rfl
 rw [e,BitVec.toNat_xor,BitVec.ofInt_natCast,BitVec.ofInt_natCast,BitVec.toNat_ofNat,BitVec.toNat_ofNat,Nat.mod_eq_of_lt (by omega),Nat.mod_eq_of_lt (by omega),w64 (by omega) (by omega)];omega
theorem pick_pv {b : List Int} (h : Rdr b) {p a : Int} (hp : 0 ≤ p) (hp' : p ≤ 1000000) : Pv (fun k => spec_l30Rd_pick.f k b p a) (fun r => (0 ≤ r.1 ∧ (a < 1 → r.1 = 0) ∧ (1 ≤ a → r.1 < a)) ∧ r.2 = p + 1):=by
 have w1 : wrap64 (p + 1) = p + 1:=w64 (by omega) (by omega);have w2 : wrap64 (p + 1 - 1) = p:=by rw [w64 (by omega) (by omega)]; omega
 unfold spec_l30Rd_pick.f
 refine Pv.ite (fun c => ?_) (fun c => ?_)
 ·refine Pv.go ?_ (fun k => by rw [spec_l30Rd_pick.j0]);exact Pv.pos rfl (Pv.now ⟨⟨Int.le_refl _,fun _ => rfl,fun c2 => by omega⟩,w1⟩)
 ·refine Pv.go ?_ (fun k => by rw [spec_l30Rd_pick.j0]);refine Pv.ite (fun _ => Pv.now ⟨⟨Int.le_refl _,fun _ => rfl,fun c2 => by dsimp only; omega⟩,w1⟩) (fun c0 => ?_);have hb : 0 < (b.length : Int):=by
   have : (b.length : Int) ≠ 0:=by simpa using c0
   omega
  have hb2:=h.len;rw [w1,w2];have fin : ∀ X : Int,0 ≤ X → Pv (fun _ => some (Int.tmod X a,p + 1)) (fun r => (0 ≤ r.1 ∧ (a < 1 → r.1 = 0) ∧ (1 ≤ a → r.1 < a)) ∧ r.2 = p + 1):=by
   intro X hX;have:=tm hX (show 0 < a by omega);exact Pv.now ⟨⟨this.1,fun c2 => absurd c2 c,fun _ => this.2⟩,rfl⟩
  refine Pv.ite (fun c1 => Pv.pos hp (Pv.neg (by omega) ?_)) (fun c1 => ?_)
  ·have:=h.rd p;rw [w64 (n:=Go.Proofs.YtljdcinpjnijcaaW.PrintWords.rd b p) (by omega) (by omega)];exact fin _ (by omega)
  ·have t1:=tm hp hb;have e1 : wrap64 (p * 7) = p * 7:=w64 (by omega) (by omega);have e2 : wrap64 (p * 7 + 3) = p * 7 + 3:=w64 (by omega) (by omega);rw [e1,e2];have t2:=tm (show 0 ≤ p * 7 + 3 by omega) hb;have r1:=h.rd (Int.tmod p b.length);have r2:=h.rd (Int.tmod (p * 7 + 3) b.length);have d1:=td hp hb;refine Pv.neg (by omega) (Pv.pos t1.1 (Pv.pos t1.2 (Pv.pos t2.1 (Pv.pos t2.2 (Pv.neg (by omega) ?_)))));generalize Go.Proofs.YtljdcinpjnijcaaW.PrintWords.rd b (Int.tmod p b.length) = u at r1;generalize Go.Proofs.YtljdcinpjnijcaaW.PrintWords.rd b (Int.tmod (p * 7 + 3) b.length) = v at r2;generalize Int.tdiv p b.length = q at d1;rw [w64 (n:=u) (by omega) (by omega),w64 (n:=v) (by omega) (by omega),w64 (n:=q) (by omega) (by omega),w64 (n:=u * 131) (by omega) (by omega),w64 (n:=v * 1117) (by omega) (by omega),w64 (n:=p * 29) (by omega) (by omega),w64 (n:=q * 53) (by omega) (by omega),w64 (n:=u * 131 + v * 1117) (by omega) (by omega),w64 (n:=u * 131 + v * 1117 + p * 29) (by omega) (by omega),w64 (n:=u * 131 + v * 1117 + p * 29 + q * 53) (by omega) (by omega)];have d2:=td (show 0 ≤ u * 131 + v * 1117 + p * 29 + q * 53 by omega) (show (0 : Int) < 64 by omega);generalize Int.tdiv (u * 131 + v * 1117 + p * 29 + q * 53) 64 = z at d2;rw [w64 (n:=z) (by omega) (by omega)];exact fin _ (xor_nn (by omega) (by omega) (by omega) (by omega))
theorem one_pv {b : List Int} (h : Rdr b) {p : Int} (hp : 0 ≤ p) (hp' : p ≤ 1000000) {l : List Int} (hl : 0 < l.length) : Pv (fun k => spec_l30Rd_one.f k b p l) (fun r => r.1 ∈ l ∧ r.2 = p + 1):=by
 unfold spec_l30Rd_one.f
 refine Pv.bind (pick_pv h hp hp') (fun r ⟨⟨h1,_,h2⟩,h3⟩ => ?_);have h2:=h2 (by omega);refine Pv.pos h1 (Pv.pos h2 (Pv.now ⟨?_,h3⟩));have e : Go.Proofs.YtljdcinpjnijcaaW.PrintWords.rd l r.1 = nth l r.1.toNat:=rfl;dsimp only;rw [e];exact getD_mem (by omega)
theorem u8_range {x : Int} (h : (Lit.int .u8 x).wf = true) : 0 ≤ x ∧ x ≤ 255:=by
 simp only [Lit.wf] at h;have h2 : IntKind.u8.min ≤ x ∧ x ≤ IntKind.u8.max:=by simpa using h
 have e1 : IntKind.u8.min = 0:=by decide
 have e2 : IntKind.u8.max = 255:=by decide
 omega
theorem open_pv {l : List Int} (hl : ∀ x ∈ l,(Lit.int .u8 x).wf = true) : ∃ b,spec_l30Open.f l = some (b,0) ∧ Rdr b:=by
 have key : ∀ m : List Int,m.length ≤ 2000 → (∀ x ∈ m,x ∈ l) → Rdr m:=fun m h1 h2 => ⟨h1,fun i hi => u8_range (hl _ (h2 _ (getD_mem hi)))⟩
 unfold spec_l30Open.f
 by_cases c : (l.length : Int) > 2000
 case neg =>
  rw [if_neg c];exact ⟨_,rfl,key _ (by omega) (fun x hx => hx)⟩
 rw [if_pos c,if_pos (by omega)];exact ⟨_,rfl,key _ (by simp; omega) (fun x hx => List.mem_of_mem_take hx)⟩
def NetSz (p : Int) (r : Int × List Arc × Int) : Prop:=(0 ≤ r.1 ∧ r.1 ≤ 9) ∧ r.2.1.length ≤ 13 ∧ (p ≤ r.2.2 ∧ r.2.2 ≤ p + 100)
theorem net_l {b : List Int} (h : Rdr b) (n : Int) (hn : 1 ≤ n ∧ n ≤ 9) : ∀ (m : Nat) (p : Int) (l : List Arc),0 ≤ p → p + 6 * m ≤ 100000 → m ≤ 13 → l.length ≤ 13 - m → Pv (fun k => spec_l30Net.l0 k (m : Int) b p n l) (fun r => r.1 = n ∧ r.2.1.length ≤ 13 ∧ (p ≤ r.2.2 ∧ r.2.2 ≤ p + 6 * m)):=by
 intro m
 induction m with
 | zero =>
  intro p l hp hp' hm hl;refine Pv.go ?_ (fun k => by rw [spec_l30Net.l0]);exact Pv.neg (by omega) (Pv.now ⟨rfl,by dsimp only; omega,by dsimp only; omega⟩)
 | succ m ih =>
  intro p l hp hp' hm hl;have hw : wrap64 (((m + 1 : Nat) : Int) - 1) = (m : Int):=by rw [w64 (by omega) (by omega)]; omega
  refine Pv.go ?_ (fun k => by rw [spec_l30Net.l0]);rw [hw];refine Pv.pos (by omega) (Pv.bind (pick_pv h hp (by omega)) (fun r1 ⟨a1,e1⟩ => Pv.bind (pick_pv h (p:=r1.2) (by omega) (by omega)) (fun r2 ⟨a2,e2⟩ => Pv.bind (pick_pv h (p:=r2.2) (by omega) (by omega)) (fun r3 ⟨a3,e3⟩ => Pv.bind (one_pv h (p:=r3.2) (by omega) (by omega) (by simp)) (fun r4 ⟨a4,e4⟩ => Pv.bind (one_pv h (p:=r4.2) (by omega) (by omega) (by simp)) (fun r5 ⟨a5,e5⟩ => Pv.bind (pick_pv h (p:=r5.2) (by omega) (by omega)) (fun r6 ⟨a6,e6⟩ => ?_)))))));have step : ∀ x : Arc,Pv (fun k => spec_l30Net.l0 k (m : Int) b r6.2 n (l ++ [x])) (fun r => r.1 = n ∧ r.2.1.length ≤ 13 ∧ (p ≤ r.2.2 ∧ r.2.2 ≤ p + 6 * ((m + 1 : Nat) : Int))):=fun x => (ih r6.2 (l ++ [x]) (by omega) (by omega) (by omega) (by simp; omega)).mono (fun r hr => ⟨hr.1,hr.2.1,by omega,by omega⟩)
  refine Pv.ite (fun _ => Pv.neg (by omega) (Pv.pos (by omega) (step _))) (fun _ => Pv.pos (by omega) (step _))
theorem net_pv {b : List Int} (h : Rdr b) {p : Int} (hp : 0 ≤ p) (hp' : p ≤ 10000) : Pv (fun k => spec_l30Net.f k b p) (fun r => (2 ≤ r.1 ∧ r.1 ≤ 6) ∧ r.2.1.length ≤ 13 ∧ (p ≤ r.2.2 ∧ r.2.2 ≤ p + 90)):=by
 unfold spec_l30Net.f
 refine Pv.bind (pick_pv h hp (by omega)) (fun r1 ⟨a1,e1⟩ => Pv.bind (pick_pv h (p:=r1.2) (by omega) (by omega)) (fun r2 ⟨a2,e2⟩ => ?_));have b1:=a1.2.2 (by omega);have b2:=a2.2.2 (by omega);have hw : wrap64 (2 + r1.1) = 2 + r1.1:=w64 (by omega) (by omega);rw [hw];have:=net_l h (2 + r1.1) (by omega) r2.1.toNat r2.2 [] (by omega) (by omega) (by omega) (by simp);rw [Int.toNat_of_nonneg a2.1] at this;exact this.mono (fun r hr => ⟨⟨by omega,by omega⟩,hr.2.1,by omega,by omega⟩)
theorem anyNet_pv {b : List Int} (h : Rdr b) {p : Int} (hp : 0 ≤ p) (hp' : p ≤ 10000) : Pv (fun k => spec_l30AnyNet.f k b p) (NetSz p):=by
 unfold spec_l30AnyNet.f
 refine Pv.bind (net_pv h hp hp') (fun r0 ⟨a0,l0,e0⟩ => ?_);refine Pv.ite (fun c => ?_) (fun c => Pv.now ⟨by dsimp only; omega,l0,by dsimp only; omega⟩);refine Pv.bind (pick_pv h (p:=r0.2.2) (by omega) (by omega)) (fun r1 ⟨a1,e1⟩ => Pv.bind (pick_pv h (p:=r1.2) (by omega) (by omega)) (fun r2 ⟨a2,e2⟩ => ?_));have b1:=a1.2.2 (by omega);refine Pv.ite (fun c1 => Pv.pos a1.1 (Pv.pos b1 (Pv.bind (one_pv h (p:=r2.2) (by omega) (by omega) (by simp)) (fun r3 ⟨a3,e3⟩ => Pv.now ⟨by dsimp only; omega,by simpa using l0,by dsimp only; omega⟩)))) (fun c1 => ?_);refine Pv.ite (fun c2 => Pv.bind (one_pv h (p:=r2.2) (by omega) (by omega) (by simp)) (fun r3 ⟨a3,e3⟩ => Pv.pos a1.1 (Pv.pos b1 (Pv.now ⟨by dsimp only; omega,by simpa using l0,by dsimp only; omega⟩)))) (fun c2 => ?_);refine Pv.ite (fun c3 => Pv.bind (one_pv h (p:=r2.2) (by omega) (by omega) (by simp)) (fun r3 ⟨a3,e3⟩ => Pv.now ⟨?_,l0,by dsimp only; omega⟩)) (fun c3 => Pv.now ⟨by dsimp only; omega,l0,by dsimp only; omega⟩);simp only [List.mem_cons,List.not_mem_nil,or_false] at a3;dsimp only;omega
end Go.Proofs.Ytljdcinpjnijcaa.Pure
end
section
set_option linter.unusedSimpArgs false
set_option linter.unusedVariables false
set_option linter.unusedSectionVars false
namespace Go.Proofs.Ytljdcinpjnijcaa.Pure
open Go.RowKit Go.Proofs.Ytljdcinpjnijcaa.Pr Go.Proofs.YtljdcinpjnijcaaW.PrintWords Go.Proofs.YtljdcinpjnijcaaW.PrintLast Go.Proofs.YtljdcinpjnijcaaW.PrintMore
theorem nodeN_pv {b : List Int} (h : Rdr b) {p : Int} (hp : 0 ≤ p) (hp' : p ≤ 20000) (n : Int) (l : List Arc) : Pv (fun k => spec_l30Node.f k b p n l) (fun r => p ≤ r.2 ∧ r.2 ≤ p + 2):=by
 unfold spec_l30Node.f
 refine Pv.bind (pick_pv h hp (by omega)) (fun r1 ⟨a1,e1⟩ => Pv.ite (fun _ => ?_) (fun _ => ?_))
 ·exact Pv.bind (one_pv h (p:=r1.2) (by omega) (by omega) (by simp)) (fun r2 ⟨a2,e2⟩ => Pv.now (by dsimp only; omega))
 ·exact Pv.bind (pick_pv h (p:=r1.2) (by omega) (by omega)) (fun r2 ⟨a2,e2⟩ => Pv.now (by dsimp only; omega))
theorem FnBothNear : laws_FnBothNear.Asked:=by
 intro c hc;refine Pv.rounds ?_
 unfold laws_FnBothNear.f
 refine Pv.ite (fun _ => Pv.now rfl) (fun _ => ?_)
 unfold spec_DrawBothNear.f spec_DrawNearWalk.f
 obtain ⟨bb,e,hb⟩:=open_pv hc.2;refine Pv.bind (R:=fun r => r.2.1.length ≤ 13) (Pv.bind (R:=fun r => r.2.1.length ≤ 13) (Pv.bind0 e (Pv.bind (anyNet_pv hb (p:=0) (by omega) (by omega)) (fun r1 h1 => ?_))) (fun r h2 => Pv.now h2)) (fun r h2 => ?_)
 ·have h3:=h1.2.2;exact Pv.bind (nodeN_pv hb (p:=r1.2.2) (by omega) (by omega) _ _) (fun r2 e2 => Pv.bind (nodeN_pv hb (p:=r2.2) (by omega) (by omega) _ _) (fun r3 e3 => Pv.now h1.2.1))
 ·obtain ⟨n,l,s,t⟩:=r;dsimp only at h2 ⊢;have hm : l.length ≤ maxLen:=by simp only [maxLen]; omega
  obtain ⟨r,r1,r2,hr⟩:=bothNear_ev n l hm s t;refine Pv.of (Ev.bind r2 (Ev.bind r1 (Ev.pos rfl (Ev.pos rfl ?_)))) rfl
  by_cases cn : r.1 < 0
  ·exact Ev.pos cn (Ev.is (by simp))
  rcases hr with q | ⟨N,u,v,rfl,rfl,rfl,hg,hu,hv,h3⟩
  ·exact (cn q).elim
  obtain ⟨k1,k2,k3,k4⟩:=bothF_start hg hu hv h3;have h8:=hg.n8;refine Ev.neg cn (Ev.bind (nearAll_ev hg hu) ?_);rw [lst_len,lst_rd _ hv];refine Ev.pos (by omega) (Ev.pos (by omega) (Ev.pos k1 (Ev.pos (by rw [w64 (by omega) (by omega)]; exact k3) (Ev.pos k2 ?_))))
  by_cases c : u = v
  case neg => exact Ev.neg (by omega) (Ev.now _)
  subst c;exact Ev.pos rfl (Ev.is (by rw [k4 rfl]; rfl))
end Go.Proofs.Ytljdcinpjnijcaa.Pure
end
section
namespace Go.Proofs.Ytljdcinpjnijcaa.fnBothNear
open Go.ChangeShapes Go.WideShapes Go.ChangeAt Go.RowKit Go.Proofs.YtljdcinpjnijcaaW.PrintWords Go.Proofs.Ytljdcinpjnijcaa.Pr
open Go.ChangeMaps (open_string shut_string)
set_option linter.unusedVariables false
set_option linter.unusedSimpArgs false
theorem own : ownKnob Try.prog.godebug = none:=by kernel_rfl
theorem laidOut : laidOutB Try.prog = true:=by kernel_rfl
theorem opens0 : Opens Try.prog (Kd.slice 5 (Kd.int .u8)) 22 (fun l => l.length ≤ maxLen ∧ ∀ x ∈ l,(fun n => (Lit.int .u8 n).wf = true) x):=(opens_slice (P:=Try.prog) Try.underlying22 (by kernel_rfl) (opens_int (P:=Try.prog) (k:=.u8) Try.underlying5))
set_option maxRecDepth 100000 in
set_option maxHeartbeats 2000000 in
theorem lifted (os : Os) (started : os.Started) (H : Type) (enc : TypeId × Value → H) :
  ReturnsInHanded {} Try.checked os 5 .any (Rows.fnBothNearSpec.pre6 enc Try.prog Try.f5 Rows.fnBothNearRow.domain false) (Rows.fnBothNearSpec.post enc Try.prog Try.f5 false true false false):=by
 refine returnsInHanded_of_change_sized (C:=Try.checked) own started (by kernel_rfl) Try.func5
  (ChangeSpec.witness6 (enc:=enc) (C:=Try.checked) false ⟨#[],#[(.slice none 0 0)],[]⟩ 8 (by kernel_rfl) (by kernel_rfl) (by kernel_rfl) (by kernel_rfl)) ?_
 intro W base args ds gs before hval0 hW hcnd hsz0 _;have hval : ∀ (j : Nat) t v,Try.f5.params[j]? = some t → args[j]? = some v → Value.okWide Try.prog W .any base t v:=hval0
 have hW':=hW;obtain ⟨p,q,hA0,hV,rfl,hfz,hnd⟩:=hW;have hA : DataW.TrodAll enc Try.prog W 0 (fun _ => true) true Try.f5.params.toList args.toList ds p:=hA0;rw [Try.params5] at hA hval;obtain ⟨v0,vs0,d0,ds0,p0,q0,hargs,rfl,rfl,h0,r0⟩:=trodAll_cons hA;obtain ⟨rfl,rfl,rfl⟩:=trodAll_nil r0;obtain rfl : args = #[v0]:=by cases args; simp_all
 obtain ⟨rfl,rfl⟩:=trodVars_none hV;have k0:=h0;have lt0 : ∀ x ∈ p0,x.block < W.heap.size:=by obtain ⟨m,hm⟩:=k0; exact DataW.trod_lt m _ _ _ hm
 obtain ⟨a0,len0,cap0,rfl⟩:=okWide_slice Try.underlying22 (hval 0 22 v0 rfl rfl);obtain ⟨fuel0,hf0⟩:=h0;obtain ⟨l0,⟨A0,c0,e0,hc0,hr0⟩,w0⟩:=opens0 hf0;have e0' : (Value.slice a0 len0 cap0) = .slice A0 l0.length c0:=(List.cons.inj e0).1;injection e0' with e0a e0b e0c
 subst e0a e0b e0c;obtain ⟨k,hh⟩:=Pure.FnBothNear l0 w0;refine (laws_FnBothNear.calls k _ _ l0 true W hr0 hc0 hh).mono fun e W' ⟨he,bel0⟩ => ?_
 have bel : Below W.heap.size W W':=bel0;subst he;exact ⟨_,rfl,_,_,_,[],_,[],hW',trodAll_mk1 (shut_bool Try.underlying4 _),(trodAll_cons_mk (Below.trod laidOut (by kernel_rfl) (of_decide_eq_true (by kernel_rfl)) k0 bel lt0) trodAll_mk0),rfl,bel.frame _,fun h => by cases h⟩
theorem over : Rows.fnBothNearRow.holds Try.pinned (OpenSpec.ofChange Rows.fnBothNearSpec) :=
 OpenClaim.holds_of_wide 5 Try.f5 rfl rfl rfl rfl rfl rfl rfl ⟨rfl,rfl,rfl,rfl,rfl⟩ rfl rfl rfl rfl rfl (by kernel_rfl) Try.func5 (by kernel_rfl)
  (of_decide_eq_true (by kernel_rfl)) (by unfold Func.isWrapper; first | (rw [if_pos (by decide +kernel)]; kernel_rfl) | (rw [if_neg (by decide +kernel)]; exact ⟨rfl,rfl⟩))
  (fun os started H enc _ => lifted os started H enc)
theorem proved : Rows.FnBothNearSaid:=over
#print axioms proved
end Go.Proofs.Ytljdcinpjnijcaa.fnBothNear
namespace Go.Proofs.Ytljdcinpjnijcaa
theorem fnBothNear_holds : Rows.FnBothNearSaid:=fnBothNear.proved
end Go.Proofs.Ytljdcinpjnijcaa
end
