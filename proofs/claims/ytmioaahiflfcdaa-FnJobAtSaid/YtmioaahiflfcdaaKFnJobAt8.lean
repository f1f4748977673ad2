/- For the statement FnJobAt of this seat: it is proved here, with no further conditions (part 9 of its texts: words, walks of the functions, the plain law, the row). -/
import Derived.Lib.SlicesCompact
import Derived.RangeFuncFrom
import Derived.Shelf.SortM.SortNone
import Derived.Shelf.SortM.Plain
import Derived.Sort.OwnSortedInts
import Derived.Maps.AppendAt
import Derived.RangeFuncBox
import Derived.Laws.AppendOwn
import Derived.LoopIn
import Derived.TacticsInMore
import Derived.RegionIn
import Derived.OwnWalkIn
import Derived.Test.YtmioaahiflfcdaaRows
import Derived.WalkKit
import Derived.ProofKit
import Derived.OpenShut
import Derived.ShutString
import Derived.ChangeOld
import Derived.Below
import Derived.SizedLaws
import Derived.WideShapes
import Derived.Test.YtmioaahiflfcdaaKFnJobAt7
section
set_option linter.unusedSectionVars false
namespace Go.Proofs.Ytmioaahiflfcdaa.Sp
structure G where
 n : Nat
 m : Nat
 fr : Nat → Nat
 tw : Nat → Nat
 w : Nat → Int
 use : Nat → Bool
structure G.Ok (g : G) : Prop where
 fl : ∀ i,i < g.m → g.fr i < g.n
 tl : ∀ i,i < g.m → g.tw i < g.n
 w0 : ∀ i,i < g.m → 0 ≤ g.w i
inductive Wk (g : G) : Nat → Nat → Nat → Int → Prop
 | nil (v : Nat) : Wk g v v 0 0
 | cons {i v k : Nat} {c : Int} : i < g.m → g.use i = true → Wk g (g.tw i) v k c → Wk g (g.fr i) v (k + 1) (g.w i + c)
theorem Wk.cast {g : G} {u v k k' : Nat} {c c' : Int} (h : Wk g u v k c) (hk : k = k') (hc : c = c') : Wk g u v k' c':=by
 subst hk; subst hc; exact h
theorem Wk.trans {g : G} {u v x k j : Nat} {c d : Int} (h : Wk g u v k c) (h' : Wk g v x j d) : Wk g u x (k + j) (c + d):=by
 induction h with
 | nil => exact h'.cast (by omega) (by omega)
 | cons hi hu _ ih => exact (Wk.cons hi hu (ih h')).cast (by omega) (by omega)
theorem Wk.one {g : G} {i : Nat} (hi : i < g.m) (hu : g.use i = true) : Wk g (g.fr i) (g.tw i) 1 (g.w i) :=
 (Wk.cons hi hu (.nil _)).cast rfl (by omega)
theorem Wk.nonneg {g : G} (ok : g.Ok) {u v k : Nat} {c : Int} (h : Wk g u v k c) : 0 ≤ c:=by
 induction h with
 | nil => omega
 | cons hi _ _ ih => have:=ok.w0 _ hi; omega
theorem nodup_len : ∀ (n : Nat) (l : List Nat),l.Nodup → (∀ x ∈ l,x < n) → l.length ≤ n:=by
 intro n
 induction n with
 | zero =>
  intro l _ h;cases l with
  | nil => simp
  | cons a l => exact absurd (h a (by simp)) (by omega)
 | succ n ih =>
  intro l hn h;have h1:=ih (l.erase n) (hn.erase n) (fun x hx => by
   have h2:=h x (List.mem_of_mem_erase hx);have h3 : x ≠ n:=by
    rintro rfl;exact (List.Nodup.not_mem_erase hn) hx
   omega)
  have:=List.length_erase_le (a:=n) (l:=l);have h4 : l.length ≤ (l.erase n).length + 1:=by
   rw [List.length_erase]
   split <;> omega
  omega
inductive Sm (g : G) (t : Nat) : Nat → List Nat → Nat → Int → Prop
 | nil : Sm g t t [t] 0 0
 | cons {i k : Nat} {L : List Nat} {c : Int} : i < g.m → g.use i = true → Sm g t (g.tw i) L k c → g.fr i ∉ L → Sm g t (g.fr i) (g.fr i :: L) (k + 1) (g.w i + c)
theorem Sm.wk {g : G} {t u k : Nat} {L : List Nat} {c : Int} (h : Sm g t u L k c) : Wk g u t k c:=by
 induction h with
 | nil => exact .nil _
 | cons hi hu _ _ ih => exact .cons hi hu ih
theorem Sm.facts {g : G} (ok : g.Ok) {t u k : Nat} (ht : t < g.n) {L : List Nat} {c : Int} (h : Sm g t u L k c) : L.Nodup ∧ (∀ x ∈ L,x < g.n) ∧ L.length = k + 1:=by
 induction h with
 | nil => simp [ht]
 | cons hi _ _ hn ih =>
  refine ⟨List.nodup_cons.2 ⟨hn,ih.1⟩,?_,by simp [ih.2.2]⟩;intro x hx
  rcases List.mem_cons.1 hx with rfl | hx
  ·exact ok.fl _ hi
  ·exact ih.2.1 x hx
theorem Sm.tail {g : G} (ok : g.Ok) {t u k : Nat} {L : List Nat} {c : Int} (h : Sm g t u L k c) {x : Nat} (hx : x ∈ L) : ∃ L' k' c',Sm g t x L' k' c' ∧ k' ≤ k ∧ c' ≤ c:=by
 induction h with
 | nil =>
  obtain rfl : x = t:=by simpa using hx
  exact ⟨_,_,_,.nil,Nat.le_refl _,Int.le_refl _⟩
 | cons hi hu h hn ih =>
  rcases List.mem_cons.1 hx with rfl | hx
  ·exact ⟨_,_,_,.cons hi hu h hn,Nat.le_refl _,Int.le_refl _⟩
  ·obtain ⟨L',k',c',h1,h2,h3⟩:=ih hx;have:=ok.w0 _ hi;exact ⟨L',k',c',h1,by omega,by omega⟩
theorem Wk.simple {g : G} (ok : g.Ok) {u v k : Nat} {c : Int} (h : Wk g u v k c) : ∃ L k' c',Sm g v u L k' c' ∧ k' ≤ k ∧ c' ≤ c:=by
 induction h with
 | nil v => exact ⟨_,_,_,.nil,Nat.le_refl _,Int.le_refl _⟩
 | @cons i v k c hi hu h ih =>
  obtain ⟨L,k',c',h1,h2,h3⟩:=ih
  by_cases hm : g.fr i ∈ L
  case neg => exact ⟨_,_,_,.cons hi hu h1 hm,by omega,by omega⟩
  obtain ⟨L'',k'',c'',h4,h5,h6⟩:=h1.tail ok hm;have:=ok.w0 _ hi;exact ⟨L'',k'',c'',h4,by omega,by omega⟩
theorem Wk.short {g : G} (ok : g.Ok) {u v k : Nat} (hv : v < g.n) {c : Int} (h : Wk g u v k c) : ∃ k' c',Wk g u v k' c' ∧ k' < g.n ∧ k' ≤ k ∧ c' ≤ c:=by
 obtain ⟨L,k',c',h1,h2,h3⟩:=h.simple ok;obtain ⟨f1,f2,f3⟩:=h1.facts ok hv;have:=nodup_len _ _ f1 f2;exact ⟨k',c',h1.wk,by omega,h2,h3⟩
def Opt (g : G) (t : Nat) (L : Nat → Option Int) : Prop:=∀ v,v < g.n → (∀ x,L v = some x → ∃ k,Wk g v t k x) ∧ (∀ k c,Wk g v t k c → ∃ x,L v = some x ∧ x ≤ c)
theorem Opt.uniq {g : G} {t : Nat} {L L' : Nat → Option Int} (h : Opt g t L) (h' : Opt g t L') : ∀ v,v < g.n → L v = L' v:=by
 intro v hv;obtain ⟨a,b⟩:=h v hv;obtain ⟨a',b'⟩:=h' v hv;cases e : L v with
 | none =>
  cases e' : L' v with
  | none => rfl
  | some y =>
   obtain ⟨k,hk⟩:=a' y e';obtain ⟨x,hx,_⟩:=b k y hk;rw [e] at hx; cases hx
 | some x =>
  obtain ⟨k,hk⟩:=a x e;obtain ⟨y,hy,h1⟩:=b' k x hk;obtain ⟨k',hk'⟩:=a' y hy;obtain ⟨x',hx',h2⟩:=b k' y hk';rw [e] at hx';obtain rfl:=Option.some.inj hx';rw [hy]
  congr 1
  omega
def lts (a : Int) : Option Int → Bool
 | none => true
 | some y => decide (a < y)
def put (L : Nat → Option Int) (a : Nat) (x : Int) : Nat → Option Int:=fun v => if v = a then some x else L v
def relax (g : G) (L : Nat → Option Int) (i : Nat) : Nat → Option Int :=
 if g.use i = true then
  match L (g.tw i) with
  | none => L
  | some x => if lts (x + g.w i) (L (g.fr i)) = true then put L (g.fr i) (x + g.w i) else L
 else L
theorem relax_cases (g : G) (L : Nat → Option Int) (i : Nat) : (relax g L i = L ∧ (g.use i = true → ∀ x,L (g.tw i) = some x → lts (x + g.w i) (L (g.fr i)) = false)) ∨ (g.use i = true ∧ ∃ x,L (g.tw i) = some x ∧ lts (x + g.w i) (L (g.fr i)) = true ∧ relax g L i = put L (g.fr i) (x + g.w i)):=by
 unfold relax
 by_cases hu : g.use i = true
 case neg =>
  rw [if_neg hu];exact .inl ⟨rfl,fun h => absurd h hu⟩
 rw [if_pos hu];cases e : L (g.tw i) with
 | none => exact .inl ⟨rfl,fun _ x hx => by cases hx⟩
 | some x =>
  dsimp only
  by_cases hl : lts (x + g.w i) (L (g.fr i)) = true
  case pos =>
   rw [if_pos hl];exact .inr ⟨hu,x,rfl,hl,rfl⟩
  rw [if_neg hl];refine .inl ⟨rfl,fun _ y hy => ?_⟩;obtain rfl:=Option.some.inj hy
  simpa using hl
def sweep (g : G) (L : Nat → Option Int) : Nat → (Nat → Option Int)
 | 0 => L
 | i + 1 => relax g (sweep g L i) i
def Le (a b : Option Int) : Prop:=∀ y,b = some y → ∃ x,a = some x ∧ x ≤ y
theorem Le.refl (a : Option Int) : Le a a:=fun y h => ⟨y,h,Int.le_refl _⟩
theorem Le.trans {a b c : Option Int} (h : Le a b) (k : Le b c) : Le a c:=by
 intro y hy;obtain ⟨x,hx,h1⟩:=k y hy;obtain ⟨z,hz,h2⟩:=h x hx;exact ⟨z,hz,by omega⟩
theorem put_same (L : Nat → Option Int) (a : Nat) (x : Int) : put L a x a = some x:=by simp [put]
theorem put_far (L : Nat → Option Int) {a v : Nat} (x : Int) (h : v ≠ a) : put L a x v = L v:=by simp [put,h]
theorem relax_le (g : G) (L : Nat → Option Int) (i v : Nat) : Le (relax g L i v) (L v):=by
 rcases relax_cases g L i with ⟨e,_⟩ | ⟨_,x,hx,hl,e⟩
 ·rw [e]; exact Le.refl _
 ·rw [e]
  by_cases hv : v = g.fr i
  case neg => rw [put_far _ _ hv]; exact Le.refl _
  subst hv;rw [put_same];intro y hy;rw [hy] at hl;exact ⟨_,rfl,by simp [lts] at hl; omega⟩
theorem relax_arc (g : G) (L : Nat → Option Int) (i : Nat) (hu : g.use i = true) {x : Int} (hx : L (g.tw i) = some x) : Le (relax g L i (g.fr i)) (some (x + g.w i)):=by
 intro y hy;obtain rfl:=Option.some.inj hy
 unfold relax
 rw [if_pos hu,hx];dsimp only
 split
 ·exact ⟨_,by simp [put],Int.le_refl _⟩
 ·rename_i hl;cases e : L (g.fr i) with
  | none => rw [e] at hl; simp [lts] at hl
  | some z => rw [e] at hl; exact ⟨z,rfl,by simp [lts] at hl; omega⟩
theorem sweep_le (g : G) (L : Nat → Option Int) (i s v : Nat) : Le (sweep g L (i + s) v) (sweep g L i v):=by
 induction s with
 | zero => exact Le.refl _
 | succ s ih => exact (relax_le g _ _ v).trans ih
theorem sweep_arc (g : G) (L : Nat → Option Int) {i : Nat} (hi : i < g.m) (hu : g.use i = true) {x : Int} (hx : L (g.tw i) = some x) : ∃ y,sweep g L g.m (g.fr i) = some y ∧ y ≤ x + g.w i:=by
 have h0:=sweep_le g L 0 i (g.tw i);rw [Nat.zero_add] at h0;obtain ⟨x',hx',h1⟩:=h0 x hx;have h2:=relax_arc g (sweep g L i) i hu hx';have h3:=sweep_le g L (i + 1) (g.m - (i + 1)) (g.fr i);rw [show i + 1 + (g.m - (i + 1)) = g.m by omega] at h3;obtain ⟨y,hy,h4⟩:=(h3.trans h2) _ rfl;exact ⟨y,hy,by omega⟩
def Real (g : G) (t : Nat) (L : Nat → Option Int) : Prop:=∀ v x,L v = some x → ∃ k,Wk g v t k x
theorem relax_real {g : G} {t : Nat} {L : Nat → Option Int} (h : Real g t L) {i : Nat} (hi : i < g.m) : Real g t (relax g L i):=by
 intro v x hx
 rcases relax_cases g L i with ⟨e,_⟩ | ⟨hu,y,hy,hl,e⟩
 ·rw [e] at hx; exact h v x hx
 ·rw [e] at hx
  by_cases hv : v = g.fr i
  case neg => rw [put_far _ _ hv] at hx; exact h v x hx
  subst hv;rw [put_same] at hx;obtain rfl:=Option.some.inj hx;obtain ⟨k,hk⟩:=h _ _ hy;exact ⟨k + 1,(Wk.cons hi hu hk).cast rfl (by omega)⟩
theorem sweep_real {g : G} {t : Nat} {L : Nat → Option Int} (h : Real g t L) : ∀ i,i ≤ g.m → Real g t (sweep g L i):=by
 intro i
 induction i with
 | zero => exact fun _ => h
 | succ i ih => exact fun hi => relax_real (ih (by omega)) (by omega)
theorem opt_of_fix {g : G} {t : Nat} {L : Nat → Option Int} (h : Real g t L) (ht : Le (L t) (some 0)) (hf : ∀ v,sweep g L g.m v = L v) : Opt g t L:=by
 intro v hv0;clear hv0;refine ⟨fun x hx => h v x hx,fun k c hw => ?_⟩;clear h
 induction hw with
 | nil =>
  obtain ⟨x,hx,h1⟩:=ht 0 rfl;exact ⟨x,hx,h1⟩
 | cons hi hu _ ih =>
  obtain ⟨x,hx,h1⟩:=ih ht;obtain ⟨y,hy,h2⟩:=sweep_arc g L hi hu hx;rw [hf] at hy;exact ⟨y,hy,by omega⟩
def start (t : Nat) : Nat → Option Int:=fun v => if v = t then some 0 else none
def rounds (g : G) (t : Nat) : Nat → (Nat → Option Int)
 | 0 => start t
 | r + 1 => sweep g (rounds g t r) g.m
theorem start_real (g : G) (t : Nat) : Real g t (start t):=by
 intro v x hx
 unfold start at hx
 split at hx
 ·rename_i e;obtain rfl:=Option.some.inj hx;subst e;exact ⟨0,.nil _⟩
 ·cases hx
theorem rounds_real (g : G) (t : Nat) : ∀ r,Real g t (rounds g t r):=by
 intro r
 induction r with
 | zero => exact start_real g t
 | succ r ih => exact sweep_real ih _ (Nat.le_refl _)
theorem rounds_le (g : G) (t r s v : Nat) : Le (rounds g t (r + s) v) (rounds g t r v):=by
 induction s with
 | zero => exact Le.refl _
 | succ s ih =>
  have:=sweep_le g (rounds g t (r + s)) 0 g.m v;rw [Nat.zero_add] at this;exact this.trans ih
theorem rounds_t (g : G) (t r : Nat) : Le (rounds g t r t) (some 0):=by
 have:=rounds_le g t 0 r t;rw [Nat.zero_add] at this;exact this.trans (by simp [rounds,start]; exact Le.refl _)
theorem rounds_walk {g : G} {t r u k : Nat} {c : Int} (h : Wk g u t k c) (hk : k ≤ r) : ∃ x,rounds g t r u = some x ∧ x ≤ c:=by
 induction h generalizing r with
 | nil => exact rounds_t g _ r 0 rfl
 | cons hi hu _ ih =>
  obtain ⟨r,rfl⟩ : ∃ q,r = q + 1:=⟨r - 1,by omega⟩
  obtain ⟨x,hx,h1⟩:=ih (r:=r) (by omega);obtain ⟨y,hy,h2⟩:=sweep_arc g _ hi hu hx;exact ⟨y,hy,by omega⟩
theorem rounds_opt {g : G} (ok : g.Ok) {t r : Nat} (ht : t < g.n) (hr : g.n ≤ r + 1) : Opt g t (rounds g t r):=by
 intro v _;refine ⟨fun x hx => rounds_real g t r v x hx,fun k c hw => ?_⟩;obtain ⟨k',c',h1,h2,h3,h4⟩:=hw.short ok ht;obtain ⟨x,hx,h5⟩:=rounds_walk (r:=r) h1 (by omega);exact ⟨x,hx,by omega⟩
theorem relax_none {g : G} {L : Nat → Option Int} (hn : ∀ v,g.n ≤ v → L v = none) (ok : g.Ok) {i : Nat} (hi : i < g.m) : ∀ v,g.n ≤ v → relax g L i v = none:=by
 intro v hv
 rcases relax_cases g L i with ⟨e,_⟩ | ⟨_,x,hx,hl,e⟩
 ·rw [e]; exact hn v hv
 ·rw [e,put_far _ _ (by have:=ok.fl i hi; omega)]; exact hn v hv
theorem sweep_none {g : G} {L : Nat → Option Int} (ok : g.Ok) (hn : ∀ v,g.n ≤ v → L v = none) : ∀ i,i ≤ g.m → ∀ v,g.n ≤ v → sweep g L i v = none:=by
 intro i
 induction i with
 | zero => exact fun _ => hn
 | succ i ih => exact fun hi => relax_none (ih (by omega)) ok (by omega)
theorem rounds_none {g : G} (ok : g.Ok) {t : Nat} (ht : t < g.n) : ∀ r v,g.n ≤ v → rounds g t r v = none:=by
 intro r
 induction r with
 | zero => intro v hv; simp [rounds,start]; omega
 | succ r ih => exact sweep_none ok ih _ (Nat.le_refl _)
theorem rounds_fix {g : G} (ok : g.Ok) {t r : Nat} (ht : t < g.n) (hr : g.n ≤ r + 1) : ∀ v,rounds g t (r + 1) v = rounds g t r v:=by
 intro v
 by_cases hv : v < g.n
 case pos => exact (rounds_opt ok ht (by omega)).uniq (rounds_opt ok ht hr) v hv
 rw [rounds_none ok ht _ v (by omega),rounds_none ok ht _ v (by omega)]
theorem sweep_same {g : G} {L : Nat → Option Int} (h : ∀ v,sweep g L g.m v = L v) {i : Nat} (hi : i ≤ g.m) : ∀ v,sweep g L i v = L v:=by
 intro v;have h1:=sweep_le g L 0 i v;have h2:=sweep_le g L i (g.m - i) v;rw [Nat.zero_add] at h1;rw [show i + (g.m - i) = g.m by omega,h v] at h2;cases e : L v with
 | none =>
  cases e' : sweep g L i v with
  | none => rfl
  | some y =>
   obtain ⟨x,hx,_⟩:=h2 y e';rw [e] at hx; cases hx
 | some x =>
  obtain ⟨y,hy,a1⟩:=h1 x (by simpa [sweep] using e);obtain ⟨x',hx',a2⟩:=h2 y hy;rw [e] at hx';obtain rfl:=Option.some.inj hx';rw [hy]; congr 1; omega
theorem relax_bd {g : G} {L : Nat → Option Int} {B : Int} (h : ∀ v x,L v = some x → 0 ≤ x ∧ x ≤ B) {i : Nat} {w1 : Int} (hw0 : 0 ≤ g.w i) (hw : g.w i ≤ w1) : ∀ v x,relax g L i v = some x → 0 ≤ x ∧ x ≤ B + w1:=by
 intro v x hx
 rcases relax_cases g L i with ⟨e,_⟩ | ⟨_,y,hy,hl,e⟩
 ·rw [e] at hx; have:=h v x hx; omega
 ·rw [e] at hx
  by_cases hv : v = g.fr i
  case neg => rw [put_far _ _ hv] at hx; have:=h v x hx; omega
  subst hv;rw [put_same] at hx;obtain rfl:=Option.some.inj hx;have:=h _ _ hy; omega
end Go.Proofs.Ytmioaahiflfcdaa.Sp
namespace Go.Proofs.Ytmioaahiflfcdaa.Sp
structure Dbl (g e s : G) (D : Nat → Option Int) : Prop where
 en : e.n = g.n
 em : e.m = g.m
 ef : e.fr = g.fr
 et : e.tw = g.tw
 eu : e.use = g.use
 ew : ∀ i,i < g.m → e.w i = 1000 * g.w i + 1
 sn : s.n = g.n
 sm : s.m = g.m
 sf : s.fr = g.fr
 st : s.tw = g.tw
 sw : ∀ i,i < g.m → s.w i = 1
 su : ∀ i,i < g.m → (s.use i = true ↔ g.use i = true ∧ ∃ x,D (g.tw i) = some x ∧ D (g.fr i) = some (g.w i + x))
def both (D S : Nat → Option Int) : Nat → Option Int:=fun v =>
 match D v with
 | none => none
 | some d => match S v with
  | none => none
  | some k => some (1000 * d + k)
section
variable {g e s : G} {t : Nat} {D S : Nat → Option Int} (h : Dbl g e s D) (ok : g.Ok) (hD : Opt g t D) (hS : Opt s t S) (ht : t < g.n)
include h
theorem Dbl.okS (ok : g.Ok) : s.Ok:=by
 refine ⟨?_,?_,?_⟩
 ·rw [h.sf,h.sm,h.sn]; exact ok.fl
 ·rw [h.st,h.sm,h.sn]; exact ok.tl
 ·intro i hi;rw [h.sm] at hi;rw [h.sw i hi]; omega
theorem Dbl.toE {u v k : Nat} {c : Int} (w : Wk g u v k c) : Wk e u v k (1000 * c + k):=by
 induction w with
 | nil => exact (Wk.nil _).cast rfl (by omega)
 | @cons i v k c hi hu _ ih =>
  have h1 : Wk e (e.tw i) v k (1000 * c + k):=by rw [h.et]; exact ih
  have h2:=Wk.cons (i:=i) (by rw [h.em]; exact hi) (by rw [h.eu]; exact hu) h1;rw [h.ef,h.ew i hi] at h2;exact h2.cast rfl (by omega)
theorem Dbl.ofE {u v k : Nat} {c : Int} (w : Wk e u v k c) : ∃ c',Wk g u v k c' ∧ c = 1000 * c' + k:=by
 induction w with
 | nil => exact ⟨0,.nil _,by omega⟩
 | @cons i v k c hi hu _ ih =>
  obtain ⟨c',h1,h2⟩:=ih;rw [h.em] at hi;rw [h.eu] at hu;rw [h.et] at h1;refine ⟨g.w i + c',?_,by rw [h.ew i hi]; omega⟩;rw [h.ef];exact .cons hi hu h1
theorem Dbl.ofS (hD : Opt g t D) (ht : t < g.n) (ok : g.Ok) {u k : Nat} {c : Int} (w : Wk s u t k c) : ∃ d,D u = some d ∧ Wk g u t k d ∧ c = k:=by
 generalize ev : t = v at w
 induction w with
 | nil v =>
  subst ev;obtain ⟨x,hx,h1⟩:=(hD t ht).2 0 0 (.nil _);obtain ⟨k,hk⟩:=(hD t ht).1 x hx;have:=hk.nonneg ok;have e0 : x = 0:=by omega
  subst e0;exact ⟨0,hx,.nil _,rfl⟩
 | @cons i v k c hi hu _ ih =>
  obtain ⟨d,h1,h2,h3⟩:=ih ev;rw [h.sm] at hi;obtain ⟨g1,x,g2,g3⟩:=(h.su i hi).1 hu;rw [h.st] at h1 h2;rw [g2] at h1;obtain rfl:=Option.some.inj h1;rw [h.sf];exact ⟨_,g3,.cons hi g1 h2,by rw [h.sw i hi,h3]; omega⟩
theorem Dbl.toS (hD : Opt g t D) (ok : g.Ok) {u k : Nat} {c : Int} (w : Wk g u t k c) (hc : D u = some c) : Wk s u t k k:=by
 generalize ev : t = v at w
 induction w with
 | nil => exact .nil _
 | @cons i v k c hi hu w ih =>
  subst ev;obtain ⟨x,hx,h1⟩:=(hD _ (ok.tl i hi)).2 k c w;obtain ⟨j,hj⟩:=(hD _ (ok.tl i hi)).1 x hx;obtain ⟨y,hy,h2⟩:=(hD _ (ok.fl i hi)).2 _ _ (Wk.cons hi hu hj);rw [hc] at hy;obtain rfl:=Option.some.inj hy;have ex : x = c:=by omega
  subst ex;have h3:=ih hx rfl;rw [← h.st] at h3;have h4:=Wk.cons (i:=i) (by rw [h.sm]; exact hi) ((h.su i hi).2 ⟨hu,x,hx,hc⟩) h3;rw [h.sf,h.sw i hi] at h4;exact h4.cast rfl (by omega)
theorem Dbl.some (hD : Opt g t D) (hS : Opt s t S) (ht : t < g.n) (ok : g.Ok) {v : Nat} (hv : v < g.n) {d : Int} (hd : D v = .some d) : ∃ k : Nat,S v = .some (k : Int) ∧ k < g.n ∧ Wk s v t k k:=by
 obtain ⟨k,hk⟩:=(hD v hv).1 d hd;have w:=h.toS hD ok hk hd;obtain ⟨x,hx,h1⟩:=(hS v (by rw [h.sn]; exact hv)).2 _ _ w;obtain ⟨j,hj⟩:=(hS v (by rw [h.sn]; exact hv)).1 x hx;obtain ⟨d',e1,e2,e3⟩:=h.ofS hD ht ok hj;obtain ⟨j',c',w1,w2,w3,w4⟩:=hj.short (h.okS ok) (by rw [h.sn]; exact ht);obtain ⟨y,hy,h5⟩:=(hS v (by rw [h.sn]; exact hv)).2 _ _ w1;rw [hx] at hy;obtain rfl:=Option.some.inj hy;obtain ⟨_,_,_,e5⟩:=h.ofS hD ht ok w1;rw [h.sn] at w2;exact ⟨j,by rw [hx,e3],by omega,e3 ▸ hj⟩
theorem Dbl.opt (hD : Opt g t D) (hS : Opt s t S) (ht : t < g.n) (ok : g.Ok) (h8 : g.n ≤ 1000) : Opt e t (both D S):=by
 intro v hv;rw [h.en] at hv;constructor
 ·intro x hx
  unfold both at hx
  cases ed : D v with
  | none => rw [ed] at hx; cases hx
  | some d =>
   obtain ⟨k,hk,h1,h2⟩:=h.some hD hS ht ok hv ed;rw [ed,hk] at hx;obtain rfl:=Option.some.inj hx;obtain ⟨d',g1,g2,g3⟩:=h.ofS hD ht ok h2;rw [ed] at g1;obtain rfl:=Option.some.inj g1;exact ⟨k,h.toE g2⟩
 ·intro k c w;obtain ⟨c',w1,rfl⟩:=h.ofE w;obtain ⟨d,hd,h1⟩:=(hD v hv).2 _ _ w1;obtain ⟨j,hj,h2,h3⟩:=h.some hD hS ht ok hv hd;refine ⟨1000 * d + j,by simp [both,hd,hj],?_⟩
  by_cases e0 : d = c'
  case neg => omega
  subst e0;have w2:=h.toS hD ok w1 hd;obtain ⟨x,hx,h4⟩:=(hS v (by rw [h.sn]; exact hv)).2 _ _ w2;rw [hj] at hx;obtain rfl:=Option.some.inj hx;omega
end
end Go.Proofs.Ytmioaahiflfcdaa.Sp
end
section
set_option linter.unusedSimpArgs false
set_option linter.unusedVariables false
set_option linter.unusedSectionVars false
namespace Go.Proofs.Ytmioaahiflfcdaa.Pure
open Go.RowKit Go.Proofs.Ytmioaahiflfcdaa.Pr Go.Proofs.YtmioaahiflfcdaaW.PrintWords Go.Proofs.YtmioaahiflfcdaaW.PrintLast Go.Proofs.YtmioaahiflfcdaaW.PrintMore
open Go.Proofs.Ytmioaahiflfcdaa.Sp (G Wk Opt lts put relax sweep rounds start Dbl)
def gr (N : Nat) (l : List Arc) : G:=⟨N,l.length,fun i => (arc l i).f0.toNat,fun i => (arc l i).f1.toNat,fun i => (arc l i).f2,fun _ => true⟩
def grE (N : Nat) (l : List Arc) : G:={ gr N l with w:=fun i => 1000 * (arc l i).f2 + 1 }
def grS (N : Nat) (l : List Arc) (D : Nat → Option Int) : G:={ gr N l with w:=fun _ => 1,use:=fun i => match D (arc l i).f1.toNat with | none => false | some x => decide (D (arc l i).f0.toNat = some ((arc l i).f2 + x)) }
section
variable {N : Nat} {l : List Arc} (hg : NetGood N l)
include hg
theorem gr_ok : (gr N l).Ok:=⟨fun i hi => by have:=hg.ok i hi; show (arc l i).f0.toNat < N; omega,fun i hi => by have:=hg.ok i hi; show (arc l i).f1.toNat < N; omega,fun i hi => by have:=hg.ok i hi; show 0 ≤ (arc l i).f2; omega⟩
theorem grE_ok : (grE N l).Ok:=⟨fun i hi => by have:=hg.ok i hi; show (arc l i).f0.toNat < N; omega,fun i hi => by have:=hg.ok i hi; show (arc l i).f1.toNat < N; omega,fun i hi => by have:=hg.ok i hi; show 0 ≤ 1000 * (arc l i).f2 + 1; omega⟩
theorem grS_ok (D : Nat → Option Int) : (grS N l D).Ok:=⟨fun i hi => by have:=hg.ok i hi; show (arc l i).f0.toNat < N; omega,fun i hi => by have:=hg.ok i hi; show (arc l i).f1.toNat < N; omega,fun i hi => by show (0 : Int) ≤ 1; omega⟩
end
theorem dbl (N : Nat) (l : List Arc) (D : Nat → Option Int) : Dbl (gr N l) (grE N l) (grS N l D) D:=by
 refine ⟨rfl,rfl,rfl,rfl,rfl,fun i _ => rfl,rfl,rfl,rfl,rfl,fun i _ => rfl,fun i _ => ?_⟩
 show (match D (arc l i).f1.toNat with | none => false | some x => decide (D (arc l i).f0.toNat = some ((arc l i).f2 + x))) = true ↔ _
 cases e : D (arc l i).f1.toNat with
 | none =>
  refine ⟨fun h => (by cases h),fun ⟨_,x,h,_⟩ => ?_⟩;have h : D (arc l i).f1.toNat = some x:=h;rw [e] at h; cases h
 | some x =>
  dsimp only;rw [decide_eq_true_iff];refine ⟨fun h => ⟨rfl,x,e,h⟩,fun ⟨_,y,h,h2⟩ => ?_⟩;have h : D (arc l i).f1.toNat = some y:=h;rw [e] at h;obtain rfl:=Option.some.inj h;exact h2
def dst (N : Nat) (l : List Arc) (t : Nat) : Nat → Option Int:=rounds (gr N l) t N
def stp (N : Nat) (l : List Arc) (t : Nat) : Nat → Option Int:=rounds (grS N l (dst N l t)) t N
section
variable {N : Nat} {l : List Arc} (hg : NetGood N l) {t : Nat} (ht : t < N)
include hg ht
theorem dst_opt : Opt (gr N l) t (dst N l t):=Sp.rounds_opt (gr_ok hg) ht (by show N ≤ N + 1; omega)
theorem stp_opt : Opt (grS N l (dst N l t)) t (stp N l t):=Sp.rounds_opt (grS_ok hg _) ht (by show N ≤ N + 1; omega)
theorem stp_some {v : Nat} (hv : v < N) {d : Int} (hd : dst N l t v = some d) : ∃ k : Nat,stp N l t v = some (k : Int) ∧ k < N:=by
 obtain ⟨k,h1,h2,_⟩:=(dbl N l (dst N l t)).some (dst_opt hg ht) (stp_opt hg ht) ht (gr_ok hg) hv hd;exact ⟨k,h1,h2⟩
theorem tow_both {v : Nat} (hv : v < N) : rounds (grE N l) t N v = Sp.both (dst N l t) (stp N l t) v:=by
 have h8:=hg.n8;have h1:=Sp.rounds_opt (g:=grE N l) (t:=t) (r:=N) (grE_ok hg) ht (by show N ≤ N + 1; omega);have h2:=(dbl N l (dst N l t)).opt (dst_opt hg ht) (stp_opt hg ht) ht (gr_ok hg) (by show N ≤ 1000; omega);exact h1.uniq h2 v hv
end
abbrev Msr:=S101
def ent : Option Int → Msr
 | none => ⟨99999,0⟩
 | some x => ⟨x / 1000,x % 1000⟩
def far : Option Int → Int
 | none => 99999
 | some x => x
def lstM (N : Nat) (F : Nat → Msr) : List Msr:=(List.range N).map F
theorem lstM_len (N : Nat) (F : Nat → Msr) : (lstM N F).length = N:=by simp [lstM]
theorem lstM_rd {N v : Nat} (F : Nat → Msr) (h : v < N) : rd_T101 (lstM N F) (v : Int) = F v:=by
 simp [rd_T101,lstM,h]
theorem lstM_congr {N : Nat} {F H : Nat → Msr} (h : ∀ v,v < N → F v = H v) : lstM N F = lstM N H:=by
 unfold lstM
 exact List.map_congr_left (fun v hv => h v (List.mem_range.1 hv))
theorem lstM_set {N a : Nat} (L : Nat → Option Int) (x : Int) : (lstM N (fun v => ent (L v))).set a (ent (some x)) = lstM N (fun v => ent (put L a x v)):=by
 apply List.ext_getElem (by simp [lstM])
 intro i h1 h2;simp only [List.getElem_set]
 by_cases e : a = i
 case pos => subst e; simp [lstM,put]
 simp [lstM,put,e,show ¬ i = a from fun h => e h.symm]
theorem less_eq (a b c d : Int) : impl_measure_less.f a b c d = some (decide (a < c ∨ a = c ∧ b < d)):=by
 unfold impl_measure_less.f
 by_cases h : a < c
 case pos => rw [if_pos h,decide_eq_true (.inl h)]
 rw [if_neg h]
 by_cases h2 : a = c
 case neg => rw [if_neg h2,decide_eq_false (fun h3 => h3.elim h (fun h4 => h2 h4.1))]
 rw [if_pos h2]
 congr 1
 simp only [decide_eq_decide];exact ⟨fun h3 => .inr ⟨h2,h3⟩,fun h3 => h3.elim (fun h4 => absurd h4 h) (fun h4 => h4.2)⟩
def Bd (s : Nat) (L : Nat → Option Int) : Prop:=∀ v x,L v = some x → 0 ≤ x ∧ x / 1000 ≤ 99 * (s : Int) ∧ x % 1000 ≤ (s : Int)
theorem Bd.relax {N : Nat} {l : List Arc} (hg : NetGood N l) {s : Nat} {L : Nat → Option Int} (h : Bd s L) (hs : s < 900) {i : Nat} (hi : i < l.length) : Bd (s + 1) (relax (grE N l) L i):=by
 obtain ⟨_,_,_,⟨a1,a2⟩,_⟩:=hg.ok i hi;intro v x hx
 rcases Sp.relax_cases (grE N l) L i with ⟨e,_⟩ | ⟨_,y,hy,hl,e⟩
 ·rw [e] at hx; have:=h v x hx; omega
 ·rw [e] at hx
  by_cases hv : v = (grE N l).fr i
  case neg => rw [Sp.put_far _ _ hv] at hx; have:=h v x hx; omega
  subst hv;rw [Sp.put_same] at hx;have hx : some (y + (1000 * (arc l i).f2 + 1)) = some x:=hx;obtain rfl:=Option.some.inj hx;have:=h _ _ hy;omega
theorem Bd.sweep {N : Nat} {l : List Arc} (hg : NetGood N l) {s : Nat} {L : Nat → Option Int} (h : Bd s L) : ∀ i,i ≤ l.length → s + i ≤ 900 → Bd (s + i) (sweep (grE N l) L i):=by
 intro i
 induction i with
 | zero => exact fun _ _ => h
 | succ i ih => exact fun hi hs => (ih (by omega) (by omega)).relax hg (by omega) (by omega)
theorem Bd.mono {s r : Nat} {L : Nat → Option Int} (h : Bd s L) (hs : s ≤ r) : Bd r L:=fun v x hx => by have:=h v x hx; omega
theorem Bd.rounds {N : Nat} {l : List Arc} (hg : NetGood N l) (t : Nat) : ∀ r,r ≤ 9 → Bd (16 * r) (rounds (grE N l) t r):=by
 intro r
 induction r with
 | zero =>
  intro _ v x hx
  unfold Sp.rounds Sp.start at hx
  split at hx
  ·obtain rfl:=Option.some.inj hx; omega
  ·cases hx
 | succ r ih =>
  intro hr;have:=hg.len;exact ((ih (by omega)).sweep hg l.length (Nat.le_refl _) (by omega)).mono (by omega)
def hit (g : G) (L : Nat → Option Int) (i : Nat) : Bool:=match L (g.tw i) with
 | none => false
 | some x => lts (x + g.w i) (L (g.fr i))
def fl (g : G) (L : Nat → Option Int) : Nat → Bool
 | 0 => false
 | i + 1 => fl g L i || hit g (sweep g L i) i
theorem relax_hit {g : G} {L : Nat → Option Int} {i : Nat} (h : hit g L i = false) : relax g L i = L:=by
 unfold hit at h
 unfold Sp.relax
 split
 ·cases e : L (g.tw i) with
  | none => rfl
  | some x => rw [e] at h; dsimp only at h ⊢; rw [h]; rfl
 ·rfl
theorem fl_none {g : G} {L : Nat → Option Int} : ∀ i,fl g L i = false → sweep g L i = L
 | 0,_ => rfl
 | i + 1,h => by
  have h : (fl g L i || hit g (sweep g L i) i) = false:=h;rw [Bool.or_eq_false_iff] at h
  show relax g (sweep g L i) i = L
  rw [relax_hit h.2,fl_none i h.1]
theorem fl_same {g : G} (hu : ∀ i,g.use i = true) {L : Nat → Option Int} (h : ∀ v,sweep g L g.m v = L v) : ∀ i,i ≤ g.m → fl g L i = false
 | 0,_ => rfl
 | i + 1,hi => by
  show (fl g L i || hit g (sweep g L i) i) = false
  rw [fl_same hu h i (by omega),Bool.false_or];have e1 : sweep g L i = L:=funext (Sp.sweep_same h (by omega));have e2 : relax g L i = L:=by
   have : sweep g L (i + 1) = L:=funext (Sp.sweep_same h hi);have e3 : sweep g L (i + 1) = relax g (sweep g L i) i:=rfl;rw [e3,e1] at this;exact this
  rw [e1]
  unfold hit
  unfold Sp.relax at e2
  rw [if_pos (hu i)] at e2;cases e : L (g.tw i) with
  | none => rfl
  | some x =>
   rw [e] at e2;dsimp only at e2 ⊢;cases hl : lts (x + g.w i) (L (g.fr i)) with
   | false => rfl
   | true =>
    rw [if_pos hl] at e2;have:=congrFun e2 (g.fr i);rw [Sp.put_same] at this;rw [← this] at hl;simp [Sp.lts] at hl
section
variable {N : Nat} {l : List Arc} (hg : NetGood N l)
include hg
theorem tow_l1 (L : Nat → Option Int) {s : Nat} (hs : s ≤ 700) (hL : Bd s L) {R : List Msr} : ∀ (m i : Nat),l.length - i = m → i ≤ l.length →
  Ev (fun k => impl_Net_toward.l0 k (lstM N (fun v => ent (sweep (grE N l) L l.length v))) (fl (grE N l) L l.length) N l) R →
  Ev (fun k => impl_Net_toward.l1 k (lstM N (fun v => ent (sweep (grE N l) L i v))) (fl (grE N l) L i) l (l.length : Int) (i : Int) N l) R:=by
 have h16:=hg.len;intro m
 induction m with
 | zero =>
  intro i hd hi h;have e : i = l.length:=by omega
  subst e;refine Ev.go ?_ (fun k => by rw [impl_Net_toward.l1]);exact Ev.neg (by omega) h
 | succ m ih =>
  intro i hd hi h;have hlt : i < l.length:=by omega
  have hn:=ih (i + 1) (by omega) (by omega) h;clear ih h;have hb:=hL.sweep hg i hi (by omega);obtain ⟨⟨a1,a2⟩,⟨a3,a4⟩,a5,⟨a6,a7⟩,_⟩:=hg.ok i hlt;have ef : (grE N l).fr i = (arc l i).f0.toNat:=rfl;have et : (grE N l).tw i = (arc l i).f1.toNat:=rfl;have ew : (grE N l).w i = 1000 * (arc l i).f2 + 1:=rfl;obtain ⟨f,hf⟩:=Int.eq_ofNat_of_zero_le a1;obtain ⟨t,ht⟩:=Int.eq_ofNat_of_zero_le a3;rw [hf,Int.toNat_natCast] at ef;rw [ht,Int.toNat_natCast] at et;have hfN : f < N:=by omega
  have htN : t < N:=by omega
  have hsw : sweep (grE N l) L (i + 1) = relax (grE N l) (sweep (grE N l) L i) i:=rfl;have hfl : fl (grE N l) L (i + 1) = (fl (grE N l) L i || hit (grE N l) (sweep (grE N l) L i) i):=rfl;rw [hsw,hfl] at hn;clear hsw hfl;generalize sweep (grE N l) L i = M at hn hb;generalize fl (grE N l) L i = b at hn;refine Ev.go ?_ (fun k => by rw [impl_Net_toward.l1]);rw [rda,up1 hlt (by simp only [maxLen]; omega),hf,ht,lstM_rd _ htN,lstM_rd _ hfN,lstM_len];refine Ev.pos (by omega) (Ev.pos (by omega) (Ev.pos (by omega) (Ev.pos (by omega) (Ev.pos (by omega) ?_))));cases et2 : M t with
  | none =>
   have hh : hit (grE N l) M i = false:=by unfold hit; rw [et,et2]
   rw [hh,relax_hit hh,Bool.or_false] at hn;exact Ev.pos rfl hn
  | some x =>
   have hx:=hb t x et2;have hq : 0 ≤ x / 1000:=by omega
   have hr : 0 ≤ x % 1000:=by omega
   have w1 : wrap64 (x / 1000 + (arc l i).f2) = x / 1000 + (arc l i).f2:=w64 (by omega) (by omega);have w2 : wrap64 (x % 1000 + 1) = x % 1000 + 1:=w64 (by omega) (by omega);have e1 : (x + (1000 * (arc l i).f2 + 1)) / 1000 = x / 1000 + (arc l i).f2:=by omega
   have e2 : (x + (1000 * (arc l i).f2 + 1)) % 1000 = x % 1000 + 1:=by omega
   have eent : (⟨x / 1000 + (arc l i).f2,x % 1000 + 1⟩ : Msr) = ent (some (x + (1000 * (arc l i).f2 + 1))):=by simp only [ent,e1,e2]
   have hne : ¬ ((ent (some x)).f0 = 99999):=by show ¬ (x / 1000 = 99999); omega
   have elts : decide ((x / 1000 + (arc l i).f2) < (ent (M f)).f0 ∨ (x / 1000 + (arc l i).f2) = (ent (M f)).f0 ∧ (x % 1000 + 1) < (ent (M f)).f1) = lts (x + (1000 * (arc l i).f2 + 1)) (M f):=by
    cases ef2 : M f with
    | none => exact decide_eq_true (.inl (by show x / 1000 + (arc l i).f2 < 99999; omega))
    | some y =>
     have hy:=hb f y ef2
     show decide (_ < y / 1000 ∨ _ = y / 1000 ∧ _ < y % 1000) = decide (_ < y)
     rw [decide_eq_decide];omega
   have hh : hit (grE N l) M i = lts (x + (1000 * (arc l i).f2 + 1)) (M f):=by unfold hit; rw [et,et2,ef,ew]
   have hre : relax (grE N l) M i = if lts (x + (1000 * (arc l i).f2 + 1)) (M f) = true then put M f (x + (1000 * (arc l i).f2 + 1)) else M:=by
    unfold Sp.relax
    rw [if_pos (show (grE N l).use i = true from rfl),et,et2,ef,ew]
   rw [hh,hre] at hn;clear hh hre;refine Ev.neg hne ?_
   show Ev (fun k => if 0 ≤ ((f : Nat) : Int) then _ else _) R
   rw [show (ent (some x)).f0 = x / 1000 from rfl,show (ent (some x)).f1 = x % 1000 from rfl,w1,w2,Int.toNat_natCast,eent,lstM_set];clear w1 w2 hne;refine Ev.pos (by omega) (Ev.pos (by omega) (Ev.bind0 (less_eq _ _ _ _) ?_));rw [elts];cases c : lts (x + (1000 * (arc l i).f2 + 1)) (M f) with
   | true =>
    rw [c,if_pos rfl,Bool.or_true] at hn;exact Ev.pos rfl hn
   | false =>
    rw [c,if_neg (by simp),Bool.or_false] at hn;exact Ev.neg (by simp) hn
theorem tow_l0 {t : Nat} (ht : t < N) : ∀ d r,r + d = N → Ev (fun k => impl_Net_toward.l0 k (lstM N (fun v => ent (rounds (grE N l) t r v))) true N l) (lstM N (fun v => ent (rounds (grE N l) t N v))):=by
 have h8:=hg.n8;have stop : ∀ r,r ≤ N → fl (grE N l) (rounds (grE N l) t r) l.length = false → lstM N (fun v => ent (rounds (grE N l) t (r + 1) v)) = lstM N (fun v => ent (rounds (grE N l) t N v)):=by
  intro r hr hf;have e:=fl_none l.length hf;have o1 : Opt (grE N l) t (rounds (grE N l) t r):=Sp.opt_of_fix (Sp.rounds_real _ _ _) (Sp.rounds_t _ _ _) (fun v => congrFun e v);have o2:=Sp.rounds_opt (g:=grE N l) (t:=t) (r:=N) (grE_ok hg) ht (by show N ≤ N + 1; omega);refine lstM_congr (fun v hv => ?_);have e2 : rounds (grE N l) t (r + 1) = rounds (grE N l) t r:=e;rw [e2,o1.uniq o2 v hv]
 intro d
 induction d with
 | zero =>
  intro r hr;obtain rfl : r = N:=by omega
  refine Ev.go ?_ (fun k => by rw [impl_Net_toward.l0]);refine Ev.pos rfl (tow_l1 hg (rounds (grE r l) t r) (s:=16 * r) (by omega) (Bd.rounds hg t r (by omega)) _ 0 rfl (Nat.zero_le _) ?_);have hf:=fl_same (g:=grE r l) (fun _ => rfl) (L:=rounds (grE r l) t r) (Sp.rounds_fix (grE_ok hg) ht (by show r ≤ r + 1; omega)) l.length (Nat.le_refl _);rw [hf];refine Ev.go ?_ (fun k => by rw [impl_Net_toward.l0]);exact Ev.neg (by simp) (Ev.is (stop r (Nat.le_refl _) hf))
 | succ d ih =>
  intro r hr;refine Ev.go ?_ (fun k => by rw [impl_Net_toward.l0]);refine Ev.pos rfl (tow_l1 hg (rounds (grE N l) t r) (s:=16 * r) (by omega) (Bd.rounds hg t r (by omega)) _ 0 rfl (Nat.zero_le _) ?_);cases hf : fl (grE N l) (rounds (grE N l) t r) l.length with
  | true => exact ih (r + 1) (by omega)
  | false =>
   refine Ev.go ?_ (fun k => by rw [impl_Net_toward.l0]);exact Ev.neg (by simp) (Ev.is (stop r (by omega) hf))
theorem tow_ev {t : Nat} (ht : t < N) : Ev (fun k => impl_Net_toward.f k N l (t : Int)) (lstM N (fun v => ent (rounds (grE N l) t N v))):=by
 have h8:=hg.n8
 unfold impl_Net_toward.f
 refine Ev.bind0 (rep_measure _ N (by omega)) ?_;refine Ev.pos (by omega) (Ev.pos (by simp; omega) ?_);have e : (List.replicate N (⟨99999,0⟩ : Msr)).set (t : Int).toNat ⟨0,0⟩ = lstM N (fun v => ent (rounds (grE N l) t 0 v)):=by
  apply List.ext_getElem (by simp [lstM])
  intro i h1 h2;simp only [Int.toNat_natCast,List.getElem_set]
  by_cases c : t = i
  case pos => subst c; simp [lstM,Sp.rounds,Sp.start,ent]
  simp [lstM,Sp.rounds,Sp.start,ent,c,show ¬ i = t from fun h => c h.symm]
 rw [e];exact tow_l0 hg ht N 0 (by omega)
theorem ent_far {t : Nat} (ht : t < N) {v : Nat} (hv : v < N) : (ent (rounds (grE N l) t N v)).f0 = far (dst N l t v):=by
 have h8:=hg.n8;rw [tow_both hg ht hv]
 unfold Sp.both
 cases e : dst N l t v with
 | none => rfl
 | some d =>
  obtain ⟨k,h1,h2⟩:=stp_some hg ht hv e;rw [h1]
  show (1000 * d + (k : Int)) / 1000 = d
  omega
end
theorem costs_l (N : Nat) (hN : N ≤ 64) (F : Nat → Msr) : ∀ (m i : Nat),N - i = m → i ≤ N → Ev (fun k => impl_costs.l0 k (lst i (fun v => (F v).f0)) (lstM N F) (N : Int) (i : Int)) (lst N (fun v => (F v).f0)):=by
 intro m
 induction m with
 | zero =>
  intro i hd hi;refine Ev.go ?_ (fun k => by rw [impl_costs.l0]);obtain rfl : i = N:=by omega
  exact Ev.neg (by omega) (Ev.now _)
 | succ m ih =>
  intro i hd hi;refine Ev.go ?_ (fun k => by rw [impl_costs.l0]);rw [up1 (show i < N by omega) (by simp only [maxLen]; omega),lstM_rd F (show i < N by omega),lst_snoc i (fun v => (F v).f0),lst_len,lstM_len];exact Ev.pos (by omega) (Ev.pos (by omega) (Ev.pos (by omega) (Ev.pos (by omega) (ih (i + 1) (by omega) (by omega)))))
theorem costs_ev (N : Nat) (hN : N ≤ 64) (F : Nat → Msr) : Ev (fun k => impl_costs.f k (lstM N F)) (lst N (fun v => (F v).f0)):=by
 unfold impl_costs.f
 rw [lstM_len];exact Ev.pos (by omega) (Ev.pos (by omega) (costs_l N hN F _ 0 rfl (Nat.zero_le _)))
theorem from_ev {N : Nat} {l : List Arc} (hg : NetGood N l) {s : Nat} (hs : s < N) : Ev (fun k => impl_Net_from.f k N l (s : Int)) (lst N (fun v => far (dst N (back l) s v))):=by
 have h8:=hg.n8;have h16:=hg.len
 unfold impl_Net_from.f
 refine Ev.bind (implBack_ev _ l (by omega)) (Ev.bind (tow_ev (back_good hg) hs) (Ev.bind (costs_ev N (by omega) _) (Ev.is ?_)));exact lst_congr (fun v hv => ent_far (back_good hg) hs hv)
end Go.Proofs.Ytmioaahiflfcdaa.Pure
end
section
set_option linter.unusedSimpArgs false
set_option linter.unusedVariables false
set_option linter.unusedSectionVars false
namespace Go.Proofs.Ytmioaahiflfcdaa.Pure
open Go.RowKit Go.Proofs.Ytmioaahiflfcdaa.Pr Go.Proofs.YtmioaahiflfcdaaW.PrintWords Go.Proofs.YtmioaahiflfcdaaW.PrintLast Go.Proofs.YtmioaahiflfcdaaW.PrintMore
open Go.Proofs.Ytmioaahiflfcdaa.Sp (G Wk Opt)
def tab (N : Nat) (l : List Arc) (s : Nat) : List Int:=lst N (fun v => far (dst N (back l) s v))
theorem table_l {N : Nat} {l : List Arc} (hg : NetGood N l) : ∀ (m i : Nat),N - i = m → i ≤ N → Ev (fun k => impl_Net_table.l0 k ((List.range i).map (tab N l)) (N : Int) (i : Int) N l) ((List.range N).map (tab N l)):=by
 have h8:=hg.n8;intro m
 induction m with
 | zero =>
  intro i hd hi;obtain rfl : i = N:=by omega
  refine Ev.go ?_ (fun k => by rw [impl_Net_table.l0]);exact Ev.neg (by omega) (Ev.now _)
 | succ m ih =>
  intro i hd hi;refine Ev.go ?_ (fun k => by rw [impl_Net_table.l0]);have ih:=ih (i + 1) (by omega) (by omega);rw [List.range_succ,List.map_append] at ih;rw [up1 (show i < N by omega) (by simp only [maxLen]; omega)];exact Ev.pos (by omega) (Ev.bind (from_ev hg (show i < N by omega)) (Ev.pos (by simp; omega) ih))
theorem table_ev {N : Nat} {l : List Arc} (hg : NetGood N l) : Ev (fun k => impl_Net_table.f k N l) ((List.range N).map (tab N l)):=by
 have h8:=hg.n8
 unfold impl_Net_table.f
 exact Ev.pos (by omega) (Ev.pos (by omega) (by simpa using table_l hg _ 0 rfl (Nat.zero_le _)))
theorem back_arc' (l : List Arc) (i : Nat) : arc (back l) i = flip (arc l i):=by
 by_cases h : i < l.length
 case pos => exact back_arc h
 have e1 : arc (back l) i = z80:=by unfold arc; simp [rd_T80,back_len,List.getElem?_eq_none (show l.length ≤ i by omega),List.getElem?_eq_none (show (back l).length ≤ i by rw [back_len]; omega)]
 have e2 : arc l i = z80:=by unfold arc; simp [rd_T80,List.getElem?_eq_none (show l.length ≤ i by omega)]
 rw [e1,e2]; rfl
theorem back_back (l : List Arc) : back (back l) = l:=by
 unfold back
 rw [List.map_map];have : (flip ∘ flip : Arc → Arc) = id:=by funext a; rfl
 rw [this,List.map_id]
theorem walk_back {N : Nat} {l : List Arc} {u v k : Nat} {c : Int} (h : Wk (gr N l) u v k c) : Wk (gr N (back l)) v u k c:=by
 induction h with
 | nil v => exact .nil v
 | @cons i v k c hi hu _ ih =>
  have h1:=Wk.one (g:=gr N (back l)) (i:=i) (by show i < (back l).length; rw [back_len]; exact hi) rfl;have e1 : (gr N (back l)).fr i = (gr N l).tw i:=by show (arc (back l) i).f0.toNat = _; rw [back_arc']; rfl
  have e2 : (gr N (back l)).tw i = (gr N l).fr i:=by show (arc (back l) i).f1.toNat = _; rw [back_arc']; rfl
  have e3 : (gr N (back l)).w i = (gr N l).w i:=by show (arc (back l) i).f2 = _; rw [back_arc']; rfl
  rw [e1,e2,e3] at h1;exact (ih.trans h1).cast rfl (by omega)
theorem wk_cost {N : Nat} {l : List Arc} (hg : NetGood N l) {u v k : Nat} {c : Int} (w : Wk (gr N l) u v k c) : c ≤ 99 * (k : Int):=by
 induction w with
 | nil => omega
 | @cons i _ _ c hi _ _ ih =>
  have h : (gr N l).w i ≤ 99:=(hg.ok i hi).2.2.2.1.2;omega
section
variable {N : Nat} {l : List Arc} (hg : NetGood N l) {t : Nat} (ht : t < N)
include hg ht
theorem dst_t : dst N l t t = some 0:=by
 obtain ⟨x,h1,h2⟩:=(dst_opt hg ht t ht).2 0 0 (.nil t);obtain ⟨k,w⟩:=(dst_opt hg ht t ht).1 x h1;have:=w.nonneg (gr_ok hg);rw [h1]; congr 1; omega
theorem dst_bd {v : Nat} (hv : v < N) {d : Int} (h : dst N l t v = some d) : 0 ≤ d ∧ d ≤ 693:=by
 have h8:=hg.n8;obtain ⟨k,w⟩:=(dst_opt hg ht v hv).1 d h;obtain ⟨k',c',w',h1,h2,h3⟩:=w.short (gr_ok hg) ht;obtain ⟨x,h4,h5⟩:=(dst_opt hg ht v hv).2 _ _ w';rw [h] at h4;obtain rfl:=Option.some.inj h4;have h6:=wk_cost hg w';have h7 : k' < N:=h1;exact ⟨w.nonneg (gr_ok hg),by omega⟩
end
end Go.Proofs.Ytmioaahiflfcdaa.Pure
end
section
set_option linter.unusedSimpArgs false
set_option linter.unusedVariables false
set_option linter.unusedSectionVars false
namespace Go.Proofs.Ytmioaahiflfcdaa.Pure
open Go.RowKit Go.Proofs.Ytmioaahiflfcdaa.Pr Go.Proofs.YtmioaahiflfcdaaW.PrintWords Go.Proofs.YtmioaahiflfcdaaW.PrintLast Go.Proofs.YtmioaahiflfcdaaW.PrintMore
open Go.Proofs.Ytmioaahiflfcdaa.Sp (G Wk Opt lts put relax sweep rounds start)
theorem lst_put {N a : Nat} (L : Nat → Option Int) (x : Int) : (lst N (fun v => far (L v))).set a x = lst N (fun v => far (put L a x v)):=by
 rw [lst_set]
 apply lst_congr
 intro v _
 unfold upd Sp.put
 split <;> rfl
theorem lst_fill (N i : Nat) (c : Int) (F : Nat → Int) (h : i < N) : (lst N (fun v => if v < i then c else F v)).set i c = lst N (fun v => if v < i + 1 then c else F v):=by
 rw [lst_set]
 apply lst_congr
 intro v _
 unfold upd
 by_cases e : v = i
 case pos => subst e; simp
 rw [if_neg e]
 show (if v < i then c else F v) = _
 by_cases e2 : v < i
 case neg => rw [if_neg e2,if_neg (by omega)]
 rw [if_pos e2,if_pos (by omega)]
theorem start_lst {N s : Nat} (hs : s < N) : (lst N (fun _ => (99999 : Int))).set s 0 = lst N (fun v => far (Sp.start s v)):=by
 rw [lst_set]
 apply lst_congr
 intro v _
 unfold upd Sp.start
 split <;> rfl
def Bw (w : Int) (s : Nat) (L : Nat → Option Int) : Prop:=∀ v x,L v = some x → 0 ≤ x ∧ x ≤ w * (s : Int)
theorem Bw.relax {g : G} {w : Int} {s : Nat} {L : Nat → Option Int} (h : Bw w s L) {i : Nat} (h0 : 0 ≤ g.w i) (h1 : g.w i ≤ w) : Bw w (s + 1) (relax g L i):=by
 intro v x hx;have:=Sp.relax_bd h h0 h1 v x hx;refine ⟨this.1,?_⟩;have e : w * ((s + 1 : Nat) : Int) = w * (s : Int) + w:=by rw [Int.natCast_add,Int.mul_add]; simp
 omega
theorem Bw.sweep {g : G} {w : Int} {s : Nat} {L : Nat → Option Int} (h : Bw w s L) (hw : ∀ i,i < g.m → 0 ≤ g.w i ∧ g.w i ≤ w) : ∀ i,i ≤ g.m → Bw w (s + i) (sweep g L i)
 | 0,_ => h
 | i + 1,hi => (Bw.sweep h hw i (by omega)).relax (hw i (by omega)).1 (hw i (by omega)).2
theorem Bw.rounds {g : G} {w : Int} (hw : ∀ i,i < g.m → 0 ≤ g.w i ∧ g.w i ≤ w) (t : Nat) : ∀ r,Bw w (g.m * r) (rounds g t r)
 | 0 => by
  intro v x hx
  unfold Sp.rounds Sp.start at hx
  split at hx
  ·obtain rfl:=Option.some.inj hx; simp
  ·cases hx
 | r + 1 => by
  have:=(Bw.rounds hw t r).sweep hw g.m (Nat.le_refl _);rw [Nat.mul_succ];exact this
section
variable {N : Nat} {l : List Arc} (hg : NetGood N l)
include hg
theorem back_gr_fr (i : Nat) : (gr N (back l)).fr i = (arc l i).f1.toNat:=by show (arc (back l) i).f0.toNat = _; rw [back_arc']; rfl
theorem back_gr_tw (i : Nat) : (gr N (back l)).tw i = (arc l i).f0.toNat:=by show (arc (back l) i).f1.toNat = _; rw [back_arc']; rfl
theorem back_gr_w (i : Nat) : (gr N (back l)).w i = (arc l i).f2:=by show (arc (back l) i).f2 = _; rw [back_arc']; rfl
theorem back_gr_m : (gr N (back l)).m = l.length:=back_len l
theorem back_bw : ∀ i,i < (gr N (back l)).m → 0 ≤ (gr N (back l)).w i ∧ (gr N (back l)).w i ≤ 99:=by
 intro i hi;rw [back_gr_m hg] at hi;rw [back_gr_w hg];exact (hg.ok i hi).2.2.2.1
theorem l3All_arcs (r : Nat) {M : Nat → Option Int} {s : Nat} (hM : Bw 99 s M) (hs : s ≤ 500) (hr : r < N) {R : List Int} : ∀ (m i : Nat),l.length - i = m → i ≤ l.length →
  Ev (fun k => spec_l3All.l1 k (lst N (fun v => far (sweep (gr N (back l)) M l.length v))) ((r + 1 : Nat) : Int) N l) R →
  Ev (fun k => spec_l3All.l2 k (lst N (fun v => far (sweep (gr N (back l)) M i v))) (r : Int) (i : Int) N l) R:=by
 have h8:=hg.n8;have h16:=hg.len;intro m
 induction m with
 | zero =>
  intro i hd hi h;obtain rfl : i = l.length:=by omega
  refine Ev.go ?_ (fun k => by rw [spec_l3All.l2]);rw [up1 hr (by simp only [maxLen]; omega)];exact Ev.neg (by omega) h
 | succ m ih =>
  intro i hd hi h;have hlt : i < l.length:=by omega
  have hn:=ih (i + 1) (by omega) (by omega) h;clear ih h;have hb:=hM.sweep (back_bw hg) i (by rw [back_gr_m hg]; omega);have hsw : sweep (gr N (back l)) M (i + 1) = relax (gr N (back l)) (sweep (gr N (back l)) M i) i:=rfl;rw [hsw] at hn;generalize sweep (gr N (back l)) M i = L at hn hb;obtain ⟨⟨a1,a2⟩,⟨a3,a4⟩,a5,⟨a6,a7⟩,_⟩:=hg.ok i hlt;have ef:=back_gr_fr hg i;have et:=back_gr_tw hg i;have ew:=back_gr_w hg i;obtain ⟨f,hf⟩:=Int.eq_ofNat_of_zero_le a1;obtain ⟨t,ht⟩:=Int.eq_ofNat_of_zero_le a3;rw [hf,Int.toNat_natCast] at et;rw [ht,Int.toNat_natCast] at ef;have hfN : f < N:=by omega
  have htN : t < N:=by omega
  refine Ev.go ?_ (fun k => by rw [spec_l3All.l2]);rw [rda,up1 hlt (by simp only [maxLen]; omega),hf,ht,lst_rd _ htN,lst_rd _ hfN,lst_len];refine Ev.pos (by omega) (Ev.pos (by omega) (Ev.pos (by omega) (Ev.pos (by omega) ?_)));cases e2 : L f with
  | none =>
   have hre : relax (gr N (back l)) L i = L:=by unfold Sp.relax; rw [if_pos (show (gr N (back l)).use i = true from rfl),et,e2]
   rw [hre] at hn;exact Ev.neg (by show ¬ ((99999 : Int) < 99999); omega) hn
  | some x =>
   have hx:=hb f x e2;have w1 : wrap64 (x + (arc l i).f2) = x + (arc l i).f2:=w64 (by omega) (by omega);have hre : relax (gr N (back l)) L i = if lts (x + (arc l i).f2) (L t) = true then put L t (x + (arc l i).f2) else L:=by
    unfold Sp.relax
    rw [if_pos (show (gr N (back l)).use i = true from rfl),et,e2,ef,ew]
   have elt : (x + (arc l i).f2 < far (L t)) ↔ lts (x + (arc l i).f2) (L t) = true:=by
    cases e3 : L t with
    | none => exact ⟨fun _ => rfl,fun _ => by show x + _ < 99999; omega⟩
    | some y => exact ⟨fun h => decide_eq_true h,fun h => of_decide_eq_true h⟩
   rw [hre] at hn
   show Ev (fun k => if x < 99999 then _ else _) R
   rw [show far (some x) = x from rfl,w1,Int.toNat_natCast,lst_put];clear w1 hre;refine Ev.pos (by omega) (Ev.pos (by omega) (Ev.pos (by omega) ?_));cases c : lts (x + (arc l i).f2) (L t) with
   | true =>
    rw [c,if_pos rfl] at hn;exact Ev.pos (elt.2 c) hn
   | false =>
    rw [c,if_neg (by simp)] at hn;exact Ev.neg (fun h => by rw [elt.1 h] at c; cases c) hn
theorem l3All_rounds {s : Nat} (hs : s < N) : ∀ (m r : Nat),N - r = m → r ≤ N → Ev (fun k => spec_l3All.l1 k (lst N (fun v => far (rounds (gr N (back l)) s r v))) (r : Int) N l) (lst N (fun v => far (dst N (back l) s v))):=by
 have h8:=hg.n8;have h16:=hg.len;intro m
 induction m with
 | zero =>
  intro r hd hr;obtain rfl : r = N:=by omega
  refine Ev.go ?_ (fun k => by rw [spec_l3All.l1]);exact Ev.neg (by omega) (Ev.now _)
 | succ m ih =>
  intro r hd hr;have hlt : r < N:=by omega
  refine Ev.go ?_ (fun k => by rw [spec_l3All.l1]);refine Ev.pos (by omega) ?_;have hb:=Bw.rounds (back_bw hg) s r;rw [back_gr_m hg] at hb;have h16r : l.length * r ≤ 16 * 8:=Nat.mul_le_mul h16 (by omega);refine l3All_arcs hg r hb (by omega) hlt _ 0 rfl (Nat.zero_le _) ?_;have e : sweep (gr N (back l)) (rounds (gr N (back l)) s r) l.length = rounds (gr N (back l)) s (r + 1):=by
   show _ = sweep (gr N (back l)) (rounds (gr N (back l)) s r) (gr N (back l)).m
   rw [back_gr_m hg]
  rw [e];exact ih (r + 1) (by omega) (by omega)
theorem l3All_fill {s : Nat} (hs : s < N) : ∀ (m i : Nat),N - i = m → i ≤ N → Ev (fun k => spec_l3All.l0 k (s : Int) (lst N (fun v => if v < i then 99999 else 0)) (i : Int) N l) (lst N (fun v => far (dst N (back l) s v))):=by
 have h8:=hg.n8;intro m
 induction m with
 | zero =>
  intro i hd hi;obtain rfl : i = N:=by omega
  refine Ev.go ?_ (fun k => by rw [spec_l3All.l0]);have e : lst i (fun v => if v < i then (99999 : Int) else 0) = lst i (fun _ => 99999):=lst_congr (fun v hv => by rw [if_pos hv]);rw [e,lst_len];refine Ev.neg (by omega) (Ev.pos (by omega) (Ev.pos (by omega) ?_));rw [Int.toNat_natCast,start_lst hs];exact (l3All_rounds hg hs _ 0 rfl (Nat.zero_le _))
 | succ m ih =>
  intro i hd hi;have hlt : i < N:=by omega
  refine Ev.go ?_ (fun k => by rw [spec_l3All.l0]);rw [lst_len,Int.toNat_natCast,lst_fill N i 99999 (fun _ => 0) hlt,up1 hlt (by simp only [maxLen]; omega)];exact Ev.pos (by omega) (Ev.pos (by omega) (Ev.pos (by omega) (ih (i + 1) (by omega) (by omega))))
theorem zeros_lst : List.replicate N (0 : Int) = lst N (fun v => if v < 0 then 99999 else 0):=by
 apply List.ext_getElem (by simp [lst])
 intro i h1 h2;simp [lst]
theorem l3All_ev {s : Nat} (hs : s < N) : Ev (fun k => spec_l3All.f k N l (s : Int)) (lst N (fun v => far (dst N (back l) s v))):=by
 have h8:=hg.n8
 unfold spec_l3All.f
 rw [Int.toNat_natCast,zeros_lst hg];exact Ev.pos (by omega) (Ev.pos (by omega) (l3All_fill hg hs _ 0 rfl (Nat.zero_le _)))
end
end Go.Proofs.Ytmioaahiflfcdaa.Pure
end
section
set_option linter.unusedSimpArgs false
set_option linter.unusedVariables false
set_option linter.unusedSectionVars false
namespace Go.Proofs.Ytmioaahiflfcdaa.Pure
open Go.RowKit Go.Proofs.Ytmioaahiflfcdaa.Pr Go.Proofs.YtmioaahiflfcdaaW.PrintWords Go.Proofs.YtmioaahiflfcdaaW.PrintLast Go.Proofs.YtmioaahiflfcdaaW.PrintMore
open Go.Proofs.Ytmioaahiflfcdaa.Pm (perms pick at_ costOf IsPerm)
open Go.Proofs.Ytmioaahiflfcdaa.Fl (sm)
def nts (x : List Nat) : List Int:=x.map fun i => ((i : Nat) : Int)
def nats (x : List Int) : List Nat:=x.map Int.toNat
theorem nts_len (x : List Nat) : (nts x).length = x.length:=by simp [nts]
theorem nats_len (x : List Int) : (nats x).length = x.length:=by simp [nats]
theorem nts_nats {x : List Int} (h : ∀ v ∈ x,0 ≤ v) : nts (nats x) = x:=by
 unfold nts nats
 rw [List.map_map]
 conv => rhs; rw [← List.map_id x]
 exact List.map_congr_left (fun v hv => by show ((v.toNat : Nat) : Int) = v; have:=h v hv; omega)
theorem nats_nts (x : List Nat) : nats (nts x) = x:=by
 unfold nts nats
 rw [List.map_map]
 conv => rhs; rw [← List.map_id x]
 exact List.map_congr_left (fun v hv => by simp)
theorem nts_rd (x : List Nat) (i : Nat) : rd (nts x) (i : Int) = ((at_ x i : Nat) : Int):=by
 rw [rdg]
 unfold nth nts at_
 by_cases h : i < x.length
 case neg => simp [h]
 simp [h]
theorem nts_snoc (x : List Nat) (i : Nat) : nts x ++ [((i : Nat) : Int)] = nts (x ++ [i]):=by simp [nts]
theorem nts_mem (x : List Nat) (i : Nat) : ((i : Nat) : Int) ∈ nts x ↔ i ∈ x:=by
 unfold nts
 rw [List.mem_map];constructor
 ·rintro ⟨j,hj,e⟩;have : j = i:=by omega
  rw [← this]; exact hj
 ·exact fun h => ⟨i,h,rfl⟩
theorem at_mem {x : List Nat} {i : Nat} (h : i < x.length) : at_ x i ∈ x:=by
 have e : at_ x i = x[i]:=by simp [at_,h]
 rw [e]; exact List.getElem_mem h
theorem inL_l (x : List Int) (v : Int) (hm : x.length ≤ maxLen) : ∀ (m i : Nat),x.length - i = m → i ≤ x.length → Ev (fun k => spec_l12In.l0 k x v (i : Int)) (decide (v ∈ x.drop i)):=by
 intro m
 induction m with
 | zero =>
  intro i hd hi;refine Ev.go ?_ (fun k => by rw [spec_l12In.l0]);rw [List.drop_of_length_le (by omega)];exact Ev.neg (by omega) (Ev.is (by simp))
 | succ m ih =>
  intro i hd hi;have hlt : i < x.length:=by omega
  have hn:=ih (i + 1) (by omega) (by omega);rw [← up1 hlt hm] at hn;refine Ev.go ?_ (fun k => by rw [spec_l12In.l0]);refine Ev.pos (by omega) (Ev.pos (by omega) ?_);rw [rdn hlt,drop_cons hlt]
  by_cases c : x[i] = v
  case pos => exact Ev.pos c (Ev.is (decide_eq_true (List.mem_cons.2 (.inl c.symm))).symm)
  exact Ev.neg c (hn.cast (by rw [decide_eq_decide]; simp only [List.mem_cons]; exact ⟨.inr,fun h => h.resolve_left (fun e => c e.symm)⟩))
theorem inL_ev (x : List Int) (v : Int) (hm : x.length ≤ maxLen) : Ev (fun k => spec_l12In.f k x v) (decide (v ∈ x)):=by
 have:=inL_l x v hm _ 0 rfl (Nat.zero_le _)
 rwa [List.drop_zero] at this
theorem idx_l (x : List Int) (v : Int) (hm : x.length ≤ maxLen) : ∀ (m i : Nat),x.length - i = m → i ≤ x.length → ∃ r : Int,Ev (fun k => slices_Index_int_int.l0 k x v (x.length : Int) (i : Int)) r ∧ decide (r ≥ 0) = decide (v ∈ x.drop i):=by
 intro m
 induction m with
 | zero =>
  intro i hd hi;refine ⟨-1,?_,?_⟩
  ·refine Ev.go ?_ (fun k => by rw [slices_Index_int_int.l0]);exact Ev.neg (by omega) (Ev.now _)
  ·rw [List.drop_of_length_le (by omega)];simp
 | succ m ih =>
  intro i hd hi;have hlt : i < x.length:=by omega
  by_cases c : v = x[i]
  case pos =>
   refine ⟨(i : Int),?_,?_⟩
   ·refine Ev.go ?_ (fun k => by rw [slices_Index_int_int.l0]);rw [rdn hlt];exact Ev.pos (by omega) (Ev.pos (by omega) (Ev.pos (by omega) (Ev.pos c (Ev.now _))))
   ·rw [drop_cons hlt,decide_eq_decide];exact ⟨fun _ => List.mem_cons.2 (.inl c),fun _ => by omega⟩
  obtain ⟨r,h1,h2⟩:=ih (i + 1) (by omega) (by omega);rw [← up1 hlt hm] at h1;refine ⟨r,?_,?_⟩
  ·refine Ev.go ?_ (fun k => by rw [slices_Index_int_int.l0]);rw [rdn hlt];exact Ev.pos (by omega) (Ev.pos (by omega) (Ev.pos (by omega) (Ev.neg c h1)))
  ·rw [h2,drop_cons hlt,decide_eq_decide];simp only [List.mem_cons];exact ⟨.inr,fun h => h.resolve_left c⟩
theorem contains_ev (x : List Int) (v : Int) (hm : x.length ≤ maxLen) : Ev (fun k => slices_Contains_int_int.f k x v) (decide (v ∈ x)):=by
 obtain ⟨r,h1,h2⟩:=idx_l x v hm _ 0 rfl (Nat.zero_le _);rw [List.drop_zero] at h2;exact Ev.bind h1 (Ev.is h2)
def dis (N : Nat) (l : List Arc) (u v : Nat) : Int:=far (dst N (back l) u v)
section
variable {N : Nat} {l : List Arc} (hg : NetGood N l)
include hg
theorem dis_bd {u v : Nat} (hu : u < N) (hv : v < N) : 0 ≤ dis N l u v ∧ (dis N l u v = 99999 ∨ dis N l u v ≤ 693):=by
 unfold dis
 cases h : dst N (back l) u v with
 | none => exact ⟨by decide,.inl rfl⟩
 | some d =>
  have:=dst_bd (back_good hg) hu hv h;exact ⟨this.1,.inr this.2⟩
theorem dis_self {u : Nat} (hu : u < N) : dis N l u u = 0:=by
 unfold dis
 rw [dst_t (back_good hg) hu];rfl
theorem dst_flip {s t : Nat} (hs : s < N) (ht : t < N) : dst N (back l) s t = dst N l t s:=by
 have h1:=dst_opt (back_good hg) hs t ht;have h2:=dst_opt hg ht s hs;cases e1 : dst N (back l) s t with
 | none =>
  cases e2 : dst N l t s with
  | none => rfl
  | some y =>
   obtain ⟨k,w⟩:=h2.1 y e2;obtain ⟨x,h,_⟩:=h1.2 _ _ (walk_back w);rw [e1] at h; cases h
 | some x =>
  obtain ⟨k,w⟩:=h1.1 x e1;have w:=walk_back w;rw [back_back] at w;obtain ⟨y,h3,h4⟩:=h2.2 _ _ w;obtain ⟨k2,w2⟩:=h2.1 y h3;obtain ⟨x',h5,h6⟩:=h1.2 _ _ (walk_back w2);rw [e1] at h5;obtain rfl:=Option.some.inj h5;rw [h3]; congr 1; omega
theorem dis_back {u v : Nat} (hu : u < N) (hv : v < N) : dis N (back l) u v = dis N l v u:=by
 unfold dis
 rw [back_back,dst_flip hg hv hu]
end
def DJ (N : Nat) (l : List Arc) (a b : List Nat) (i k : Nat) : Int:=dis N l (at_ a i) (at_ b k)
structure Jobs (N : Nat) (l : List Arc) (a b : List Nat) : Prop where
 net : NetGood N l
 m1 : 1 ≤ a.length
 m5 : a.length ≤ 5
 len : b.length = a.length
 ha : ∀ v ∈ a,v < N
 hb : ∀ v ∈ b,v < N
section
variable {N : Nat} {l : List Arc} {a b : List Nat} (hJ : Jobs N l a b)
include hJ
theorem at_a {i : Nat} (h : i < a.length) : at_ a i < N:=hJ.ha _ (at_mem h)
theorem at_b {i : Nat} (h : i < a.length) : at_ b i < N:=hJ.hb _ (at_mem (by rw [hJ.len]; exact h))
theorem DJ_bd {i k : Nat} (hi : i < a.length) (hk : k < a.length) : 0 ≤ DJ N l a b i k ∧ (DJ N l a b i k = 99999 ∨ DJ N l a b i k ≤ 693):=dis_bd hJ.net (at_a hJ hi) (at_b hJ hk)
theorem sm_bd {p : List Nat} (hp : p.length = a.length) (hl : ∀ v ∈ p,v < a.length) : ∀ i,i ≤ a.length → (∀ j,j < i → DJ N l a b j (at_ p j) ≠ 99999) → 0 ≤ sm (fun j => DJ N l a b j (at_ p j)) i ∧ sm (fun j => DJ N l a b j (at_ p j)) i ≤ 693 * (i : Int)
 | 0,_,_ => by simp [sm]
 | i + 1,hi,hf => by
  have ih:=sm_bd hp hl i (by omega) (fun j hj => hf j (by omega));have h1:=DJ_bd hJ (i:=i) (k:=at_ p i) (by omega) (hl _ (at_mem (by omega)));have h2:=hf i (by omega);simp only [sm];omega
theorem costOf_far {p : List Nat} {i : Nat} (hi : i < a.length) (h : DJ N l a b i (at_ p i) = 99999) : costOf a.length (DJ N l a b) p = 99999:=by
 unfold costOf
 exact if_pos ⟨i,hi,h⟩
theorem costOf_sm {p : List Nat} (hf : ∀ j,j < a.length → DJ N l a b j (at_ p j) ≠ 99999) : costOf a.length (DJ N l a b) p = sm (fun j => DJ N l a b j (at_ p j)) a.length:=by
 unfold costOf
 exact if_neg (fun ⟨j,hj,e⟩ => hf j hj e)
theorem costOf_bd {p : List Nat} (hp : p.length = a.length) (hl : ∀ v ∈ p,v < a.length) : 0 ≤ costOf a.length (DJ N l a b) p ∧ costOf a.length (DJ N l a b) p ≤ 99999:=by
 by_cases h : ∃ i,i < a.length ∧ DJ N l a b i (at_ p i) = 99999
 case pos =>
  obtain ⟨i,hi,e⟩:=h;rw [costOf_far hJ hi e]; omega
 have hf : ∀ j,j < a.length → DJ N l a b j (at_ p j) ≠ 99999:=fun j hj e => h ⟨j,hj,e⟩
 rw [costOf_sm hJ hf];have:=sm_bd hJ hp hl a.length (Nat.le_refl _) hf;have:=hJ.m5;omega
def tabs (N : Nat) (l : List Arc) : List (List Int):=(List.range N).map (tab N l)
omit hJ in
theorem tabs_row {u : Nat} (h : u < N) : rd_L3 (tabs N l) (u : Int) = tab N l u:=by simp [rd_L3,tabs,h]
omit hJ in
theorem tab_len (u : Nat) : (tab N l u).length = N:=by unfold tab; exact lst_len _ _
omit hJ in
theorem tab_rd {u v : Nat} (h : v < N) : rd (tab N l u) (v : Int) = dis N l u v:=by unfold tab dis; exact lst_rd _ h
omit hJ in
theorem tabs_len : (tabs N l).length = N:=by simp [tabs]
theorem assigned_l {p : List Nat} (hp : p.length = a.length) (hl : ∀ v ∈ p,v < a.length) : ∀ (d i : Nat),a.length - i = d → i ≤ a.length → (∀ j,j < i → DJ N l a b j (at_ p j) ≠ 99999) → Ev (fun k => impl_assigned.l0 k (tabs N l) (nts a) (nts b) (sm (fun j => DJ N l a b j (at_ p j)) i) (nts p) (a.length : Int) (i : Int)) (costOf a.length (DJ N l a b) p):=by
 have h8:=hJ.net.n8;have h5:=hJ.m5;intro d
 induction d with
 | zero =>
  intro i hd hi hf;have e : i = a.length:=by omega
  subst e;refine Ev.go ?_ (fun k => by rw [impl_assigned.l0]);exact Ev.neg (by omega) (Ev.is (costOf_sm hJ hf).symm)
 | succ d ih =>
  intro i hd hi hf;have hlt : i < a.length:=by omega
  have hpi:=hl _ (at_mem (show i < p.length by omega));have h1:=at_a hJ hlt;have h2:=at_b hJ hpi;have hbd:=DJ_bd hJ hlt hpi;have hsm:=sm_bd hJ hp hl i hi hf;have e1 : rd (tab N l (at_ a i)) ((at_ b (at_ p i) : Nat) : Int) = DJ N l a b i (at_ p i):=tab_rd h2;refine Ev.go ?_ (fun k => by rw [impl_assigned.l0]);rw [nts_rd,nts_rd,nts_rd,tabs_row h1,e1,up1 hlt (by simp only [maxLen]; omega)];refine Ev.pos (by omega) (Ev.pos (by omega) (Ev.pos (by rw [nts_len]; omega) (Ev.pos (by rw [nts_len]; omega) (Ev.pos (by omega) (Ev.pos (by rw [tabs_len]; omega) (Ev.pos (by omega) (Ev.pos (by rw [nts_len,hJ.len]; omega) (Ev.pos (by omega) (Ev.pos (by rw [tab_len]; omega) ?_)))))))))
  by_cases c : DJ N l a b i (at_ p i) = 99999
  case pos => exact Ev.pos c (Ev.is (costOf_far hJ hlt c).symm)
  refine Ev.neg c ?_;rw [w64 (by omega) (by omega)];exact ih (i + 1) (by omega) (by omega) (fun j hj => by
   by_cases e : j = i
   case pos => subst e; exact c
   exact hf j (by omega))
theorem assigned_ev {p : List Nat} (hp : p.length = a.length) (hl : ∀ v ∈ p,v < a.length) : Ev (fun k => impl_assigned.f k (tabs N l) (nts a) (nts b) (nts p)) (costOf a.length (DJ N l a b) p):=by
 unfold impl_assigned.f
 rw [nts_len,hp];exact assigned_l hJ hp hl _ 0 rfl (Nat.zero_le _) (fun j h => absurd h (by omega))
def gridJ (N : Nat) (l : List Arc) (a b : List Nat) : List (List Int):=(List.range a.length).map fun i => lst b.length (DJ N l a b i)
omit hJ in
theorem gridJ_len : (gridJ N l a b).length = a.length:=by simp [gridJ]
omit hJ in
theorem gridJ_row {i : Nat} (h : i < a.length) : rd_L3 (gridJ N l a b) (i : Int) = lst b.length (DJ N l a b i):=by simp [rd_L3,gridJ,h]
theorem l27Cost_l {p : List Nat} (hp : p.length = a.length) (hl : ∀ v ∈ p,v < a.length) : ∀ (d i : Nat),a.length - i = d → i ≤ a.length → (∀ j,j < i → DJ N l a b j (at_ p j) ≠ 99999) → Ev (fun k => spec_l27Cost.l0 k (gridJ N l a b) (nts p) (sm (fun j => DJ N l a b j (at_ p j)) i) (i : Int)) (costOf a.length (DJ N l a b) p):=by
 have h8:=hJ.net.n8;have h5:=hJ.m5;intro d
 induction d with
 | zero =>
  intro i hd hi hf;have e : i = a.length:=by omega
  subst e;refine Ev.go ?_ (fun k => by rw [spec_l27Cost.l0]);exact Ev.neg (by rw [nts_len]; omega) (Ev.is (costOf_sm hJ hf).symm)
 | succ d ih =>
  intro i hd hi hf;have hlt : i < a.length:=by omega
  have hpi:=hl _ (at_mem (show i < p.length by omega));have hbd:=DJ_bd hJ hlt hpi;have hsm:=sm_bd hJ hp hl i hi hf;have e1 : rd (lst b.length (DJ N l a b i)) ((at_ p i : Nat) : Int) = DJ N l a b i (at_ p i):=lst_rd _ (by rw [hJ.len]; exact hpi);refine Ev.go ?_ (fun k => by rw [spec_l27Cost.l0]);rw [nts_rd,gridJ_row hlt,e1,up1 hlt (by simp only [maxLen]; omega)];refine Ev.pos (by rw [nts_len]; omega) (Ev.pos (by omega) (Ev.pos (by rw [gridJ_len]; omega) (Ev.pos (by omega) (Ev.pos (by rw [lst_len,hJ.len]; omega) ?_))))
  by_cases c : DJ N l a b i (at_ p i) = 99999
  case pos => exact Ev.pos (by omega) (Ev.is (costOf_far hJ hlt c).symm)
  refine Ev.neg (by omega) ?_;rw [w64 (by omega) (by omega)];exact ih (i + 1) (by omega) (by omega) (fun j hj => by
   by_cases e : j = i
   case pos => subst e; exact c
   exact hf j (by omega))
theorem l27Cost_ev {p : List Nat} (hp : p.length = a.length) (hl : ∀ v ∈ p,v < a.length) : Ev (fun k => spec_l27Cost.f k (gridJ N l a b) (nts p)) (costOf a.length (DJ N l a b) p):=by
 unfold spec_l27Cost.f
 exact l27Cost_l hJ hp hl _ 0 rfl (Nat.zero_le _) (fun j h => absurd h (by omega))
def rest (n f : Nat) (b : List Nat) (i d : Nat) : List (List Nat):=((List.range' i d).filter fun j => !b.contains j).flatMap fun j => perms n f (b ++ [j])
omit hJ in
theorem rest_step (n f : Nat) (b : List Nat) (i d : Nat) : rest n f b i (d + 1) = if i ∈ b then rest n f b (i + 1) d else perms n f (b ++ [i]) ++ rest n f b (i + 1) d:=by
 unfold rest
 rw [List.range'_succ]
 by_cases h : i ∈ b
 case neg => rw [if_neg h]; simp [h]
 rw [if_pos h]; simp [h]
omit hJ in
theorem rest_all (n f : Nat) (b : List Nat) : rest n f b 0 n = perms n (f + 1) b:=by
 unfold rest
 rw [← List.range_eq_range'];rfl
def stepP (c : List Nat → Int) (s : List Nat × Int) (p : List Nat) : List Nat × Int:=if c p < s.2 then (p,c p) else s
theorem try_ev : ∀ (f : Nat) (q : List Nat) (s : List Nat × Int),q.length + f = a.length → (∀ v ∈ q,v < a.length) → Ev (fun k => spec_l27Try.f k (gridJ N l a b) (nts q) (nts s.1) s.2) (nts (pick (costOf a.length (DJ N l a b)) (perms a.length f q) s).1,(pick (costOf a.length (DJ N l a b)) (perms a.length f q) s).2):=by
 have h5:=hJ.m5;intro f
 induction f with
 | zero =>
  intro q s hq hl;have hc:=l27Cost_ev hJ (p:=q) (by omega) hl;refine Ev.go ?_ (fun k => by rw [spec_l27Try.f]);refine Ev.pos (by rw [nts_len,gridJ_len]; omega) (Ev.bind hc ?_)
  show Ev _ (nts (stepP (costOf a.length (DJ N l a b)) s q).1,(stepP (costOf a.length (DJ N l a b)) s q).2)
  by_cases c : costOf a.length (DJ N l a b) q < s.2
  case neg =>
   rw [show stepP (costOf a.length (DJ N l a b)) s q = s from if_neg c];exact Ev.neg c (Ev.now _)
  rw [show stepP (costOf a.length (DJ N l a b)) s q = (q,costOf a.length (DJ N l a b) q) from if_pos c];refine Ev.pos c (Ev.bind0 rfl (Ev.pos (by rw [nts_len,List.length_nil]; omega) (Ev.is (by rw [List.nil_append]))))
 | succ f ih =>
  intro q s hq hl;refine Ev.go ?_ (fun k => by rw [spec_l27Try.f]);refine Ev.neg (by rw [nts_len,gridJ_len]; omega) ?_;rw [← rest_all];have loop : ∀ (d i : Nat) (s : List Nat × Int),a.length - i = d → i ≤ a.length → Ev (fun k => spec_l27Try.l0 k (gridJ N l a b) (nts q) (nts s.1) s.2 (i : Int)) (nts (pick (costOf a.length (DJ N l a b)) (rest a.length f q i d) s).1,(pick (costOf a.length (DJ N l a b)) (rest a.length f q i d) s).2):=by
   intro d
   induction d with
   | zero =>
    intro i s hd hi;refine Ev.go ?_ (fun k => by rw [spec_l27Try.l0]);exact Ev.neg (by rw [gridJ_len]; omega) (Ev.now _)
   | succ d ihd =>
    intro i s hd hi;have hlt : i < a.length:=by omega
    have hin:=inL_ev (nts q) ((i : Nat) : Int) (by rw [nts_len]; simp only [maxLen]; omega);refine Ev.go ?_ (fun k => by rw [spec_l27Try.l0]);rw [up1 hlt (by simp only [maxLen]; omega),rest_step];refine Ev.pos (by rw [gridJ_len]; omega) (Ev.bind hin ?_)
    by_cases c : i ∈ q
    case pos =>
     rw [decide_eq_true ((nts_mem q i).2 c),if_pos c];exact Ev.pos rfl (ihd (i + 1) s (by omega) (by omega))
    rw [decide_eq_false (fun h => c ((nts_mem q i).1 h)),if_neg c,Pm.pick_append];have hr:=ih (q ++ [i]) s (by simp; omega) (fun v hv => by
     rcases List.mem_append.1 hv with h | h
     ·exact hl v h
     ·rw [List.mem_singleton.1 h]; exact hlt)
    rw [← nts_snoc] at hr;refine Ev.neg (by simp) (Ev.bind0 rfl (Ev.pos (by rw [nts_len,List.length_nil]; omega) (Ev.bind0 rfl (Ev.pos (by rw [List.length_append,nts_len,List.length_nil]; omega) ?_))));rw [List.nil_append];exact Ev.bind hr (ihd (i + 1) _ (by omega) (by omega))
  exact loop _ 0 s rfl (Nat.zero_le _)
theorem rangeOf_l (m : Nat) (hm : m ≤ 1000) : ∀ (d i : Nat),m - i = d → i ≤ m → Ev (fun k => impl_rangeOf.l0 k (nts (List.range i)) (m : Int) (i : Int)) (nts (List.range m)):=by
 intro d
 induction d with
 | zero =>
  intro i hd hi;have e : i = m:=by omega
  subst e;refine Ev.go ?_ (fun k => by rw [impl_rangeOf.l0]);exact Ev.neg (by omega) (Ev.now _)
 | succ d ih =>
  intro i hd hi;have hlt : i < m:=by omega
  have hn:=ih (i + 1) (by omega) (by omega);rw [List.range_succ,← nts_snoc] at hn;refine Ev.go ?_ (fun k => by rw [impl_rangeOf.l0]);rw [up1 hlt (by simp only [maxLen]; omega)];exact Ev.pos (by omega) (Ev.pos (by rw [nts_len,List.length_range]; omega) hn)
theorem rangeOf_ev (m : Nat) (hm : m ≤ 1000) : Ev (fun k => impl_rangeOf.f k (m : Int)) (nts (List.range m)):=by
 unfold impl_rangeOf.f
 exact Ev.pos (by omega) (Ev.pos (by omega) (rangeOf_l hJ m hm _ 0 rfl (Nat.zero_le _)))
theorem chosen_l (x : List Int) (hm : x.length ≤ 1000) : ∀ (d i : Nat),x.length - i = d → i ≤ x.length → Ev (fun k => impl_chosen.l0 k x (x.take i) (nts (List.range x.length)) (x.length : Int) (i : Int)) x:=by
 intro d
 induction d with
 | zero =>
  intro i hd hi;refine Ev.go ?_ (fun k => by rw [impl_chosen.l0]);rw [show x.take i = x from List.take_of_length_le (by omega)];exact Ev.neg (by omega) (Ev.now _)
 | succ d ih =>
  intro i hd hi;have hlt : i < x.length:=by omega
  have hn:=ih (i + 1) (by omega) (by omega);have e1 : rd (nts (List.range x.length)) (i : Int) = (i : Int):=by
   rw [nts_rd];have : at_ (List.range x.length) i = i:=by simp [at_,hlt]
   rw [this]
  rw [List.take_succ_eq_append_getElem hlt] at hn;refine Ev.go ?_ (fun k => by rw [impl_chosen.l0]);rw [e1,rdn hlt,up1 hlt (by simp only [maxLen]; omega)];exact Ev.pos (by omega) (Ev.pos (by omega) (Ev.pos (by rw [nts_len,List.length_range]; omega) (Ev.pos (by omega) (Ev.pos (by omega) (Ev.pos (by rw [List.length_take]; omega) hn)))))
theorem chosen_ev (x : List Int) (hm : x.length ≤ 1000) : Ev (fun k => impl_chosen.f k x (nts (List.range x.length))) x:=by
 unfold impl_chosen.f
 rw [nts_len,List.length_range];exact Ev.pos (by omega) (Ev.pos (by omega) (chosen_l hJ x hm _ 0 rfl (Nat.zero_le _)))
theorem stJ_ev {p : List Nat} (s : List Nat × Int) (hp : p.length = a.length) (hl : ∀ v ∈ p,v < a.length) : Ev (fun k => stJ k (tabs N l) (nts a) (nts b) (nts s.1,s.2) (nts p)) (nts (stepP (costOf a.length (DJ N l a b)) s p).1,(stepP (costOf a.length (DJ N l a b)) s p).2):=by
 have h5:=hJ.m5
 unfold stJ
 refine Ev.bind (assigned_ev hJ hp hl) ?_
 by_cases c : costOf a.length (DJ N l a b) p < s.2
 case neg =>
  rw [show stepP (costOf a.length (DJ N l a b)) s p = s from if_neg c];exact Ev.neg c (Ev.now _)
 rw [show stepP (costOf a.length (DJ N l a b)) s p = (p,costOf a.length (DJ N l a b) p) from if_pos c];have hr:=rangeOf_ev hJ (nts p).length (by rw [nts_len]; omega);have hc:=chosen_ev hJ (nts p) (by rw [nts_len]; omega);exact Ev.pos c (Ev.bind hr (Ev.bind hc (Ev.now _)))
theorem ord_ev : ∀ (f : Nat) (q : List Nat) (s : List Nat × Int),q.length + f = a.length → (∀ v ∈ q,v < a.length) → Ev (fun k => ordAll (stJ k (tabs N l) (nts a) (nts b)) k a.length f (nts q) (nts s.1,s.2)) (nts (pick (costOf a.length (DJ N l a b)) (perms a.length f q) s).1,(pick (costOf a.length (DJ N l a b)) (perms a.length f q) s).2):=by
 have h5:=hJ.m5;intro f
 induction f with
 | zero =>
  intro q s hq hl;exact stJ_ev hJ s (by omega) hl
 | succ f ih =>
  intro q s hq hl
  show Ev (fun k => ordRow (ordAll (stJ k (tabs N l) (nts a) (nts b)) k a.length f) k (nts q) a.length a.length (nts s.1,s.2)) _
  rw [← rest_all];have loop : ∀ (d : Nat) (s : List Nat × Int),d ≤ a.length → Ev (fun k => ordRow (ordAll (stJ k (tabs N l) (nts a) (nts b)) k a.length f) k (nts q) a.length d (nts s.1,s.2)) (nts (pick (costOf a.length (DJ N l a b)) (rest a.length f q (a.length - d) d) s).1,(pick (costOf a.length (DJ N l a b)) (rest a.length f q (a.length - d) d) s).2):=by
   intro d
   induction d with
   | zero => intro s hd; exact Ev.now _
   | succ d ihd =>
    intro s hd;have hlt : a.length - (d + 1) < a.length:=by omega
    have e1 : a.length - (d + 1) + 1 = a.length - d:=by omega
    have hin:=contains_ev (nts q) (((a.length - (d + 1) : Nat)) : Int) (by rw [nts_len]; simp only [maxLen]; omega);simp only [ordRow];rw [rest_step,e1];refine Ev.bind hin ?_
    by_cases c : (a.length - (d + 1)) ∈ q
    case pos =>
     rw [decide_eq_true ((nts_mem q _).2 c),if_pos c];exact Ev.pos rfl (ihd s (by omega))
    rw [decide_eq_false (fun h => c ((nts_mem q _).1 h)),if_neg c,Pm.pick_append];have hr:=ih (q ++ [a.length - (d + 1)]) s (by simp; omega) (fun v hv => by
     rcases List.mem_append.1 hv with h | h
     ·exact hl v h
     ·rw [List.mem_singleton.1 h]; exact hlt)
    rw [← nts_snoc] at hr;exact Ev.neg (by simp) (Ev.bind hr (ihd _ (by omega)))
  have:=loop a.length s (Nat.le_refl _)
  rwa [Nat.sub_self] at this
end
end Go.Proofs.Ytmioaahiflfcdaa.Pure
end
section
set_option linter.unusedSimpArgs false
set_option linter.unusedVariables false
set_option linter.unusedVariables false
end
section
set_option linter.unusedSimpArgs false
set_option linter.unusedVariables false
set_option linter.unusedVariables false
end
section
set_option linter.unusedSimpArgs false
set_option linter.unusedVariables false
set_option linter.unusedSectionVars false
namespace Go.Proofs.Ytmioaahiflfcdaa.Pure
open Go.RowKit Go.Proofs.Ytmioaahiflfcdaa.Pr Go.Proofs.YtmioaahiflfcdaaW.PrintWords Go.Proofs.YtmioaahiflfcdaaW.PrintLast Go.Proofs.YtmioaahiflfcdaaW.PrintMore
open Go.Proofs.Ytmioaahiflfcdaa.Pm (perms pick at_ costOf IsPerm)
open Go.Proofs.Ytmioaahiflfcdaa.Fl (sm)
def jobsB (n : Int) (l : List Arc) (x y : List Int) : Bool:=decide (1 ≤ x.length) && (decide (x.length ≤ 5) && (decide (y.length = x.length) && (netOkB n l && (x.all (okN n) && y.all (okN n)))))
theorem okN_iff {n v : Int} : okN n v = true ↔ 0 ≤ v ∧ v < n:=by
 simp only [okN,Bool.and_eq_true,decide_eq_true_eq]
 try omega
theorem jobsB_jobs {n : Int} {l : List Arc} {x y : List Int} (h : jobsB n l x y = true) : ∃ (N : Nat) (a b : List Nat),n = (N : Int) ∧ x = nts a ∧ y = nts b ∧ Jobs N l a b:=by
 simp only [jobsB,Bool.and_eq_true,decide_eq_true_eq,netOkB_iff,List.all_eq_true,okN_iff] at h;obtain ⟨h1,h2,h3,h4,h5,h6⟩:=h;obtain ⟨N,rfl⟩ : ∃ N : Nat,n = (N : Int):=⟨n.toNat,by have:=h4.n1; omega⟩
 refine ⟨N,nats x,nats y,rfl,(nts_nats (fun v hv => (h5 v hv).1)).symm,(nts_nats (fun v hv => (h6 v hv).1)).symm,⟨h4,by rw [nats_len]; exact h1,by rw [nats_len]; exact h2,by rw [nats_len,nats_len]; exact h3,fun v hv => ?_,fun v hv => ?_⟩⟩
 ·obtain ⟨i,hi,rfl⟩:=List.mem_map.1 hv;have:=h5 i hi; omega
 ·obtain ⟨i,hi,rfl⟩:=List.mem_map.1 hv;have:=h6 i hi; omega
theorem jobs_jobsB {N : Nat} {l : List Arc} {a b : List Nat} (h : Jobs N l a b) : jobsB (N : Int) l (nts a) (nts b) = true:=by
 simp only [jobsB,Bool.and_eq_true,decide_eq_true_eq,netOkB_iff,List.all_eq_true,okN_iff,nts_len];refine ⟨h.m1,h.m5,h.len,h.net,fun v hv => ?_,fun v hv => ?_⟩
 ·obtain ⟨i,hi,rfl⟩:=List.mem_map.1 hv;have:=h.ha i hi; omega
 ·obtain ⟨i,hi,rfl⟩:=List.mem_map.1 hv;have:=h.hb i hi; omega
theorem jobsOk_eq (n : Int) (l : List Arc) (x y : List Int) : impl_jobsOk.f n l x y = some (jobsB n l x y):=by
 unfold impl_jobsOk.f jobsB
 rw [within1,Option.bind_some]
 by_cases h1 : 1 ≤ x.length ∧ x.length ≤ 5
 case neg =>
  have e : inB (x.length : Int) 1 5 = false:=by
   rw [Bool.eq_false_iff];exact fun h => h1 (by have:=inB_iff.1 h; omega)
  rw [e,if_neg (by simp)]
  by_cases h2 : 1 ≤ x.length
  case neg => rw [decide_eq_false h2]; simp
  rw [decide_eq_false (show ¬ x.length ≤ 5 from fun h => h1 ⟨h2,h⟩)]; simp
 have e : inB (x.length : Int) 1 5 = true:=inB_iff.2 ⟨by omega,by omega⟩;rw [e,if_pos rfl,decide_eq_true h1.1,decide_eq_true h1.2,Bool.true_and,Bool.true_and]
 by_cases h2 : y.length = x.length
 case neg => rw [if_neg (by omega),decide_eq_false h2,Bool.false_and]
 rw [if_pos (by omega),decide_eq_true h2,Bool.true_and,nodesIn_eq,Option.bind_some];cases h3 : netOkB n l with
 | false => simp
 | true =>
  rw [hasOf ((netOkB_iff n l).1 h3),Bool.true_and,Bool.true_and];cases x.all (okN n) with
  | false => simp
  | true => simp
theorem inB_okN {n : Int} {l : List Arc} (h : NetGood n l) (a : Int) : inB a 0 (wrap64 (n - 1)) = okN n a:=by
 have:=h.n1;have:=h.n8;rw [w64 (by omega) (by omega)];rfl
section
variable {n : Int} {l : List Arc} (hg : NetGood n l)
include hg
theorem any_l (x : List Int) (hm : x.length ≤ maxLen) : ∀ (d i : Nat),x.length - i = d → i ≤ x.length → Ev (fun k => spec_l11Any.l0 k x (i : Int) n l) ((x.drop i).all (okN n)):=by
 intro d
 induction d with
 | zero =>
  intro i hd hi;refine Ev.go ?_ (fun k => by rw [spec_l11Any.l0]);rw [List.drop_of_length_le (by omega)];exact Ev.neg (by omega) (Ev.now _)
 | succ d ih =>
  intro i hd hi;have hlt : i < x.length:=by omega
  refine Ev.go ?_ (fun k => by rw [spec_l11Any.l0]);rw [rdn hlt,up1 hlt hm,drop_cons hlt,List.all_cons];refine Ev.pos (by omega) (Ev.pos (by omega) (Ev.bind0 (in1 _ _ _) ?_));rw [inB_okN hg];cases okN n x[i] with
  | false => exact Ev.neg (by simp) (Ev.is (by simp))
  | true => exact Ev.pos rfl ((ih (i + 1) (by omega) (by omega)).cast (by simp))
theorem any_ev (x : List Int) (hm : x.length ≤ maxLen) : Ev (fun k => spec_l11Any.f k n l x) (x.all (okN n)):=any_l hg x hm _ 0 rfl (Nat.zero_le _)
theorem nodes_l (x : List Int) (hm : x.length ≤ maxLen) : ∀ (d i : Nat),x.length - i = d → i ≤ x.length → Ev (fun k => spec_l11Nodes.l0 k x (i : Int) n l) ((x.drop i).all (okN n) && decide ((x.length : Int) ≤ 8)):=by
 intro d
 induction d with
 | zero =>
  intro i hd hi;refine Ev.go ?_ (fun k => by rw [spec_l11Nodes.l0]);rw [List.drop_of_length_le (by omega)];exact Ev.neg (by omega) (Ev.is (by simp))
 | succ d ih =>
  intro i hd hi;have hlt : i < x.length:=by omega
  refine Ev.go ?_ (fun k => by rw [spec_l11Nodes.l0]);rw [rdn hlt,up1 hlt hm,drop_cons hlt,List.all_cons];refine Ev.pos (by omega) (Ev.pos (by omega) (Ev.bind0 (in1 _ _ _) ?_));rw [inB_okN hg];cases okN n x[i] with
  | false => exact Ev.neg (by simp) (Ev.is (by simp))
  | true => exact Ev.pos rfl ((ih (i + 1) (by omega) (by omega)).cast (by simp))
theorem nodes_ev (x : List Int) (hm : x.length ≤ maxLen) : Ev (fun k => spec_l11Nodes.f k n l x) (x.all (okN n) && decide ((x.length : Int) ≤ 8)):=nodes_l hg x hm _ 0 rfl (Nat.zero_le _)
end
theorem l27Ok_ev (n : Int) (l : List Arc) (x y : List Int) (hl : l.length ≤ maxLen) (hx : x.length ≤ maxLen) (hy : y.length ≤ maxLen) : Ev (fun k => spec_l27Ok.f k n l x y) (jobsB n l x y):=by
 unfold spec_l27Ok.f jobsB
 refine Ev.bind (l1Ok_ev n l hl) ?_;cases h3 : netOkB n l with
 | false => exact Ev.neg (by simp) (Ev.is (by simp))
 | true =>
  have hg:=(netOkB_iff n l).1 h3;refine Ev.pos rfl (Ev.bind (any_ev hg x hx) ?_);cases h4 : x.all (okN n) with
  | false => exact Ev.neg (by simp) (Ev.is (by simp))
  | true =>
   refine Ev.pos rfl (Ev.bind (any_ev hg y hy) ?_);cases h5 : y.all (okN n) with
   | false => exact Ev.neg (by simp) (Ev.is (by simp))
   | true =>
    refine Ev.pos rfl ?_
    by_cases h2 : y.length = x.length
    case neg => exact Ev.neg (by omega) (Ev.is (by rw [decide_eq_false h2]; simp))
    refine Ev.pos (by omega) (Ev.bind0 (in1 _ _ _) (Ev.is ?_));rw [decide_eq_true h2];simp only [Bool.and_true,Bool.true_and]
    unfold inB
    by_cases h1 : 1 ≤ x.length
    case neg => rw [decide_eq_false h1,decide_eq_false (show ¬ (1 : Int) ≤ (x.length : Int) by omega),Bool.false_and,Bool.false_and]
    rw [decide_eq_true h1,decide_eq_true (show (1 : Int) ≤ (x.length : Int) by omega),Bool.true_and,Bool.true_and,decide_eq_decide]; omega
section
variable {N : Nat} {l : List Arc} {a b : List Nat} (hJ : Jobs N l a b)
include hJ
def gridTo (N : Nat) (l : List Arc) (a b : List Nat) (i : Nat) : List (List Int):=(List.range i).map fun i => lst b.length (DJ N l a b i)
omit hJ in
theorem gridTo_snoc (i : Nat) : gridTo N l a b i ++ [lst b.length (DJ N l a b i)] = gridTo N l a b (i + 1):=by simp [gridTo,List.range_succ]
omit hJ in
theorem gridTo_len (i : Nat) : (gridTo N l a b i).length = i:=by simp [gridTo]
theorem many_l1 {i : Nat} (hi : i < a.length) (hn : Ev (fun q => spec_ManyAll.l0 q (nts a) (nts b) (gridTo N l a b (i + 1)) ((i + 1 : Nat) : Int) N l) (gridJ N l a b)) : ∀ (d k : Nat),b.length - k = d → k ≤ b.length → Ev (fun q => spec_ManyAll.l1 q (nts a) (nts b) (gridTo N l a b i) (i : Int) (lst N (fun v => far (dst N (back l) (at_ a i) v))) (lst k (DJ N l a b i)) (k : Int) N l) (gridJ N l a b):=by
 have h5:=hJ.m5;have hbl:=hJ.len;intro d
 induction d with
 | zero =>
  intro k hd hk;have e : k = b.length:=by omega
  subst e;refine Ev.go ?_ (fun q => by rw [spec_ManyAll.l1]);rw [up1 hi (by simp only [maxLen]; omega),gridTo_snoc];exact Ev.neg (by rw [nts_len]; omega) (Ev.pos (by rw [gridTo_len]; omega) hn)
 | succ d ih =>
  intro k hd hk;have hlt : k < b.length:=by omega
  have hb:=at_b hJ (i:=k) (by omega);have e1 : rd (lst N (fun v => far (dst N (back l) (at_ a i) v))) ((at_ b k : Nat) : Int) = DJ N l a b i k:=lst_rd _ hb;refine Ev.go ?_ (fun q => by rw [spec_ManyAll.l1]);rw [nts_rd,e1,up1 hlt (by simp only [maxLen]; omega),lst_snoc];exact Ev.pos (by rw [nts_len]; omega) (Ev.pos (by omega) (Ev.pos (by omega) (Ev.pos (by rw [lst_len]; omega) (Ev.pos (by rw [lst_len]; omega) (ih (k + 1) (by omega) (by omega))))))
theorem many_l : ∀ (d i : Nat),a.length - i = d → i ≤ a.length → Ev (fun q => spec_ManyAll.l0 q (nts a) (nts b) (gridTo N l a b i) (i : Int) N l) (gridJ N l a b):=by
 intro d
 induction d with
 | zero =>
  intro i hd hi;have e : i = a.length:=by omega
  subst e;refine Ev.go ?_ (fun q => by rw [spec_ManyAll.l0]);exact Ev.neg (by rw [nts_len]; omega) (Ev.now _)
 | succ d ih =>
  intro i hd hi;have hlt : i < a.length:=by omega
  have h3:=l3All_ev hJ.net (at_a hJ hlt);refine Ev.go ?_ (fun q => by rw [spec_ManyAll.l0]);rw [nts_rd];exact Ev.pos (by rw [nts_len]; omega) (Ev.pos (by omega) (Ev.bind h3 (many_l1 hJ hlt (ih (i + 1) (by omega) (by omega)) _ 0 rfl (Nat.zero_le _))))
theorem many_ev : Ev (fun q => spec_ManyAll.f q N l (nts a) (nts b)) (gridJ N l a b):=by
 have h5:=hJ.m5;have hbl:=hJ.len;have h16:=hJ.net.len;have hok:=l1Ok_ev (N : Int) l (by simp only [maxLen]; omega);rw [(netOkB_iff (N : Int) l).2 hJ.net] at hok;have hB:=jobs_jobsB hJ;simp only [jobsB,Bool.and_eq_true,nts_len] at hB;have e1 : ((nts a).all (okN (N : Int)) && decide (((nts a).length : Int) ≤ 8)) = true:=by
  rw [hB.2.2.2.2.1,Bool.true_and,decide_eq_true_eq,nts_len]; omega
 have e2 : ((nts b).all (okN (N : Int)) && decide (((nts b).length : Int) ≤ 8)) = true:=by
  rw [hB.2.2.2.2.2,Bool.true_and,decide_eq_true_eq,nts_len]; omega
 unfold spec_ManyAll.f
 refine Ev.bind0 rfl (Ev.bind hok (Ev.pos rfl (Ev.bind ((nodes_ev hJ.net (nts a) (by rw [nts_len]; simp only [maxLen]; omega)).cast e1) (Ev.pos rfl (Ev.bind ((nodes_ev hJ.net (nts b) (by rw [nts_len]; simp only [maxLen]; omega)).cast e2) ?_)))));refine Ev.go ?_ (fun q => by rw [spec_ManyAll.j0]);exact Ev.neg (by simp) (many_l hJ _ 0 rfl (Nat.zero_le _))
end
noncomputable def bestJ (N : Nat) (l : List Arc) (a b : List Nat) : List Nat × Int:=pick (costOf a.length (DJ N l a b)) (perms a.length a.length []) ([],99999)
noncomputable def jobV (n : Int) (l : List Arc) (x y : List Int) : List Int × Int:=if jobsB n l x y = true then (nts (bestJ n.toNat l (nats x) (nats y)).1,(bestJ n.toNat l (nats x) (nats y)).2) else ([],-1)
theorem jobV_at {N : Nat} {l : List Arc} {a b : List Nat} (hJ : Jobs N l a b) : jobV (N : Int) l (nts a) (nts b) = (nts (bestJ N l a b).1,(bestJ N l a b).2):=by
 unfold jobV
 rw [if_pos (jobs_jobsB hJ),nats_nts,nats_nts,Int.toNat_natCast]
theorem implJob_ev (n : Int) (l : List Arc) (x y : List Int) : Ev (fun k => impl_JobBest.f k n l x y) (jobV n l x y):=by
 unfold impl_JobBest.f
 refine Ev.bind0 (jobsOk_eq n l x y) ?_;cases h : jobsB n l x y with
 | false => exact Ev.neg (by simp) (Ev.is (by unfold jobV; rw [h]; simp))
 | true =>
  obtain ⟨N,a,b,rfl,rfl,rfl,hJ⟩:=jobsB_jobs h;have h5:=hJ.m5;rw [jobV_at hJ,nts_len];refine Ev.pos rfl (Ev.pos (by omega) (Ev.bind (table_ev hJ.net) ?_));exact ord_ev hJ a.length [] ([],99999) (by simp) (by simp)
theorem specJob_ev (n : Int) (l : List Arc) (x y : List Int) (hl : l.length ≤ maxLen) (hx : x.length ≤ maxLen) (hy : y.length ≤ maxLen) : Ev (fun k => spec_JobBest.f k n l x y) (jobV n l x y):=by
 unfold spec_JobBest.f
 refine Ev.bind (l27Ok_ev n l x y hl hx hy) ?_;cases h : jobsB n l x y with
 | false => exact Ev.neg (by simp) (Ev.is (by unfold jobV; rw [h]; simp))
 | true =>
  obtain ⟨N,a,b,rfl,rfl,rfl,hJ⟩:=jobsB_jobs h;rw [jobV_at hJ];have ht:=try_ev hJ a.length [] ([],99999) (by simp) (by simp);exact Ev.pos rfl (Ev.bind (many_ev hJ) (Ev.bind ht (Ev.is rfl)))
end Go.Proofs.Ytmioaahiflfcdaa.Pure
end
section
set_option linter.unusedSimpArgs false
set_option linter.unusedVariables false
namespace Go.Proofs.Ytmioaahiflfcdaa.Pure
open Go.RowKit Go.Proofs.Ytmioaahiflfcdaa.Pr Go.Proofs.YtmioaahiflfcdaaW.PrintWords Go.Proofs.YtmioaahiflfcdaaW.PrintLast Go.Proofs.YtmioaahiflfcdaaW.PrintMore
structure Rdr (b : List Int) : Prop where
 len : b.length ≤ 2000
 rng : ∀ i,i < b.length → 0 ≤ nth b i ∧ nth b i ≤ 255
theorem Rdr.rd {b : List Int} (h : Rdr b) (i : Int) : 0 ≤ Go.Proofs.YtmioaahiflfcdaaW.PrintWords.rd b i ∧ Go.Proofs.YtmioaahiflfcdaaW.PrintWords.rd b i ≤ 255:=by
 have e : Go.Proofs.YtmioaahiflfcdaaW.PrintWords.rd b i = nth b i.toNat:=rfl;rw [e]
 by_cases c : i.toNat < b.length
 case pos => exact h.rng _ c
 have c2 : b.length ≤ i.toNat:=by omega
 simp [nth,List.getElem?_eq_none c2]
theorem tm {x a : Int} (hx : 0 ≤ x) (ha : 0 < a) : 0 ≤ Int.tmod x a ∧ Int.tmod x a < a:=by
 rw [Int.tmod_eq_emod_of_nonneg hx];exact ⟨Int.emod_nonneg _ (by omega),Int.emod_lt_of_pos _ ha⟩
theorem td {x a : Int} (hx : 0 ≤ x) (ha : 0 < a) : 0 ≤ Int.tdiv x a ∧ Int.tdiv x a ≤ x:=by
 rw [Int.tdiv_eq_ediv_of_nonneg hx];exact ⟨Int.ediv_nonneg hx (by omega),Int.ediv_le_self _ hx⟩
theorem xor_nn {x y : Int} (hx : 0 ≤ x) (hx' : x < 4294967296) (hy : 0 ≤ y) (hy' : y < 4294967296) : 0 ≤ Go.bits .xor .i64 x y:=by
 obtain ⟨x,rfl⟩:=Int.eq_ofNat_of_zero_le hx;obtain ⟨y,rfl⟩:=Int.eq_ofNat_of_zero_le hy;have h1 : x ^^^ y < 2 ^ 32:=Nat.xor_lt_two_pow (by omega) (by omega);have e : Go.bits .xor .i64 ((x : Nat) : Int) ((y : Nat) : Int) = wrap64 (((BitVec.ofInt 64 ((x : Nat) : Int) ^^^ BitVec.ofInt 64 ((y : Nat) : Int)).toNat : Nat) : Int):=by
  unfold Go.bits
  simp only [i64_w];rfl
 rw [e,BitVec.toNat_xor,BitVec.ofInt_natCast,BitVec.ofInt_natCast,BitVec.toNat_ofNat,BitVec.toNat_ofNat,Nat.mod_eq_of_lt (by omega),Nat.mod_eq_of_lt (by omega),w64 (by omega) (by omega)];omega
theorem pick_pv {b : List Int} (h : Rdr b) {p a : Int} (hp : 0 ≤ p) (hp' : p ≤ 1000000) : Pv (fun k => spec_l30Rd_pick.f k b p a) (fun r => (0 ≤ r.1 ∧ (a < 1 → r.1 = 0) ∧ (1 ≤ a → r.1 < a)) ∧ r.2 = p + 1):=by
 have w1 : wrap64 (p + 1) = p + 1:=w64 (by omega) (by omega);have w2 : wrap64 (p + 1 - 1) = p:=by rw [w64 (by omega) (by omega)]; omega
 unfold spec_l30Rd_pick.f
 refine Pv.ite (fun c => ?_) (fun c => ?_)
 ·refine Pv.go ?_ (fun k => by rw [spec_l30Rd_pick.j0]);exact Pv.pos rfl (Pv.now ⟨⟨Int.le_refl _,fun _ => rfl,fun c2 => by omega⟩,w1⟩)
 ·refine Pv.go ?_ (fun k => by rw [spec_l30Rd_pick.j0]);refine Pv.ite (fun _ => Pv.now ⟨⟨Int.le_refl _,fun _ => rfl,fun c2 => by dsimp only; omega⟩,w1⟩) (fun c0 => ?_);have hb : 0 < (b.length : Int):=by
   have : (b.length : Int) ≠ 0:=by simpa using c0
   omega
  have hb2:=h.len;rw [w1,w2];have fin : ∀ X : Int,0 ≤ X → Pv (fun _ => some (Int.tmod X a,p + 1)) (fun r => (0 ≤ r.1 ∧ (a < 1 → r.1 = 0) ∧ (1 ≤ a → r.1 < a)) ∧ r.2 = p + 1):=by
   intro X hX;have:=tm hX (show 0 < a by omega);exact Pv.now ⟨⟨this.1,fun c2 => absurd c2 c,fun _ => this.2⟩,rfl⟩
  refine Pv.ite (fun c1 => Pv.pos hp (Pv.neg (by omega) ?_)) (fun c1 => ?_)
  ·have:=h.rd p;rw [w64 (n:=Go.Proofs.YtmioaahiflfcdaaW.PrintWords.rd b p) (by omega) (by omega)];exact fin _ (by omega)
  ·have t1:=tm hp hb;have e1 : wrap64 (p * 7) = p * 7:=w64 (by omega) (by omega);have e2 : wrap64 (p * 7 + 3) = p * 7 + 3:=w64 (by omega) (by omega);rw [e1,e2];have t2:=tm (show 0 ≤ p * 7 + 3 by omega) hb;have r1:=h.rd (Int.tmod p b.length);have r2:=h.rd (Int.tmod (p * 7 + 3) b.length);have d1:=td hp hb;refine Pv.neg (by omega) (Pv.pos t1.1 (Pv.pos t1.2 (Pv.pos t2.1 (Pv.pos t2.2 (Pv.neg (by omega) ?_)))));generalize Go.Proofs.YtmioaahiflfcdaaW.PrintWords.rd b (Int.tmod p b.length) = u at r1;generalize Go.Proofs.YtmioaahiflfcdaaW.PrintWords.rd b (Int.tmod (p * 7 + 3) b.length) = v at r2;generalize Int.tdiv p b.length = q at d1;rw [w64 (n:=u) (by omega) (by omega),w64 (n:=v) (by omega) (by omega),w64 (n:=q) (by omega) (by omega),w64 (n:=u * 131) (by omega) (by omega),w64 (n:=v * 1117) (by omega) (by omega),w64 (n:=p * 29) (by omega) (by omega),w64 (n:=q * 53) (by omega) (by omega),w64 (n:=u * 131 + v * 1117) (by omega) (by omega),w64 (n:=u * 131 + v * 1117 + p * 29) (by omega) (by omega),w64 (n:=u * 131 + v * 1117 + p * 29 + q * 53) (by omega) (by omega)];have d2:=td (show 0 ≤ u * 131 + v * 1117 + p * 29 + q * 53 by omega) (show (0 : Int) < 64 by omega);generalize Int.tdiv (u * 131 + v * 1117 + p * 29 + q * 53) 64 = z at d2;rw [w64 (n:=z) (by omega) (by omega)];exact fin _ (xor_nn (by omega) (by omega) (by omega) (by omega))
theorem one_pv {b : List Int} (h : Rdr b) {p : Int} (hp : 0 ≤ p) (hp' : p ≤ 1000000) {l : List Int} (hl : 0 < l.length) : Pv (fun k => spec_l30Rd_one.f k b p l) (fun r => r.1 ∈ l ∧ r.2 = p + 1):=by
 unfold spec_l30Rd_one.f
 refine Pv.bind (pick_pv h hp hp') (fun r ⟨⟨h1,_,h2⟩,h3⟩ => ?_);have h2:=h2 (by omega);refine Pv.pos h1 (Pv.pos h2 (Pv.now ⟨?_,h3⟩));have e : Go.Proofs.YtmioaahiflfcdaaW.PrintWords.rd l r.1 = nth l r.1.toNat:=rfl;dsimp only;rw [e];exact getD_mem (by omega)
theorem u8_range {x : Int} (h : (Lit.int .u8 x).wf = true) : 0 ≤ x ∧ x ≤ 255:=by
 simp only [Lit.wf] at h;have h2 : IntKind.u8.min ≤ x ∧ x ≤ IntKind.u8.max:=by simpa using h
 have e1 : IntKind.u8.min = 0:=by decide
 have e2 : IntKind.u8.max = 255:=by decide
 omega
theorem open_pv {l : List Int} (hl : ∀ x ∈ l,(Lit.int .u8 x).wf = true) : ∃ b,spec_l30Open.f l = some (b,0) ∧ Rdr b:=by
 have key : ∀ m : List Int,m.length ≤ 2000 → (∀ x ∈ m,x ∈ l) → Rdr m:=fun m h1 h2 => ⟨h1,fun i hi => u8_range (hl _ (h2 _ (getD_mem hi)))⟩
 unfold spec_l30Open.f
 by_cases c : (l.length : Int) > 2000
 case neg =>
  rw [if_neg c];exact ⟨_,rfl,key _ (by omega) (fun x hx => hx)⟩
 rw [if_pos c,if_pos (by omega)];exact ⟨_,rfl,key _ (by simp; omega) (fun x hx => List.mem_of_mem_take hx)⟩
def NetSz (p : Int) (r : Int × List Arc × Int) : Prop:=(0 ≤ r.1 ∧ r.1 ≤ 9) ∧ r.2.1.length ≤ 13 ∧ (p ≤ r.2.2 ∧ r.2.2 ≤ p + 100)
theorem net_l {b : List Int} (h : Rdr b) (n : Int) (hn : 1 ≤ n ∧ n ≤ 9) : ∀ (m : Nat) (p : Int) (l : List Arc),0 ≤ p → p + 6 * m ≤ 100000 → m ≤ 13 → l.length ≤ 13 - m → Pv (fun k => spec_l30Net.l0 k (m : Int) b p n l) (fun r => r.1 = n ∧ r.2.1.length ≤ 13 ∧ (p ≤ r.2.2 ∧ r.2.2 ≤ p + 6 * m)):=by
 intro m
 induction m with
 | zero =>
  intro p l hp hp' hm hl;refine Pv.go ?_ (fun k => by rw [spec_l30Net.l0]);exact Pv.neg (by omega) (Pv.now ⟨rfl,by dsimp only; omega,by dsimp only; omega⟩)
 | succ m ih =>
  intro p l hp hp' hm hl;have hw : wrap64 (((m + 1 : Nat) : Int) - 1) = (m : Int):=by rw [w64 (by omega) (by omega)]; omega
  refine Pv.go ?_ (fun k => by rw [spec_l30Net.l0]);rw [hw];refine Pv.pos (by omega) (Pv.bind (pick_pv h hp (by omega)) (fun r1 ⟨a1,e1⟩ => Pv.bind (pick_pv h (p:=r1.2) (by omega) (by omega)) (fun r2 ⟨a2,e2⟩ => Pv.bind (pick_pv h (p:=r2.2) (by omega) (by omega)) (fun r3 ⟨a3,e3⟩ => Pv.bind (one_pv h (p:=r3.2) (by omega) (by omega) (by simp)) (fun r4 ⟨a4,e4⟩ => Pv.bind (one_pv h (p:=r4.2) (by omega) (by omega) (by simp)) (fun r5 ⟨a5,e5⟩ => Pv.bind (pick_pv h (p:=r5.2) (by omega) (by omega)) (fun r6 ⟨a6,e6⟩ => ?_)))))));have step : ∀ x : Arc,Pv (fun k => spec_l30Net.l0 k (m : Int) b r6.2 n (l ++ [x])) (fun r => r.1 = n ∧ r.2.1.length ≤ 13 ∧ (p ≤ r.2.2 ∧ r.2.2 ≤ p + 6 * ((m + 1 : Nat) : Int))):=fun x => (ih r6.2 (l ++ [x]) (by omega) (by omega) (by omega) (by simp; omega)).mono (fun r hr => ⟨hr.1,hr.2.1,by omega,by omega⟩)
  refine Pv.ite (fun _ => Pv.neg (by omega) (Pv.pos (by omega) (step _))) (fun _ => Pv.pos (by omega) (step _))
theorem net_pv {b : List Int} (h : Rdr b) {p : Int} (hp : 0 ≤ p) (hp' : p ≤ 10000) : Pv (fun k => spec_l30Net.f k b p) (fun r => (2 ≤ r.1 ∧ r.1 ≤ 6) ∧ r.2.1.length ≤ 13 ∧ (p ≤ r.2.2 ∧ r.2.2 ≤ p + 90)):=by
 unfold spec_l30Net.f
 refine Pv.bind (pick_pv h hp (by omega)) (fun r1 ⟨a1,e1⟩ => Pv.bind (pick_pv h (p:=r1.2) (by omega) (by omega)) (fun r2 ⟨a2,e2⟩ => ?_));have b1:=a1.2.2 (by omega);have b2:=a2.2.2 (by omega);have hw : wrap64 (2 + r1.1) = 2 + r1.1:=w64 (by omega) (by omega);rw [hw];have:=net_l h (2 + r1.1) (by omega) r2.1.toNat r2.2 [] (by omega) (by omega) (by omega) (by simp);rw [Int.toNat_of_nonneg a2.1] at this;exact this.mono (fun r hr => ⟨⟨by omega,by omega⟩,hr.2.1,by omega,by omega⟩)
theorem anyNet_pv {b : List Int} (h : Rdr b) {p : Int} (hp : 0 ≤ p) (hp' : p ≤ 10000) : Pv (fun k => spec_l30AnyNet.f k b p) (NetSz p):=by
 unfold spec_l30AnyNet.f
 refine Pv.bind (net_pv h hp hp') (fun r0 ⟨a0,l0,e0⟩ => ?_);refine Pv.ite (fun c => ?_) (fun c => Pv.now ⟨by dsimp only; omega,l0,by dsimp only; omega⟩);refine Pv.bind (pick_pv h (p:=r0.2.2) (by omega) (by omega)) (fun r1 ⟨a1,e1⟩ => Pv.bind (pick_pv h (p:=r1.2) (by omega) (by omega)) (fun r2 ⟨a2,e2⟩ => ?_));have b1:=a1.2.2 (by omega);refine Pv.ite (fun c1 => Pv.pos a1.1 (Pv.pos b1 (Pv.bind (one_pv h (p:=r2.2) (by omega) (by omega) (by simp)) (fun r3 ⟨a3,e3⟩ => Pv.now ⟨by dsimp only; omega,by simpa using l0,by dsimp only; omega⟩)))) (fun c1 => ?_);refine Pv.ite (fun c2 => Pv.bind (one_pv h (p:=r2.2) (by omega) (by omega) (by simp)) (fun r3 ⟨a3,e3⟩ => Pv.pos a1.1 (Pv.pos b1 (Pv.now ⟨by dsimp only; omega,by simpa using l0,by dsimp only; omega⟩)))) (fun c2 => ?_);refine Pv.ite (fun c3 => Pv.bind (one_pv h (p:=r2.2) (by omega) (by omega) (by simp)) (fun r3 ⟨a3,e3⟩ => Pv.now ⟨?_,l0,by dsimp only; omega⟩)) (fun c3 => Pv.now ⟨by dsimp only; omega,l0,by dsimp only; omega⟩);simp only [List.mem_cons,List.not_mem_nil,or_false] at a3;dsimp only;omega
end Go.Proofs.Ytmioaahiflfcdaa.Pure
end
section
set_option linter.unusedSimpArgs false
set_option linter.unusedVariables false
set_option linter.unusedSectionVars false
namespace Go.Proofs.Ytmioaahiflfcdaa.Pure
open Go.RowKit Go.Proofs.Ytmioaahiflfcdaa.Pr Go.Proofs.YtmioaahiflfcdaaW.PrintWords Go.Proofs.YtmioaahiflfcdaaW.PrintLast Go.Proofs.YtmioaahiflfcdaaW.PrintMore
open Go.Proofs.Ytmioaahiflfcdaa.Pm (perms pick at_ costOf IsPerm inv)
section
variable {N : Nat} {l : List Arc} {a b : List Nat} (hJ : Jobs N l a b)
include hJ
theorem perm_in {p : List Nat} (h : IsPerm a.length p) : p ∈ perms a.length a.length []:=by
 have:=Pm.perms_all (n:=a.length) (f:=a.length) (b:=[]) (q:=p) (by simpa using h.nd) h.lt h.len
 simpa using this
theorem perm_of {p : List Nat} (h : p ∈ perms a.length a.length []) : IsPerm a.length p:=by
 have h1:=Pm.perms_len h;have h2:=Pm.perms_ok (b:=[]) (by simp) (by simp) h;exact ⟨by simpa using h1,h2.1,h2.2⟩
theorem best_le {p : List Nat} (h : IsPerm a.length p) : (bestJ N l a b).2 ≤ costOf a.length (DJ N l a b) p:=(Pm.pick_le _ _ _).2 p (perm_in hJ h)
theorem best_from : bestJ N l a b = ([],99999) ∨ ∃ p,IsPerm a.length p ∧ bestJ N l a b = (p,costOf a.length (DJ N l a b) p) ∧ costOf a.length (DJ N l a b) p < 99999:=by
 rcases Pm.pick_from (costOf a.length (DJ N l a b)) (perms a.length a.length []) ([],99999) with h | ⟨p,hp,h1,h2⟩
 ·exact .inl h
 ·exact .inr ⟨p,perm_of hJ hp,h1,h2⟩
theorem best_bd : 0 ≤ (bestJ N l a b).2 ∧ (bestJ N l a b).2 ≤ 99999:=by
 rcases best_from hJ with h | ⟨p,hp,h1,h2⟩
 ·rw [h]; omega
 ·rw [h1];have:=costOf_bd hJ hp.len hp.lt;dsimp only;omega
theorem best_len : (bestJ N l a b).1.length ≤ 5:=by
 have h5:=hJ.m5
 rcases best_from hJ with h | ⟨p,hp,h1,h2⟩
 ·rw [h]; simp
 ·rw [h1];have:=hp.len;dsimp only;omega
theorem turned : Jobs N (back l) b a:=⟨back_good hJ.net,by rw [hJ.len]; exact hJ.m1,by rw [hJ.len]; exact hJ.m5,hJ.len.symm,hJ.hb,hJ.ha⟩
theorem DJ_turned {i k : Nat} (hi : i < a.length) (hk : k < a.length) : DJ N (back l) b a k i = DJ N l a b i k:=dis_back hJ.net (at_b hJ hk) (at_a hJ hi)
theorem costOf_turned {p : List Nat} (h : IsPerm a.length p) : costOf b.length (DJ N (back l) b a) (inv a.length p) = costOf a.length (DJ N l a b) p:=by
 rw [hJ.len,← Pm.costOf_inv h];have hI:=Pm.inv_perm h;have e : ∀ i,i < a.length → DJ N (back l) b a i (at_ (inv a.length p) i) = (fun k i => DJ N l a b i k) i (at_ (inv a.length p) i):=fun i hi => DJ_turned hJ (Pm.at_lt hI hi) hi
 unfold costOf
 have e2 : (∃ i,i < a.length ∧ DJ N (back l) b a i (at_ (inv a.length p) i) = 99999) ↔ ∃ i,i < a.length ∧ (fun k i => DJ N l a b i k) i (at_ (inv a.length p) i) = 99999:=by
  constructor
  ·rintro ⟨i,hi,h⟩; exact ⟨i,hi,by rw [← e i hi]; exact h⟩
  ·rintro ⟨i,hi,h⟩; exact ⟨i,hi,by rw [e i hi]; exact h⟩
 by_cases c : ∃ i,i < a.length ∧ DJ N (back l) b a i (at_ (inv a.length p) i) = 99999
 case pos => rw [if_pos c,if_pos (e2.1 c)]
 rw [if_neg c,if_neg (fun h => c (e2.2 h))];exact Fl.sm_congr (fun i hi => e i hi)
theorem best_turned_le : (bestJ N (back l) b a).2 ≤ (bestJ N l a b).2:=by
 rcases best_from hJ with h | ⟨p,hp,h1,h2⟩
 ·rw [h]; exact (best_bd (turned hJ)).2
 ·rw [h1];have hI:=Pm.inv_perm hp;have:=best_le (turned hJ) (p:=inv a.length p) (by rw [hJ.len]; exact hI);rw [costOf_turned hJ hp] at this;exact this
theorem best_turned : (bestJ N (back l) b a).2 = (bestJ N l a b).2:=by
 have h1:=best_turned_le hJ;have h2:=best_turned_le (turned hJ);rw [back_back] at h2;omega
theorem best_same : (bestJ N l a a).2 = 0:=by
 have hJ2 : Jobs N l a a:=⟨hJ.net,hJ.m1,hJ.m5,rfl,hJ.ha,hJ.ha⟩
 have hp : IsPerm a.length (List.range a.length):=⟨List.length_range,List.nodup_range,fun x hx => List.mem_range.1 hx⟩
 have h0:=(best_bd hJ2).1;have h1:=best_le hJ2 hp;have hat : ∀ i,i < a.length → at_ (List.range a.length) i = i:=fun i hi => by simp [at_,hi]
 have hd : ∀ i,i < a.length → DJ N l a a i (at_ (List.range a.length) i) = 0:=fun i hi => by
  rw [hat i hi]; exact dis_self hJ.net (at_a hJ hi)
 have h2 : costOf a.length (DJ N l a a) (List.range a.length) = 0:=by
  rw [costOf_sm hJ2 (fun j hj e => by have:=hd j hj; omega),Fl.sm_congr hd,Fl.sm_zero]
 omega
end
theorem jobV_len (n : Int) (l : List Arc) (x y : List Int) : (jobV n l x y).1.length ≤ 5:=by
 cases h : jobsB n l x y with
 | false => unfold jobV; rw [if_neg (by rw [h]; simp)]; simp
 | true =>
  obtain ⟨N,a,b,rfl,rfl,rfl,hJ⟩:=jobsB_jobs h;rw [jobV_at hJ];dsimp only;rw [nts_len];exact best_len hJ
theorem nodeJ_pv {b : List Int} (h : Rdr b) {p : Int} (hp : 0 ≤ p) (hp' : p ≤ 20000) (n : Int) (l : List Arc) : Pv (fun k => spec_l30Node.f k b p n l) (fun r => p ≤ r.2 ∧ r.2 ≤ p + 2):=by
 unfold spec_l30Node.f
 refine Pv.bind (pick_pv h hp (by omega)) (fun r1 ⟨a1,e1⟩ => Pv.ite (fun _ => ?_) (fun _ => ?_))
 ·exact Pv.bind (one_pv h (p:=r1.2) (by omega) (by omega) (by simp)) (fun r2 ⟨a2,e2⟩ => Pv.now (by dsimp only; omega))
 ·exact Pv.bind (pick_pv h (p:=r1.2) (by omega) (by omega)) (fun r2 ⟨a2,e2⟩ => Pv.now (by dsimp only; omega))
theorem jobs_l {b : List Int} (h : Rdr b) (n : Int) (l : List Arc) : ∀ (m : Nat) (p : Int) (x y : List Int),0 ≤ p → p + 4 * m ≤ 15000 → x.length + m ≤ 4 → y.length + m ≤ 4 → Pv (fun k => spec_l30Jobs.l0 k x y (m : Int) b p n l) (fun r => r.1.length ≤ 5 ∧ r.2.1.length ≤ 5 ∧ (p ≤ r.2.2 ∧ r.2.2 ≤ p + 4 * m + 1)):=by
 intro m
 induction m with
 | zero =>
  intro p x y hp hp' hx hy;refine Pv.go ?_ (fun k => by rw [spec_l30Jobs.l0]);refine Pv.neg (by omega) (Pv.bind (pick_pv h hp (by omega)) (fun r1 ⟨a1,e1⟩ => Pv.ite (fun _ => Pv.pos (by omega) (Pv.now ⟨by simp; omega,by dsimp only; omega,by dsimp only; omega⟩)) (fun _ => Pv.now ⟨by dsimp only; omega,by dsimp only; omega,by dsimp only; omega⟩)))
 | succ m ih =>
  intro p x y hp hp' hx hy;refine Pv.go ?_ (fun k => by rw [spec_l30Jobs.l0]);have w2 : wrap64 (((m + 1 : Nat) : Int) - 1) = (m : Int):=by rw [w64 (by omega) (by omega)]; omega
  rw [w2];refine Pv.pos (by omega) (Pv.bind (nodeJ_pv h hp (by omega) n l) (fun r1 e1 => Pv.pos (by omega) (Pv.bind (nodeJ_pv h (p:=r1.2) (by omega) (by omega) n l) (fun r2 e2 => Pv.pos (by omega) ?_))));exact (ih r2.2 (x ++ [r1.1]) (y ++ [r2.1]) (by omega) (by omega) (by simp; omega) (by simp; omega)).mono (fun r hr => ⟨hr.1,hr.2.1,by have:=hr.2.2; omega⟩)
theorem jobs_pv {b : List Int} (h : Rdr b) {p : Int} (hp : 0 ≤ p) (hp' : p ≤ 10000) (n : Int) (l : List Arc) : Pv (fun k => spec_l30Jobs.f k b p n l) (fun r => r.1.length ≤ 5 ∧ r.2.1.length ≤ 5 ∧ (p ≤ r.2.2 ∧ r.2.2 ≤ p + 30)):=by
 unfold spec_l30Jobs.f
 refine Pv.bind (pick_pv h hp (by omega)) (fun r1 ⟨a1,e1⟩ => ?_);have b1:=a1.2.2 (by omega);obtain ⟨m,hm⟩ : ∃ m : Nat,r1.1 = (m : Int):=⟨r1.1.toNat,by omega⟩
 rw [hm];exact (jobs_l h n l m r1.2 [] [] (by omega) (by omega) (by simp; omega) (by simp; omega)).mono (fun r hr => ⟨hr.1,hr.2.1,by have:=hr.2.2; omega⟩)
theorem drawJob_pv {x : List Int} (hx : ∀ c ∈ x,(Lit.int .u8 c).wf = true) : Pv (fun k => spec_DrawJobBest.f k x) (fun r => r.2.1.length ≤ 13 ∧ r.2.2.1.length ≤ 5 ∧ r.2.2.2.length ≤ 5):=by
 unfold spec_DrawJobBest.f
 obtain ⟨b,e,hb⟩:=open_pv hx;refine Pv.bind0 e (Pv.bind (anyNet_pv hb (p:=0) (by omega) (by omega)) (fun r1 h1 => ?_));have h3:=h1.2.2;exact Pv.bind (jobs_pv hb (p:=r1.2.2) (by omega) (by omega) r1.1 r1.2.1) (fun r2 h2 => Pv.now ⟨h1.2.1,h2.1,h2.2.1⟩)
end Go.Proofs.Ytmioaahiflfcdaa.Pure
end
section
set_option linter.unusedSimpArgs false
set_option linter.unusedVariables false
namespace Go.Proofs.Ytmioaahiflfcdaa.Pure
open Go.RowKit Go.Proofs.Ytmioaahiflfcdaa.Pr Go.Proofs.YtmioaahiflfcdaaW.PrintWords Go.Proofs.YtmioaahiflfcdaaW.PrintLast Go.Proofs.YtmioaahiflfcdaaW.PrintMore
theorem wkInts_l (a b : List Int) (hm : a.length ≤ maxLen) (hl : a.length = b.length) : ∀ (m i : Nat),a.length - i = m → i ≤ a.length → Ev (fun k => laws_wkInts.l0 k a b (i : Int)) (decide (a.drop i = b.drop i)):=by
 intro m
 induction m with
 | zero =>
  intro i hd hi;refine Ev.go ?_ (fun k => by rw [laws_wkInts.l0]);refine Ev.neg (by omega) (Ev.is ?_);rw [List.drop_of_length_le (by omega),List.drop_of_length_le (by omega)];rfl
 | succ m ih =>
  intro i hd hi;have hlt : i < a.length:=by omega
  have hlt2 : i < b.length:=by omega
  refine Ev.go ?_ (fun k => by rw [laws_wkInts.l0]);refine Ev.pos (by omega) (Ev.pos (by omega) (Ev.pos (by omega) ?_));rw [rdn hlt,rdn hlt2,up1 hlt hm,drop_cons hlt,drop_cons hlt2]
  by_cases c : a[i] = b[i]
  case neg => exact Ev.neg c (Ev.is (by simp only [List.cons.injEq,c,false_and]; rfl))
  exact Ev.pos c ((ih (i + 1) (by omega) (by omega)).cast (by rw [c]; simp only [List.cons.injEq,true_and]))
theorem wkInts_ev (a b : List Int) (hm : a.length ≤ maxLen) : Ev (fun k => laws_wkInts.f k a b) (decide (a = b)):=by
 unfold laws_wkInts.f
 by_cases c : a.length = b.length
 case pos => exact Ev.pos (by omega) (by simpa using wkInts_l a b hm c _ 0 rfl (Nat.zero_le _))
 exact Ev.neg (by omega) (Ev.is (by rw [eq_comm]; exact decide_eq_false (fun e => c (by rw [e]))))
theorem wkInts_same (a : List Int) (hm : a.length ≤ maxLen) : Ev (fun k => laws_wkInts.f k a a) true:=(wkInts_ev a a hm).cast (by simp)
theorem netBackJ_ev {n : Int} {l : List Arc} (hg : NetGood n l) : Ev (fun k => impl_NetBack.f k n l) (n,back l):=by
 have h16:=hg.len
 unfold impl_NetBack.f
 refine Ev.bind0 (show impl_NetOk.f n l = some true from (by rw [← (netOkB_iff n l).2 hg]; rfl)) (Ev.pos rfl ?_);exact Ev.bind (implBack_ev n l (by omega)) (Ev.now _)
theorem FnJobAt : laws_FnJobAt.Asked:=by
 intro c hc;refine Pv.rounds ?_
 unfold laws_FnJobAt.f
 refine Pv.ite (fun _ => Pv.now rfl) (fun _ => Pv.bind (drawJob_pv hc.2) (fun r h => ?_));obtain ⟨n,l,x,y⟩:=r;obtain ⟨h1,h2,h3⟩:=h;dsimp only at h1 h2 h3 ⊢;have hv:=jobV_len n l x y;have hw:=wkInts_same (jobV n l x y).1 (by simp only [maxLen]; omega);refine Pv.of (Ev.bind (implJob_ev n l x y) (Ev.bind (specJob_ev n l x y (by simp only [maxLen]; omega) (by simp only [maxLen]; omega) (by simp only [maxLen]; omega)) (Ev.pos rfl (Ev.bind hw (Ev.pos rfl (Ev.go ?_ (fun k => by rw [laws_FnJobAt.j0]))))))) rfl;cases hb : jobsB n l x y with
 | false =>
  have e : (jobV n l x y).2 = -1:=by unfold jobV; rw [if_neg (by rw [hb]; simp)]
  refine Ev.pos (by rw [e]; rfl) (Ev.pos rfl (Ev.bind hw (Ev.now _)))
 | true =>
  obtain ⟨N,a,b,rfl,rfl,rfl,hJ⟩:=jobsB_jobs hb;have h0:=(best_bd hJ).1;have hJ2 : Jobs N l a a:=⟨hJ.net,hJ.m1,hJ.m5,rfl,hJ.ha,hJ.ha⟩
  have i1:=implJob_ev (N : Int) l (nts a) (nts a);have i2:=implJob_ev (N : Int) (back l) (nts b) (nts a);rw [jobV_at hJ2] at i1;rw [jobV_at (turned hJ)] at i2;rw [jobV_at hJ];dsimp only;refine Ev.neg (by rw [decide_eq_true_eq]; omega) (Ev.bind i1 (Ev.bind (netBackJ_ev hJ.net) (Ev.bind i2 (Ev.pos (best_same hJ) (Ev.is ?_)))));dsimp only;rw [best_turned hJ];exact beq_self_eq_true _
end Go.Proofs.Ytmioaahiflfcdaa.Pure
end
section
namespace Go.Proofs.Ytmioaahiflfcdaa.fnJobAt
open Go.ChangeShapes Go.WideShapes Go.ChangeAt Go.RowKit Go.Proofs.YtmioaahiflfcdaaW.PrintWords Go.Proofs.Ytmioaahiflfcdaa.Pr
open Go.ChangeMaps (open_string shut_string)
set_option linter.unusedVariables false
set_option linter.unusedSimpArgs false
theorem own : ownKnob Try.prog.godebug = none:=by kernel_rfl
theorem laidOut : laidOutB Try.prog = true:=by kernel_rfl
theorem opens0 : Opens Try.prog (Kd.slice 5 (Kd.int .u8)) 22 (fun l => l.length ≤ maxLen ∧ ∀ x ∈ l,(fun n => (Lit.int .u8 n).wf = true) x):=(opens_slice (P:=Try.prog) Try.underlying22 (by kernel_rfl) (opens_int (P:=Try.prog) (k:=.u8) Try.underlying5))
set_option maxRecDepth 100000 in
set_option maxHeartbeats 2000000 in
theorem lifted (os : Os) (started : os.Started) (H : Type) (enc : TypeId × Value → H) :
  ReturnsInHanded {} Try.checked os 3 .any (Rows.fnJobAtSpec.pre6 enc Try.prog Try.f3 Rows.fnJobAtRow.domain false) (Rows.fnJobAtSpec.post enc Try.prog Try.f3 false true false false):=by
 refine returnsInHanded_of_change_sized (C:=Try.checked) own started (by kernel_rfl) Try.func3
  (ChangeSpec.witness6 (enc:=enc) (C:=Try.checked) false ⟨#[],#[(.slice none 0 0)],[]⟩ 8 (by kernel_rfl) (by kernel_rfl) (by kernel_rfl) (by kernel_rfl)) ?_
 intro W base args ds gs before hval0 hW hcnd hsz0 _;have hval : ∀ (j : Nat) t v,Try.f3.params[j]? = some t → args[j]? = some v → Value.okWide Try.prog W .any base t v:=hval0
 have hW':=hW;obtain ⟨p,q,hA0,hV,rfl,hfz,hnd⟩:=hW;have hA : DataW.TrodAll enc Try.prog W 0 (fun _ => true) true Try.f3.params.toList args.toList ds p:=hA0;rw [Try.params3] at hA hval;obtain ⟨v0,vs0,d0,ds0,p0,q0,hargs,rfl,rfl,h0,r0⟩:=trodAll_cons hA;obtain ⟨rfl,rfl,rfl⟩:=trodAll_nil r0;obtain rfl : args = #[v0]:=by cases args; simp_all
 obtain ⟨rfl,rfl⟩:=trodVars_none hV;have k0:=h0;have lt0 : ∀ x ∈ p0,x.block < W.heap.size:=by obtain ⟨m,hm⟩:=k0; exact DataW.trod_lt m _ _ _ hm
 obtain ⟨a0,len0,cap0,rfl⟩:=okWide_slice Try.underlying22 (hval 0 22 v0 rfl rfl);obtain ⟨fuel0,hf0⟩:=h0;obtain ⟨l0,⟨A0,c0,e0,hc0,hr0⟩,w0⟩:=opens0 hf0;have e0' : (Value.slice a0 len0 cap0) = .slice A0 l0.length c0:=(List.cons.inj e0).1;injection e0' with e0a e0b e0c
 subst e0a e0b e0c;obtain ⟨k,hh⟩:=Pure.FnJobAt l0 w0;refine (laws_FnJobAt.calls k _ _ l0 true W hr0 hc0 hh).mono fun e W' ⟨he,bel0⟩ => ?_
 have bel : Below W.heap.size W W':=bel0;subst he;exact ⟨_,rfl,_,_,_,[],_,[],hW',trodAll_mk1 (shut_bool Try.underlying4 _),(trodAll_cons_mk (Below.trod laidOut (by kernel_rfl) (of_decide_eq_true (by kernel_rfl)) k0 bel lt0) trodAll_mk0),rfl,bel.frame _,fun h => by cases h⟩
theorem over : Rows.fnJobAtRow.holds Try.pinned (OpenSpec.ofChange Rows.fnJobAtSpec) :=
 OpenClaim.holds_of_wide 3 Try.f3 rfl rfl rfl rfl rfl rfl rfl ⟨rfl,rfl,rfl,rfl,rfl⟩ rfl rfl rfl rfl rfl (by kernel_rfl) Try.func3 (by kernel_rfl)
  (of_decide_eq_true (by kernel_rfl)) (by unfold Func.isWrapper; first | (rw [if_pos (by decide +kernel)]; kernel_rfl) | (rw [if_neg (by decide +kernel)]; exact ⟨rfl,rfl⟩))
  (fun os started H enc _ => lifted os started H enc)
theorem proved : Rows.FnJobAtSaid:=over
#print axioms proved
end Go.Proofs.Ytmioaahiflfcdaa.fnJobAt
namespace Go.Proofs.Ytmioaahiflfcdaa
theorem fnJobAt_holds : Rows.FnJobAtSaid:=fnJobAt.proved
end Go.Proofs.Ytmioaahiflfcdaa
end
