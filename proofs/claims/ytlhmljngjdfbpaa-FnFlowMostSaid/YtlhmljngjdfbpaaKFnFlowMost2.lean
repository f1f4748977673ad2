/- For the statement FnFlowMost of this seat: it is proved here, with no further conditions (part 3 of its texts: words, walks of the functions, the plain law, the row). -/
import Derived.Below
import Derived.Deep.Draws
import Derived.Deep.AppendLies
import Derived.Maps.AppendAt
import Derived.OwnWalk
import Derived.Laws.BytesArg
import Derived.Laws.MakeOwn
import Derived.Laws.OwnMore
import Derived.Deep.OwnRows
import Derived.Tactics
import Derived.Lib.ConvBytes
import Derived.Laws.Slices
import Derived.WalkKit
import Derived.KernelRfl
import Derived.RowKit3
import Derived.Deep.LoopGhost
import Derived.Deep.QuietTactic
import Derived.BigQuiet
import Derived.WideLaws
import Derived.Deep.DeepCutAuto
import Derived.Deep.CutBlock
import Derived.Deep.RegionHeld3
import Derived.Laws.Rows
import Derived.Lib.AppendStr
import Derived.ArgAppend
import Derived.Laws.IdiomCopy
import Derived.RowKit
import Derived.Laws.StructEq
import Derived.Test.YtlhmljngjdfbpaaProg
import Derived.Deep.RegionLaw
import Derived.OrdersHeld
import Derived.Laws.BitsLemmas
import Derived.Shelf.Abstract
import Derived.Test.YtlhmljngjdfbpaaKFnFlowMost0
import Derived.Test.YtlhmljngjdfbpaaKFnFlowMost1
section
set_option linter.unusedVariables false
set_option linter.unusedSimpArgs false
namespace Go.Proofs.YtlhmljngjdfbpaaW.PrintWords
open Go.RowKit
structure Aside0 (p : Prop) : Prop where mk :: (out : p)
structure Drawn0 (w w' : World) : Prop where mk :: (out : ∃ n,w' = w.drewN n)
theorem Drawn0.refl (w : World) : Drawn0 w w:=⟨⟨0,rfl⟩⟩
theorem Drawn0.step {w w' : World} (h : Drawn0 w w') (n : Nat) : Drawn0 w (w'.drewN n):=by
 obtain ⟨m,rfl⟩:=h;exact ⟨⟨m + n,World.drewN_drewN ..⟩⟩
def rd (xs : List Int) (i : Int) : Int:=xs.getD i.toNat 0
theorem below_alloc {w W : World} (h : Below w.heap.size w W) (o : Obj) : Below w.heap.size w (W.alloc o):=h.alloc h.size o
theorem below_drew {B : Nat} {w W : World} (h : Below B w W) : Below B w W.drew:=⟨h.os,h.tape,h.output,h.size,h.block⟩
theorem pw_below_drewN {B : Nat} {w W : World} (h : Below B w W) (n : Nat) : Below B w (W.drewN n):=⟨h.os,h.tape,h.output,h.size,h.block⟩
theorem below_then {B : Nat} {w w1 w2 : World} (h : Below B w w1) (hB : B ≤ w1.heap.size) (k : Below w1.heap.size w1 w2) : Below B w w2 :=
 h.trans ⟨k.os,k.tape,k.output,k.size,fun i hi => k.block i (Nat.lt_of_lt_of_le hi hB)⟩
theorem pw_below_grown {B : Nat} {w w1 : World} (h : Below B w w1) (row : Option Nat) (hB : B ≤ w1.heap.size) {w2 : World} (hg : w1.grownBy w2 row) (hr : ∀ k,row = some k → B ≤ k) : Below B w w2:=h.grown hg hB hr
theorem grown_of_below {w w1 : World} (h : Below w.heap.size w w1) (row : Option Nat) : w.grownBy w1 row:=⟨h.os,h.tape,h.output,h.size,fun i hi _ => h.block i hi⟩
theorem pw_cell_below {w w1 : World} (h : Below w.heap.size w w1) {a : Addr} {v : Value} (hc : w.cell? a = some v) : w1.cell? a = some v:=(h.cell (World.block_lt_of_cell? w a hc)).trans hc
theorem add_plain (g j : Nat) : (⟨g,0,none⟩ : Addr).add j = ⟨g,j,none⟩:=by unfold Addr.add; split <;> simp_all
def ReadsInt (w : World) (k : IntKind) (A : Option Addr) (n : Nat) (xs : List Int) : Prop :=
 xs.length = n ∧ n ≤ 9223372036854775807 ∧ (0 < n → ∃ ad,A = some ad ∧ ∀ j,j < n → w.cell? (ad.add j) = some (.int k (xs.getD j 0)))
theorem ReadsInt.at_ {w : World} {k : IntKind} {A : Option Addr} {n : Nat} {xs : List Int} (h : ReadsInt w k A n xs) (i : Int) (h0 : 0 ≤ i) (h1 : i < n) : ∃ ad,A = some ad ∧ w.cell? (ad.add i.toNat) = some (.int k (rd xs i)):=by
 obtain ⟨ad,e,hc⟩:=h.2.2 (by omega);exact ⟨ad,e,hc _ (by omega)⟩
theorem own_nil (W : World) (base : Nat) (e : TypeId) (size : Nat) : W.ownsRow2 base e size (.slice none 0 0) 0 []:=⟨by simp,.inl ⟨rfl,rfl⟩⟩
theorem own_base {w : World} {base : Nat} {e : TypeId} {size n : Nat} {v : Value} {xs : List Value} (h : w.ownsRow2 base e size v n xs) (k : Nat) (hk : v.ownBlock = some k) : base ≤ k:=by
 rcases h.2 with ⟨rfl,_⟩ | ⟨g,cap,cur,rfl,hb,_⟩
 ·simp [Value.ownBlock] at hk
 ·have : g = k:=by simpa [Value.ownBlock] using hk
  omega
theorem own_lt {w : World} {base : Nat} {e : TypeId} {size n : Nat} {v : Value} {xs : List Value} (h : w.ownsRow2 base e size v n xs) (k : Nat) (hk : v.ownBlock = some k) : k < w.heap.size:=by
 rcases h.2 with ⟨rfl,_⟩ | ⟨g,cap,cur,rfl,hb,hh,_⟩
 ·simp [Value.ownBlock] at hk
 ·have : g = k:=by simpa [Value.ownBlock] using hk
  subst this;exact (Array.getElem?_eq_some_iff.1 hh).1
theorem own_slice {w : World} {base n : Nat} {e : TypeId} {size : Nat} {v : Value} {xs : List Value} (h : w.ownsRow2 base e size v n xs) : ∃ A c,v = .slice A n c:=by
 rcases h.2 with ⟨rfl,rfl⟩ | ⟨g,cap,cur,rfl,_⟩
 ·exact ⟨none,0,rfl⟩
 ·exact ⟨_,cap,rfl⟩
theorem ReadsInt.take_ {w : World} {k : IntKind} {A : Option Addr} {n : Nat} {xs : List Int} (h : ReadsInt w k A n xs) (i : Nat) (hi : i ≤ n) : ReadsInt w k A i (xs.take i):=by
 refine ⟨by rw [List.length_take,h.1]; omega,by have:=h.2.1; omega,fun hp => ?_⟩;obtain ⟨ad,e,hc⟩:=h.2.2 (by omega);refine ⟨ad,e,fun j hj => ?_⟩;rw [hc j (by omega)];simp [List.getD_eq_getElem?_getD,hj]
def Reps {α : Type} (R : α → List Value → Prop) (size : Nat) (ps : List α) (cs : List Value) : Prop :=
 cs.length = ps.length * size ∧ ∀ j p,ps[j]? = some p → R p ((cs.drop (j * size)).take size)
theorem Reps.none {α : Type} (R : α → List Value → Prop) (size : Nat) : Reps R size [] []:=⟨by simp,fun j p h => by simp at h⟩
theorem Reps.snoc {α : Type} {R : α → List Value → Prop} {size : Nat} {ps : List α} {cs c : List Value} {p : α} (h : Reps R size ps cs) (hp : R p c) (hc : c.length = size) : Reps R size (ps ++ [p]) (cs ++ c):=by
 refine ⟨by rw [List.length_append,h.1,hc,List.length_append,List.length_singleton,Nat.add_mul,Nat.one_mul],fun j q hq => ?_⟩
 rcases Nat.lt_or_ge j ps.length with hj | hj
 ·rw [List.getElem?_append_left hj] at hq;have h1 : j * size + size ≤ cs.length:=by rw [h.1,← Nat.succ_mul]; exact Nat.mul_le_mul_right _ hj
  have h2:=h.2 j q hq;rw [List.drop_append_of_le_length (by omega),List.take_append_of_le_length (by rw [List.length_drop]; omega)];exact h2
 ·have hj' : j = ps.length:=by
   have:=(List.getElem?_eq_some_iff.1 hq).1;rw [List.length_append,List.length_singleton] at this;omega
  subst hj';have hq' : p = q:=by simpa using hq
  subst hq';rw [← h.1,List.drop_left,← hc,List.take_length];exact hp
theorem Reps.imp_ {α : Type} {R R' : α → List Value → Prop} {size : Nat} {ps : List α} {cs : List Value} (h : Reps R size ps cs) (hR : ∀ p c,R p c → R' p c) : Reps R' size ps cs:=⟨h.1,fun j p hj => hR _ _ (h.2 j p hj)⟩
def ReadsRow {α : Type} (R : α → List Value → Prop) (size : Nat) (w : World) (A : Option Addr) (n : Nat) (ps : List α) : Prop :=
 ps.length = n ∧ n ≤ 9223372036854775807 ∧ (0 < n → ∃ ad,A = some ad ∧ ∀ j p,ps[j]? = some p → ∃ c,c.length = size ∧ R p c ∧ ∀ i u,c[i]? = some u → w.cell? (ad.add (j * size + i)) = some u)
theorem ReadsRow.get_ {α : Type} {R : α → List Value → Prop} {size : Nat} {w : World} {A : Option Addr} {n : Nat} {ps : List α} (h : ReadsRow R size w A n ps) (d : α) (i : Int) (h0 : 0 ≤ i) (h1 : i < n) :
  ∃ ad c,A = some ad ∧ c.length = size ∧ R (ps.getD i.toNat d) c ∧ ∀ j u,c[j]? = some u → w.cell? (ad.add (i.toNat * size + j)) = some u:=by
 obtain ⟨ad,e,hc⟩:=h.2.2 (by omega);have hl : i.toNat < ps.length:=by have:=h.1; omega
 obtain ⟨c,hs,hr,hcell⟩:=hc i.toNat _ (List.getElem?_eq_getElem hl);refine ⟨ad,c,e,hs,?_,hcell⟩;rw [List.getD_eq_getElem?_getD,List.getElem?_eq_getElem hl];exact hr
theorem ReadsRow.imp_ {α : Type} {R R' : α → List Value → Prop} {size : Nat} {w w1 : World} {A : Option Addr} {n : Nat} {ps : List α} (h : ReadsRow R size w A n ps) (hb : Below w.heap.size w w1) (hR : ∀ p c,R p c → R' p c) : ReadsRow R' size w1 A n ps :=
 ⟨h.1,h.2.1,fun hn => by
  obtain ⟨ad,e,hc⟩:=h.2.2 hn;refine ⟨ad,e,fun j p hj => ?_⟩;obtain ⟨c,hs,hr,hcell⟩:=hc j p hj;exact ⟨c,hs,hR _ _ hr,fun i u hu => pw_cell_below hb (hcell i u hu)⟩⟩
theorem own_reads_row {α : Type} {R : α → List Value → Prop} {w : World} {base n size : Nat} {e : TypeId} {v : Value} {ps : List α} {cs : List Value} (h : w.ownsRow2 base e size v n cs) (hR : Reps R size ps cs) (hn : ps.length = n) :
  ∃ A c,v = .slice A n c ∧ ReadsRow R size w A n ps:=by
 rcases Nat.eq_zero_or_pos n with h0 | h0
 ·rcases h.2 with ⟨rfl,rfl⟩ | ⟨g,cap,cur,rfl,_⟩
  ·exact ⟨none,0,rfl,hn,by omega,fun hp => absurd hp (by omega)⟩
  ·exact ⟨_,cap,rfl,hn,by omega,fun hp => absurd hp (by omega)⟩
 ·obtain ⟨g,cap,rfl,_,_⟩:=h.form h0;have hm : n ≤ 9223372036854775807:=by
   rcases h.2 with ⟨_,h1⟩ | ⟨g',cap',cur,he,_,_,h1,h2,_⟩
   ·omega
   ·simp only [maxLen] at h2;omega
  refine ⟨_,cap,rfl,hn,hm,fun _ => ⟨_,rfl,fun j p hj => ⟨(cs.drop (j * size)).take size,?_,hR.2 j p hj,fun i u hu => ?_⟩⟩⟩
  ·have hjl:=(List.getElem?_eq_some_iff.1 hj).1;have h1 : j * size + size ≤ cs.length:=by rw [hR.1,← Nat.succ_mul]; exact Nat.mul_le_mul_right _ hjl
   rw [List.length_take,List.length_drop];omega
  ·refine h.cells (g:=g) rfl _ u ?_;rw [List.getElem?_take] at hu
   split at hu
   ·rw [List.getElem?_drop] at hu;exact hu
   ·cases hu
theorem add_field (ad : Addr) (m j : Nat) (hj : 0 < j) : ad.add (m + j) = ⟨(ad.add m).block,(ad.add m).off + j,none⟩:=by
 unfold Addr.add
 by_cases hm : m = 0
 case neg => simp [hm,Nat.add_assoc]
 subst hm;simp [Nat.ne_of_gt hj]
section
variable {P : Program} {ops : Array Oper} {rest : List Oper} {o : Oper} {a : Act} {Q : Exit → Act → World → Prop}
theorem print_append_cells {w0 W : World} (base : Nat) (hgd : o.guard = none) (s x : Operand) (t e : TypeId) (z : Value) (size bytes : Nat)
  (ho : o.op = .call { callee:=.builtin .append,args:=#[s,x],argTypes:=#[t,t] })
  (ht : P.underlying t = some (.slice e)) (hinfo : (P.info? e).map (fun i => (i.zero,i.size,i.bytes)) = some (some z,size,bytes)) (hz : z.cells.size = size) (hs0 : 0 < size) (hb0 : 0 < bytes)
  (v : Value) (n : Nat) (xs ys : List Value) (hs : a.eval s = v) (hx : a.eval x = .slice (some ⟨W.heap.size,0,none⟩) 1 1) (hys : ys.length = size) (h1 : ∀ u ∈ ys,u.oneCell' = true)
  (HO : W.ownsRow2 base e size v n xs) (HB : Below base w0 W) (hbase : base ≤ W.heap.size) (hl : (n + 1) * bytes ≤ 140737488355328)
  (h : ∀ v1 w1,w1.ownsRow2 base e size v1 (n + 1) (xs ++ ys) → Below base w0 w1 → W.grownBy w1 v.ownBlock → (v1.ownBlock = v.ownBlock ∨ ∃ b,v1.ownBlock = some b ∧ W.heap.size ≤ b) → wpList P ops Q rest (a.put o.dst v1) w1) :
  wpList P ops Q (o :: rest) a (W.alloc (.cells ys.toArray e)):=by
 obtain ⟨i0,hi,hzz⟩:=Option.map_eq_some_iff.1 hinfo;simp only [Prod.mk.injEq] at hzz;obtain ⟨hz0,hz1,hz2⟩:=hzz;have hlen : n + 1 ≤ 140737488355328:=Nat.le_trans (Nat.le_mul_of_pos_right _ hb0) hl;refine wpList_append_own_at2 (W.alloc (.cells ys.toArray e)) hgd s x t ho base e i0 z size bytes ht hi hz0 hz1 hz2 hz hs0 v n xs hs (HO.alloc _) ⟨W.heap.size,0,none⟩ 1 1 ys hx (by rw [hys]; simp)
  (by simpa using World.news_of_block (cs:=ys.toArray) (t:=e) (fr:=(0,0)) (heap_alloc_new W (.cells ys.toArray e))) h1 (by simp only [maxLen]; omega) hl (by simp; omega) ?_
 intro v1 w1 hown hg _ hat;refine h v1 w1 hown ((HB.alloc hbase _).grown hg (by simp; omega) (own_base HO)) (World.grownBy.trans (World.grownBy_alloc W _ _) hg) ?_
 rcases hat with hat | hat
 ·exact .inl hat
 ·exact .inr ⟨_,hat,by simp⟩
end
theorem own_ne {w : World} {base : Nat} {e t : TypeId} {size n g : Nat} {v : Value} {xs : List Value} {cs : Array Value} (h : w.ownsRow2 base e size v n xs) (hg : w.heap[g]? = some (.cells cs t (0,0))) (hne : e ≠ t) : some g ≠ v.ownBlock:=by
 rcases h.2 with ⟨rfl,_⟩ | ⟨g',cap,cur,rfl,_,hh,_⟩
 ·simp [Value.ownBlock]
 ·intro he;have : g = g':=by simpa [Value.ownBlock] using he
  subst this;rw [hg] at hh;injection hh with hh
  injection hh with _ ht
  exact hne ht.symm
theorem blk_set {w : World} {g : Nat} {t : TypeId} {cs : Array Value} (h : w.heap[g]? = some (.cells cs t (0,0))) (i : Nat) (u : Value) : (w.setCell ⟨g,i,none⟩ u).heap[g]? = some (.cells (cs.setIfInBounds i u) t (0,0)):=by
 simp [World.setCell,Array.getElem?_modify,h]
theorem blk_far {w : World} {g : Nat} {t : TypeId} {cs : Array Value} (h : w.heap[g]? = some (.cells cs t (0,0))) {p : Addr} (hp : g ≠ p.block) (u : Value) : (w.setCell p u).heap[g]? = some (.cells cs t (0,0)):=(Below.heap_setCell w p u g hp).trans h
theorem blk_lt {w : World} {g : Nat} {o : Obj} (h : w.heap[g]? = some o) : g < w.heap.size:=(Array.getElem?_eq_some_iff.1 h).1
theorem blk_cell {w : World} {g : Nat} {t : TypeId} {cs : Array Value} (h : w.heap[g]? = some (.cells cs t (0,0))) (i : Nat) : w.cell? ⟨g,i,none⟩ = cs[i]?:=cell_of_row w g i cs t (0,0) h
theorem blk_frozen {w : World} {g : Nat} {t : TypeId} {cs : Array Value} (h : w.heap[g]? = some (.cells cs t (0,0))) (i : Nat) : w.frozen? ⟨g,i,none⟩ = false:=by simp [World.frozen?,h]
theorem blk_grown {w w1 : World} {g : Nat} {o : Obj} {row : Option Nat} (h : w.heap[g]? = some o) (hg : w.grownBy w1 row) (hne : some g ≠ row) : w1.heap[g]? = some o:=(hg.block g (blk_lt h) hne).trans h
def KeepBut (w w' : World) (g : Nat) (row : Option Nat) : Prop:=w.heap.size ≤ w'.heap.size ∧ ∀ i,i < w.heap.size → i ≠ g → some i ≠ row → w'.heap[i]? = w.heap[i]?
theorem KeepBut.refl (w : World) (g : Nat) (row : Option Nat) : KeepBut w w g row:=⟨Nat.le_refl _,fun _ _ _ _ => rfl⟩
theorem KeepBut.of_grown {w w1 : World} {row : Option Nat} (h : w.grownBy w1 row) (g : Nat) : KeepBut w w1 g row:=⟨h.size,fun i hi _ hr => h.block i hi hr⟩
theorem KeepBut.of_below {w w1 : World} (h : Below w.heap.size w w1) (g : Nat) (row : Option Nat) : KeepBut w w1 g row:=⟨h.size,fun i hi _ _ => h.block i hi⟩
theorem KeepBut.set_ {w w1 : World} {g : Nat} {row : Option Nat} (h : KeepBut w w1 g row) (j : Nat) (u : Value) : KeepBut w (w1.setCell ⟨g,j,none⟩ u) g row :=
 ⟨by simpa [World.setCell] using h.1,fun i hi hg hr => (Below.heap_setCell w1 ⟨g,j,none⟩ u i hg).trans (h.2 i hi hg hr)⟩
theorem KeepBut.trans {w w1 w2 : World} {g : Nat} {row row1 : Option Nat} (h : KeepBut w w1 g row) (k : KeepBut w1 w2 g row1) (hr : row1 = row ∨ ∃ b,row1 = some b ∧ w.heap.size ≤ b) : KeepBut w w2 g row :=
 ⟨Nat.le_trans h.1 k.1,fun i hi hg hn => by
  refine (k.2 i (Nat.lt_of_lt_of_le hi h.1) hg ?_).trans (h.2 i hi hg hn)
  rcases hr with rfl | ⟨b,rfl,hb⟩
  ·exact hn
  ·intro e;injection e with e
   omega⟩
theorem KeepBut.blk {w w1 : World} {g g' : Nat} {row : Option Nat} {o : Obj} (h : KeepBut w w1 g row) (hb : w.heap[g']? = some o) (hg : g' ≠ g) (hr : some g' ≠ row) : w1.heap[g']? = some o:=(h.2 g' (blk_lt hb) hg hr).trans hb
def Ev {α : Type} (g : Nat → Option α) (r : α) : Prop:=∃ K,∀ k,K ≤ k → g k = some r
theorem Ev.now {α : Type} (r : α) : Ev (fun _ => some r) r:=⟨0,fun _ _ => rfl⟩
theorem Ev.rounds {α : Type} {g : Nat → Option α} {r : α} (h : Ev g r) : ∃ k,g k = some r:=by
 obtain ⟨K,h⟩:=h;exact ⟨K,h K (Nat.le_refl _)⟩
theorem Ev.bind {α β : Type} {g : Nat → Option α} {f : Nat → α → Option β} {a : α} {r : β} (h : Ev g a) (k : Ev (fun n => f n a) r) : Ev (fun n => (g n).bind (f n)) r:=by
 obtain ⟨K,h⟩:=h;obtain ⟨K',k⟩:=k;refine ⟨max K K',fun n hn => ?_⟩;have h1:=h n (by omega);have h2:=k n (by omega);simp only [h1,Option.bind_some];exact h2
theorem Ev.step {α : Type} {g f : Nat → Option α} {r : α} (h : ∀ k,g (k + 1) = f k) (k : Ev f r) : Ev g r:=by
 obtain ⟨K,k⟩:=k;refine ⟨K + 1,fun n hn => ?_⟩;obtain ⟨m,rfl⟩ : ∃ m,n = m + 1:=⟨n - 1,by omega⟩
 rw [h];exact k m (by omega)
theorem own_weaken {w : World} {base base' : Nat} {e : TypeId} {size n : Nat} {v : Value} {xs : List Value} (h : w.ownsRow2 base e size v n xs) (hb : base' ≤ base) : w.ownsRow2 base' e size v n xs:=by
 obtain ⟨h1,h2⟩:=h;refine ⟨h1,?_⟩
 rcases h2 with h2 | ⟨g,cap,cur,rfl,hg,r⟩
 ·exact .inl h2
 ·exact .inr ⟨g,cap,cur,rfl,Nat.le_trans hb hg,r⟩
section
variable {α : Type} {enc : α → Value} {d : α}
def encs (enc : α → Value) (xs : List α) : List Value:=xs.map enc
def rdOf (d : α) (xs : List α) (i : Int) : α:=xs.getD i.toNat d
theorem encs_length (xs : List α) : (encs enc xs).length = xs.length:=by simp [encs]
theorem encs_get (xs : List α) (j : Nat) (h : j < xs.length) : (encs enc xs)[j]? = some (enc (xs.getD j d)):=by
 simp [encs,List.getElem?_eq_getElem h,List.getD_eq_getElem?_getD]
def ReadsOf (enc : α → Value) (d : α) (w : World) (A : Option Addr) (n : Nat) (xs : List α) : Prop :=
 xs.length = n ∧ n ≤ 9223372036854775807 ∧ (0 < n → ∃ ad,A = some ad ∧ ∀ j,j < n → w.cell? (ad.add j) = some (enc (xs.getD j d)))
theorem ReadsOf.at_ {w : World} {A : Option Addr} {n : Nat} {xs : List α} (h : ReadsOf enc d w A n xs) (i : Int) (h0 : 0 ≤ i) (h1 : i < n) : ∃ ad,A = some ad ∧ w.cell? (ad.add i.toNat) = some (enc (rdOf d xs i)):=by
 obtain ⟨ad,e,hc⟩:=h.2.2 (by omega);exact ⟨ad,e,hc _ (by omega)⟩
theorem ReadsOf.take_ {w : World} {A : Option Addr} {n : Nat} {xs : List α} (h : ReadsOf enc d w A n xs) (i : Nat) (hi : i ≤ n) : ReadsOf enc d w A i (xs.take i):=by
 refine ⟨by rw [List.length_take,h.1]; omega,by have:=h.2.1; omega,fun hp => ?_⟩;obtain ⟨ad,e,hc⟩:=h.2.2 (by omega);refine ⟨ad,e,fun j hj => ?_⟩;rw [hc j (by omega)];simp [List.getD_eq_getElem?_getD,hj]
theorem own_at_of {W : World} {base g n cap : Nat} {e : TypeId} {xs : List α} (h : W.ownsRow2 base e 1 (.slice (some ⟨g,0,none⟩) n cap) n (encs enc xs)) (i : Int) (h0 : 0 ≤ i) (h1 : i < n) :
  W.cell? ⟨g,i.toNat,none⟩ = some (enc (rdOf d xs i)) ∧ W.frozen? ⟨g,i.toNat,none⟩ = false:=by
 have hl : xs.length = n:=by have:=h.1; simp [encs] at this; exact this
 constructor
 ·have hc:=h.cells (g:=g) rfl i.toNat _ (encs_get (d:=d) xs i.toNat (by omega))
  rwa [add_plain] at hc
 ·rcases h.2 with ⟨h',_⟩ | ⟨g',cap',cur,h',_,hh,_⟩
  ·cases h'
  ·have : g = g':=by injection h' with h'; injection h' with h'; injection h' with h'
   subst this;simp [World.frozen?,hh]
theorem own_store_of {W : World} {base g n cap : Nat} {e : TypeId} {xs : List α} (h : W.ownsRow2 base e 1 (.slice (some ⟨g,0,none⟩) n cap) n (encs enc xs)) (i : Int) (x : α) :
  (W.setCell ⟨g,i.toNat,none⟩ (enc x)).ownsRow2 base e 1 (.slice (some ⟨g,0,none⟩) n cap) n (encs enc (xs.set i.toNat x)) ∧ W.grownBy (W.setCell ⟨g,i.toNat,none⟩ (enc x)) (some g):=by
 have hs:=h.stored i.toNat (enc x);have he : (encs enc xs).set i.toNat (enc x) = encs enc (xs.set i.toNat x):=by simp [encs,List.map_set]
 rwa [he] at hs
end
theorem blk_alloc {w : World} {g : Nat} {o : Obj} (h : w.heap[g]? = some o) (o' : Obj) : (w.alloc o').heap[g]? = some o:=(Below.heap_alloc w o' g (blk_lt h)).trans h
theorem blk_drew {w : World} {g : Nat} {o : Obj} (h : w.heap[g]? = some o) : w.drew.heap[g]? = some o:=h
theorem blk_drewN {w : World} {g : Nat} {o : Obj} (h : w.heap[g]? = some o) (n : Nat) : (w.drewN n).heap[g]? = some o:=h
theorem blk_below {w w1 : World} {g : Nat} {o : Obj} (h : w.heap[g]? = some o) (hb : Below w.heap.size w w1) : w1.heap[g]? = some o:=(hb.block g (blk_lt h)).trans h
theorem blk_new (w : World) (o : Obj) : (w.alloc o).heap[w.heap.size]? = some o:=heap_alloc_new w o
section
variable {P : Program}
theorem results_ct {fn : Func} {p u : Tmp} {ty : TypeId} (h : fn.results = #[.cell p ty,.tmp u]) (tmps : Array Value) (w : World) (g : Nat) (t : TypeId) (cs : Array Value) (fr : Nat × Nat) (d : TypeDesc)
  (hp : tmps.getD p undef = .pointer (some ⟨g,0,none⟩)) (hg : w.heap[g]? = some (.cells cs t fr))
  (hu : P.underlying ty = some d) (hd : (match d with | .struct _ | .array _ _ => true | _ => false) = true) (hi : (P.info? ty).map (·.size) = some cs.size) :
  (results fn tmps).run P w = .ok (.tuple #[.agg cs,tmps.getD u undef]) w:=by
 have hp' : tmps[p]?.getD undef = .pointer (some ⟨g,0,none⟩):=by simpa using hp
 simp [results,h,hp',asAddr,run_loadVar_row w g t ty cs fr d hg hu hd hi]
theorem results_ctt {fn : Func} {p u v : Tmp} {ty : TypeId} (h : fn.results = #[.cell p ty,.tmp u,.tmp v]) (tmps : Array Value) (w : World) (g : Nat) (t : TypeId) (cs : Array Value) (fr : Nat × Nat) (d : TypeDesc)
  (hp : tmps.getD p undef = .pointer (some ⟨g,0,none⟩)) (hg : w.heap[g]? = some (.cells cs t fr))
  (hu : P.underlying ty = some d) (hd : (match d with | .struct _ | .array _ _ => true | _ => false) = true) (hi : (P.info? ty).map (·.size) = some cs.size) :
  (results fn tmps).run P w = .ok (.tuple #[.agg cs,tmps.getD u undef,tmps.getD v undef]) w:=by
 have hp' : tmps[p]?.getD undef = .pointer (some ⟨g,0,none⟩):=by simpa using hp
 simp [results,h,hp',asAddr,run_loadVar_row w g t ty cs fr d hg hu hd hi]
end
theorem own_le {w : World} {base n m c size : Nat} {e : TypeId} {A : Option Addr} {xs : List Value} (h : w.ownsRow2 base e size (.slice A m c) n xs) : m ≤ c:=by
 rcases h.2 with ⟨he,_⟩ | ⟨g,cap,cur,he,_,_,hnc,_⟩
 ·injection he with _ h2 h3
  omega
 ·injection he with _ h2 h3
  omega
def OwnRow {α : Type} (R : α → List Value → Prop) (e : TypeId) (size : Nat) (w : World) (base : Nat) (v : Value) (ps : List α) : Prop :=
 ∃ inner,w.ownsRow2 base e size v ps.length inner ∧ Reps R size ps inner
section
variable {α : Type} {R R' : α → List Value → Prop} {e : TypeId} {size : Nat} {w w1 : World} {base : Nat} {v : Value} {ps : List α}
theorem OwnRow.none_ (R : α → List Value → Prop) (e : TypeId) (size : Nat) (w : World) (base : Nat) : OwnRow R e size w base (.slice none 0 0) []:=⟨[],own_nil _ _ _ _,Reps.none _ _⟩
theorem OwnRow.imp_ (h : OwnRow R e size w base v ps) (hR : ∀ p c,R p c → R' p c) : OwnRow R' e size w base v ps:=by
 obtain ⟨inner,ho,hr⟩:=h;exact ⟨inner,ho,hr.imp_ hR⟩
theorem OwnRow.reads (h : OwnRow R e size w base v ps) : ∃ A c,v = .slice A ps.length c ∧ ps.length ≤ c ∧ ReadsRow R size w A ps.length ps:=by
 obtain ⟨inner,ho,hr⟩:=h;obtain ⟨A,c,rfl,hrow⟩:=own_reads_row ho hr rfl;exact ⟨A,c,rfl,own_le ho,hrow⟩
theorem OwnRow.ne_block (h : OwnRow R e size w base v ps) {g : Nat} {t : TypeId} {cells : Array Value} (hb : w.heap[g]? = some (.cells cells t (0,0))) (ht : e ≠ t) : some g ≠ v.ownBlock:=by
 obtain ⟨inner,ho,hr⟩:=h;exact own_ne ho hb ht
end
section
variable {α : Type} {P : Program}
theorem print_take_of (enc : α → Value) (d : α) (t e : TypeId) (kl : IntKind) {i : TypeInfo} (ht : P.underlying t = some (.slice e)) (hi : P.info? e = some i) (hsz : i.size = 1) (A : Option Addr) (c : Nat) (xs : List α) (j : Int) (h0 : 0 ≤ j) (hm : j ≤ xs.length) (hc : xs.length ≤ c) :
  (∀ W : World,(Instr.slice t (.slice A xs.length c) none (some (.int kl j)) none).run P W = .ok (.slice A (xs.take j.toNat).length c) W) ∧
   (∀ w : World,ReadsOf enc d w A xs.length xs → ReadsOf enc d w A (xs.take j.toNat).length (xs.take j.toNat)) ∧ (xs.take j.toNat).length ≤ c:=by
 have hl : (xs.take j.toNat).length = j.toNat:=by rw [List.length_take]; omega
 refine ⟨fun W => ?_,fun w h => by rw [hl]; exact h.take_ j.toNat (by omega),by rw [hl]; omega⟩;have hel : P.elem t = e:=by simp [Program.elem,ht]
 have hu : P.underlying t = some (.slice (P.elem t)):=by rw [hel]; exact ht
 have ha : (A.map fun x => x.add 0) = A:=by cases A <;> simp [Addr.add]
 rw [run_slice_h W t A xs.length c hu kl j h0 (by omega),hel,hl];simp [sizeOf,typeInfo,hi,hsz,sliced,Result.andThen,ha]
end
structure Kd (α : Type) where
 sz : Nat
 E : List Nat
 K : World → α → List Value → Prop
 M : World → Nat → (Nat → Prop) → α → List Value → Prop
 K_len : ∀ {w x cs},K w x cs → cs.length = sz
 K_one : ∀ {w x cs},K w x cs → ∀ u ∈ cs,u.oneCell' = true
 K_below : ∀ {w w1 : World} {x cs},Below w.heap.size w w1 → K w x cs → K w1 x cs
 K_of_M : ∀ {w base ok x cs},M w base ok x cs → K w x cs
 M_mono : ∀ {w base ok ok' x cs},(∀ k,ok k → ok' k) → M w base ok x cs → M w base ok' x cs
 M_bound : ∀ {w : World} {base ok x cs},M w base ok x cs → M w base (fun k => ok k ∧ base ≤ k ∧ k < w.heap.size ∧ ∃ q,q ∈ E ∧ ∃ cells,w.heap[k]? = some (.cells cells q (0,0))) x cs
 M_move : ∀ {w w1 : World} {base ok x cs},(∀ k,ok k → w1.heap[k]? = w.heap[k]?) → M w base ok x cs → M w1 base ok x cs
 M_lower : ∀ {w base base' ok x cs},base' ≤ base → M w base ok x cs → M w base' ok x cs
theorem own_move {w w1 : World} {base : Nat} {e : TypeId} {size n : Nat} {v : Value} {xs : List Value} (h : w.ownsRow2 base e size v n xs) (hm : ∀ k,v.ownBlock = some k → w1.heap[k]? = w.heap[k]?) : w1.ownsRow2 base e size v n xs:=by
 obtain ⟨h1,h2⟩:=h;refine ⟨h1,?_⟩
 rcases h2 with h2 | ⟨g,cap,cur,rfl,hg,hh,r⟩
 ·exact .inl h2
 ·exact .inr ⟨g,cap,cur,rfl,hg,(hm g (by simp [Value.ownBlock])).trans hh,r⟩
theorem own_typed {w : World} {base : Nat} {e : TypeId} {size n : Nat} {v : Value} {xs : List Value} (h : w.ownsRow2 base e size v n xs) (k : Nat) (hk : v.ownBlock = some k) : ∃ cells,w.heap[k]? = some (.cells cells e (0,0)):=by
 rcases h.2 with ⟨rfl,_⟩ | ⟨g,cap,cur,rfl,hg,hh,r⟩
 ·simp [Value.ownBlock] at hk
 ·have : g = k:=by simpa [Value.ownBlock] using hk
  subst this;exact ⟨cur,hh⟩
namespace Kd
def C {α : Type} (d : Kd α) (w : World) (A : Option Addr) (n : Nat) (xs : List α) : Prop:=ReadsRow (d.K w) d.sz w A n xs
def R {α : Type} (d : Kd α) (e : Nat) (w : World) (base : Nat) (ok : Nat → Prop) (v : Value) (xs : List α) : Prop :=
 (∀ k,v.ownBlock = some k → ok k) ∧ OwnRow (d.M w base (fun k => ok k ∧ some k ≠ v.ownBlock)) e d.sz w base v xs
section
variable {α : Type} {d : Kd α} {e : Nat} {w w1 : World} {base : Nat} {ok ok' : Nat → Prop} {v : Value} {xs : List α}
theorem C_below {A : Option Addr} {n : Nat} (h : d.C w A n xs) (hb : Below w.heap.size w w1) : d.C w1 A n xs:=ReadsRow.imp_ h hb (fun _ _ hp => d.K_below hb hp)
theorem R_nil (d : Kd α) (e : Nat) (w : World) (base : Nat) (ok : Nat → Prop) : d.R e w base ok (.slice none 0 0) []:=⟨fun k hk => by simp [Value.ownBlock] at hk,OwnRow.none_ _ _ _ _ _⟩
theorem R_mono (h : d.R e w base ok v xs) (hok : ∀ k,ok k → ok' k) : d.R e w base ok' v xs:=⟨fun k hk => hok k (h.1 k hk),h.2.imp_ (fun _ _ hp => d.M_mono (fun k hk => ⟨hok k hk.1,hk.2⟩) hp)⟩
theorem R_bound (h : d.R e w base ok v xs) : d.R e w base (fun k => ok k ∧ base ≤ k ∧ k < w.heap.size ∧ ∃ q,q ∈ e :: d.E ∧ ∃ cells,w.heap[k]? = some (.cells cells q (0,0))) v xs:=by
 obtain ⟨h0,inner,ho,hr⟩:=h;refine ⟨fun k hk => ?_,inner,ho,hr.imp_ (fun _ _ hp => d.M_mono (fun k hk => ?_) (d.M_bound hp))⟩
 ·obtain ⟨cells,hc⟩:=own_typed ho k hk;exact ⟨h0 k hk,own_base ho k hk,own_lt ho k hk,e,List.mem_cons_self,cells,hc⟩
 ·obtain ⟨⟨h1,h2⟩,h3,h4,q,hq,hc⟩:=hk;exact ⟨⟨h1,h3,h4,q,List.mem_cons_of_mem _ hq,hc⟩,h2⟩
theorem R_move (h : d.R e w base ok v xs) (hm : ∀ k,ok k → w1.heap[k]? = w.heap[k]?) : d.R e w1 base ok v xs:=by
 obtain ⟨h0,inner,ho,hr⟩:=h;exact ⟨h0,inner,own_move ho (fun k hk => hm k (h0 k hk)),hr.imp_ (fun _ _ hp => d.M_move (fun k hk => hm k hk.1) hp)⟩
theorem R_lower {base' : Nat} (h : d.R e w base ok v xs) (hb : base' ≤ base) : d.R e w base' ok v xs:=by
 obtain ⟨h0,inner,ho,hr⟩:=h;exact ⟨h0,inner,own_weaken ho hb,hr.imp_ (fun _ _ hp => d.M_lower hb hp)⟩
theorem R_step (h : d.R e w base ok v xs) (hm : ∀ k,ok k → k < w.heap.size → w1.heap[k]? = w.heap[k]?) : d.R e w1 base ok v xs :=
 R_mono (R_move (R_bound h) (fun k hk => hm k hk.1 hk.2.2.1)) (fun _ hk => hk.1)
theorem M_step {x : α} {cs : List Value} (h : d.M w base ok x cs) (hm : ∀ k,ok k → k < w.heap.size → w1.heap[k]? = w.heap[k]?) : d.M w1 base ok x cs :=
 d.M_mono (fun _ hk => hk.1) (d.M_move (fun k hk => hm k hk.1 hk.2.2.1) (d.M_bound h))
theorem R_below (h : d.R e w base ok v xs) (hb : Below w.heap.size w w1) : d.R e w1 base ok v xs:=R_step h (fun k _ hk => hb.block k hk)
theorem M_below {x : α} {cs : List Value} (h : d.M w base ok x cs) (hb : Below w.heap.size w w1) : d.M w1 base ok x cs:=M_step h (fun k _ hk => hb.block k hk)
theorem R_grown (h : d.R e w base ok v xs) {row : Option Nat} (hg : w.grownBy w1 row) (hok : ∀ k,ok k → some k ≠ row) : d.R e w1 base ok v xs:=R_step h (fun k ho hk => hg.block k hk (hok k ho))
theorem R_far (h : d.R e w base ok v xs) {p : Addr} (hok : ∀ k,ok k → k ≠ p.block) (u : Value) : d.R e (w.setCell p u) base ok v xs:=R_step h (fun k ho _ => Below.heap_setCell w p u k (hok k ho))
theorem R_keep (h : d.R e w base ok v xs) {g : Nat} (hk : KeepBut w w1 g none) (hok : ∀ k,ok k → k ≠ g) : d.R e w1 base ok v xs:=R_step h (fun k ho hlt => hk.2 k hlt (hok k ho) (by simp))
theorem R_types (h : d.R e w base ok v xs) {g t : Nat} {cells : Array Value} (hb : w.heap[g]? = some (.cells cells t (0,0))) (ht : ∀ q,q ∈ e :: d.E → q ≠ t) : d.R e w base (fun k => ok k ∧ k ≠ g) v xs :=
 R_mono (R_bound h) (fun k hk => ⟨hk.1,by
  obtain ⟨_,_,_,q,hq,cells',hc⟩:=hk;rintro rfl;rw [hc] at hb;injection hb with hb
  injection hb with _ hb
  exact ht q hq hb⟩)
theorem R_reads (h : d.R e w base ok v xs) : ∃ A c,v = .slice A xs.length c ∧ xs.length ≤ c ∧ d.C w A xs.length xs:=by
 obtain ⟨A,c,he,hl,hr⟩:=OwnRow.reads h.2;exact ⟨A,c,he,hl,hr.imp_ (Below.refl _ _) (fun _ _ hp => d.K_of_M hp)⟩
theorem R_slice (h : d.R e w base ok v xs) : ∃ A c,v = .slice A xs.length c:=by
 obtain ⟨A,c,he,_⟩:=R_reads h;exact ⟨A,c,he⟩
theorem R_own (h : d.R e w base ok v xs) : ∃ inner,w.ownsRow2 base e d.sz v xs.length inner:=by
 obtain ⟨_,inner,ho,_⟩:=h;exact ⟨inner,ho⟩
theorem R_ne (h : d.R e w base ok v xs) {g t : Nat} {cells : Array Value} (hb : w.heap[g]? = some (.cells cells t (0,0))) (ht : e ≠ t) : some g ≠ v.ownBlock:=OwnRow.ne_block h.2 hb ht
end
def scalar {α : Type} (enc : α → Value) (h1 : ∀ x,(enc x).oneCell' = true) : Kd α where
 sz:=1
 E:=[]
 K:=fun _ x cs => cs = [enc x]
 M:=fun _ _ _ x cs => cs = [enc x]
 K_len:=fun h => by rw [h]; rfl
 K_one:=fun h u hu => by
  rw [h] at hu;rw [List.mem_singleton.1 hu];exact h1 _
 K_below:=fun _ h => h
 K_of_M:=fun h => h
 M_mono:=fun _ h => h
 M_bound:=fun h => h
 M_move:=fun _ h => h
 M_lower:=fun _ h => h
def int (k : IntKind) : Kd Int:=scalar (Value.int k) (fun _ => rfl)
def bool : Kd Bool:=scalar Value.bool (fun _ => rfl)
def slice {α : Type} (e : Nat) (d : Kd α) : Kd (List α) where
 sz:=1
 E:=e :: d.E
 K:=fun w xs cs => ∃ A c,cs = [.slice A xs.length c] ∧ xs.length ≤ c ∧ d.C w A xs.length xs
 M:=fun w base ok xs cs => ∃ v,cs = [v] ∧ d.R e w base ok v xs
 K_len:=by
  rintro w x cs ⟨A,c,rfl,_⟩;rfl
 K_one:=by
  rintro w x cs ⟨A,c,rfl,_⟩ u hu;rw [List.mem_singleton.1 hu];rfl
 K_below:=by
  rintro w w1 x cs hb ⟨A,c,rfl,hl,hr⟩;exact ⟨A,c,rfl,hl,C_below hr hb⟩
 K_of_M:=by
  rintro w base ok x cs ⟨v,rfl,h⟩;obtain ⟨A,c,rfl,hl,hr⟩:=R_reads h;exact ⟨A,c,rfl,hl,hr⟩
 M_mono:=by
  rintro w base ok ok' x cs hok ⟨v,rfl,h⟩;exact ⟨v,rfl,R_mono h hok⟩
 M_bound:=by
  rintro w base ok x cs ⟨v,rfl,h⟩;exact ⟨v,rfl,R_bound h⟩
 M_move:=by
  rintro w w1 base ok x cs hm ⟨v,rfl,h⟩;exact ⟨v,rfl,R_move h hm⟩
 M_lower:=by
  rintro w base base' ok x cs hb ⟨v,rfl,h⟩;exact ⟨v,rfl,R_lower h hb⟩
def pair {α β : Type} (a : Kd α) (b : Kd β) : Kd (α × β) where
 sz:=a.sz + b.sz
 E:=a.E ++ b.E
 K:=fun w x cs => ∃ c0 c1,cs = c0 ++ c1 ∧ a.K w x.1 c0 ∧ b.K w x.2 c1
 M:=fun w base ok x cs => ∃ c0 c1,cs = c0 ++ c1 ∧ a.M w base ok x.1 c0 ∧ b.M w base ok x.2 c1
 K_len:=by
  rintro w x cs ⟨c0,c1,rfl,h0,h1⟩;rw [List.length_append,a.K_len h0,b.K_len h1]
 K_one:=by
  rintro w x cs ⟨c0,c1,rfl,h0,h1⟩ u hu
  rcases List.mem_append.1 hu with hu | hu
  ·exact a.K_one h0 u hu
  ·exact b.K_one h1 u hu
 K_below:=by
  rintro w w1 x cs hb ⟨c0,c1,rfl,h0,h1⟩;exact ⟨c0,c1,rfl,a.K_below hb h0,b.K_below hb h1⟩
 K_of_M:=by
  rintro w base ok x cs ⟨c0,c1,rfl,h0,h1⟩;exact ⟨c0,c1,rfl,a.K_of_M h0,b.K_of_M h1⟩
 M_mono:=by
  rintro w base ok ok' x cs hok ⟨c0,c1,rfl,h0,h1⟩;exact ⟨c0,c1,rfl,a.M_mono hok h0,b.M_mono hok h1⟩
 M_bound:=by
  rintro w base ok x cs ⟨c0,c1,rfl,h0,h1⟩;refine ⟨c0,c1,rfl,a.M_mono ?_ (a.M_bound h0),b.M_mono ?_ (b.M_bound h1)⟩
  ·rintro k ⟨h2,h3,h4,q,hq,hc⟩;exact ⟨h2,h3,h4,q,List.mem_append_left _ hq,hc⟩
  ·rintro k ⟨h2,h3,h4,q,hq,hc⟩;exact ⟨h2,h3,h4,q,List.mem_append_right _ hq,hc⟩
 M_move:=by
  rintro w w1 base ok x cs hm ⟨c0,c1,rfl,h0,h1⟩;exact ⟨c0,c1,rfl,a.M_move hm h0,b.M_move hm h1⟩
 M_lower:=by
  rintro w base base' ok x cs hb ⟨c0,c1,rfl,h0,h1⟩;exact ⟨c0,c1,rfl,a.M_lower hb h0,b.M_lower hb h1⟩
def iso {α β : Type} (d : Kd α) (f : β → α) : Kd β where
 sz:=d.sz
 E:=d.E
 K:=fun w x cs => d.K w (f x) cs
 M:=fun w base ok x cs => d.M w base ok (f x) cs
 K_len:=d.K_len
 K_one:=d.K_one
 K_below:=d.K_below
 K_of_M:=d.K_of_M
 M_mono:=d.M_mono
 M_bound:=d.M_bound
 M_move:=d.M_move
 M_lower:=d.M_lower
def bot {α : Type} (sz : Nat) (E : List Nat) : Kd α where
 sz:=sz
 E:=E
 K:=fun _ _ _ => False
 M:=fun _ _ _ _ _ => False
 K_len:=fun h => h.elim
 K_one:=fun h => h.elim
 K_below:=fun _ h => h
 K_of_M:=fun h => h
 M_mono:=fun _ h => h
 M_bound:=fun h => h
 M_move:=fun _ h => h
 M_lower:=fun _ h => h
def upto {α : Type} (F : Kd α → Kd α) (sz : Nat) (E : List Nat) : Nat → Kd α
 | 0 => bot sz E
 | n + 1 => F (upto F sz E n)
theorem C_get {α : Type} {d : Kd α} {w : World} {A : Option Addr} {n : Nat} {xs : List α} (h : d.C w A n xs) (z : α) (i : Int) (h0 : 0 ≤ i) (h1 : i < n) :
  ∃ ad c,A = some ad ∧ c.length = d.sz ∧ d.K w (xs.getD i.toNat z) c ∧ ∀ j u,c[j]? = some u → w.cell? (ad.add (i.toNat * d.sz + j)) = some u:=ReadsRow.get_ h z i h0 h1
theorem R_appended {α : Type} {d : Kd α} {e base : Nat} {ok okp : Nat → Prop} {W w1 : World} {v v1 : Value} {xs : List α} {p : α} {inner cs : List Value} (h0 : ∀ k,v.ownBlock = some k → ok k) (hr : Reps (d.M W base (fun k => ok k ∧ some k ≠ v.ownBlock)) d.sz xs inner) (hp : d.M W base okp p cs) (hokp : ∀ k,okp k → ok k ∧ some k ≠ v.ownBlock) (hfresh : ∀ k,W.heap.size ≤ k → ok k)
  (hown : w1.ownsRow2 base e d.sz v1 (xs.length + 1) (inner ++ cs)) (hg : W.grownBy w1 v.ownBlock) (hat : v1.ownBlock = v.ownBlock ∨ ∃ b,v1.ownBlock = some b ∧ W.heap.size ≤ b) : d.R e w1 base ok v1 (xs ++ [p]):=by
 have hne : ∀ k,some k ≠ v.ownBlock → k < W.heap.size → some k ≠ v1.ownBlock:=by
  intro k hk hlt
  rcases hat with hat | ⟨b,hb,hle⟩
  ·rw [hat]; exact hk
  ·rw [hb];intro he;injection he with he
   omega
 have step : ∀ {q : α} {c : List Value} {o : Nat → Prop},d.M W base o q c → (∀ k,o k → ok k ∧ some k ≠ v.ownBlock) → d.M w1 base (fun k => ok k ∧ some k ≠ v1.ownBlock) q c:=by
  intro q c o hq ho;have h1:=d.M_move (w1:=w1) (fun k hk => hg.block k hk.2.2.1 (ho k hk.1).2) (d.M_bound hq);exact d.M_mono (fun k hk => ⟨(ho k hk.1).1,hne k (ho k hk.1).2 hk.2.2.1⟩) h1
 refine ⟨fun k hk => ?_,inner ++ cs,by rw [List.length_append,List.length_singleton]; exact hown,?_⟩
 ·rcases hat with hat | ⟨b,hb,hle⟩
  ·exact h0 k (hat ▸ hk)
  ·rw [hb] at hk;injection hk with hk
   exact hfresh k (by omega)
 ·exact (hr.imp_ (fun _ _ hq => step hq (fun _ hk => hk))).snoc (step hp hokp) (d.K_len (d.K_of_M hp))
section
variable {P : Program} {ops : Array Oper} {rest : List Oper} {o : Oper} {a : Act} {Q : Exit → Act → World → Prop} {α : Type}
theorem R_append (d : Kd α) {w0 W : World} (base : Nat) (hgd : o.guard = none) (s x : Operand) (t e : TypeId) (z : Value) (bytes : Nat)
  (ho : o.op = .call { callee:=.builtin .append,args:=#[s,x],argTypes:=#[t,t] })
  (ht : P.underlying t = some (.slice e)) (hinfo : (P.info? e).map (fun i => (i.zero,i.size,i.bytes)) = some (some z,d.sz,bytes)) (hz : z.cells.size = d.sz) (hs0 : 0 < d.sz) (hb0 : 0 < bytes)
  (v : Value) (xs : List α) (p : α) (cs : List Value) (ok okp : Nat → Prop) (hs : a.eval s = v) (hx : a.eval x = .slice (some ⟨W.heap.size,0,none⟩) 1 1) (hp : d.M W base okp p cs) (hokp : ∀ k,okp k → ok k ∧ some k ≠ v.ownBlock) (hfresh : ∀ k,W.heap.size ≤ k → ok k)
  (HO : d.R e W base ok v xs) (HB : Below base w0 W) (hbase : base ≤ W.heap.size) (hl : (xs.length + 1) * bytes ≤ 140737488355328)
  (h : ∀ v1 w1,d.R e w1 base ok v1 (xs ++ [p]) → Below base w0 w1 → W.grownBy w1 v.ownBlock → (v1.ownBlock = v.ownBlock ∨ ∃ b,v1.ownBlock = some b ∧ W.heap.size ≤ b) → wpList P ops Q rest (a.put o.dst v1) w1) :
  wpList P ops Q (o :: rest) a (W.alloc (.cells cs.toArray e)):=by
 obtain ⟨h0,inner,hown,hr⟩:=HO;refine print_append_cells base hgd s x t e z d.sz bytes ho ht hinfo hz hs0 hb0 v xs.length inner cs hs hx (d.K_len (d.K_of_M hp)) (d.K_one (d.K_of_M hp)) hown HB hbase hl ?_;intro v1 w1 hown1 hb1 hg1 hat1;exact h v1 w1 (R_appended h0 hr hp hokp hfresh hown1 hg1 hat1) hb1 hg1 hat1
end
theorem reps_scalar {α : Type} {enc : α → Value} (xs : List α) : Reps (fun (x : α) (cs : List Value) => cs = [enc x]) 1 xs (encs enc xs):=by
 refine ⟨by simp [encs],fun j p hj => ?_⟩;obtain ⟨hl,hp⟩:=List.getElem?_eq_some_iff.1 hj;have hl' : j < (encs enc xs).length:=by rw [encs_length]; exact hl
 rw [Nat.mul_one,List.drop_eq_getElem_cons hl'];simp [encs,hp]
theorem R_of_own {α : Type} {enc : α → Value} {h1 : ∀ x,(enc x).oneCell' = true} {e : Nat} {w : World} {base : Nat} {ok : Nat → Prop} {v : Value} {xs : List α} (ho : w.ownsRow2 base e 1 v xs.length (encs enc xs)) (hok : ∀ k,v.ownBlock = some k → ok k) : (scalar enc h1).R e w base ok v xs:=⟨hok,encs enc xs,ho,reps_scalar xs⟩
theorem own_of_R {α : Type} {enc : α → Value} {h1 : ∀ x,(enc x).oneCell' = true} {e : Nat} {w : World} {base : Nat} {ok : Nat → Prop} {v : Value} {xs : List α} (h : (scalar enc h1).R e w base ok v xs) : w.ownsRow2 base e 1 v xs.length (encs enc xs):=by
 obtain ⟨_,inner,ho,hr⟩:=h;have : inner = encs enc xs:=by
  apply List.ext_getElem?
  intro j
  rcases Nat.lt_or_ge j xs.length with hj | hj
  ·have h2:=hr.2 j _ (List.getElem?_eq_getElem hj);have hl : j < inner.length:=by have:=hr.1; simp [scalar] at this; omega
   have h3 : (inner.drop (j * 1)).take 1 = [enc xs[j]]:=h2;rw [Nat.mul_one,List.drop_eq_getElem_cons hl] at h3;have h4 : inner[j] = enc xs[j]:=by
    have h5:=congrArg List.head? h3;rw [List.take_succ_cons] at h5;exact Option.some.inj h5
   rw [List.getElem?_eq_getElem hl,h4];simp [encs,List.getElem?_eq_getElem hj]
  ·have h3 : inner.length = xs.length:=by have:=hr.1; simp [scalar] at this; omega
   rw [List.getElem?_eq_none (by omega),List.getElem?_eq_none (by rw [encs_length]; omega)]
 rw [← this];exact ho
theorem C_of_reads {α : Type} {enc : α → Value} {d : α} {h1 : ∀ x,(enc x).oneCell' = true} {w : World} {A : Option Addr} {n : Nat} {xs : List α} (h : ReadsOf enc d w A n xs) : (scalar enc h1).C w A n xs:=by
 refine ⟨h.1,h.2.1,fun hn => ?_⟩;obtain ⟨ad,e,hc⟩:=h.2.2 hn;refine ⟨ad,e,fun j p hj => ⟨[enc p],rfl,rfl,fun i u hu => ?_⟩⟩;obtain ⟨hl,hp⟩:=List.getElem?_eq_some_iff.1 hj;have h2:=hc j (by have:=h.1; omega);rw [List.getD_eq_getElem?_getD,hj] at h2;cases i with
 | zero =>
  have : enc p = u:=by simpa using hu
  subst this
  simpa [scalar] using h2
 | succ i => simp at hu
theorem reads_of_C {α : Type} {enc : α → Value} {d : α} {h1 : ∀ x,(enc x).oneCell' = true} {w : World} {A : Option Addr} {n : Nat} {xs : List α} (h : (scalar enc h1).C w A n xs) : ReadsOf enc d w A n xs:=by
 refine ⟨h.1,h.2.1,fun hn => ?_⟩;obtain ⟨ad,e,hc⟩:=h.2.2 hn;refine ⟨ad,e,fun j hj => ?_⟩;have hl : j < xs.length:=by have:=h.1; omega
 obtain ⟨c,_,hK,hcell⟩:=hc j _ (List.getElem?_eq_getElem hl);have hK' : c = [enc xs[j]]:=hK;subst hK';have:=hcell 0 _ rfl
 simpa [scalar,List.getD_eq_getElem?_getD,List.getElem?_eq_getElem hl] using this
end Kd
namespace Kd
structure Mono {α β : Type} (F : Kd α → Kd β) : Prop where
 sz : ∀ d d' : Kd α,d.sz = d'.sz → (F d).sz = (F d').sz
 K : ∀ d d' : Kd α,d.sz = d'.sz → (∀ w x cs,d.K w x cs → d'.K w x cs) → ∀ w x cs,(F d).K w x cs → (F d').K w x cs
 M : ∀ d d' : Kd α,d.sz = d'.sz → (∀ w base ok x cs,d.M w base ok x cs → d'.M w base ok x cs) → ∀ w base ok x cs,(F d).M w base ok x cs → (F d').M w base ok x cs
end Kd
namespace Kd
theorem R_after {α : Type} {d : Kd α} {e base : Nat} {ok : Nat → Prop} {W w1 : World} {u v v1 : Value} {xs : List α} (h : d.R e W base (fun k => ok k ∧ some k ≠ v.ownBlock) u xs) (hg : W.grownBy w1 v.ownBlock) (hat : v1.ownBlock = v.ownBlock ∨ ∃ b,v1.ownBlock = some b ∧ W.heap.size ≤ b) : d.R e w1 base (fun k => ok k ∧ some k ≠ v1.ownBlock) u xs:=by
 refine R_mono (R_move (R_bound h) (fun k hk => hg.block k hk.2.2.1 hk.1.2)) (fun k hk => ⟨hk.1.1,?_⟩)
 rcases hat with hat | ⟨b,hb,hle⟩
 ·rw [hat]; exact hk.1.2
 ·rw [hb];intro he;injection he with he
  have:=hk.2.2.1;omega
end Kd
namespace Kd
section
variable {α β : Type} {d : Kd α} {d' : Kd β} {e e' : Nat} {w w1 W : World} {base b b' : Nat} {ok ok' okv oku : Nat → Prop} {v u : Value} {xs : List α} {ys : List β}
theorem R_drew (h : d.R e w base ok v xs) : d.R e w.drew base ok v xs:=R_below h (below_drew (Below.refl _ _))
theorem R_drewN (h : d.R e w base ok v xs) (m : Nat) : d.R e (w.drewN m) base ok v xs:=R_below h (pw_below_drewN (Below.refl _ _) m)
theorem C_nil (d : Kd α) (w : World) : d.C w none ([] : List α).length []:=⟨rfl,by simp,fun h => absurd h (Nat.lt_irrefl 0)⟩
theorem C_max {A : Option Addr} {n : Nat} (h : d.C w A n xs) : n ≤ 9223372036854775807:=h.2.1
theorem R_reads' {A : Option Addr} {n c : Nat} (h : d.R e w base ok (.slice A n c) xs) : n = xs.length ∧ n ≤ c ∧ d.C w A xs.length xs:=by
 obtain ⟨A',c',he,hl,hr⟩:=R_reads h;injection he with h1 h2 h3
 subst h1;exact ⟨h2,by omega,hr⟩
theorem R_lt (h : d.R e w base ok v xs) : ∀ k,v.ownBlock = some k → k < w.heap.size:=by
 obtain ⟨inner,ho⟩:=R_own h;exact own_lt ho
theorem R_base (h : d.R e w base ok v xs) : ∀ k,v.ownBlock = some k → base ≤ k:=by
 obtain ⟨inner,ho⟩:=R_own h;exact own_base ho
theorem R_away (h : d.R e w base ok v xs) {g : Nat} (hok : ∀ k,ok k → k ≠ g) : some g ≠ v.ownBlock:=fun e => hok g (h.1 g e.symm) rfl
theorem R_form (h : d.R e w base ok v xs) (hp : 0 < xs.length) : ∃ g cap,v = .slice (some ⟨g,0,none⟩) xs.length cap ∧ base ≤ g ∧ g < w.heap.size ∧ ∃ cells,w.heap[g]? = some (.cells cells e (0,0)):=by
 obtain ⟨inner,ho⟩:=R_own h;obtain ⟨g,cap,he,hb,hl⟩:=ho.form hp;obtain ⟨cells,hc⟩:=own_typed ho g (by rw [he]; simp [Value.ownBlock]);exact ⟨g,cap,he,hb,hl,cells,hc⟩
theorem R_elder (hu : d'.R e' W b oku u ys) (h : d.R e w1 W.heap.size okv v xs) (hb : Below W.heap.size W w1) : d'.R e' w1 b (fun k => oku k ∧ some k ≠ v.ownBlock) u ys:=by
 obtain ⟨inner,ho⟩:=R_own h;exact R_mono (R_move (R_bound hu) (fun k hk => hb.block k hk.2.2.1)) (fun k hk => ⟨hk.1,fun he => by have:=own_base ho k he.symm; have:=hk.2.2.1; omega⟩)
end
section
variable {w W : World} {A : Option Addr} {n : Nat}
theorem at_int {k : IntKind} {xs : List Int} (h : (Kd.int k).C w A n xs) (i : Int) (h0 : 0 ≤ i) (h1 : i < n) : ∃ ad,A = some ad ∧ w.cell? (ad.add i.toNat) = some (.int k (rd xs i)) :=
 ReadsOf.at_ (reads_of_C (enc:=Value.int k) (d:=(0 : Int)) (h1:=fun _ => rfl) h) i h0 h1
variable {α : Type} {enc : α → Value} {h1 : ∀ x,(enc x).oneCell' = true} {e base g cap : Nat} {ok : Nat → Prop} {xs : List α}
theorem R_cell (d : α) (h : (scalar enc h1).R e W base ok (.slice (some ⟨g,0,none⟩) xs.length cap) xs) (i : Int) (h0 : 0 ≤ i) (hi : i < xs.length) : W.cell? ⟨g,i.toNat,none⟩ = some (enc (rdOf d xs i)) ∧ W.frozen? ⟨g,i.toNat,none⟩ = false:=own_at_of (own_of_R h) i h0 hi
theorem R_put (h : (scalar enc h1).R e W base ok (.slice (some ⟨g,0,none⟩) xs.length cap) xs) (i : Int) (x : α) : (scalar enc h1).R e (W.setCell ⟨g,i.toNat,none⟩ (enc x)) base ok (.slice (some ⟨g,0,none⟩) xs.length cap) (xs.set i.toNat x) ∧ W.grownBy (W.setCell ⟨g,i.toNat,none⟩ (enc x)) (some g):=by
 obtain ⟨ho,hg⟩:=own_store_of (own_of_R h) i x;exact ⟨R_of_own (by rw [List.length_set]; exact ho) h.1,hg⟩
end
section
variable {P : Program} {ops : Array Oper} {rest : List Oper} {o : Oper} {a : Act} {Q : Exit → Act → World → Prop}
theorem event_run {W w1 : World} {v : Value} (hgd : o.guard = none) (hrun : (execOp a.eval o).run P W = .ok (.value v) w1) (h : wpList P ops Q rest (a.put o.dst v) w1) : wpList P ops Q (o :: rest) a W:=by
 refine wpList_plain hgd fun K hK => ?_
 unfold Oper.wp
 rw [hrun];exact hK _ _ h
variable {α : Type}
theorem R_lit (d : Kd α) {w0 W : World} (base e : Nat) (hgd : o.guard = none) {N : Tmp} (_hd : o.dst = some N) {xs : List α} {inner : List Value} {ok okp : Nat → Prop}
  (hrun : (execOp a.eval o).run P W = .ok (.value (.slice (some ⟨W.heap.size,0,none⟩) xs.length xs.length)) (W.alloc (.cells inner.toArray e)))
  (hrep : Reps (d.M W base okp) d.sz xs inner) (hok : ∀ k,okp k → ok k) (hfresh : ok W.heap.size) (HB : Below base w0 W) (hbase : base ≤ W.heap.size) (hm : xs.length ≤ 9223372036854775807)
  (h : ∀ v1 w1,d.R e w1 base ok v1 xs → Below base w0 w1 → W.grownBy w1 none → (∃ b,v1.ownBlock = some b ∧ W.heap.size ≤ b) → wpList P ops Q rest (a.put o.dst v1) w1) : wpList P ops Q (o :: rest) a W:=by
 refine event_run hgd hrun (h _ _ ⟨fun k hk => ?_,inner,?_,?_⟩ (HB.alloc hbase _) (World.grownBy_alloc W _ none) ⟨W.heap.size,by simp [Value.ownBlock],Nat.le_refl _⟩)
 ·have : W.heap.size = k:=by simpa [Value.ownBlock] using hk
  subst this;exact hfresh
 ·have h2:=World.ownsRow2_lit (base:=base) (e:=e) (size:=d.sz) W inner.toArray xs.length hbase (by simpa [maxLen] using hm) (by simpa using hrep.1)
  simpa using h2
 ·refine hrep.imp_ (fun p c hp => d.M_mono (fun k hk => ⟨hok k hk.1,fun he => ?_⟩) (M_below (d.M_bound hp) (below_alloc (Below.refl _ _) _)));have h3 : k = W.heap.size:=by simpa [Value.ownBlock] using he
  have:=hk.2.2.1;omega
theorem reps_made {α : Type} {R : α → List Value → Prop} {z : Value} {size : Nat} {z0 : α} (hz : z.cells.size = size) (hs : 0 < size) (h0 : R z0 z.cells.toList) (m : Nat) : Reps R size (List.replicate m z0) (madeCells z.cells (m * size)).toList:=by
 refine ⟨by simp [size_madeCells],fun j p hj => ?_⟩;obtain ⟨hjl,hp⟩:=List.getElem?_eq_some_iff.1 hj;have hjm : j < m:=by simpa using hjl
 have hp' : z0 = p:=by simpa using hp
 subst hp';have hle : j * size + size ≤ m * size:=by rw [← Nat.succ_mul]; exact Nat.mul_le_mul_right _ hjm
 have : ((madeCells z.cells (m * size)).toList.drop (j * size)).take size = z.cells.toList:=by
  apply List.ext_getElem
  ·simp [size_madeCells,hz];omega
  ·intro i h1 h2;have hi : i < size:=by rw [Array.length_toList,hz] at h2; exact h2
   have hmod : (j * size + i) % size = i:=by
    rw [Nat.mul_comm,Nat.mul_add_mod];exact Nat.mod_eq_of_lt hi
   simp [madeCells,hz,hmod];rw [getElem!_pos z.cells i (by omega)]
 rw [this];exact h0
theorem R_make (d : Kd α) {w0 W : World} (base e : Nat) (hgd : o.guard = none) {N : Tmp} (hd : o.dst = some N) (t : TypeId) (x y : Operand) (ho : o.op = .makeSlice t x y) (n : Int) (hx : a.eval x = .int .i64 n) (hy : a.eval y = .int .i64 n)
  (ht : P.underlying t = some (.slice e)) (z : Value) (bytes : Nat) (hinfo : (P.info? e).map (fun i => (i.zero,i.size,i.bytes)) = some (some z,d.sz,bytes)) (hz : z.cells.size = d.sz) (hs0 : 0 < d.sz) (hb0 : 0 < bytes)
  (z0 : α) {ok okp : Nat → Prop} (hzero : d.M W base okp z0 z.cells.toList) (hok : ∀ k,okp k → ok k) (hfresh : ok W.heap.size) (h0 : 0 ≤ n) (hl : n.toNat * bytes ≤ 281474976710656) (HB : Below base w0 W) (hbase : base ≤ W.heap.size)
  (h : ∀ v1 w1,d.R e w1 base ok v1 (List.replicate n.toNat z0) → Below base w0 w1 → W.grownBy w1 none → (∃ b,v1.ownBlock = some b ∧ W.heap.size ≤ b) → wpList P ops Q rest (a.put o.dst v1) w1) : wpList P ops Q (o :: rest) a W:=by
 obtain ⟨m,rfl⟩:=Int.eq_ofNat_of_zero_le h0;simp only [Int.toNat_natCast] at hl h;obtain ⟨i0,hi,hzz⟩:=Option.map_eq_some_iff.1 hinfo;simp only [Prod.mk.injEq] at hzz;obtain ⟨hz0,hz1,hz2⟩:=hzz;have hm : m ≤ 281474976710656:=Nat.le_trans (Nat.le_mul_of_pos_right _ hb0) hl;have hr:=run_make (P:=P) W t e i0 z ht hi hz0 .i64 .i64 (m : Int) (m : Int) (by omega) (by omega)
  (by
   have h3 : ((i0.bytes * m : Nat) : Int) ≤ 281474976710656:=by rw [hz2,Nat.mul_comm]; omega
   rwa [Int.natCast_mul] at h3) (by omega)
 simp only [Int.toNat_natCast] at hr;rw [hz1] at hr;refine R_lit d base e hgd hd (xs:=List.replicate m z0) (inner:=(madeCells z.cells (m * d.sz)).toList) (okp:=okp) (ok:=ok) ?_ (reps_made hz hs0 hzero m) hok hfresh HB hbase (by simp; omega) h;simp [execOp,ho,hx,hy,hr]
end
end Kd
section
variable {P : Program}
theorem cut_to (t e : TypeId) (kh : IntKind) {i : TypeInfo} (ht : P.underlying t = some (.slice e)) (hi : P.info? e = some i) (A : Option Addr) (n c : Nat) (j : Int) (h0 : 0 ≤ j) (hm : j ≤ n) (hc : n ≤ c) :
  ∀ W : World,(Instr.slice t (.slice A n c) none (some (.int kh j)) none).run P W = .ok (.slice A j.toNat c) W:=by
 intro W;have hel : P.elem t = e:=by simp [Program.elem,ht]
 have hu : P.underlying t = some (.slice (P.elem t)):=by rw [hel]; exact ht
 have ha : (A.map fun x => x.add 0) = A:=by cases A <;> simp [Addr.add]
 rw [run_slice_h W t A n c hu kh j h0 (by omega),hel];simp [sizeOf,typeInfo,hi,sliced,Result.andThen,ha]
theorem cut_from (t e : TypeId) (kl : IntKind) {i : TypeInfo} (ht : P.underlying t = some (.slice e)) (hi : P.info? e = some i) (size : Nat) (hsz : i.size = size) (A : Option Addr) (n c : Nat) (j : Int) (h0 : 0 ≤ j) (hm : j ≤ n) :
  ∀ W : World,(Instr.slice t (.slice A n c) (some (.int kl j)) none none).run P W = .ok (.slice (if c = j.toNat then A else A.map (·.add (j.toNat * size))) (n - j.toNat) (c - j.toNat)) W:=by
 intro W;have hel : P.elem t = e:=by simp [Program.elem,ht]
 have hu : P.underlying t = some (.slice (P.elem t)):=by rw [hel]; exact ht
 rw [run_slice_l W t A n c hu kl j h0 hm,hel];simp [sizeOf,typeInfo,hi,hsz,sliced,Result.andThen]
end
def QRow (w : World) (base : Nat) (e : TypeId) (size : Nat) (v : Value) (n : Nat) (xs : List Value) : Prop :=
 xs.length = n * size ∧
 ((n = 0 ∧ ∃ A,v = .slice A 0 0 ∧ ∀ a,A = some a → base ≤ a.block ∧ ∃ cur,w.heap[a.block]? = some (.cells cur e (0,0))) ∨
 ∃ g off cap cur,v = .slice (some ⟨g,off * size,none⟩) n cap ∧ base ≤ g ∧ w.heap[g]? = some (.cells cur e (0,0)) ∧ n ≤ cap ∧ off + cap ≤ maxLen ∧ (off + cap) * size ≤ cur.size ∧ (cur.toList.drop (off * size)).take (n * size) = xs)
section
variable {w w1 : World} {base n size : Nat} {e : TypeId} {v : Value} {xs : List Value}
theorem add_at (g o j : Nat) : (⟨g,o,none⟩ : Addr).add j = ⟨g,o + j,none⟩:=by unfold Addr.add; split <;> simp_all
theorem setCells_far {g : Nat} : ∀ (vs : List Value) (o : Nat) {w : World} (k : Nat),k ≠ g → (w.setCells g o vs).heap[k]? = w.heap[k]?
 | [],_,_,_,_ => rfl
 | v :: r,o,w,k,hk => by
  rw [World.setCells,setCells_far r (o + 1) k hk];exact Below.heap_setCell w ⟨g,o,none⟩ v k hk
theorem setCells_same (g : Nat) : ∀ (vs : List Value) (o : Nat) (w : World),(w.setCells g o vs).os = w.os ∧ (w.setCells g o vs).tape = w.tape ∧ (w.setCells g o vs).output = w.output ∧ (w.setCells g o vs).heap.size = w.heap.size
 | [],_,_ => ⟨rfl,rfl,rfl,rfl⟩
 | v :: r,o,w => by
  obtain ⟨h1,h2,h3,h4⟩:=setCells_same g r (o + 1) (w.setCell ⟨g,o,none⟩ v);rw [World.setCells];exact ⟨h1,h2,h3,by rw [h4]; simp [World.setCell]⟩
theorem setCells_row {g : Nat} {e : TypeId} : ∀ (vs : List Value) (o : Nat) (w : World) (cur : Array Value),w.heap[g]? = some (.cells cur e (0,0)) → o + vs.length ≤ cur.size →
  ∃ cur',(w.setCells g o vs).heap[g]? = some (.cells cur' e (0,0)) ∧ cur'.size = cur.size ∧ cur'.toList = cur.toList.take o ++ vs ++ cur.toList.drop (o + vs.length)
 | [],o,w,cur,h,_ => ⟨cur,h,rfl,by simp⟩
 | v :: r,o,w,cur,h,hl => by
  have h2:=blk_set h o v;simp only [List.length_cons] at hl;obtain ⟨cur',h3,h4,h5⟩:=setCells_row r (o + 1) (w.setCell ⟨g,o,none⟩ v) _ h2 (by simp; omega);refine ⟨cur',h3,by rw [h4]; simp,?_⟩;rw [h5,Array.toList_setIfInBounds];have ho : o < cur.toList.length:=by rw [Array.length_toList]; omega
  rw [List.take_set,List.drop_set_of_lt (by omega)];simp only [List.length_cons];rw [show o + 1 + r.length = o + (r.length + 1) by omega]
  congr 1
  rw [List.take_succ_eq_append_getElem ho,List.set_append_right _ _ (by rw [List.length_take]; omega)];have ho' : o < cur.size:=by omega
  simp [Nat.min_eq_left (Nat.le_of_lt ho')]
end
namespace Kd
theorem reps_take {α : Type} {R : α → List Value → Prop} {size m : Nat} {ps : List α} {cs : List Value} (h : Reps R size ps cs) (hm : m ≤ ps.length) : Reps R size (ps.take m) (cs.take (m * size)):=by
 refine ⟨by rw [List.length_take,List.length_take,h.1,Nat.min_eq_left hm,Nat.min_eq_left (Nat.mul_le_mul_right _ hm)],fun j p hj => ?_⟩;rw [List.getElem?_take] at hj
 split at hj
 ·rename_i hjm;have:=h.2 j p hj;have hle : j * size + size ≤ m * size:=by rw [← Nat.succ_mul]; exact Nat.mul_le_mul_right _ hjm
  rw [List.drop_take,List.take_take,Nat.min_eq_left (by omega)];exact this
 ·cases hj
def Q {α : Type} (d : Kd α) (e : Nat) (w : World) (base : Nat) (ok : Nat → Prop) (v : Value) (xs : List α) : Prop :=
 (∀ k,v.ownBlock = some k → ok k) ∧ ∃ inner,QRow w base e d.sz v xs.length inner ∧ Reps (d.M w base (fun k => ok k ∧ some k ≠ v.ownBlock)) d.sz xs inner
end Kd
namespace Kd
section
variable {α : Type} {d : Kd α} {e e' : Nat} {w w1 W : World} {base : Nat} {ok : Nat → Prop} {u v : Value} {xs : List α}
theorem R_typed (h : d.R e w base ok v xs) : ∀ k,v.ownBlock = some k → ∃ cells,w.heap[k]? = some (.cells cells e (0,0)):=by
 obtain ⟨inner,ho⟩:=R_own h;exact fun k hk => own_typed ho k hk
theorem R_over' (h : d.R e W base ok u xs) (hty : ∀ k,v.ownBlock = some k → ∃ cells,W.heap[k]? = some (.cells cells e' (0,0))) (ht : ∀ q,q ∈ e :: d.E → q ≠ e') (hg : W.grownBy w1 v.ownBlock) : d.R e w1 base ok u xs:=by
 refine R_mono (R_move (R_bound h) (fun k hk => hg.block k hk.2.2.1 (fun he => ?_))) (fun _ hk => hk.1);obtain ⟨_,_,_,q,hq,cells,hc⟩:=hk;obtain ⟨cells',hc'⟩:=hty k he.symm;rw [hc] at hc';injection hc' with hc'
 injection hc' with _ hc'
 exact ht q hq hc'
theorem R_elder' (hu : d.R e W base ok u xs) (hbase : ∀ k,v.ownBlock = some k → W.heap.size ≤ k) (hb : Below W.heap.size W w1) : d.R e w1 base (fun k => ok k ∧ some k ≠ v.ownBlock) u xs :=
 R_mono (R_move (R_bound hu) (fun k hk => hb.block k hk.2.2.1)) (fun k hk => ⟨hk.1,fun he => by have:=hbase k he.symm; have:=hk.2.2.1; omega⟩)
theorem R_new' (h : d.R e w1 W.heap.size ok v xs) (hlt : ∀ k,u.ownBlock = some k → k < W.heap.size) : d.R e w1 W.heap.size (fun k => ok k ∧ some k ≠ u.ownBlock) v xs :=
 R_mono (R_bound h) (fun k hk => ⟨hk.1,fun he => by have:=hlt k he.symm; have:=hk.2.1; omega⟩)
end
end Kd
theorem far_slice {n c g : Nat} {A : Option Addr} (hne : some g ≠ (Value.slice A n c).ownBlock) : ∀ ad,A = some ad → 0 < n → ad.block ≠ g:=by
 rintro ad rfl _ rfl;exact hne (by simp [Value.ownBlock])
theorem seg_get {α : Type} (a seg : List α) (o : Nat) (h : o + seg.length ≤ a.length) (q : Nat) :
  (a.take o ++ seg ++ a.drop (o + seg.length))[q]? = if q < o then a[q]? else if q < o + seg.length then seg[q - o]? else a[q]?:=by
 have hl : (a.take o).length = o:=by rw [List.length_take]; omega
 rw [List.append_assoc]
 by_cases h1 : q < o
 case pos => rw [if_pos h1,List.getElem?_append_left (by omega),List.getElem?_take,if_pos h1]
 rw [if_neg h1,List.getElem?_append_right (by omega),hl]
 by_cases h2 : q < o + seg.length
 case pos => rw [if_pos h2,List.getElem?_append_left (by omega)]
 rw [if_neg h2,List.getElem?_append_right (by omega),List.getElem?_drop]
 congr 1
 omega
namespace Kd
section
variable {α : Type} {d : Kd α} {e base g n cap : Nat} {ok okp : Nat → Prop} {W : World} {xs : List α}
theorem R_elem (h : d.R e W base ok (.slice (some ⟨g,0,none⟩) n cap) xs) (z : α) (i : Int) (h0 : 0 ≤ i) (h1 : i < n) :
  ∃ c,c.length = d.sz ∧ d.M W base (fun k => ok k ∧ k ≠ g) (xs.getD i.toNat z) c ∧ (∀ j u,c[j]? = some u → W.cell? ⟨g,i.toNat * d.sz + j,none⟩ = some u) ∧ ∀ j,W.frozen? ⟨g,i.toNat * d.sz + j,none⟩ = false:=by
 obtain ⟨hn,hnc,hC⟩:=R_reads' h;obtain ⟨_,inner,ho,hr⟩:=h;have hil : i.toNat < xs.length:=by omega
 have hseg : i.toNat * d.sz + d.sz ≤ inner.length:=by rw [hr.1,← Nat.succ_mul]; exact Nat.mul_le_mul_right _ hil
 have hM:=hr.2 i.toNat _ (List.getElem?_eq_getElem hil);refine ⟨(inner.drop (i.toNat * d.sz)).take d.sz,by rw [List.length_take,List.length_drop]; omega,?_,fun j u hu => ?_,fun j => ?_⟩
 ·rw [List.getD_eq_getElem?_getD,List.getElem?_eq_getElem hil];exact d.M_mono (fun k hk => ⟨hk.1,fun he => hk.2 (by rw [he]; simp [Value.ownBlock])⟩) hM
 ·rw [List.getElem?_take] at hu
  split at hu
  ·rw [List.getElem?_drop] at hu;have:=ho.cells (g:=g) (by simp [Value.ownBlock]) _ u hu
   rwa [add_plain] at this
  ·cases hu
 ·obtain ⟨cells,hc⟩:=own_typed ho g (by simp [Value.ownBlock]);exact blk_frozen hc _
theorem R_seg (h : d.R e W base ok (.slice (some ⟨g,0,none⟩) n cap) xs) (i : Int) (h0 : 0 ≤ i) (h1 : i < n) {c seg : List Value} {j : Nat} (hcl : c.length = d.sz) (hcc : ∀ j u,c[j]? = some u → W.cell? ⟨g,i.toNat * d.sz + j,none⟩ = some u)
  (hj : j + seg.length ≤ d.sz) {x' : α} (hM : d.M W base okp x' (c.take j ++ seg ++ c.drop (j + seg.length))) (hokp : ∀ k,okp k → ok k ∧ k ≠ g) :
  d.R e (W.setCells g (i.toNat * d.sz + j) seg) base ok (.slice (some ⟨g,0,none⟩) n cap) (xs.set i.toNat x') ∧ W.grownBy (W.setCells g (i.toNat * d.sz + j) seg) (some g):=by
 obtain ⟨hn,hnc,_⟩:=R_reads' h;obtain ⟨hok,inner,ho,hr⟩:=h;have hil : i.toNat < xs.length:=by omega
 have hseg : i.toNat * d.sz + d.sz ≤ inner.length:=by rw [hr.1,← Nat.succ_mul]; exact Nat.mul_le_mul_right _ hil
 have hin : inner.length = n * d.sz:=by rw [hr.1,hn]
 obtain ⟨ho1,ho2⟩:=ho
 rcases ho2 with ⟨hv,_⟩ | ⟨g',cap',cur,hv,hb,hh,hnc',hcm,hcs,ht⟩
 ·cases hv
 injection hv with ha _ hc
 injection ha with ha
 injection ha with hg
 subst hg; subst hc;have hfit : i.toNat * d.sz + j + seg.length ≤ cur.size:=by
  have : n * d.sz ≤ cap * d.sz:=Nat.mul_le_mul_right _ hnc;omega
 obtain ⟨cur',h3,h4,h5⟩:=setCells_row seg (i.toNat * d.sz + j) W cur hh hfit;obtain ⟨s1,s2,s3,s4⟩:=setCells_same g seg (i.toNat * d.sz + j) W;have hfar : ∀ k,k ≠ g → (W.setCells g (i.toNat * d.sz + j) seg).heap[k]? = W.heap[k]?:=fun k hk => setCells_far seg _ k hk
 have hcin : ∀ q,q < d.sz → c[q]? = inner[i.toNat * d.sz + q]?:=by
  intro q hq;have hq' : q < c.length:=by omega
  have h6:=hcc q _ (List.getElem?_eq_getElem hq');rw [cell_of_row W g _ cur e (0,0) hh] at h6;rw [List.getElem?_eq_getElem hq',← h6,← ht,List.getElem?_take,if_pos (by rw [← hn]; omega),Array.getElem?_toList]
 refine ⟨⟨hok,inner.take (i.toNat * d.sz + j) ++ seg ++ inner.drop (i.toNat * d.sz + j + seg.length),⟨?_,.inr ⟨g,cap,cur',by rw [List.length_set,hn],hb,h3,by rw [List.length_set,← hn]; exact hnc,hcm,by rw [h4]; exact hcs,?_⟩⟩,?_⟩,
  ⟨s1,s2,s3,by rw [s4]; exact Nat.le_refl _,fun k _ hk => hfar k (fun he => hk (by rw [he]))⟩⟩
 ·rw [List.length_set];simp only [List.length_append,List.length_take,List.length_drop];rw [hr.1] at hseg ⊢;omega
 ·rw [List.length_set,← hn]
  apply List.ext_getElem?
  intro q;rw [List.getElem?_take,h5];rw [seg_get cur.toList seg (i.toNat * d.sz + j) (by rw [Array.length_toList]; omega) q,seg_get inner seg (i.toNat * d.sz + j) (by omega) q];have hcur : ∀ q,q < n * d.sz → cur.toList[q]? = inner[q]?:=by
   intro q hq;rw [← ht,List.getElem?_take,if_pos (by rw [← hn]; exact hq)]
  by_cases hq : q < n * d.sz
  case pos => rw [if_pos hq,hcur q hq]
  rw [if_neg hq,if_neg (by omega),if_neg (by omega),List.getElem?_eq_none (by omega)]
 ·refine ⟨?_,fun m p hm => ?_⟩
  ·rw [List.length_set];simp only [List.length_append,List.length_take,List.length_drop];rw [hr.1] at hseg ⊢;omega
  ·have hml : m < xs.length:=by
    have:=(List.getElem?_eq_some_iff.1 hm).1
    rwa [List.length_set] at this
   have hmfit : m * d.sz + d.sz ≤ inner.length:=by rw [hr.1,← Nat.succ_mul]; exact Nat.mul_le_mul_right _ hml
   have hgo : some g = (Value.slice (some ⟨g,0,none⟩) n cap).ownBlock:=by simp [Value.ownBlock]
   by_cases hmi : m = i.toNat
   case neg =>
    rw [List.getElem?_set_ne (by omega)] at hm;have hold:=hr.2 m p hm;have hcells : ((inner.take (i.toNat * d.sz + j) ++ seg ++ inner.drop (i.toNat * d.sz + j + seg.length)).drop (m * d.sz)).take d.sz = (inner.drop (m * d.sz)).take d.sz:=by
     apply List.ext_getElem?
     intro q;rw [List.getElem?_take,List.getElem?_take,List.getElem?_drop,List.getElem?_drop,seg_get inner seg _ (by omega)]
     by_cases hq : q < d.sz
     case neg => rw [if_neg hq,if_neg hq]
     rw [if_pos hq,if_pos hq]
     rcases Nat.lt_or_gt_of_ne hmi with hlt | hgt
     ·have : m * d.sz + d.sz ≤ i.toNat * d.sz:=by rw [← Nat.succ_mul]; exact Nat.mul_le_mul_right _ hlt
      rw [if_pos (by omega)]
     ·have : i.toNat * d.sz + d.sz ≤ m * d.sz:=by rw [← Nat.succ_mul]; exact Nat.mul_le_mul_right _ hgt
      rw [if_neg (by omega),if_neg (by omega)]
    rw [hcells];refine d.M_move (fun k hk => hfar k (fun he => hk.2 (by rw [he]; exact hgo))) hold
   subst hmi;rw [List.getElem?_set_self (by omega)] at hm;injection hm with hm
   subst hm;have hcells : ((inner.take (i.toNat * d.sz + j) ++ seg ++ inner.drop (i.toNat * d.sz + j + seg.length)).drop (i.toNat * d.sz)).take d.sz = c.take j ++ seg ++ c.drop (j + seg.length):=by
    apply List.ext_getElem?
    intro q;rw [List.getElem?_take,List.getElem?_drop,seg_get inner seg _ (by omega),seg_get c seg j (by omega) q]
    by_cases hq : q < d.sz
    case neg => rw [if_neg hq,if_neg (by omega),if_neg (by omega),List.getElem?_eq_none (by omega)]
    rw [if_pos hq,hcin q hq]
    by_cases hq1 : q < j
    case pos => rw [if_pos (by omega),if_pos hq1]
    rw [if_neg (by omega),if_neg hq1]
    by_cases hq2 : q < j + seg.length
    case neg => rw [if_neg (by omega),if_neg hq2]
    rw [if_pos (by omega),if_pos hq2]
    congr 1
    omega
   rw [hcells];refine d.M_mono (fun k hk => ?_) (d.M_move (w1:=W.setCells g (i.toNat * d.sz + j) seg) (fun k hk => hfar k (hokp k hk).2) hM);exact ⟨(hokp k hk).1,fun he => (hokp k hk).2 (by rw [← hgo] at he; injection he)⟩
end
end Kd
theorem run_store_run {P : Program} {w : World} {g o : Nat} {e : TypeId} {cur : Array Value} (t : TypeId) (u : Value) (seg : List Value) (hh : w.heap[g]? = some (.cells cur e (0,0))) (hu : u.cells.toList = seg) (ht : (P.info? t).map (·.size) = some seg.length)
  (hfit : o + seg.length ≤ cur.size) (h1 : ∀ q ∈ seg,q.oneCell' = true) : (Instr.storeAt t (.pointer (some ⟨g,o,none⟩)) u).run P w = .ok () (w.setCells g o seg):=by
 obtain ⟨i,hi,hsz⟩:=Option.map_eq_some_iff.1 ht;have hc : u.cells.size = i.size:=by rw [hsz,← hu,Array.length_toList]
 have hst:=run_storeCells_cells (P:=P) g o seg 0 w (fun j hj => by rw [cell_of_row w g _ cur e (0,0) hh]; simp; omega) (fun j _ => blk_frozen hh _) h1;simp only [Nat.add_zero] at hst;simp [Instr.storeAt,Instr.sureAddr,storeVar,sizeOf,typeInfo,hi,hc,hu,hst]
theorem below_size {w W : World} (h : Below w.heap.size w W) : w.heap.size ≤ W.heap.size:=h.size
theorem below_step {w W w2 : World} (h : Below w.heap.size w W) (k : Below W.heap.size W w2) : Below w.heap.size w w2:=below_then h h.size k
theorem below_set {w W : World} {g j : Nat} {v : Value} (h : Below w.heap.size w W) (hg : w.heap.size ≤ g) : Below w.heap.size w (W.setCell ⟨g,j,none⟩ v):=h.setCell hg _
theorem keep_drewN {w W : World} {g : Nat} {row : Option Nat} (h : KeepBut w W g row) (m : Nat) : KeepBut w (W.drewN m) g row:=h
theorem keep_alloc {w W : World} {g : Nat} (h : KeepBut w W g none) (o : Obj) : KeepBut w (W.alloc o) g none:=h.trans (KeepBut.of_grown (World.grownBy_alloc W o none) g) (.inl rfl)
theorem keep_cell {w W : World} {g : Nat} (h : KeepBut w W g none) {a : Addr} {v : Value} (hc : w.cell? a = some v) (hne : a.block ≠ g) : W.cell? a = some v:=by
 have:=h.2 a.block (World.block_lt_of_cell? w a hc) hne (by simp)
 simpa [World.cell?,this] using hc
theorem add_block (a : Addr) (i : Nat) : (a.add i).block = a.block:=by unfold Addr.add; split <;> rfl
theorem below_weaken {w0 w w1 : World} {B : Nat} (h : Below w0.heap.size w0 w) (hB : w0.heap.size ≤ B) (k : Below B w w1) : Below w0.heap.size w0 w1 :=
 h.trans ⟨k.os,k.tape,k.output,k.size,fun i hi => k.block i (Nat.lt_of_lt_of_le hi hB)⟩
theorem own_base' {w : World} {base : Nat} {e : TypeId} {size n : Nat} {v : Value} {xs : List Value} (h : w.ownsRow2 base e size v n xs) : v.ownBlock = none ∨ ∃ b,v.ownBlock = some b ∧ base ≤ b:=by
 cases hv : v.ownBlock with
 | none => exact .inl rfl
 | some b => exact .inr ⟨b,rfl,own_base h b hv⟩
theorem keep_size {w W : World} {g : Nat} {row : Option Nat} (h : KeepBut w W g row) : w.heap.size ≤ W.heap.size:=h.1
theorem cell_far {W : World} {p a : Addr} (h : a.block ≠ p.block) (u : Value) : (W.setCell p u).cell? a = W.cell? a:=by
 have:=Below.heap_setCell W p u a.block h;simp [World.cell?,this]
theorem blk_put {w : World} {g : Nat} {t : TypeId} {cs cs' : Array Value} (h : w.heap[g]? = some (.cells cs t (0,0))) (i : Nat) (u : Value) (e : cs.setIfInBounds i u = cs') : (w.setCell ⟨g,i,none⟩ u).heap[g]? = some (.cells cs' t (0,0)):=e ▸ blk_set h i u
theorem keep_far {w W : World} {g : Nat} {row : Option Nat} (h : KeepBut w W g row) {p : Addr} (hp : w.heap.size ≤ p.block) (u : Value) : KeepBut w (W.setCell p u) g row :=
 ⟨by simpa [World.setCell] using h.1,fun i hi hg hr => (Below.heap_setCell W p u i (by omega)).trans (h.2 i hi hg hr)⟩
theorem own_blk {W : World} {base n c : Nat} {e : TypeId} {size g : Nat} {ad : Addr} {xs : List Value} (_ : W.ownsRow2 base e size (.slice (some ad) n c) n xs) (hne : some g ≠ (Value.slice (some ad) n c).ownBlock) : ad.block ≠ g:=by
 rintro rfl;exact hne (by simp [Value.ownBlock])
theorem below_drew1 {base : Nat} {w W : World} (h : Below base w W) : Below base w W.drew:=h.drew
theorem keep_drew {w W : World} {g : Nat} {row : Option Nat} (h : KeepBut w W g row) : KeepBut w W.drew g row:=h
namespace Kd
section
variable {α β : Type} {d : Kd α} {d' : Kd β} {e e' base base' n : Nat} {ok ok' : Nat → Prop} {w W w1 W1 : World} {v u : Value} {xs : List α} {ys : List β} {A : Option Addr} {c : Nat}
theorem own_blk {ad : Addr} {g : Nat} (hne : some g ≠ (Value.slice (some ad) n c).ownBlock) : ad.block ≠ g:=by
 rintro rfl;exact hne (by simp [Value.ownBlock])
theorem R_base2 (h : d.R e w base ok v xs) : v.ownBlock = none ∨ ∃ k,v.ownBlock = some k ∧ base ≤ k:=by
 obtain ⟨inner,ho⟩:=R_own h;exact own_base' ho
end
end Kd
namespace Kd
section
variable {α : Type} {d : Kd α} {e base g : Nat} {ok : Nat → Prop} {w w1 : World} {v : Value} {xs : List α} {o : Obj}
theorem R_elderB (h : d.R e w base ok v xs) (a : Nat) (ha : w.heap.size ≤ a) : d.R e w base (fun k => ok k ∧ k ≠ a) v xs:=R_mono (R_bound h) (fun k hk => ⟨hk.1,by have:=hk.2.2.1; omega⟩)
theorem freshB (hb : w.heap[g]? = some o) : ∀ k,w.heap.size ≤ k → k ≠ g:=fun k hk => by have:=blk_lt hb; omega
end
end Kd
section
variable {P : Program} {ops : Array Oper} {rest : List Oper} {o : Oper} {a : Act} {Q : Exit → Act → World → Prop}
theorem box_event {W : World} (hgd : o.guard = none) {N : Tmp} (_hd : o.dst = some N) {cs : Array Value} {t : TypeId}
  (hrun : (execOp a.eval o).run P W = .ok (.value (.pointer (some ⟨W.heap.size,0,none⟩))) (W.alloc (.cells cs t (0,0))))
  (h : ∀ g,g = W.heap.size → ∀ w1,w1.heap[g]? = some (.cells cs t (0,0)) → Below W.heap.size W w1 → wpList P ops Q rest (a.put o.dst (.pointer (some ⟨g,0,none⟩))) w1) : wpList P ops Q (o :: rest) a W :=
 Kd.event_run hgd hrun (h _ rfl _ (blk_new W _) (below_alloc (Below.refl _ _) _))
end
namespace Kd
section
variable {α : Type} {enc : α → Value} {h1 : ∀ x,(enc x).oneCell' = true} {e base g n cap : Nat} {ok : Nat → Prop} {W : World} {xs : List α}
theorem R_celln (d : α) (h : (scalar enc h1).R e W base ok (.slice (some ⟨g,0,none⟩) n cap) xs) (i : Int) (h0 : 0 ≤ i) (hi : i < n) : W.cell? ⟨g,i.toNat,none⟩ = some (enc (rdOf d xs i)) ∧ W.frozen? ⟨g,i.toNat,none⟩ = false:=by
 obtain ⟨rfl,_⟩:=R_reads' h;exact R_cell d h i h0 hi
theorem R_putn (h : (scalar enc h1).R e W base ok (.slice (some ⟨g,0,none⟩) n cap) xs) (i : Int) (x : α) : (scalar enc h1).R e (W.setCell ⟨g,i.toNat,none⟩ (enc x)) base ok (.slice (some ⟨g,0,none⟩) n cap) (xs.set i.toNat x):=by
 obtain ⟨rfl,_⟩:=R_reads' h;exact (R_put h i x).1
end
end Kd
section
variable {P : Program} {ops : Array Oper} {rest : List Oper} {o : Oper} {a : Act} {Q : Exit → Act → World → Prop}
theorem store_event {W w1 : World} (hgd : o.guard = none) {t : TypeId} {p : Tmp} {v : Operand} (_ho : o.op = .store t (.tmp p) v) (hN : o.dst = none)
  (hrun : (execOp a.eval o).run P W = .ok .skip w1) (h : ∀ w',w' = w1 → wpList P ops Q rest a w') : wpList P ops Q (o :: rest) a W:=by
 refine wpList_plain hgd fun K hK => ?_
 unfold Oper.wp
 rw [hrun]
 show K (a.put o.dst undef) w1
 rw [hN];exact hK _ _ (h _ rfl)
end
namespace Kd
section
variable {α : Type} {enc : α → Value} {h1 : ∀ x,(enc x).oneCell' = true} {e base g n cap : Nat} {ok : Nat → Prop} {W : World} {xs : List α}
theorem R_putg (h : (scalar enc h1).R e W base ok (.slice (some ⟨g,0,none⟩) n cap) xs) (i : Int) (x : α) : (scalar enc h1).R e (W.setCell ⟨g,i.toNat,none⟩ (enc x)) base ok (.slice (some ⟨g,0,none⟩) n cap) (xs.set i.toNat x) ∧ W.grownBy (W.setCell ⟨g,i.toNat,none⟩ (enc x)) (some g):=by
 obtain ⟨rfl,_⟩:=R_reads' h;exact R_put h i x
end
end Kd
section
variable {P : Program} {ops : Array Oper} {rest : List Oper} {o : Oper} {a : Act} {Q : Exit → Act → World → Prop} {W : World}
theorem gate_dst {N : Tmp} (_hN : o.dst = some N) (h : wpList P ops Q (o :: rest) a W) : wpList P ops Q (o :: rest) a W:=h
theorem gate_store {t : TypeId} {p : Tmp} {v : Operand} (_ho : o.op = .store t (.tmp p) v) (h : wpList P ops Q (o :: rest) a W) : wpList P ops Q (o :: rest) a W:=h
end
section
variable {P : Program} {ops : Array Oper} {o : Oper} {a : Act} {Q : Exit → Act → World → Prop} {Kc : Act → World → Prop}
theorem event_step {W w1 : World} {v : Value} (hw : Region.wanted o (yielded ops a.tmps) = true) (hrun : (execOp a.eval o).run P W = .ok (.value v) w1) (h : Kc (a.put o.dst v) w1) : if Region.wanted o (yielded ops a.tmps) = true then Oper.wp P o a W Kc Q else Kc (a.put o.dst undef) W:=by
 rw [if_pos hw]
 unfold Oper.wp
 rw [hrun];exact h
theorem box_step {W : World} (hw : Region.wanted o (yielded ops a.tmps) = true) {N : Tmp} (_hd : o.dst = some N) {cs : Array Value} {t : TypeId}
  (hrun : (execOp a.eval o).run P W = .ok (.value (.pointer (some ⟨W.heap.size,0,none⟩))) (W.alloc (.cells cs t (0,0))))
  (h : ∀ g,g = W.heap.size → ∀ w1,w1.heap[g]? = some (.cells cs t (0,0)) → Below W.heap.size W w1 → Kc (a.put o.dst (.pointer (some ⟨g,0,none⟩))) w1) : if Region.wanted o (yielded ops a.tmps) = true then Oper.wp P o a W Kc Q else Kc (a.put o.dst undef) W :=
 event_step hw hrun (h _ rfl _ (blk_new W _) (below_alloc (Below.refl _ _) _))
namespace Kd
variable {α : Type}
theorem R_lit_step (d : Kd α) {w0 W : World} (base e : Nat) (hw : Region.wanted o (yielded ops a.tmps) = true) {N : Tmp} (_hd : o.dst = some N) {xs : List α} {inner : List Value} {ok okp : Nat → Prop}
  (hrun : (execOp a.eval o).run P W = .ok (.value (.slice (some ⟨W.heap.size,0,none⟩) xs.length xs.length)) (W.alloc (.cells inner.toArray e)))
  (hrep : Reps (d.M W base okp) d.sz xs inner) (hok : ∀ k,okp k → ok k) (hfresh : ok W.heap.size) (HB : Below base w0 W) (hbase : base ≤ W.heap.size) (hm : xs.length ≤ 9223372036854775807)
  (h : ∀ v1 w1,d.R e w1 base ok v1 xs → Below base w0 w1 → W.grownBy w1 none → (∃ b,v1.ownBlock = some b ∧ W.heap.size ≤ b) → Kc (a.put o.dst v1) w1) : if Region.wanted o (yielded ops a.tmps) = true then Oper.wp P o a W Kc Q else Kc (a.put o.dst undef) W:=by
 refine event_step hw hrun (h _ _ ⟨fun k hk => ?_,inner,?_,?_⟩ (HB.alloc hbase _) (World.grownBy_alloc W _ none) ⟨W.heap.size,by simp [Value.ownBlock],Nat.le_refl _⟩)
 ·have : W.heap.size = k:=by simpa [Value.ownBlock] using hk
  subst this;exact hfresh
 ·have h2:=World.ownsRow2_lit (base:=base) (e:=e) (size:=d.sz) W inner.toArray xs.length hbase (by simpa [maxLen] using hm) (by simpa using hrep.1)
  simpa using h2
 ·refine hrep.imp_ (fun p c hp => d.M_mono (fun k hk => ⟨hok k hk.1,fun he => ?_⟩) (M_below (d.M_bound hp) (below_alloc (Below.refl _ _) _)));have h3 : k = W.heap.size:=by simpa [Value.ownBlock] using he
  have:=hk.2.2.1;omega
end Kd
end
inductive Vals (P : Program) (tmps : Array Value) (w : World) : List ResultVar → List Value → Prop where
 | nil : Vals P tmps w [] []
 | tmp {u : Tmp} {rs : List ResultVar} {vs : List Value} (h : Vals P tmps w rs vs) : Vals P tmps w (.tmp u :: rs) (tmps.getD u undef :: vs)
 | cell {p : Tmp} {ty : TypeId} {rs : List ResultVar} {vs : List Value} (g : Nat) (t : TypeId) (cs : Array Value) (fr : Nat × Nat) (d : TypeDesc)
   (hp : tmps.getD p undef = .pointer (some ⟨g,0,none⟩)) (hg : w.heap[g]? = some (.cells cs t fr))
   (hu : P.underlying ty = some d) (hd : (match d with | .struct _ | .array _ _ => true | _ => false) = true) (hi : (P.info? ty).map (·.size) = some cs.size)
   (h : Vals P tmps w rs vs) : Vals P tmps w (.cell p ty :: rs) (.agg cs :: vs)
end Go.Proofs.YtlhmljngjdfbpaaW.PrintWords
end
section
namespace Go.Proofs.YtlhmljngjdfbpaaW.PrintWords
open Go.RowKit
namespace Kd
def tag {α : Type} (f : Nat → Nat) (d : Kd α) : Kd (α × Nat) where
 sz:=d.sz
 E:=d.E
 K:=fun w x cs => d.K w x.1 cs
 M:=fun w base ok x cs => d.M w base (fun k => ok k ∧ f k = x.2) x.1 cs
 K_len:=fun h => d.K_len h
 K_one:=fun h => d.K_one h
 K_below:=fun hb h => d.K_below hb h
 K_of_M:=fun h => d.K_of_M h
 M_mono:=fun hok h => d.M_mono (fun k hk => ⟨hok k hk.1,hk.2⟩) h
 M_bound:=fun h => d.M_mono (fun _ hk => ⟨⟨hk.1.1,hk.2⟩,hk.1.2⟩) (d.M_bound h)
 M_move:=fun hm h => d.M_move (fun k hk => hm k hk.1) h
 M_lower:=fun hb h => d.M_lower hb h
def bare {α : Type} (d : Kd α) : Kd α where
 sz:=d.sz
 E:=d.E
 K:=d.K
 M:=fun w base _ x cs => d.M w base (fun _ => False) x cs
 K_len:=fun h => d.K_len h
 K_one:=fun h => d.K_one h
 K_below:=fun hb h => d.K_below hb h
 K_of_M:=fun h => d.K_of_M h
 M_mono:=fun _ h => h
 M_bound:=fun h => h
 M_move:=fun _ h => d.M_move (fun _ hk => hk.elim) h
 M_lower:=fun hb h => d.M_lower hb h
def raw (sz : Nat) : Kd (List Value) where
 sz:=sz
 E:=[]
 K:=fun _ x cs => cs = x ∧ cs.length = sz ∧ ∀ u ∈ cs,u.oneCell' = true
 M:=fun _ _ _ x cs => cs = x ∧ cs.length = sz ∧ ∀ u ∈ cs,u.oneCell' = true
 K_len:=fun h => h.2.1
 K_one:=fun h => h.2.2
 K_below:=fun _ h => h
 K_of_M:=fun h => h
 M_mono:=fun _ h => h
 M_bound:=fun h => h
 M_move:=fun _ h => h
 M_lower:=fun _ h => h
def S {α : Type} (d : Kd α) (e : Nat) (w : World) (base : Nat) (ok : Nat → Prop) (v : Value) (xs : List α) : Prop:=∃ f,(tag f d).R e w base ok v xs.zipIdx
def gap {α : Type} (f : Nat → Nat) (d : Kd α) (i : Nat) (c : List Value) : Kd (α × Nat) where
 sz:=d.sz
 E:=d.E
 K:=fun w x cs => (x.2 = i → cs = c ∧ cs.length = d.sz ∧ ∀ u ∈ cs,u.oneCell' = true) ∧ (x.2 ≠ i → d.K w x.1 cs)
 M:=fun w base ok x cs => (x.2 = i → cs = c ∧ cs.length = d.sz ∧ ∀ u ∈ cs,u.oneCell' = true) ∧ (x.2 ≠ i → d.M w base (fun k => ok k ∧ f k = x.2) x.1 cs)
 K_len:=fun {w x cs} h => by
  by_cases hx : x.2 = i
  case pos => exact (h.1 hx).2.1
  exact d.K_len (h.2 hx)
 K_one:=fun {w x cs} h => by
  by_cases hx : x.2 = i
  case pos => exact (h.1 hx).2.2
  exact d.K_one (h.2 hx)
 K_below:=fun hb h => ⟨h.1,fun hx => d.K_below hb (h.2 hx)⟩
 K_of_M:=fun h => ⟨h.1,fun hx => d.K_of_M (h.2 hx)⟩
 M_mono:=fun hok h => ⟨h.1,fun hx => d.M_mono (fun k hk => ⟨hok k hk.1,hk.2⟩) (h.2 hx)⟩
 M_bound:=fun h => ⟨h.1,fun hx => d.M_mono (fun _ hk => ⟨⟨hk.1.1,hk.2⟩,hk.1.2⟩) (d.M_bound (h.2 hx))⟩
 M_move:=fun hm h => ⟨h.1,fun hx => d.M_move (fun k hk => hm k hk.1) (h.2 hx)⟩
 M_lower:=fun hb h => ⟨h.1,fun hx => d.M_lower hb (h.2 hx)⟩
def H {α : Type} (d : Kd α) (e : Nat) (w : World) (base : Nat) (ok : Nat → Prop) (v : Value) (xs : List α) (i : Int) (oki : Nat → Prop) (c : List Value) : Prop :=
 (∀ k,oki k → ok k) ∧ ∃ f,(gap f d i.toNat c).R e w base (fun k => ok k ∧ ¬ oki k) v xs.zipIdx
end Kd
namespace Kd
structure Heap {α : Type} (d : Kd α) : Prop where
 K : ∀ {w w1 : World} {x : α} {cs : List Value},(∀ k,k < w.heap.size → w1.heap[k]? = w.heap[k]?) → d.K w x cs → d.K w1 x cs
section
variable {α : Type} {d : Kd α} {e base g n c : Nat} {ok : Nat → Prop} {w w0 W : World} {A : Option Addr} {xs : List α}
theorem C_foot_own (h : d.R e W base ok (.slice A n c) xs) (hok : ∀ k,ok k → k ≠ g) : ∀ W',KeepBut W W' g none → d.C W' A n xs:=fun W' hk => by
 have h2:=R_reads' (R_keep h hk hok);rw [h2.1];exact h2.2.2
end
end Kd
def Kept (w W : World) (S : Nat → Prop) : Prop:=w.heap.size ≤ W.heap.size ∧ ∀ i,i < w.heap.size → ¬ S i → W.heap[i]? = w.heap[i]?
section
variable {w W W2 : World} {S S2 S' : Nat → Prop}
theorem Kept.of_below (h : Below w.heap.size w W) (S : Nat → Prop) : Kept w W S:=⟨h.size,fun i hi _ => h.block i hi⟩
theorem Kept.then_ (h : Kept w W S) (k : Kept W W2 S2) (hs : ∀ k,S2 k → S k ∨ w.heap.size ≤ k) : Kept w W2 S :=
 ⟨Nat.le_trans h.1 k.1,fun i hi hn => (k.2 i (Nat.lt_of_lt_of_le hi h.1) (fun h2 => (hs i h2).elim hn (fun h3 => by omega))).trans (h.2 i hi hn)⟩
theorem Kept.of_grown {row : Option Nat} (hg : W.grownBy W2 row) (h : Kept w W S) (hr : ∀ k,row = some k → S k ∨ w.heap.size ≤ k) : Kept w W2 S :=
 h.then_ (S2:=fun k => row = some k) ⟨hg.size,fun i hi hn => hg.block i hi (fun he => hn he.symm)⟩ hr
theorem blk_kept {g : Nat} {o : Obj} (hb : W.heap[g]? = some o) (hk : Kept W W2 S) (hne : ¬ S g) : W2.heap[g]? = some o:=(hk.2 g (blk_lt hb) hne).trans hb
end
def Foot (P : World → Prop) (W : World) (ok : Nat → Prop) : Prop:=∀ W' : World,(∀ k,ok k → k < W.heap.size → W'.heap[k]? = W.heap[k]?) → P W'
theorem heap_lt {W W1 : World} {k : Nat} (h : W1.heap[k]? = W.heap[k]?) (hlt : k < W.heap.size) : k < W1.heap.size:=by
 rw [Array.getElem?_eq_getElem hlt] at h;exact (Array.getElem?_eq_some_iff.1 h).1
namespace Foot
variable {P Q : World → Prop} {W W1 : World} {ok ok' : Nat → Prop}
theorem now (h : Foot P W ok) : P W:=h W (fun _ _ _ => rfl)
theorem mono (h : Foot P W ok) (hok : ∀ k,ok k → ok' k) : Foot P W ok':=fun W' hW => h W' (fun k hk hlt => hW k (hok k hk) hlt)
theorem step (h : Foot P W ok) (hm : ∀ k,ok k → k < W.heap.size → W1.heap[k]? = W.heap[k]?) : Foot P W1 ok:=fun W' hW => h W' (fun k hk hlt => (hW k hk (heap_lt (hm k hk hlt) hlt)).trans (hm k hk hlt))
end Foot
namespace Kd
def F {α : Type} (d : Kd α) (W : World) (ok : Nat → Prop) (A : Option Addr) (n : Nat) (xs : List α) : Prop:=Foot (fun W => d.C W A n xs) W ok
def FK {α : Type} (d : Kd α) (W : World) (ok : Nat → Prop) (x : α) (c : List Value) : Prop:=Foot (fun W => d.K W x c) W ok
end Kd
namespace Kd
section
variable {α : Type} {d : Kd α} {e base n cc g : Nat} {ok ok' okp S : Nat → Prop} {w w1 W W1 : World} {A : Option Addr} {u v v1 : Value} {xs : List α} {x : α} {c : List Value}
def N {α : Type} (d : Kd α) (e : Nat) (w : World) (base : Nat) (ok : Nat → Prop) (v : Value) (xs : List α) : Prop :=
 (∀ k,v.ownBlock = some k → ok k) ∧ ∃ rows : List (List Value),rows.length = xs.length ∧ (raw d.sz).R e w base (fun k => some k = v.ownBlock) v rows ∧ ∀ (j : Nat) (x : α) (c : List Value),xs[j]? = some x → rows[j]? = some c → FK d w (fun k => ok k ∧ some k ≠ v.ownBlock) x c
end
end Kd
end Go.Proofs.YtlhmljngjdfbpaaW.PrintWords
end
section
namespace Go.Proofs.YtlhmljngjdfbpaaW.PrintMore
open Go.RowKit Go.Proofs.YtlhmljngjdfbpaaW.PrintWords
theorem max2_int (k k' : IntKind) (x y : Int) : Builtin.max2 (.int k x) (.int k' y) = pure (.int k (if x < y then y else x)):=by simp only [Builtin.max2,gt_iff_lt]
theorem min2_int (k k' : IntKind) (x y : Int) : Builtin.min2 (.int k x) (.int k' y) = pure (.int k (if y < x then y else x)):=by simp only [Builtin.min2]
theorem max_two (ats : Array TypeId) (ty : TypeId) (a b : Value) : Builtin.max_ ats ty #[a,b] = (Builtin.max2 a b >>= fun s => pure s):=by simp only [Builtin.max_,List.foldlM_cons,List.foldlM_nil]
theorem min_two (ats : Array TypeId) (ty : TypeId) (a b : Value) : Builtin.min_ ats ty #[a,b] = (Builtin.min2 a b >>= fun s => pure s):=by simp only [Builtin.min_,List.foldlM_cons,List.foldlM_nil]
theorem max_three (ats : Array TypeId) (ty : TypeId) (a b c : Value) : Builtin.max_ ats ty #[a,b,c] = (Builtin.max2 a b >>= fun s => Builtin.max2 s c >>= fun s => pure s):=by simp only [Builtin.max_,List.foldlM_cons,List.foldlM_nil]
theorem min_three (ats : Array TypeId) (ty : TypeId) (a b c : Value) : Builtin.min_ ats ty #[a,b,c] = (Builtin.min2 a b >>= fun s => Builtin.min2 s c >>= fun s => pure s):=by simp only [Builtin.min_,List.foldlM_cons,List.foldlM_nil]
theorem max_four (ats : Array TypeId) (ty : TypeId) (a b c d : Value) : Builtin.max_ ats ty #[a,b,c,d] = (Builtin.max2 a b >>= fun s => Builtin.max2 s c >>= fun s => Builtin.max2 s d >>= fun s => pure s):=by simp only [Builtin.max_,List.foldlM_cons,List.foldlM_nil]
theorem min_four (ats : Array TypeId) (ty : TypeId) (a b c d : Value) : Builtin.min_ ats ty #[a,b,c,d] = (Builtin.min2 a b >>= fun s => Builtin.min2 s c >>= fun s => Builtin.min2 s d >>= fun s => pure s):=by simp only [Builtin.min_,List.foldlM_cons,List.foldlM_nil]
end Go.Proofs.YtlhmljngjdfbpaaW.PrintMore
namespace Go.Proofs.YtlhmljngjdfbpaaW.PrintWords
open Go.RowKit
section
variable {P : Program} {ops : Array Oper} {rest : List Oper} {o : Oper} {a : Act} {Q : Exit → Act → World → Prop} {W : World}
theorem gate_callee {f : FuncId} {as_ : Array Operand} {ts : Array TypeId} (_ho : o.op = .call { callee:=.value (.func f),args:=as_,argTypes:=ts }) (h : wpList P ops Q (o :: rest) a W) : wpList P ops Q (o :: rest) a W:=h
theorem gate_builtin {b : Builtin} {xs : Array Operand} {ts : Array TypeId} (_ho : o.op = .call { callee:=.builtin b,args:=xs,argTypes:=ts }) (h : wpList P ops Q (o :: rest) a W) : wpList P ops Q (o :: rest) a W:=h
end
def shl (k : IntKind) (x y : Int) : Int:=k.wrap (x * 2 ^ min y.toNat k.bits)
def shr (k : IntKind) (x y : Int) : Int:=x / 2 ^ min y.toNat k.bits
theorem shl_small {k : IntKind} {x y j : Int} (h : shl k x y = j) (hy : y ≤ k.bits) : k.wrap (x * 2 ^ y.toNat) = j:=by rw [← h]; unfold shl; rw [Nat.min_eq_left (by omega)]
theorem shr_small {k : IntKind} {x y j : Int} (h : shr k x y = j) (hy : y ≤ k.bits) : x / 2 ^ y.toNat = j:=by rw [← h]; unfold shr; rw [Nat.min_eq_left (by omega)]
theorem drewN_self (w : World) (n : Nat) : w.drewN n = w.drewN n:=rfl
end Go.Proofs.YtlhmljngjdfbpaaW.PrintWords
end
section
set_option linter.unusedVariables false
set_option linter.unusedSimpArgs false
namespace Go.Proofs.YtlhmljngjdfbpaaW.PrintWords
open Go.RowKit
section
variable {P : Program} {ops : Array Oper} {rest : List Oper} {o : Oper} {a : Act} {Q : Exit → Act → World → Prop} {Kc : Act → World → Prop}
theorem run_make0 (W : World) (t e : TypeId) (ht : P.underlying t = some (.slice e)) (z : Value) (sz bytes : Nat) (hinfo : (P.info? e).map (fun i => (i.zero,i.size,i.bytes)) = some (some z,sz,bytes)) (hb0 : 0 < bytes) (n : Int) (h0 : 0 ≤ n) (hl : n.toNat * bytes ≤ 281474976710656) :
  (Instr.makeSlice t (.int .i64 0) (.int .i64 n)).run P W = .ok (.slice (some ⟨W.heap.size,0,none⟩) 0 n.toNat) (W.alloc (.cells (madeCells z.cells (n.toNat * sz)) e)):=by
 obtain ⟨m,rfl⟩:=Int.eq_ofNat_of_zero_le h0;simp only [Int.toNat_natCast] at hl ⊢;obtain ⟨i0,hi,hzz⟩:=Option.map_eq_some_iff.1 hinfo;simp only [Prod.mk.injEq] at hzz;obtain ⟨hz0,hz1,hz2⟩:=hzz;have hm : m ≤ 281474976710656:=Nat.le_trans (Nat.le_mul_of_pos_right _ hb0) hl;have hr:=run_make (P:=P) W t e i0 z ht hi hz0 .i64 .i64 (0 : Int) (m : Int) (by omega) (by omega)
  (by
   have h3 : ((i0.bytes * m : Nat) : Int) ≤ 281474976710656:=by rw [hz2,Nat.mul_comm]; omega
   rwa [Int.natCast_mul] at h3) (by omega)
 simp only [Int.toNat_natCast,Int.toNat_zero] at hr;rw [hz1] at hr;exact hr
theorem own_made0 (W : World) (base e sz m : Nat) (z : Value) (hbase : base ≤ W.heap.size) (hm : m ≤ 9223372036854775807) :
  (W.alloc (.cells (madeCells z.cells (m * sz)) e)).ownsRow2 base e sz (.slice (some ⟨W.heap.size,0,none⟩) 0 m) 0 [] :=
 ⟨by simp,.inr ⟨W.heap.size,m,_,rfl,hbase,heap_alloc_new W _,Nat.zero_le _,by simpa [maxLen] using hm,Nat.le_of_eq (size_madeCells _ _).symm,by simp⟩⟩
namespace Kd
variable {α : Type}
theorem R_made0 (d : Kd α) (W : World) (base e m : Nat) (z : Value) {ok : Nat → Prop} (hfresh : ok W.heap.size) (hbase : base ≤ W.heap.size) (hm : m ≤ 9223372036854775807) :
  d.R e (W.alloc (.cells (madeCells z.cells (m * d.sz)) e)) base ok (.slice (some ⟨W.heap.size,0,none⟩) 0 m) ([] : List α) :=
 ⟨fun k hk => by
  have : W.heap.size = k:=by simpa [Value.ownBlock] using hk
  subst this;exact hfresh,[],own_made0 W base e d.sz m z hbase hm,⟨by simp,fun j p hj => by simp at hj⟩⟩
theorem R_make0 (d : Kd α) {w0 W : World} (base e : Nat) (hgd : o.guard = none) {N : Tmp} (_hd : o.dst = some N) (t : TypeId) (x y : Operand) (ho : o.op = .makeSlice t x y) (n : Int) (hx : a.eval x = .int .i64 0) (hy : a.eval y = .int .i64 n)
  (ht : P.underlying t = some (.slice e)) (z : Value) (bytes : Nat) (hinfo : (P.info? e).map (fun i => (i.zero,i.size,i.bytes)) = some (some z,d.sz,bytes)) (hz : z.cells.size = d.sz) (hs0 : 0 < d.sz) (hb0 : 0 < bytes)
  (z0 : α) {ok okp : Nat → Prop} (hzero : d.M W base okp z0 z.cells.toList) (hok : ∀ k,okp k → ok k) (hfresh : ok W.heap.size) (h0 : 0 ≤ n) (hl : n.toNat * bytes ≤ 281474976710656) (HB : Below base w0 W) (hbase : base ≤ W.heap.size)
  (h : ∀ v1 w1,d.R e w1 base ok v1 ([] : List α) → Below base w0 w1 → W.grownBy w1 none → (∃ b,v1.ownBlock = some b ∧ W.heap.size ≤ b) → wpList P ops Q rest (a.put o.dst v1) w1) : wpList P ops Q (o :: rest) a W:=by
 have hr:=run_make0 (P:=P) W t e ht z d.sz bytes hinfo hb0 n h0 hl;have hm : n.toNat ≤ 281474976710656:=Nat.le_trans (Nat.le_mul_of_pos_right _ hb0) hl;refine event_run (v:=.slice (some ⟨W.heap.size,0,none⟩) 0 n.toNat) hgd (by simp [execOp,ho,hx,hy,hr]) (h _ _ (R_made0 d W base e n.toNat z hfresh hbase (by omega)) (HB.alloc hbase _) (World.grownBy_alloc W _ none) ⟨W.heap.size,by simp [Value.ownBlock],Nat.le_refl _⟩)
theorem R_make0_step (d : Kd α) {w0 W : World} (base e : Nat) (hw : Region.wanted o (yielded ops a.tmps) = true) {N : Tmp} (_hd : o.dst = some N) (t : TypeId) (x y : Operand) (ho : o.op = .makeSlice t x y) (n : Int) (hx : a.eval x = .int .i64 0) (hy : a.eval y = .int .i64 n)
  (ht : P.underlying t = some (.slice e)) (z : Value) (bytes : Nat) (hinfo : (P.info? e).map (fun i => (i.zero,i.size,i.bytes)) = some (some z,d.sz,bytes)) (hz : z.cells.size = d.sz) (hs0 : 0 < d.sz) (hb0 : 0 < bytes)
  (z0 : α) {ok okp : Nat → Prop} (hzero : d.M W base okp z0 z.cells.toList) (hok : ∀ k,okp k → ok k) (hfresh : ok W.heap.size) (h0 : 0 ≤ n) (hl : n.toNat * bytes ≤ 281474976710656) (HB : Below base w0 W) (hbase : base ≤ W.heap.size)
  (h : ∀ v1 w1,d.R e w1 base ok v1 ([] : List α) → Below base w0 w1 → W.grownBy w1 none → (∃ b,v1.ownBlock = some b ∧ W.heap.size ≤ b) → Kc (a.put o.dst v1) w1) : if Region.wanted o (yielded ops a.tmps) = true then Oper.wp P o a W Kc Q else Kc (a.put o.dst undef) W:=by
 have hr:=run_make0 (P:=P) W t e ht z d.sz bytes hinfo hb0 n h0 hl;have hm : n.toNat ≤ 281474976710656:=Nat.le_trans (Nat.le_mul_of_pos_right _ hb0) hl;refine event_step (v:=.slice (some ⟨W.heap.size,0,none⟩) 0 n.toNat) hw (by simp [execOp,ho,hx,hy,hr]) (h _ _ (R_made0 d W base e n.toNat z hfresh hbase (by omega)) (HB.alloc hbase _) (World.grownBy_alloc W _ none) ⟨W.heap.size,by simp [Value.ownBlock],Nat.le_refl _⟩)
end Kd
end
end Go.Proofs.YtlhmljngjdfbpaaW.PrintWords
end
section
namespace Go.Proofs.YtlhmljngjdfbpaaW.PrintLast
open Go.Proofs.YtlhmljngjdfbpaaW.PrintWords (Aside0)
def needsOf (md : Region.Mode) (o : Oper) : List Nat:=(o.after.toList.filter (fun e => Region.binds md e)).map (fun e => e.on)
def clashOf (md : Region.Mode) (ops : Array Oper) (i : Nat) (oi : Oper) : List Nat:=(List.range ops.size).filter fun j => !(j == i) && match ops[j]? with
 | some oj => !(oj.after.any (fun e => Region.binds md e && e.on == i) || oi.apart ops oj)
 | none => false
def rtab (md : Region.Mode) (ops : Array Oper) : Bool × List (List Nat × List Nat):=(Region.noSelect ops,(List.range ops.size).map fun i => match ops[i]? with
 | some o => (needsOf md o,clashOf md ops i o)
 | none => ([],[]))
def readyAt (T : List (List Nat × List Nat)) (l : List Bool) (i : Nat) : Bool:=!l.getD i true && match T[i]? with
 | some r => r.1.all (fun j => l.getD j false)
 | none => false
def readyT (T : List (List Nat × List Nat)) (l : List Bool) : List Nat:=(List.range T.length).filter (readyAt T l)
def freeT (T : List (List Nat × List Nat)) (l : List Bool) (i : Nat) : Bool:=match T[i]? with
 | some r => r.2.all (fun j => l.getD j true)
 | none => false
def closedT (T : List (List Nat × List Nat)) (l : List Bool) : Bool:=(List.range T.length).all fun j => !l.getD j false || match T[j]? with
 | some r => r.1.all (fun k => l.getD k false)
 | none => true
def reachT (T : List (List Nat × List Nat)) (i : Nat) : Nat → Nat → Bool
 | 0,_ => false
 | fuel + 1,d => match T[d]? with
  | some r => r.1.any fun j => j == i || reachT T i fuel j
  | none => false
def lastT (T : List (List Nat × List Nat)) (l : List Bool) (ds : List Nat) (i : Nat) : Bool:=ds.all fun d => l.getD d true || reachT T i T.length d
section
variable {md : Region.Mode} {ops : Array Oper} {T : Bool × List (List Nat × List Nat)} {l l' li lj lk : Array Bool} {ds : List Nat} {i j k : Nat}
theorem gd (l : Array Bool) (j : Nat) (b : Bool) : l.getD j b = l.toList.getD j b:=by simp [Array.getD_eq_getD_getElem?,List.getD_eq_getElem?_getD]
theorem needs_all (o : Oper) (p : Nat → Bool) : o.after.all (fun e => !Region.binds md e || p e.on) = (needsOf md o).all p:=by
 unfold needsOf
 rw [← Array.all_toList]
 induction o.after.toList with
 | nil => rfl
 | cons e r ih =>
  rw [List.all_cons,ih,List.filter_cons];cases h : Region.binds md e <;> simp
theorem needs_any (o : Oper) (p : Nat → Bool) : o.after.any (fun e => Region.binds md e && p e.on) = (needsOf md o).any p:=by
 unfold needsOf
 rw [← Array.any_toList]
 induction o.after.toList with
 | nil => rfl
 | cons e r ih =>
  rw [List.any_cons,ih,List.filter_cons];cases h : Region.binds md e <;> simp
theorem rtab_length : (rtab md ops).2.length = ops.size:=by simp [rtab]
theorem rtab_some {o : Oper} (h : ops[i]? = some o) : (rtab md ops).2[i]? = some (needsOf md o,clashOf md ops i o):=by
 have hi:=(Array.getElem?_eq_some_iff.1 h).1
 unfold rtab
 rw [List.getElem?_map,List.getElem?_range hi,Option.map_some,h]
theorem rtab_none (h : ops[i]? = none) : (rtab md ops).2[i]? = none:=by
 have hi : ops.size ≤ i:=Array.getElem?_eq_none_iff.1 h;exact List.getElem?_eq_none (by rw [rtab_length]; exact hi)
theorem readyAt_eq : readyAt (rtab md ops).2 l.toList i = (!l.getD i true && ((ops[i]?).map (·.after.all fun e => !Region.binds md e || l.getD e.on false)).getD false):=by
 unfold readyAt
 rw [gd];cases h : ops[i]? with
 | none => rw [rtab_none h]; rfl
 | some o =>
  rw [rtab_some h];simp only [Option.map_some,Option.getD_some];rw [← needs_all];simp only [gd]
theorem ready_eq : Region.ready md ops l = readyT (rtab md ops).2 l.toList:=by
 unfold Region.ready readyT
 rw [rtab_length];refine List.filter_congr (fun i _ => ?_);rw [readyAt_eq]
theorem free_eq : Region.free md ops l i = freeT (rtab md ops).2 l.toList i:=by
 unfold Region.free freeT
 cases h : ops[i]? with
 | none => rw [rtab_none h]
 | some oi =>
  rw [rtab_some h];simp only [clashOf];rw [List.all_filter]
  congr 1
  funext j
  rw [gd];cases hj : ops[j]? with
  | none => cases (j == i) <;> cases (l.toList.getD j true) <;> simp
  | some oj =>
   cases (j == i) <;> cases (l.toList.getD j true) <;> cases (oj.after.any (fun e => Region.binds md e && e.on == i) || oi.apart ops oj) <;> simp_all
theorem closed_eq : Region.closedB md ops l = closedT (rtab md ops).2 l.toList:=by
 unfold Region.closedB closedT
 rw [rtab_length]
 congr 1
 funext j
 rw [gd];cases h : ops[j]? with
 | none => rw [rtab_none h]
 | some o =>
  rw [rtab_some h];simp only;rw [← needs_all];simp only [gd]
theorem reach_eq : ∀ (fuel d : Nat),Region.reachB md ops i fuel d = reachT (rtab md ops).2 i fuel d
 | 0,_ => rfl
 | fuel + 1,d => by
  unfold Region.reachB reachT
  cases h : ops[d]? with
  | none => rw [rtab_none h]
  | some o =>
   rw [rtab_some h];simp only;rw [← needs_any]
   congr 1
   funext e
   rw [reach_eq fuel]
theorem last_eq : Region.lastB md ops l ds i = lastT (rtab md ops).2 l.toList ds i:=by
 unfold Region.lastB lastT
 rw [rtab_length]
 congr 1
 funext d
 rw [gd,reach_eq]
theorem readyAt_mem (h : readyAt T.2 l.toList i = true) (hT : rtab md ops = T) : (Region.ready md ops l).contains i = true:=by
 subst hT;rw [ready_eq]
 unfold readyT
 rw [List.contains_iff_mem,List.mem_filter,List.mem_range];refine ⟨?_,h⟩
 unfold readyAt at h
 rw [Bool.and_eq_true] at h;cases hq : (rtab md ops).2[i]? with
 | none => rw [hq] at h; simp at h
 | some r => exact (List.getElem?_eq_some_iff.1 hq).1
theorem set_of (h : (l.toList.set i true == l'.toList) = true) : (l.setIfInBounds i true == l') = true:=by
 rw [beq_iff_eq] at h ⊢
 apply Array.ext'
 rw [Array.toList_setIfInBounds];exact h
def anyT (T : Bool × List (List Nat × List Nat)) (l l' : List Bool) (i : Nat) : Bool:=T.1 && freeT T.2 l i && readyAt T.2 l i && (l.set i true == l')
theorem any_of (hT : rtab md ops = T) (h : anyT T l.toList l'.toList i = true) : anyB md ops l l' i = true:=by
 simp only [anyT,Bool.and_eq_true] at h;obtain ⟨⟨⟨h1,h2⟩,h3⟩,h4⟩:=h;have h5:=readyAt_mem h3 hT;have h6:=set_of h4;subst hT;simp only [anyB,Bool.and_eq_true];exact ⟨⟨⟨h1,by rw [free_eq]; exact h2⟩,h5⟩,h6⟩
def takeT (T : Bool × List (List Nat × List Nat)) (ds : List Nat) (l l' : List Bool) (i : Nat) : Bool:=T.1 && freeT T.2 l i && readyAt T.2 l i && closedT T.2 l && lastT T.2 l ds i && (l.set i true == l')
theorem take_of (hT : rtab md ops = T) (h : takeT T ds l.toList l'.toList i = true) : takeB md ops ds l l' i = true:=by
 simp only [takeT,Bool.and_eq_true] at h;obtain ⟨⟨⟨⟨⟨h1,h2⟩,h3⟩,h4⟩,h5⟩,h6⟩:=h;have h7:=readyAt_mem h3 hT;have h8:=set_of h6;subst hT;simp only [takeB,Bool.and_eq_true];exact ⟨⟨⟨⟨⟨h1,by rw [free_eq]; exact h2⟩,h7⟩,by rw [closed_eq]; exact h4⟩,by rw [last_eq]; exact h5⟩,h8⟩
theorem one_of (hT : rtab md ops = T) (h : (readyT T.2 l.toList == [i] && l.toList.set i true == l'.toList) = true) : readyB md ops l l' i = true:=by
 simp only [Bool.and_eq_true] at h;obtain ⟨h1,h2⟩:=h;subst hT;simp only [readyB,Bool.and_eq_true];exact ⟨by rw [ready_eq]; exact h1,set_of h2⟩
theorem done_of (hT : rtab md ops = T) (h : (readyT T.2 l.toList == []) = true) : (Region.ready md ops l == []) = true:=by
 subst hT;rw [ready_eq];exact h
def upM (B : List Nat) (d : Nat) : List Nat → Nat
 | [] => 0
 | n :: r => (2 ^ n ||| (if n < d then B.getD n 0 else 0)) ||| upM B d r
def waitsOk (T : List (List Nat × List Nat)) (B : List Nat) : Bool:=(List.range T.length).all fun d => match T[d]? with
 | some r => (B.getD d 0 ||| upM B d r.1) == upM B d r.1
 | none => false
theorem upM_bit {B : List Nat} {d i : Nat} : ∀ {ns : List Nat},(upM B d ns).testBit i = true → ∃ n ∈ ns,n = i ∨ (n < d ∧ (B.getD n 0).testBit i = true)
 | [],h => by simp [upM] at h
 | n :: r,h => by
  unfold upM at h
  rw [Nat.testBit_or,Nat.testBit_or,Bool.or_eq_true,Bool.or_eq_true] at h
  rcases h with (h | h) | h
  ·rw [Nat.testBit_two_pow] at h;exact ⟨n,List.mem_cons_self,.inl (by simpa using h)⟩
  ·by_cases hn : n < d
   case neg =>
    rw [if_neg hn] at h;simp at h
   rw [if_pos hn] at h;exact ⟨n,List.mem_cons_self,.inr ⟨hn,h⟩⟩
  ·obtain ⟨m,hm,h2⟩:=upM_bit h;exact ⟨m,List.mem_cons_of_mem _ hm,h2⟩
theorem reach_bit {T : List (List Nat × List Nat)} {B : List Nat} (hB : waitsOk T B = true) : ∀ (fuel d : Nat),d < fuel → d < T.length → (B.getD d 0).testBit i = true → reachT T i fuel d = true
 | 0,d,h,_,_ => by omega
 | fuel + 1,d,h,hd,hb => by
  have h1:=List.all_eq_true.1 hB d (List.mem_range.2 hd);cases hr : T[d]? with
  | none => rw [hr] at h1; simp at h1
  | some r =>
   rw [hr] at h1;simp only [beq_iff_eq] at h1;have h2 : (upM B d r.1).testBit i = true:=by rw [← h1,Nat.testBit_or,hb,Bool.true_or]
   obtain ⟨n,hn,h3⟩:=upM_bit h2
   unfold reachT
   rw [hr];simp only;rw [List.any_eq_true];refine ⟨n,hn,?_⟩
   rcases h3 with rfl | ⟨h4,h5⟩
   ·simp
   ·rw [reach_bit hB fuel n (by omega) (by omega) h5,Bool.or_true]
def lastW (T : List (List Nat × List Nat)) (B : List Nat) (l : List Bool) (ds : List Nat) (i : Nat) : Bool:=ds.all fun d => l.getD d true || (decide (d < T.length) && (B.getD d 0).testBit i)
def takeW (T : Bool × List (List Nat × List Nat)) (B : List Nat) (ds : List Nat) (l l' : List Bool) (i : Nat) : Bool:=T.1 && freeT T.2 l i && readyAt T.2 l i && closedT T.2 l && lastW T.2 B l ds i && (l.set i true == l')
theorem take_ofW {B : List Nat} (hT : rtab md ops = T) (hB : waitsOk T.2 B = true) (h : takeW T B ds l.toList l'.toList i = true) : takeB md ops ds l l' i = true:=by
 refine take_of hT ?_;simp only [takeW,takeT,Bool.and_eq_true] at h ⊢;obtain ⟨⟨⟨⟨⟨h1,h2⟩,h3⟩,h4⟩,h5⟩,h6⟩:=h;refine ⟨⟨⟨⟨⟨h1,h2⟩,h3⟩,h4⟩,?_⟩,h6⟩
 unfold lastW at h5
 unfold lastT
 rw [List.all_eq_true] at h5 ⊢;intro d hd;have h7:=h5 d hd;rw [Bool.or_eq_true,Bool.and_eq_true,decide_eq_true_eq] at h7
 rcases h7 with h7 | ⟨h8,h9⟩
 ·rw [h7,Bool.true_or]
 ·rw [reach_bit hB _ d h8 h8 h9,Bool.or_true]
theorem with_tabW {P : Program} {Q : Exit → Act → World → Prop} {S : World → Prop} {n : Nat} {a : Act} {w : World} {B : List Nat} (hT : rtab md ops = T) (hB : waitsOk T.2 B = true) (h : Aside0 (rtab md ops = T) → Aside0 (waitsOk T.2 B = true) → wpAnyLast P md ops Q S ds n l a w) : wpAnyLast P md ops Q S ds n l a w:=h ⟨hT⟩ ⟨hB⟩
end
def opsIn : Code → Nat → Option (Array Oper)
 | .region id ops _,k => if id == k then some ops else none
 | .seq a b,k => match opsIn a k with
  | some o => some o
  | none => opsIn b k
 | .cond _ a b,k => match opsIn a k with
  | some o => some o
  | none => opsIn b k
 | .block _ c,k => opsIn c k
 | .loop c,k => opsIn c k
 | .scope c,k => opsIn c k
 | .rangeFunc _ _ a b,k => match opsIn a k with
  | some o => some o
  | none => opsIn b k
 | _,_ => none
def opsOf (f : Func) (k : Nat) : Array Oper:=((f.body.bind fun c => opsIn c k)).getD #[]
end Go.Proofs.YtlhmljngjdfbpaaW.PrintLast
end
section
namespace Go.Proofs.YtlhmljngjdfbpaaW.PrintWords
theorem Reps.one {α : Type} {R : α → List Value → Prop} {ps : List α} {cs : List Value} {p : α} {v : Value} (hp : R p [v]) (h : Reps R 1 ps cs) : Reps R 1 (p :: ps) (v :: cs):=by
 refine ⟨by simp [h.1],fun j q hq => ?_⟩;cases j with
 | zero =>
  simp only [List.getElem?_cons_zero,Option.some.injEq] at hq;subst hq
  simpa using hp
 | succ j =>
  simp only [List.getElem?_cons_succ] at hq;have h1:=h.2 j q hq
  simpa [Nat.mul_one] using h1
theorem Reps.front {α : Type} {R : α → List Value → Prop} {size : Nat} {ps : List α} {cs c all : List Value} {p : α} (hp : R p c) (hc : c.length = size) (h : Reps R size ps cs) (ha : c ++ cs = all) : Reps R size (p :: ps) all:=by
 subst ha;refine ⟨by rw [List.length_append,hc,h.1,List.length_cons,Nat.succ_mul,Nat.add_comm],fun j q hq => ?_⟩;cases j with
 | zero =>
  simp only [List.getElem?_cons_zero,Option.some.injEq] at hq;subst hq;rw [Nat.zero_mul,List.drop_zero,List.take_append_of_le_length (by omega),List.take_of_length_le (by omega)];exact hp
 | succ j =>
  simp only [List.getElem?_cons_succ] at hq;have h1:=h.2 j q hq;rw [Nat.succ_mul,List.drop_append,List.drop_of_length_le (by rw [hc]; exact Nat.le_add_left _ _),List.nil_append,hc,Nat.add_sub_cancel];exact h1
theorem Reps.c2 {α : Type} {R : α → List Value → Prop} {ps : List α} {cs : List Value} {p : α} {va vb : Value} (hp : R p [va,vb]) (h : Reps R 2 ps cs) : Reps R 2 (p :: ps) (va :: vb :: cs):=Reps.front hp rfl h rfl
end Go.Proofs.YtlhmljngjdfbpaaW.PrintWords
end
section
namespace Go.Proofs.YtlhmljngjdfbpaaW.PrintLast
def up (b : Nat → Bool) (i : Nat) : Nat → Bool:=fun j => if j = i then true else b j
theorem up_self (b : Nat → Bool) (i : Nat) : up b i i = true:=by simp [up]
theorem up_ne {b : Nat → Bool} {i j : Nat} (h : j ≠ i) : up b i j = b j:=by simp [up,h]
def lof (n : Nat) (O : List Nat) (b : Nat → Bool) : List Bool:=(List.range n).map fun j => if O.contains j then b j else true
def putSel (a : Act) (b : Nat → Bool) : List (Nat × Tmp × Value) → Act
 | [] => a
 | e :: r => putSel (if b e.1 = true then a.put (some e.2.1) e.2.2 else a) b r
section
variable {P : Program} {ops : Array Oper} {Q : Exit → Act → World → Prop} {md : Region.Mode} {T : Bool × List (List Nat × List Nat)} {B : List Nat} {O : List Nat} {b : Nat → Bool} {i j n : Nat}
theorem lof_length : (lof n O b).length = n:=by simp [lof]
theorem lof_get {d : Bool} (hj : j < n) : (lof n O b).getD j d = if O.contains j then b j else true:=by
 simp [lof,List.getD_eq_getElem?_getD,hj]
theorem lof_up (hi : O.contains i = true) : (lof n O b).set i true = lof n O (up b i):=by
 apply List.ext_getElem?
 intro j
 by_cases hj : j < n
 case neg => rw [List.getElem?_eq_none (by simp [lof]; omega),List.getElem?_eq_none (by simp [lof]; omega)]
 by_cases hij : i = j
 case neg =>
  rw [List.getElem?_set_ne hij];simp only [lof,List.getElem?_map,List.getElem?_range hj,Option.map_some];rw [up_ne (Ne.symm hij)]
 subst hij;have hl : i < (lof n O b).length:=by rw [lof_length]; exact hj
 rw [List.getElem?_set_self hl];simp only [lof,List.getElem?_map,List.getElem?_range hj,Option.map_some,hi,if_true,up_self]
def StepAt (P : Program) (ops : Array Oper) (Q : Exit → Act → World → Prop) (B : List Nat) (O : List Nat) (I : (Nat → Bool) → Act → World → Prop) (i : Nat) : Prop :=
 ∀ b a w,I b a w → b i = false → (∀ j,(O.contains j && (B.getD i 0).testBit j) = true → b j = true) → (∀ d,(O.contains d && (B.getD d 0).testBit i) = true → b d = false) →
  ∃ oi,ops[i]? = some oi ∧ ∀ K : Act → World → Prop,Shut (∀ a' w',I (up b i) a' w' → K a' w') → if Region.wanted oi (yielded ops a.tmps) = true then Oper.wp P oi a w K Q else K (a.put oi.dst undef) w
theorem steps_nil {I : (Nat → Bool) → Act → World → Prop} : ∀ i ∈ ([] : List Nat),StepAt P ops Q B O I i:=fun _ h => by cases h
theorem steps_cons {I : (Nat → Bool) → Act → World → Prop} {rs : List Nat} (h : StepAt P ops Q B O I i) (hs : ∀ j ∈ rs,StepAt P ops Q B O I j) : ∀ j ∈ i :: rs,StepAt P ops Q B O I j:=fun j hj => by
 rcases List.mem_cons.1 hj with rfl | hj
 ·exact h
 ·exact hs j hj
def baseOk (T : List (List Nat × List Nat)) (O : List Nat) : Bool :=
 (List.range T.length).all (fun d => match T[d]? with
  | some r => (O.contains d || r.1.all fun n => !O.contains n) && r.1.all fun n => decide (n < d)
  | none => false) && O.all (fun i => decide (i < T.length)) && decide O.Nodup
theorem baseOk_row {T : List (List Nat × List Nat)} (h : baseOk T O = true) {d : Nat} {r : List Nat × List Nat} (hr : T[d]? = some r) : (O.contains d = false → ∀ n ∈ r.1,O.contains n = false) ∧ ∀ n ∈ r.1,n < d:=by
 simp only [baseOk,Bool.and_eq_true] at h;have h1:=List.all_eq_true.1 h.1.1 d (List.mem_range.2 (List.getElem?_eq_some_iff.1 hr).1);rw [hr] at h1;simp only [Bool.and_eq_true,Bool.or_eq_true,List.all_eq_true,decide_eq_true_eq] at h1;refine ⟨fun hd n hn => ?_,h1.2⟩
 rcases h1.1 with h2 | h2
 ·rw [hd] at h2; cases h2
 ·simpa using h2 n hn
theorem baseOk_lt {T : List (List Nat × List Nat)} (h : baseOk T O = true) {i : Nat} (hi : i ∈ O) : i < T.length:=by
 simp only [baseOk,Bool.and_eq_true] at h
 simpa using List.all_eq_true.1 h.1.2 i hi
theorem baseOk_nodup {T : List (List Nat × List Nat)} (h : baseOk T O = true) : O.Nodup:=by
 simp only [baseOk,Bool.and_eq_true] at h;exact of_decide_eq_true h.2
def Closed (T : List (List Nat × List Nat)) (O : List Nat) (b : Nat → Bool) : Prop:=∀ d r,T[d]? = some r → O.contains d = true → b d = true → ∀ n ∈ r.1,O.contains n = true → b n = true
theorem bits_out {T : List (List Nat × List Nat)} (hw : waitsOk T B = true) (hk : baseOk T O = true) : ∀ (m d : Nat),d ≤ m → d < T.length → O.contains d = false → ∀ j,(B.getD d 0).testBit j = true → O.contains j = false:=by
 intro m
 induction m with
 | zero =>
  intro d hd hl hO j hj;have hd0 : d = 0:=by omega
  subst hd0;have hr : T[0]? = some T[0]:=List.getElem?_eq_getElem hl;have h1:=List.all_eq_true.1 hw 0 (List.mem_range.2 hl);rw [hr] at h1;simp only [beq_iff_eq] at h1;have h2 : (upM B 0 T[0].1).testBit j = true:=by rw [← h1,Nat.testBit_or,hj,Bool.true_or]
  obtain ⟨n,hn,h3⟩:=upM_bit h2;have:=(baseOk_row hk hr).2 n hn;omega
 | succ m ih =>
  intro d hd hl hO j hj;have hr : T[d]? = some T[d]:=List.getElem?_eq_getElem hl;have h1:=List.all_eq_true.1 hw d (List.mem_range.2 hl);rw [hr] at h1;simp only [beq_iff_eq] at h1;have h2 : (upM B d T[d].1).testBit j = true:=by rw [← h1,Nat.testBit_or,hj,Bool.true_or]
  obtain ⟨n,hn,h3⟩:=upM_bit h2;have hO2:=(baseOk_row hk hr).1 hO n hn
  rcases h3 with rfl | ⟨h4,h5⟩
  ·exact hO2
  ·exact ih n (by omega) (by omega) hO2 j h5
theorem closed_bits {T : List (List Nat × List Nat)} (hw : waitsOk T B = true) (hk : baseOk T O = true) (hc : Closed T O b) : ∀ (m d : Nat),d ≤ m → d < T.length → O.contains d = true → b d = true → ∀ j,O.contains j = true → (B.getD d 0).testBit j = true → b j = true:=by
 intro m
 induction m with
 | zero =>
  intro d hd hl hO hb j hjO hj;have hd0 : d = 0:=by omega
  subst hd0;have hr : T[0]? = some T[0]:=List.getElem?_eq_getElem hl;have h1:=List.all_eq_true.1 hw 0 (List.mem_range.2 hl);rw [hr] at h1;simp only [beq_iff_eq] at h1;have h2 : (upM B 0 T[0].1).testBit j = true:=by rw [← h1,Nat.testBit_or,hj,Bool.true_or]
  obtain ⟨n,hn,h3⟩:=upM_bit h2;have:=(baseOk_row hk hr).2 n hn;omega
 | succ m ih =>
  intro d hd hl hO hb j hjO hj;have hr : T[d]? = some T[d]:=List.getElem?_eq_getElem hl;have h1:=List.all_eq_true.1 hw d (List.mem_range.2 hl);rw [hr] at h1;simp only [beq_iff_eq] at h1;have h2 : (upM B d T[d].1).testBit j = true:=by rw [← h1,Nat.testBit_or,hj,Bool.true_or]
  obtain ⟨n,hn,h3⟩:=upM_bit h2
  rcases h3 with rfl | ⟨h4,h5⟩
  ·exact hc d _ hr hO hb n hn hjO
  ·cases hO2 : O.contains n with
   | true => exact ih n (by omega) (by omega) hO2 (hc d _ hr hO hb n hn hO2) j hjO h5
   | false =>
    have:=bits_out hw hk n n (Nat.le_refl _) (by omega) hO2 j h5;rw [hjO] at this;cases this
theorem up_count : ∀ {O : List Nat},O.Nodup → i ∈ O → b i = false → (O.filter fun j => !up b i j).length + 1 = (O.filter fun j => !b j).length
 | [],_,hi,_ => by cases hi
 | x :: r,hn,hi,hb => by
  rw [List.nodup_cons] at hn
  rcases List.mem_cons.1 hi with rfl | hi
  ·have h1 : (r.filter fun j => !up b i j) = r.filter fun j => !b j:=by
    refine List.filter_congr (fun j hj => ?_);rw [up_ne (fun e => hn.1 (by rw [← e]; exact hj))]
   rw [List.filter_cons,List.filter_cons];simp [up_self,hb,h1]
  ·have hxi : x ≠ i:=fun e => hn.1 (e ▸ hi)
   have h1:=up_count hn.2 hi hb;rw [List.filter_cons,List.filter_cons,up_ne hxi];cases hbx : b x
   ·simp only [Bool.not_false,if_true,List.length_cons];omega
   ·simpa using h1
theorem inv_all (hT : rtab md ops = T) (hw : waitsOk T.2 B = true) (hk : baseOk T.2 O = true) (I : (Nat → Bool) → Act → World → Prop) (hs : ∀ i ∈ O,StepAt P ops Q B O I i)
  (hend : ∀ b a w,(∀ j,O.contains j = true → b j = true) → I b a w → Q .normal a w) :
  ∀ (m : Nat) (b : Nat → Bool) (a : Act) (w : World),(O.filter fun j => !b j).length = m → Closed T.2 O b → I b a w → wpAnyLast P md ops Q (fun _ => True) [] m (lof T.2.length O b).toArray a w:=by
 subst hT;have mem_ready' : ∀ {b : Nat → Bool} {i : Nat},i ∈ Region.ready md ops (lof (rtab md ops).2.length O b).toArray → i < (rtab md ops).2.length ∧ O.contains i = true ∧ b i = false ∧ ∀ r,(rtab md ops).2[i]? = some r → ∀ n ∈ r.1,n < (rtab md ops).2.length → O.contains n = true → b n = true:=by
  intro b i hi;rw [ready_eq] at hi
  unfold readyT at hi
  rw [List.mem_filter,List.mem_range] at hi;obtain ⟨hl,h1⟩:=hi
  unfold readyAt at h1
  rw [Bool.and_eq_true,lof_get hl] at h1;obtain ⟨h2,h3⟩:=h1;have h4 : O.contains i = true:=by
   cases h : O.contains i with
   | true => rfl
   | false => rw [h] at h2; simp at h2
  rw [h4] at h2;refine ⟨hl,h4,by simpa using h2,fun r hr n hn hnl hO => ?_⟩;rw [hr] at h3;simp only [List.all_eq_true] at h3;have h5:=h3 n hn;rw [lof_get hnl,hO] at h5
  simpa using h5
 intro m
 induction m with
 | zero =>
  intro b a w hm hc hI;have hall : ∀ j,O.contains j = true → b j = true:=by
   intro j hj;cases hb : b j with
   | true => rfl
   | false =>
    have : j ∈ O.filter fun j => !b j:=List.mem_filter.2 ⟨List.contains_iff_mem.1 hj,by simp [hb]⟩
    rw [List.eq_nil_of_length_eq_zero hm] at this;cases this
  refine ⟨?_,hend b a w hall hI⟩;refine List.eq_nil_iff_forall_not_mem.2 (fun i hi => ?_);obtain ⟨_,h1,h2,_⟩:=mem_ready' hi;rw [hall i h1] at h2;cases h2
 | succ m ih =>
  intro b a w hm hc hI;refine ⟨fun hr => ?_,fun i hi => ?_⟩
  ·exfalso
   have hex : ∃ i,O.contains i = true ∧ b i = false:=by
    cases hf : O.filter (fun j => !b j) with
    | nil => rw [hf] at hm; simp at hm
    | cons x r =>
     have hx : x ∈ O.filter (fun j => !b j):=by rw [hf]; exact List.mem_cons_self
     rw [List.mem_filter] at hx;exact ⟨x,List.contains_iff_mem.2 hx.1,by simpa using hx.2⟩
   have hmin : ∀ k,(∃ i,i ≤ k ∧ O.contains i = true ∧ b i = false) → ∃ i,O.contains i = true ∧ b i = false ∧ ∀ j,j < i → O.contains j = true → b j = true:=by
    intro k
    induction k with
    | zero =>
     rintro ⟨i,hi,h1,h2⟩;exact ⟨i,h1,h2,fun j hj => by omega⟩
    | succ k ihk =>
     rintro ⟨i,hi,h1,h2⟩
     by_cases hlow : ∃ j,j ≤ k ∧ O.contains j = true ∧ b j = false
     case pos => exact ihk hlow
     refine ⟨i,h1,h2,fun j hj hO => ?_⟩;cases hb : b j with
     | true => rfl
     | false => exact absurd ⟨j,by omega,hO,hb⟩ hlow
   obtain ⟨i0,h1,h2⟩:=hex;obtain ⟨i,hO,hb,hlow⟩:=hmin i0 ⟨i0,Nat.le_refl _,h1,h2⟩;have hl:=baseOk_lt hk (List.contains_iff_mem.1 hO);have hin : i ∈ Region.ready md ops (lof (rtab md ops).2.length O b).toArray:=by
    rw [ready_eq]
    unfold readyT
    rw [List.mem_filter,List.mem_range];refine ⟨hl,?_⟩
    unfold readyAt
    rw [lof_get hl,hO,hb];have hr2 : (rtab md ops).2[i]? = some (rtab md ops).2[i]:=List.getElem?_eq_getElem hl;rw [hr2];simp only [if_true,Bool.not_false,Bool.true_and,List.all_eq_true];intro n hn;have hni:=(baseOk_row hk hr2).2 n hn;rw [lof_get (by omega)];cases hOn : O.contains n with
    | true => simpa using hlow n hni hOn
    | false => simp
   rw [hr] at hin;cases hin
  ·obtain ⟨hl,hO,hb,hneed⟩:=mem_ready' hi;have hon : ∀ j,(O.contains j && (B.getD i 0).testBit j) = true → b j = true:=by
    intro j hj;rw [Bool.and_eq_true] at hj;have hr2 : (rtab md ops).2[i]? = some (rtab md ops).2[i]:=List.getElem?_eq_getElem hl;have h1:=List.all_eq_true.1 hw i (List.mem_range.2 hl);rw [hr2] at h1;simp only [beq_iff_eq] at h1;have h2 : (upM B i (rtab md ops).2[i].1).testBit j = true:=by rw [← h1,Nat.testBit_or,hj.2,Bool.true_or]
    obtain ⟨n,hn,h3⟩:=upM_bit h2;have hni:=(baseOk_row hk hr2).2 n hn
    rcases h3 with rfl | ⟨h4,h5⟩
    ·exact hneed _ hr2 n hn (by omega) hj.1
    ·cases hO2 : O.contains n with
     | true => exact closed_bits hw hk hc n n (Nat.le_refl _) (by omega) hO2 (hneed _ hr2 n hn (by omega) hO2) j hj.1 h5
     | false =>
      have:=bits_out hw hk n n (Nat.le_refl _) (by omega) hO2 j h5;rw [hj.1] at this;cases this
   have hoff : ∀ d,(O.contains d && (B.getD d 0).testBit i) = true → b d = false:=by
    intro d hd;rw [Bool.and_eq_true] at hd;cases hbd : b d with
    | false => rfl
    | true =>
     have hdl:=baseOk_lt hk (List.contains_iff_mem.1 hd.1);have:=closed_bits hw hk hc d d (Nat.le_refl _) hdl hd.1 hbd i hO hd.2;rw [hb] at this;cases this
   obtain ⟨oi,hoi,hK⟩:=hs i (List.contains_iff_mem.1 hO) b a w hI hb hon hoff;refine wpOp_step hoi (fun K' hK' => hK K' (fun a' w' hI' => hK' a' w' ⟨fun _ _ => trivial,?_⟩));have hset : (lof (rtab md ops).2.length O b).toArray.setIfInBounds i true = (lof (rtab md ops).2.length O (up b i)).toArray:=by
    apply Array.ext'
    rw [Array.toList_setIfInBounds];exact lof_up hO
   rw [hset];refine ih (up b i) a' w' ?_ ?_ hI'
   ·have:=up_count (baseOk_nodup hk) (List.contains_iff_mem.1 hO) hb;omega
   ·intro d r hr hOd hbd n hn hOn
    by_cases hni : n = i
    case pos => rw [hni,up_self]
    rw [up_ne hni]
    by_cases hdi : d = i
    case neg =>
     rw [up_ne hdi] at hbd;exact hc d r hr hOd hbd n hn hOn
    subst hdi;exact hneed r hr n hn (by have:=(baseOk_row hk hr).2 n hn; omega) hOn
theorem putSel_off {b : Nat → Bool} {t : Tmp} : ∀ {L : List (Nat × Tmp × Value)} {a : Act},(L.all fun e => !(e.2.1 == t)) = true → (putSel a b L).tmps[t]? = a.tmps[t]?
 | [],_,_ => rfl
 | e :: r,a,h => by
  rw [List.all_cons,Bool.and_eq_true] at h;have he : e.2.1 ≠ t:=by simpa using h.1
  unfold putSel
  by_cases hb : b e.1 = true
  case neg =>
   rw [if_neg hb];exact putSel_off h.2
  rw [if_pos hb,putSel_off h.2];simp [Act.put,Array.getElem?_setIfInBounds_ne he]
theorem putSel_on {b : Nat → Bool} {e : Nat × Tmp × Value} : ∀ {L : List (Nat × Tmp × Value)} {a : Act} (k : Nat),L[k]? = some e → ((L.drop (k + 1)).all fun x => !(x.2.1 == e.2.1)) = true → b e.1 = true → Nat.ble (e.2.1 + 1) a.tmps.size = true → (putSel a b L).tmps[e.2.1]? = some e.2.2
 | [],_,_,h,_,_,_ => by cases h
 | x :: r,a,0,h,hd,hb,ht => by
  simp only [List.getElem?_cons_zero,Option.some.injEq] at h;subst h
  unfold putSel
  rw [if_pos hb,putSel_off (by simpa using hd)];have ht2 : x.2.1 < a.tmps.size:=Nat.le_of_ble_eq_true ht;simp [Act.put,ht2]
 | x :: r,a,k + 1,h,hd,hb,ht => by
  unfold putSel
  refine putSel_on k (by simpa using h) (by simpa using hd) hb ?_
  by_cases hx : b x.1 = true
  case neg =>
   rw [if_neg hx];exact ht
  rw [if_pos hx]
  simpa [Act.put] using ht
theorem put_comm {a : Act} {s t : Tmp} {u v : Value} (h : s ≠ t) : (a.put (some s) u).put (some t) v = (a.put (some t) v).put (some s) u:=by
 simp only [Act.put];rw [Array.setIfInBounds_comm _ _ h]
theorem putSel_put {b : Nat → Bool} {t : Tmp} {v : Value} : ∀ {L : List (Nat × Tmp × Value)} {a : Act},(L.all fun e => !(e.2.1 == t)) = true → (putSel a b L).put (some t) v = putSel (a.put (some t) v) b L
 | [],_,_ => rfl
 | e :: r,a,h => by
  rw [List.all_cons,Bool.and_eq_true] at h;have he : e.2.1 ≠ t:=by simpa using h.1
  unfold putSel
  by_cases hb : b e.1 = true
  case neg =>
   rw [if_neg hb,if_neg hb];exact putSel_put h.2
  rw [if_pos hb,if_pos hb,putSel_put h.2,put_comm he]
theorem putSel_same {b : Nat → Bool} {i : Nat} : ∀ {L : List (Nat × Tmp × Value)} {a : Act},(L.all fun e => !(e.1 == i)) = true → putSel a (up b i) L = putSel a b L
 | [],_,_ => rfl
 | e :: r,a,h => by
  rw [List.all_cons,Bool.and_eq_true] at h;have he : e.1 ≠ i:=by simpa using h.1
  unfold putSel
  rw [up_ne he];exact putSel_same h.2
theorem putSel_up {b : Nat → Bool} {i : Nat} {t : Tmp} {v0 v : Value} : ∀ {L1 L2 : List (Nat × Tmp × Value)} {a : Act},b i = false → ((L1 ++ L2).all fun e => !(e.1 == i) && !(e.2.1 == t)) = true →
  (putSel a b (L1 ++ (i,t,v0) :: L2)).put (some t) v = putSel a (up b i) (L1 ++ (i,t,v) :: L2)
 | [],L2,a,hb,h => by
  simp only [List.nil_append] at h ⊢;have h1 : (L2.all fun e => !(e.1 == i)) = true:=List.all_eq_true.2 (fun e he => by have:=List.all_eq_true.1 h e he; simp only [Bool.and_eq_true] at this; exact this.1);have h2 : (L2.all fun e => !(e.2.1 == t)) = true:=List.all_eq_true.2 (fun e he => by have:=List.all_eq_true.1 h e he; simp only [Bool.and_eq_true] at this; exact this.2)
  unfold putSel
  rw [if_neg (by rw [hb]; decide),if_pos (up_self b i),putSel_put h2,putSel_same h1]
 | e :: r,L2,a,hb,h => by
  simp only [List.cons_append,List.all_cons,Bool.and_eq_true] at h;have he : e.1 ≠ i:=by simpa using h.1.1
  simp only [List.cons_append]
  unfold putSel
  rw [up_ne he];exact putSel_up hb h.2
theorem putSel_upk {b : Nat → Bool} {i : Nat} {t : Tmp} {v0 v : Value} {a : Act} {L L' : List (Nat × Tmp × Value)} (k : Nat) (hb : b i = false) (hL : L[k]? = some (i,t,v0)) (hL' : L.set k (i,t,v) = L') (hd : ((L.take k ++ L.drop (k + 1)).all fun e => !(e.1 == i) && !(e.2.1 == t)) = true) :
  (putSel a b L).put (some t) v = putSel a (up b i) L':=by
 have hk:=(List.getElem?_eq_some_iff.1 hL).1;have h1 : L = L.take k ++ (i,t,v0) :: L.drop (k + 1):=by
  have h2 : L[k] = (i,t,v0):=(List.getElem?_eq_some_iff.1 hL).2;rw [← h2,List.getElem_cons_drop,List.take_append_drop]
 have h3 : L' = L.take k ++ (i,t,v) :: L.drop (k + 1):=by rw [← hL',List.set_eq_take_append_cons_drop,if_pos hk]
 rw [h3]
 conv => lhs; rw [h1]
 exact putSel_up hb hd
theorem putSel_none {b : Nat → Bool} {i : Nat} {L : List (Nat × Tmp × Value)} {a : Act} {v : Value} (h : (L.all fun e => !(e.1 == i)) = true) : (putSel a b L).put none v = putSel a (up b i) L:=(putSel_same h).symm
theorem inv_ {l : Array Bool} {fuel : Nat} {a : Act} {w : World} (O : List Nat) (I : (Nat → Bool) → Act → World → Prop) (hT : rtab md ops = T) (hw : waitsOk T.2 B = true) (hk : baseOk T.2 O = true)
  (hl : (lof T.2.length O (fun _ => false) == l.toList && O.length == fuel) = true) (h0 : I (fun _ => false) a w) (hs : ∀ i ∈ O,StepAt P ops Q B O I i)
  (hend : ∀ b a w,(∀ j,O.contains j = true → b j = true) → I b a w → Q .normal a w) : wpAnyLast P md ops Q (fun _ => True) [] fuel l a w:=by
 rw [Bool.and_eq_true,beq_iff_eq,beq_iff_eq] at hl;have h1:=inv_all hT hw hk I hs hend fuel (fun _ => false) a w (by rw [← hl.2]; simp) (fun d r _ _ hb => by cases hb) h0;have h2 : (lof T.2.length O (fun _ => false)).toArray = l:=by apply Array.ext'; exact hl.1
 rw [h2] at h1;exact h1
theorem inv_at {l : Array Bool} {fuel : Nat} {a : Act} {w : World} (O : List Nat) (I : Act → (Nat → Bool) → Act → World → Prop) (hT : rtab md ops = T) (hw : waitsOk T.2 B = true) (hk : baseOk T.2 O = true)
  (hl : (lof T.2.length O (fun _ => false) == l.toList && O.length == fuel) = true) (h0 : I a (fun _ => false) a w) (hs : ∀ i ∈ O,StepAt P ops Q B O (I a) i)
  (hend : ∀ b a' w,(∀ j,O.contains j = true → b j = true) → I a b a' w → Q .normal a' w) : wpAnyLast P md ops Q (fun _ => True) [] fuel l a w:=inv_ O (I a) hT hw hk hl h0 hs hend
end
end Go.Proofs.YtlhmljngjdfbpaaW.PrintLast
end
section
namespace Go.Proofs.YtlhmljngjdfbpaaW.PrintWords
open Go.RowKit
section
variable {P : Program} {ops : Array Oper} {rest : List Oper} {o : Oper} {a : Act} {Q : Exit → Act → World → Prop} {W : World}
theorem gate_guard (hw : Region.wanted o (yielded ops a.tmps) = true) (h : wpList P ops Q ({ o with guard:=none } :: rest) a W) : wpList P ops Q (o :: rest) a W:=by
 have h1 : Region.wanted { o with guard:=none } (yielded ops a.tmps) = true:=rfl
 unfold wpList at h ⊢
 rw [if_pos h1] at h;rw [if_pos hw];exact h
end
end Go.Proofs.YtlhmljngjdfbpaaW.PrintWords
end
section
namespace Go.Proofs.Ytlhmljngjdfbpaa.Pr
open Go.RowKit Go.Proofs.YtlhmljngjdfbpaaW.PrintWords Go.Proofs.YtlhmljngjdfbpaaW.PrintLast Go.Proofs.YtlhmljngjdfbpaaW.PrintMore
attribute [local go_sem] max2_int min2_int max_two min_two max_three min_three max_four min_four
set_option linter.unusedVariables false
set_option linter.unusedSimpArgs false
open List renaming setIfInBounds_toArray → U,set_cons_zero → V,set_cons_succ → Z
open Go.Proofs.YtlhmljngjdfbpaaW.PrintWords.Aside0 renaming mk → zx
def errW : Option Int → Value
 | none => .nilIface
 | some c => .iface 0 (.int .i64 c)
theorem errW_none : errW none = .nilIface:=rfl
theorem errW_some (c : Int) : errW (some c) = .iface 0 (.int .i64 c):=rfl
theorem info3 : (Try.prog.info? 3).map (fun i => (i.zero,i.size,i.bytes)) = some (some (.int .i64 0),1,8):=by kernel_rfl
theorem info5 : (Try.prog.info? 5).map (fun i => (i.zero,i.size,i.bytes)) = some (some (.int .u8 0),1,1):=by kernel_rfl
theorem info58 : (Try.prog.info? 58).map (fun i => (i.zero,i.size,i.bytes)) = some (some (.agg #[(.int .i64 0),(.int .i64 0),(.int .i64 0),(.int .i64 0),(.int .i64 0)]),5,40):=by kernel_rfl
structure S58 where
 f0 : Int
 f1 : Int
 f2 : Int
 f3 : Int
 f4 : Int
def z58 : S58:=⟨(0 : Int),(0 : Int),(0 : Int),(0 : Int),(0 : Int)⟩
def k58 : Kd S58:=Kd.iso (Kd.pair (Kd.int .i64) (Kd.pair (Kd.int .i64) (Kd.pair (Kd.int .i64) (Kd.pair (Kd.int .i64) (Kd.int .i64))))) (fun x : S58 => (x.f0,x.f1,x.f2,x.f3,x.f4))
theorem k58_open {w : World} {x : S58} {cs : List Value} (h : k58.K w x cs) : cs = [.int .i64 x.f0,.int .i64 x.f1,.int .i64 x.f2,.int .i64 x.f3,.int .i64 x.f4]:=by
 obtain ⟨_,_,rfl,rfl,⟨_,_,rfl,rfl,⟨_,_,rfl,rfl,⟨_,_,rfl,rfl,rfl⟩⟩⟩⟩:=h;exact rfl
theorem k58_openM {w : World} {base : Nat} {ok : Nat → Prop} {x : S58} {cs : List Value} (h : k58.M w base ok x cs) : cs = [.int .i64 x.f0,.int .i64 x.f1,.int .i64 x.f2,.int .i64 x.f3,.int .i64 x.f4]:=by
 obtain ⟨_,_,rfl,rfl,⟨_,_,rfl,rfl,⟨_,_,rfl,rfl,⟨_,_,rfl,rfl,rfl⟩⟩⟩⟩:=h;exact rfl
theorem k58_mkM (w : World) (base : Nat) (ok : Nat → Prop) (x : S58)  : k58.M w base ok x [.int .i64 x.f0,.int .i64 x.f1,.int .i64 x.f2,.int .i64 x.f3,.int .i64 x.f4]:=⟨[.int .i64 x.f0],[.int .i64 x.f1,.int .i64 x.f2,.int .i64 x.f3,.int .i64 x.f4],rfl,rfl,⟨[.int .i64 x.f1],[.int .i64 x.f2,.int .i64 x.f3,.int .i64 x.f4],rfl,rfl,⟨[.int .i64 x.f2],[.int .i64 x.f3,.int .i64 x.f4],rfl,rfl,⟨[.int .i64 x.f3],[.int .i64 x.f4],rfl,rfl,rfl⟩⟩⟩⟩
def rd_T58 (xs : List S58) (i : Int) : S58:=xs.getD i.toNat z58
theorem at_T58 {w : World} {A : Option Addr} {n : Nat} {xs : List S58} (h : Kd.C k58 w A n xs) (i : Int) (h0 : 0 ≤ i) (h1 : i < n) : ∃ ad , A = some ad ∧ w.cell? (ad.add (i.toNat * 5)) = some (.int .i64 (rd_T58 xs i).f0) ∧ w.cell? ⟨(ad.add (i.toNat * 5)).block,(ad.add (i.toNat * 5)).off + 1,none⟩ = some (.int .i64 (rd_T58 xs i).f1) ∧ w.cell? ⟨(ad.add (i.toNat * 5)).block,(ad.add (i.toNat * 5)).off + 2,none⟩ = some (.int .i64 (rd_T58 xs i).f2) ∧ w.cell? ⟨(ad.add (i.toNat * 5)).block,(ad.add (i.toNat * 5)).off + 3,none⟩ = some (.int .i64 (rd_T58 xs i).f3) ∧ w.cell? ⟨(ad.add (i.toNat * 5)).block,(ad.add (i.toNat * 5)).off + 4,none⟩ = some (.int .i64 (rd_T58 xs i).f4):=by
 obtain ⟨ad,c,e,_,hK,hc0⟩:=Kd.C_get h z58 i h0 h1;have hc : ∀ j u,c[j]? = some u → w.cell? (ad.add (i.toNat * 5 + j)) = some u:=hc0
 obtain rfl:=k58_open hK;exact ⟨ad,e,hc 0 _ rfl,by rw [← add_field _ _ 1 (by omega)]; exact hc 1 _ rfl,by rw [← add_field _ _ 2 (by omega)]; exact hc 2 _ rfl,by rw [← add_field _ _ 3 (by omega)]; exact hc 3 _ rfl,by rw [← add_field _ _ 4 (by omega)]; exact hc 4 _ rfl⟩
structure S34 where
 f0 : Int
 f1 : (List S58)
structure S25 where
 f0 : (List Int)
 f1 : Int
 f2 : Int
structure S127 where
 f0 : Int
 f1 : Int
 f2 : Int
 f3 : Int
 f4 : Int
structure S103 where
 f0 : Int
 f1 : Bool
def z103 : S103:=⟨(0 : Int),false⟩
def k103 : Kd S103:=Kd.iso (Kd.pair (Kd.int .i64) Kd.bool) (fun x : S103 => (x.f0,x.f1))
theorem k103_open {w : World} {x : S103} {cs : List Value} (h : k103.K w x cs) : cs = [.int .i64 x.f0,.bool x.f1]:=by
 obtain ⟨_,_,rfl,rfl,rfl⟩:=h;exact rfl
theorem k103_mkM (w : World) (base : Nat) (ok : Nat → Prop) (x : S103)  : k103.M w base ok x [.int .i64 x.f0,.bool x.f1]:=⟨[.int .i64 x.f0],[.bool x.f1],rfl,rfl,rfl⟩
def rd_T103 (xs : List S103) (i : Int) : S103:=xs.getD i.toNat z103
theorem at_T103 {w : World} {A : Option Addr} {n : Nat} {xs : List S103} (h : Kd.C k103 w A n xs) (i : Int) (h0 : 0 ≤ i) (h1 : i < n) : ∃ ad , A = some ad ∧ w.cell? (ad.add (i.toNat * 2)) = some (.int .i64 (rd_T103 xs i).f0) ∧ w.cell? ⟨(ad.add (i.toNat * 2)).block,(ad.add (i.toNat * 2)).off + 1,none⟩ = some (.bool (rd_T103 xs i).f1):=by
 obtain ⟨ad,c,e,_,hK,hc0⟩:=Kd.C_get h z103 i h0 h1;have hc : ∀ j u,c[j]? = some u → w.cell? (ad.add (i.toNat * 2 + j)) = some u:=hc0
 obtain rfl:=k103_open hK;exact ⟨ad,e,hc 0 _ rfl,by rw [← add_field _ _ 1 (by omega)]; exact hc 1 _ rfl⟩
structure S147 where
 f0 : Int
 f1 : Int
def z147 : S147:=⟨(0 : Int),(0 : Int)⟩
def k147 : Kd S147:=Kd.iso (Kd.pair (Kd.int .i64) (Kd.int .i64)) (fun x : S147 => (x.f0,x.f1))
theorem k147_open {w : World} {x : S147} {cs : List Value} (h : k147.K w x cs) : cs = [.int .i64 x.f0,.int .i64 x.f1]:=by
 obtain ⟨_,_,rfl,rfl,rfl⟩:=h;exact rfl
theorem k147_openM {w : World} {base : Nat} {ok : Nat → Prop} {x : S147} {cs : List Value} (h : k147.M w base ok x cs) : cs = [.int .i64 x.f0,.int .i64 x.f1]:=by
 obtain ⟨_,_,rfl,rfl,rfl⟩:=h;exact rfl
theorem k147_mkM (w : World) (base : Nat) (ok : Nat → Prop) (x : S147)  : k147.M w base ok x [.int .i64 x.f0,.int .i64 x.f1]:=⟨[.int .i64 x.f0],[.int .i64 x.f1],rfl,rfl,rfl⟩
def rd_T147 (xs : List S147) (i : Int) : S147:=xs.getD i.toNat z147
theorem at_T147 {w : World} {A : Option Addr} {n : Nat} {xs : List S147} (h : Kd.C k147 w A n xs) (i : Int) (h0 : 0 ≤ i) (h1 : i < n) : ∃ ad , A = some ad ∧ w.cell? (ad.add (i.toNat * 2)) = some (.int .i64 (rd_T147 xs i).f0) ∧ w.cell? ⟨(ad.add (i.toNat * 2)).block,(ad.add (i.toNat * 2)).off + 1,none⟩ = some (.int .i64 (rd_T147 xs i).f1):=by
 obtain ⟨ad,c,e,_,hK,hc0⟩:=Kd.C_get h z147 i h0 h1;have hc : ∀ j u,c[j]? = some u → w.cell? (ad.add (i.toNat * 2 + j)) = some u:=hc0
 obtain rfl:=k147_open hK;exact ⟨ad,e,hc 0 _ rfl,by rw [← add_field _ _ 1 (by omega)]; exact hc 1 _ rfl⟩
def impl_within.f (a0 : Int) (a1 : Int) (a2 : Int) : Option (Bool):=if a0 ≥ a1 then (some (decide (a0 ≤ a2))) else (some false)
set_option maxHeartbeats 8000000 in
set_option maxRecDepth 100000 in
theorem impl_within.calls (a0 : Int) (a1 : Int) (a2 : Int) (r : Bool) (w : World) (h : impl_within.f a0 a1 a2 = some r) :
  Calls Try.prog 82 #[.int .i64 a0,.int .i64 a1,.int .i64 a2] w fun e w' => e = .returned (.bool r) ∧ Drawn0 w w':=by
 have H : (if a0 ≥ a1 then (some (decide (a0 ≤ a2))) else (some false)) = some r:=h;clear h
 by_cases c4 : a0 ≥ a1
 case pos =>
  rw [if_pos c4] at H;have c4b0 : decide (a1 ≤ a0) = true:=decide_eq_true c4;clear c4;obtain rfl:=Option.some.inj H
  go_enter Try.func82,Try.ntmps82
  go_wp2
  go_ret;exact ⟨by first | rfl | (simp; done) | (simp [*]; done),by repeat (first | exact Drawn0.refl _ | apply Drawn0.step)⟩
 rw [if_neg c4] at H;have c4b0 : decide (a1 ≤ a0) = false:=decide_eq_false c4;clear c4;obtain rfl:=Option.some.inj H
 go_enter Try.func82,Try.ntmps82
 go_wp2
 go_ret;exact ⟨by first | rfl | (simp; done) | (simp [*]; done),by repeat (first | exact Drawn0.refl _ | apply Drawn0.step)⟩
def idxI {α : Type} (p : α → Bool) (l : List α) : Int:=match l.findIdx? p with | some i => (i : Int) | none => -1
theorem idxI_hit {α : Type} {p : α → Bool} {l : List α} (k : Nat) (hk : k < l.length) (h : p l[k] = true) (hne : ∀ j (hj : j < k),p (l[j]'(by omega)) = false) : idxI p l = k:=by
 have : l.findIdx? p = some k:=by
  rw [List.findIdx?_eq_some_iff_getElem];exact ⟨hk,h,fun j hj => by rw [hne j hj]; simp⟩
 simp [idxI,this]
theorem idxI_miss {α : Type} {p : α → Bool} {l : List α} (h : ∀ x ∈ l,p x = false) : idxI p l = -1:=by
 have : l.findIdx? p = none:=by
  rw [List.findIdx?_eq_none_iff];exact h
 simp [idxI,this]
theorem idxI_any {α : Type} (p : α → Bool) (l : List α) : decide (idxI p l ≥ 0) = l.any p:=by
 cases h : l.findIdx? p with
 | none =>
  rw [List.findIdx?_eq_none_iff] at h;simp only [idxI,List.findIdx?_eq_none_iff.2 h];rw [eq_comm]
  simpa using h
 | some i =>
  have h':=h;rw [List.findIdx?_eq_some_iff_getElem] at h';obtain ⟨hi,hp,_⟩:=h';simp only [idxI,h];have : l.any p = true:=List.any_eq_true.2 ⟨_,List.getElem_mem hi,hp⟩;rw [this];simp
set_option maxHeartbeats 8000000 in
set_option maxRecDepth 100000 in
theorem slices_IndexFunc_int_int.calls (p : Int → Bool) (g : Nat) (lb : Array Value) (eg : ∀ args w,(callFunc g args).run Try.prog w = .ok (.enter g args) w) (A0 : Option Addr) (c0 : Nat) (l0 : List Int) (w : World) (hr0 : Kd.C (Kd.int .i64) w A0 l0.length l0) (_hc0 : l0.length ≤ c0)
  (hp : ∀ (W : World) (x : Int),x ∈ l0 → Below w.heap.size w W → Calls Try.prog g (#[.int .i64 x] ++ lb) W fun e w' => e = .returned (.bool (p x)) ∧ Below W.heap.size W w') :
  Calls Try.prog 145 #[.slice A0 l0.length c0,.func (.func g) #[] lb] w fun e w' => e = .returned (.int .i64 (idxI p l0)) ∧ Below w.heap.size w w':=by
 have HR0:=zx hr0;have hlen:=hr0.2.1;clear hr0
 go_enter Try.func145,Try.ntmps145
 go_wp2
 go_loopg [5,8] l0.length (fun gg _ s8 wr => ∃ x : Int,s8 = .int .i64 x ∧ Aside0 (0 ≤ x) ∧ Aside0 (x ≤ (l0.length : Int)) ∧ Aside0 ((l0.length : Int) - x ≤ gg) ∧ Aside0 (Below w.heap.size w wr) ∧ Aside0 (∀ j (hl : j < l0.length),(j : Int) < x → p l0[j] = false))
 case atStart => exact ⟨0,rfl,⟨by omega⟩,⟨by omega⟩,⟨by omega⟩,⟨Below.refl _ w⟩,⟨fun j hj h => absurd h (by omega)⟩⟩
 case round =>
  obtain ⟨x,rfl,X0,X1,X2,BW,AA⟩:=hrel
  by_cases c2 : x < (l0.length : Int)
  case neg =>
   have c2b0 : decide (x < (l0.length : Int)) = false:=decide_eq_false c2;have E1:=zx c2;clear c2 hp
   go_wp2
   go_ret;refine ⟨?_,BW.out⟩;rw [idxI_miss (fun y hy => by
    obtain ⟨j,hj,rfl⟩:=List.getElem_of_mem hy;have h1:=E1.out;exact AA.out j hj (by omega))]
   rfl
  have c2b0 : decide (x < (l0.length : Int)) = true:=decide_eq_true c2;have h0:=X0.out;have hg:=X2.out;have hlt : x.toNat < l0.length:=by omega
  obtain ⟨ad,e,hx⟩:=Kd.at_int (Kd.C_below HR0.out BW.out) x h0 c2;cases e;have hw : wrap64 (x + 1) = x + 1:=by unfold wrap64; omega
  have HW:=zx hw;clear hw;have hcall:=hp wr l0[x.toNat] (List.getElem_mem hlt) BW.out;clear hp;have hrd : rd l0 x = l0[x.toNat]:=by simp [rd,hlt]
  rw [← hrd] at hcall;have B : Aside0 (∀ h : x.toNat < l0.length,rd l0 x = l0[x.toNat]):=⟨fun _ => hrd⟩
  clear hrd;generalize hy : rd l0 x = y at hx hcall B;clear hy;have p108:=eq_true h0;have q108:=eq_true c2;have E0:=zx h0;have E1:=zx c2;have E2:=zx hg;have E3:=zx hlt;clear h0 hg hlt c2;cases hq : p y with
  | true =>
   rw [hq] at hcall;have HQ:=zx hq;clear hq
   go_wp2_with (go_at_fn g; refine hcall.mono ?_; rintro e w' ⟨rfl,hb'⟩)
   go_ret;refine ⟨?_,below_then BW.out BW.out.size hb'⟩;have h0:=E0.out;rw [idxI_hit x.toNat E3.out (by rw [← B.out E3.out]; exact HQ.out) (fun j hj => AA.out j _ (by omega))];rw [Int.toNat_of_nonneg h0];rfl
  | false =>
   rw [hq] at hcall;have HQ:=zx hq;clear hq
   go_wp2_with (go_at_fn g; refine hcall.mono ?_; rintro e w' ⟨rfl,hb'⟩)
   have h0:=E0.out;have h1:=E1.out;have h2:=E2.out;go_roundg (l0.length - (x.toNat + 1))
   case measure => omega
   case rel =>
    refine ⟨x + 1,by first | rfl | rw [HW.out],⟨by omega⟩,⟨by omega⟩,⟨by omega⟩,⟨below_then BW.out BW.out.size hb'⟩,⟨fun j hj hl => ?_⟩⟩
    by_cases e : (j : Int) = x
    case neg => exact AA.out j hj (by omega)
    have e' : j = x.toNat:=by omega
    subst e';rw [← B.out E3.out]; exact HQ.out
set_option maxHeartbeats 8000000 in
theorem slices_ContainsFunc_int_int.calls (p : Int → Bool) (g : Nat) (lb : Array Value) (eg : ∀ args w,(callFunc g args).run Try.prog w = .ok (.enter g args) w) (A0 : Option Addr) (c0 : Nat) (l0 : List Int) (w : World) (hr0 : Kd.C (Kd.int .i64) w A0 l0.length l0) (hc0 : l0.length ≤ c0)
  (hp : ∀ (W : World) (x : Int),x ∈ l0 → Below w.heap.size w W → Calls Try.prog g (#[.int .i64 x] ++ lb) W fun e w' => e = .returned (.bool (p x)) ∧ Below W.heap.size W w') :
  Calls Try.prog 120 #[.slice A0 l0.length c0,.func (.func g) #[] lb] w fun e w' => e = .returned (.bool (l0.any p)) ∧ Below w.heap.size w w':=by
 rw [← idxI_any];have hcall:=slices_IndexFunc_int_int.calls p g lb eg A0 c0 l0 w hr0 hc0 hp;clear hp eg hr0
 go_enter Try.func120,Try.ntmps120
 go_wp2_with (go_at_call 145; refine hcall.mono ?_; rintro e w' ⟨rfl,hb'⟩)
 go_ret;exact ⟨rfl,hb'⟩
def okN (n v : Int) : Bool:=decide (0 ≤ v) && decide (v ≤ n - 1)
theorem okN_within (n x : Int) : impl_within.f x 0 (n - 1) = some (okN n x):=by
 unfold impl_within.f okN
 by_cases h : x ≥ 0
 case pos => rw [if_pos h]; simp [show (0 : Int) ≤ x from h]
 rw [if_neg h]; simp [show ¬ (0 : Int) ≤ x from h]
def impl_Net_has.f (a0_0 : Int) (_l0_1 : List S58) (l1 : List Int) : Option Bool:=if -9223372036854775807 ≤ a0_0 then if a0_0 ≤ 9223372036854775807 then some (l1.all (okN a0_0)) else none else none
set_option maxHeartbeats 8000000 in
set_option maxRecDepth 100000 in
theorem has_closure (x n : Int) (g : Nat) (v : Value) (w : World) (hn : -9223372036854775807 ≤ n) (hn2 : n ≤ 9223372036854775807) (hb : w.heap[g]? = some (.cells #[.int .i64 n,v] 34 (0,0))) :
  Calls Try.prog 138 #[.int .i64 x,.pointer (some ⟨g,0,none⟩)] w fun e w' => e = .returned (.bool (!okN n x)) ∧ Below w.heap.size w w':=by
 have hcell : w.cell? ⟨g,0,none⟩ = some (.int .i64 n):=(blk_cell hb 0).trans rfl;have hcall:=impl_within.calls x 0 (n - 1) (okN n x) w (okN_within n x);have hu:=Try.underlying34;generalize okN n x = b at hcall;clear hb
 go_enter Try.func138,Try.ntmps138
 go_wp2_with (go_at_call 82; refine hcall.mono ?_; rintro e w' ⟨rfl,⟨nd,rfl⟩⟩)
 go_ret;exact ⟨rfl,pw_below_drewN (Below.refl _ _) _⟩
set_option maxHeartbeats 8000000 in
set_option maxRecDepth 100000 in
theorem impl_Net_has.calls (a0_0 : Int) (A0_1 : Option Addr) (c0_1 : Nat) (l0_1 : List S58) (A1 : Option Addr) (c1 : Nat) (l1 : List Int) (r : Bool) (w : World) (_hr0_1 : Kd.C k58 w A0_1 l0_1.length l0_1) (_hc0_1 : l0_1.length ≤ c0_1) (hr1 : Kd.C (Kd.int .i64) w A1 l1.length l1) (hc1 : l1.length ≤ c1) (h : impl_Net_has.f a0_0 l0_1 l1 = some r) :
  Calls Try.prog 109 #[.agg #[.int .i64 a0_0,.slice A0_1 l0_1.length c0_1],.slice A1 l1.length c1] w fun e w' => e = .returned (.bool r) ∧ Below w.heap.size w w':=by
 have hn : -9223372036854775807 ≤ a0_0:=by
  apply Decidable.byContradiction
  intro c
  unfold impl_Net_has.f at h
  rw [if_neg c] at h;exact absurd h (by simp)
 have hn2 : a0_0 ≤ 9223372036854775807:=by
  apply Decidable.byContradiction
  intro c
  unfold impl_Net_has.f at h
  rw [if_pos hn,if_neg c] at h;exact absurd h (by simp)
 have hr : l1.all (okN a0_0) = r:=by
  unfold impl_Net_has.f at h
  rw [if_pos hn,if_pos hn2] at h;exact Option.some.inj h
 clear h;have hr' : (!(l1.any fun v => !okN a0_0 v)) = r:=by
  rw [← hr,List.not_any_eq_all_not]
  congr 1
  funext v
  simp
 have hcall:=slices_ContainsFunc_int_int.calls (fun v => !okN a0_0 v) 138 #[.pointer (some ⟨w.heap.size,0,none⟩)] (enters_of Try.func138 (by kernel_rfl) rfl) A1 c1 l1 (w.alloc (.cells #[.int .i64 a0_0,.slice A0_1 l0_1.length c0_1] 34)) (Kd.C_below hr1 (below_alloc (Below.refl _ _) _)) hc1
  (fun W x _ hB => has_closure x a0_0 w.heap.size (.slice A0_1 l0_1.length c0_1) W hn hn2 ((hB.block w.heap.size (by simp)).trans (heap_alloc_new w _)))
 have HN:=zx hn;have HR:=zx hr';clear hr1 hr hr' hn hn2;generalize l1.any (fun v => !okN a0_0 v) = b at hcall HR
 go_enter Try.func109,Try.ntmps109
 go_wp2_with (go_at_call 120; refine hcall.mono ?_; rintro e w' ⟨rfl,hb'⟩)
 go_ret;exact ⟨by rw [← HR.out]; rfl,below_then (below_alloc (Below.refl _ _) _) (by simp) hb'⟩
def impl_costOk.f (a0 : Int) : Option (Bool):=(impl_within.f a0 0 99).bind fun t182 => (some t182)
set_option maxHeartbeats 8000000 in
set_option maxRecDepth 100000 in
theorem impl_costOk.calls (a0 : Int) (r : Bool) (w : World) (h : impl_costOk.f a0 = some r) :
  Calls Try.prog 81 #[.int .i64 a0] w fun e w' => e = .returned (.bool r) ∧ Drawn0 w w':=by
 have H : ((impl_within.f a0 0 99).bind fun t182 => (some t182)) = some r:=h;clear h;replace H:=Option.bind_eq_some_iff.mp H;obtain ⟨t182,A20,H⟩:=H;replace H : (some t182) = some r:=H;have A2:=zx A20;clear A20;obtain rfl:=Option.some.inj H
 go_enter Try.func81,Try.ntmps81
 go_wp2_with (first | ((with_reducible refine gate_callee (f:=82) rfl ?_); refine goesL_ (some 4) rfl rfl Try.func82 (by kernel_rfl) rfl #[.int .i64 a0,.int .i64 0,.int .i64 99] rfl (by (try simp only [List.map_toArray,List.map_cons,List.map_nil]); first | done | rfl | (simp only [List.length_drop,List.length_take]; rfl)) ?_; (with_reducible refine (impl_within.calls a0 0 99 t182 _ A2.out).mono ?_); rintro e w' ⟨rfl,⟨nd,rfl⟩⟩; refine ⟨_,rfl,?_⟩))
 go_ret;exact ⟨by first | rfl | (simp; done) | (simp [*]; done),by repeat (first | exact Drawn0.refl _ | apply Drawn0.step)⟩
def okC (c : Int) : Bool:=decide (0 ≤ c) && decide (c ≤ 99)
theorem okC_costOk (c : Int) : impl_costOk.f c = some (okC c):=by
 unfold impl_costOk.f impl_within.f okC
 by_cases h : c ≥ 0
 case pos => rw [if_pos h]; simp [show (0 : Int) ≤ c from h]
 rw [if_neg h]; simp [show ¬ (0 : Int) ≤ c from h]
theorem rd_at_T {l : List S58} {k : Int} (h : k.toNat < l.length) : rd_T58 l k = l[k.toNat]:=by
 simp [rd_T58,h]
def encA (x : S58) : Value:=.agg #[.int .i64 x.f0,.int .i64 x.f1,.int .i64 x.f2,.int .i64 x.f3,.int .i64 x.f4]
set_option maxHeartbeats 8000000 in
set_option maxRecDepth 100000 in
theorem slices_IndexFunc_Arc.calls (p : S58 → Bool) (g : Nat) (lb : Array Value) (eg : ∀ args w,(callFunc g args).run Try.prog w = .ok (.enter g args) w) (A0 : Option Addr) (c0 : Nat) (l0 : List S58) (w : World) (hr0 : Kd.C k58 w A0 l0.length l0) (_hc0 : l0.length ≤ c0)
  (hp : ∀ (W : World) (x : S58),x ∈ l0 → Below w.heap.size w W → Calls Try.prog g (#[encA x] ++ lb) W fun e w' => e = .returned (.bool (p x)) ∧ Below W.heap.size W w') :
  Calls Try.prog 137 #[.slice A0 l0.length c0,.func (.func g) #[] lb] w fun e w' => e = .returned (.int .i64 (idxI p l0)) ∧ Below w.heap.size w w':=by
 have HR0:=zx hr0;have hlen:=hr0.2.1;clear hr0;have hu:=Try.underlying58
 go_enter Try.func137,Try.ntmps137
 go_wp2
 go_loopg [5,8] l0.length (fun gg _ s8 wr => ∃ x : Int,s8 = .int .i64 x ∧ Aside0 (0 ≤ x) ∧ Aside0 (x ≤ (l0.length : Int)) ∧ Aside0 ((l0.length : Int) - x ≤ gg) ∧ Aside0 (Below w.heap.size w wr) ∧ Aside0 (∀ j (hl : j < l0.length),(j : Int) < x → p l0[j] = false))
 case atStart => exact ⟨0,rfl,⟨by omega⟩,⟨by omega⟩,⟨by omega⟩,⟨Below.refl _ w⟩,⟨fun j hj h => absurd h (by omega)⟩⟩
 case round =>
  obtain ⟨x,rfl,X0,X1,X2,BW,AA⟩:=hrel
  by_cases c2 : x < (l0.length : Int)
  case neg =>
   have c2b0 : decide (x < (l0.length : Int)) = false:=decide_eq_false c2;have E1:=zx c2;clear c2 hp
   go_wp2
   go_ret;refine ⟨?_,BW.out⟩;rw [idxI_miss (fun y hy => by
    obtain ⟨j,hj,rfl⟩:=List.getElem_of_mem hy;have h1:=E1.out;exact AA.out j hj (by omega))]
   rfl
  have c2b0 : decide (x < (l0.length : Int)) = true:=decide_eq_true c2;have h0:=X0.out;have hg:=X2.out;have hlt : x.toNat < l0.length:=by omega
  obtain ⟨ad,e,hx0,hx1,hx2,hx3,hx4⟩:=at_T58 (Kd.C_below HR0.out BW.out) x h0 c2;cases e;have hw : wrap64 (x + 1) = x + 1:=by unfold wrap64; omega
  have HW:=zx hw;clear hw;have hcall:=hp wr l0[x.toNat] (List.getElem_mem hlt) BW.out;clear hp;have hrd : rd_T58 l0 x = l0[x.toNat]:=rd_at_T hlt;rw [← hrd] at hcall;have B : Aside0 (∀ h : x.toNat < l0.length,rd_T58 l0 x = l0[x.toNat]):=⟨fun _ => hrd⟩
  clear hrd;generalize hy : rd_T58 l0 x = y at hx0 hx1 hx2 hx3 hx4 hcall B;clear hy
  unfold encA at hcall
  have p108:=eq_true h0;have q108:=eq_true c2;have E0:=zx h0;have E1:=zx c2;have E2:=zx hg;have E3:=zx hlt;clear h0 hg hlt c2;cases hq : p y with
  | true =>
   rw [hq] at hcall;have HQ:=zx hq;clear hq
   go_wp2_with (go_at_fn g; refine hcall.mono ?_; rintro e w' ⟨rfl,hb'⟩)
   go_ret;refine ⟨?_,below_then BW.out BW.out.size hb'⟩;have h0:=E0.out;rw [idxI_hit x.toNat E3.out (by rw [← B.out E3.out]; exact HQ.out) (fun j hj => AA.out j _ (by omega))];rw [Int.toNat_of_nonneg h0];rfl
  | false =>
   rw [hq] at hcall;have HQ:=zx hq;clear hq
   go_wp2_with (go_at_fn g; refine hcall.mono ?_; rintro e w' ⟨rfl,hb'⟩)
   have h0:=E0.out;have h1:=E1.out;have h2:=E2.out;go_roundg (l0.length - (x.toNat + 1))
   case measure => omega
   case rel =>
    refine ⟨x + 1,by first | rfl | rw [HW.out],⟨by omega⟩,⟨by omega⟩,⟨by omega⟩,⟨below_then BW.out BW.out.size hb'⟩,⟨fun j hj hl => ?_⟩⟩
    by_cases e : (j : Int) = x
    case neg => exact AA.out j hj (by omega)
    have e' : j = x.toNat:=by omega
    subst e';rw [← B.out E3.out]; exact HQ.out
set_option maxHeartbeats 8000000 in
theorem slices_ContainsFunc_Arc.calls (p : S58 → Bool) (g : Nat) (lb : Array Value) (eg : ∀ args w,(callFunc g args).run Try.prog w = .ok (.enter g args) w) (A0 : Option Addr) (c0 : Nat) (l0 : List S58) (w : World) (hr0 : Kd.C k58 w A0 l0.length l0) (hc0 : l0.length ≤ c0)
  (hp : ∀ (W : World) (x : S58),x ∈ l0 → Below w.heap.size w W → Calls Try.prog g (#[encA x] ++ lb) W fun e w' => e = .returned (.bool (p x)) ∧ Below W.heap.size W w') :
  Calls Try.prog 107 #[.slice A0 l0.length c0,.func (.func g) #[] lb] w fun e w' => e = .returned (.bool (l0.any p)) ∧ Below w.heap.size w w':=by
 rw [← idxI_any];have hcall:=slices_IndexFunc_Arc.calls p g lb eg A0 c0 l0 w hr0 hc0 hp;clear hp eg hr0;have hu:=Try.underlying58
 go_enter Try.func107,Try.ntmps107
 go_wp2_with (go_at_call 137; refine hcall.mono ?_; rintro e w' ⟨rfl,hb'⟩)
 go_ret;exact ⟨rfl,hb'⟩
def okArc (n : Int) (a : S58) : Bool:=okN n a.f0 && okN n a.f1 && !(a.f0 == a.f1) && okC a.f2 && okC a.f3 && okN 10 a.f4
def netOkB (n : Int) (l : List S58) : Bool:=decide (1 ≤ n) && decide (n ≤ 8) && decide ((l.length : Int) ≤ 16) && l.all (okArc n)
def impl_NetOk.f (a0_0 : Int) (l0_1 : List S58) : Option Bool:=some (decide (1 ≤ a0_0) && decide (a0_0 ≤ 8) && decide ((l0_1.length : Int) ≤ 16) && l0_1.all (okArc a0_0))
theorem heap_alloc_at {W : World} {o : Obj} {k : Nat} (h : k = W.heap.size) : (W.alloc o).heap[k]? = some o:=by subst h; exact heap_alloc_new W o
theorem two_reads (W : World) (b : Nat) (x y : Int) (h : W.heap[b]? = some (.cells #[.int .i64 x,.int .i64 y] 3 (0,0))) : Kd.C (Kd.int .i64) W (some ⟨b,0,none⟩) [x,y].length [x,y] :=
 Kd.C_of_reads (d:=(0 : Int)) (h1:=fun _ => rfl) ⟨rfl,by simp,fun _ => ⟨_,rfl,fun j hj => by
  have h0 : W.cell? ⟨b,0,none⟩ = some (.int .i64 x):=(blk_cell h 0).trans rfl;have h1 : W.cell? ⟨b,1,none⟩ = some (.int .i64 y):=(blk_cell h 1).trans rfl
  match j,hj with
  | 0,_ => rw [add_plain]; exact h0
  | 1,_ => rw [add_plain]; exact h1⟩⟩
set_option maxHeartbeats 8000000 in
set_option maxRecDepth 100000 in
theorem NetOk_closure (x : S58) (n : Int) (g : Nat) (A : Option Addr) (c : Nat) (l : List S58) (w : World) (hn : 1 ≤ n) (hn2 : n ≤ 8) (hr : Kd.C k58 w A l.length l) (hc : l.length ≤ c) (hb : w.heap[g]? = some (.cells #[.int .i64 n,.slice A l.length c] 34 (0,0))) :
  Calls Try.prog 108 #[encA x,.pointer (some ⟨g,0,none⟩)] w fun e w' => e = .returned (.bool (!okArc n x)) ∧ Below w.heap.size w w':=by
 have hcell : w.cell? ⟨g,0,none⟩ = some (.int .i64 n):=(blk_cell hb 0).trans rfl;have hcell1 : w.cell? ⟨g,1,none⟩ = some (.slice A l.length c):=(blk_cell hb 1).trans rfl;have hhas:=fun (W : World) (a0 : Nat) (h1 : Below w.heap.size w W) (h2 : W.heap[a0]? = some (.cells #[.int .i64 x.f0,.int .i64 x.f1] 3 (0,0))) => impl_Net_has.calls n A c l (some ⟨a0,0,none⟩) 2 [x.f0,x.f1] ([x.f0,x.f1].all (okN n)) W (Kd.C_below hr h1) hc (two_reads W a0 x.f0 x.f1 h2) (by simp) (by unfold impl_Net_has.f; rw [if_pos (by omega),if_pos (by omega)])
 have hbl:=World.block_lt_of_cell? _ _ hcell;have hu:=Try.underlying34;have hu2:=Try.underlying58;have hc2:=fun (W : World) => impl_costOk.calls x.f2 (okC x.f2) W (okC_costOk x.f2)
 have hc3:=fun (W : World) => impl_costOk.calls x.f3 (okC x.f3) W (okC_costOk x.f3)
 have hload:=fun (W : World) => impl_within.calls x.f4 0 9 (okN 10 x.f4) W (okN_within 10 x.f4)
 clear hb hr
 unfold encA
 have hall : [x.f0,x.f1].all (okN n) = (okN n x.f0 && okN n x.f1):=by simp
 rw [hall] at hhas;clear hall
 unfold okArc
 generalize hA : (okN n x.f0 && okN n x.f1) = b1 at hhas;clear hA;generalize okN 10 x.f4 = b5 at hload;generalize okC x.f2 = b2 at hc2;generalize okC x.f3 = b3 at hc3;have HB:=zx (Below.refl w.heap.size w);have HN:=zx hn;have HC:=zx hc;clear hn hn2 hc;have bcell : ∀ {W w1 : World},Below W.heap.size W w1 → (∀ b o,b < W.heap.size → w1.cell? ⟨b,o,none⟩ = W.cell? ⟨b,o,none⟩):=fun hb b o h => hb.cell (p:=⟨b,o,none⟩) h
 have HCELL:=zx @bcell;clear bcell;have hcN:=hbl;cases b1 with
 | false =>
  go_enter Try.func108,Try.ntmps108
  go_wp2_with (go_at_call 109; refine (hhas _ _ ?h1 ?h2).mono ?_; (case h1 => repeat (first | exact Below.refl _ _ | apply below_alloc)); (case h2 => exact heap_alloc_at (by simp)); rintro e w1 ⟨rfl,hb'⟩)
  go_ret;exact ⟨rfl,below_then (below_alloc (below_alloc (Below.refl _ _) _) _) (by simp; omega) hb'⟩
 | true =>
  by_cases hft : x.f0 = x.f1
  case pos =>
   have e1 : (x.f0 == x.f1) = true:=by simpa using hft
   clear hft;rw [e1]
   go_enter Try.func108,Try.ntmps108
   go_wp2_with (go_at_call 109; refine (hhas _ _ ?h1 ?h2).mono ?_; (case h1 => repeat (first | exact Below.refl _ _ | apply below_alloc)); (case h2 => exact heap_alloc_at (by simp)); rintro e w1 ⟨rfl,hb'⟩; have hc1:=HCELL.out hb'; have HB1:=zx hb'; clear hb')
   go_ret;exact ⟨rfl,by repeat (first | apply pw_below_drewN | exact below_then (below_alloc (below_alloc (Below.refl _ _) _) _) (by simp; omega) HB1.out)⟩
  have e1 : (x.f0 == x.f1) = false:=by simpa using hft
  clear hft;rw [e1];cases b2 with
  | false =>
   go_enter Try.func108,Try.ntmps108
   go_wp2_with (first | (go_at_call 109; refine (hhas _ _ ?h1 ?h2).mono ?_; (case h1 => repeat (first | exact Below.refl _ _ | apply below_alloc)); (case h2 => exact heap_alloc_at (by simp)); rintro e w1 ⟨rfl,hb'⟩; have hc1:=HCELL.out hb'; have HB1:=zx hb'; clear hb') | (go_at_call 81; (with_reducible refine (hc2 _).mono ?_); rintro e w2 ⟨rfl,⟨nd2,rfl⟩⟩))
   go_ret;exact ⟨rfl,by repeat (first | apply pw_below_drewN | exact below_then (below_alloc (below_alloc (Below.refl _ _) _) _) (by simp; omega) HB1.out)⟩
  | true =>
   cases b3 with
   | false =>
    go_enter Try.func108,Try.ntmps108
    go_wp2_with (first | (go_at_call 109; refine (hhas _ _ ?h1 ?h2).mono ?_; (case h1 => repeat (first | exact Below.refl _ _ | apply below_alloc)); (case h2 => exact heap_alloc_at (by simp)); rintro e w1 ⟨rfl,hb'⟩; have hc1:=HCELL.out hb'; have HB1:=zx hb'; clear hb') | (go_at_call 81; (with_reducible refine (hc2 _).mono ?_); rintro e w2 ⟨rfl,⟨nd2,rfl⟩⟩) | (go_at_call 81; (with_reducible refine (hc3 _).mono ?_); rintro e w3 ⟨rfl,⟨nd3,rfl⟩⟩))
    go_ret;exact ⟨rfl,by repeat (first | apply pw_below_drewN | exact below_then (below_alloc (below_alloc (Below.refl _ _) _) _) (by simp; omega) HB1.out)⟩
   | true =>
    go_enter Try.func108,Try.ntmps108
    go_wp2_with (first | (go_at_call 109; refine (hhas _ _ ?h1 ?h2).mono ?_; (case h1 => repeat (first | exact Below.refl _ _ | apply below_alloc)); (case h2 => exact heap_alloc_at (by simp)); rintro e w1 ⟨rfl,hb'⟩; have hc1:=HCELL.out hb'; have HB1:=zx hb'; clear hb') | (go_at_call 81; (with_reducible refine (hc2 _).mono ?_); rintro e w2 ⟨rfl,⟨nd2,rfl⟩⟩) | (go_at_call 81; (with_reducible refine (hc3 _).mono ?_); rintro e w3 ⟨rfl,⟨nd3,rfl⟩⟩) | (go_at_call 82; refine (hload _).mono ?_; rintro e w4 ⟨rfl,⟨nd4,rfl⟩⟩))
    go_ret;exact ⟨by cases b5 <;> rfl,by repeat (first | apply pw_below_drewN | exact below_then (below_alloc (below_alloc (Below.refl _ _) _) _) (by simp; omega) HB1.out)⟩
set_option maxHeartbeats 8000000 in
set_option maxRecDepth 100000 in
theorem impl_NetOk.calls (a0_0 : Int) (A0_1 : Option Addr) (c0_1 : Nat) (l0_1 : List S58) (r : Bool) (w : World) (p0 : Kd.C k58 w A0_1 l0_1.length l0_1) (p1 : l0_1.length ≤ c0_1) (h : impl_NetOk.f a0_0 l0_1 = some r) :
  Calls Try.prog 51 #[.agg #[.int .i64 a0_0,.slice A0_1 l0_1.length c0_1]] w fun e w' => e = .returned (.bool r) ∧ Below w.heap.size w w':=by
 have hw1:=fun (W : World) => impl_within.calls a0_0 1 8 (decide (1 ≤ a0_0) && decide (a0_0 ≤ 8)) W (by
  unfold impl_within.f
  by_cases h : a0_0 ≥ 1
  case pos => rw [if_pos h]; simp [show (1 : Int) ≤ a0_0 from h]
  rw [if_neg h]; simp [show ¬ (1 : Int) ≤ a0_0 from h])
 obtain rfl:=Option.some.inj h;clear h;have hu:=Try.underlying34
 by_cases hn : 1 ≤ a0_0 ∧ a0_0 ≤ 8
 case neg =>
  have e0 : (decide (1 ≤ a0_0) && decide (a0_0 ≤ 8)) = false:=by
   rw [Bool.and_eq_false_iff]
   by_cases h1 : 1 ≤ a0_0
   case neg => exact .inl (decide_eq_false h1)
   exact .inr (decide_eq_false (fun h2 => hn ⟨h1,h2⟩))
  rw [e0] at hw1 ⊢;clear hn e0
  go_enter Try.func51,Try.ntmps51
  go_wp2_with (first | (go_at_call 82; refine (hw1 _).mono ?_; rintro e w1 ⟨rfl,⟨nd,rfl⟩⟩))
  go_ret;exact ⟨by simp,pw_below_drewN (below_alloc (Below.refl _ _) _) _⟩
 obtain ⟨hn1,hn2⟩:=hn;rw [decide_eq_true hn1,decide_eq_true hn2] at hw1;rw [decide_eq_true hn1,decide_eq_true hn2];have hbox:=fun (nd : Nat) => slices_ContainsFunc_Arc.calls (fun v => !okArc a0_0 v) 108 #[.pointer (some ⟨w.heap.size,0,none⟩)] (enters_of Try.func108 (by kernel_rfl) rfl) A0_1 c0_1 l0_1 ((w.alloc (.cells #[.int .i64 a0_0,.slice A0_1 l0_1.length c0_1] 34)).drewN nd) (Kd.C_below p0 (pw_below_drewN (below_alloc (Below.refl _ _) _) nd)) p1
  (fun W x _ hB => NetOk_closure x a0_0 w.heap.size A0_1 c0_1 l0_1 W hn1 hn2 (Kd.C_below p0 (below_then (pw_below_drewN (below_alloc (Below.refl _ _) _) nd) (by simp) hB)) p1 ((hB.block w.heap.size (by simp)).trans (heap_alloc_new w _)))
 have hall : (!(l0_1.any fun v => !okArc a0_0 v)) = l0_1.all (okArc a0_0):=by
  rw [List.not_any_eq_all_not]
  congr 1
  funext v
  simp
 rw [← hall];clear hall p0 p1 hn1 hn2;generalize (l0_1.any fun v => !okArc a0_0 v) = b at hbox
 by_cases hl : (l0_1.length : Int) ≤ 16
 case neg =>
  have e1 : decide ((l0_1.length : Int) ≤ 16) = false:=decide_eq_false hl;have e2 : decide (l0_1.length ≤ 16) = false:=decide_eq_false (by omega);rw [e1];clear hl
  go_enter Try.func51,Try.ntmps51
  go_wp2_with (first | (go_at_call 82; refine (hw1 _).mono ?_; rintro e w1 ⟨rfl,⟨nd,rfl⟩⟩))
  go_ret;exact ⟨rfl,pw_below_drewN (below_alloc (Below.refl _ _) _) _⟩
 have e1 : decide ((l0_1.length : Int) ≤ 16) = true:=decide_eq_true hl;have e2 : decide (l0_1.length ≤ 16) = true:=decide_eq_true (by omega);rw [e1];clear hl
 go_enter Try.func51,Try.ntmps51
 go_wp2_with (first | (go_at_call 82; refine (hw1 _).mono ?_; rintro e w1 ⟨rfl,⟨nd,rfl⟩⟩) | (go_at_call 107; refine (hbox _).mono ?_; rintro e w2 ⟨rfl,hb'⟩))
 go_ret;exact ⟨by cases b <;> rfl,below_then (pw_below_drewN (below_alloc (Below.refl _ _) _) _) (by simp) hb'⟩
def impl_nodesIn.f (a0_0 : Int) (l0_1 : List (S58)) (l1 : List Int) : Option (Bool):=(impl_NetOk.f a0_0 l0_1).bind fun t725 => (if t725 = true then ((impl_Net_has.f a0_0 l0_1 l1).bind fun t726 => (some t726)) else (some false))
set_option maxHeartbeats 8000000 in
set_option maxRecDepth 100000 in
theorem impl_nodesIn.calls (a0_0 : Int) (A0_1 : Option Addr) (c0_1 : Nat) (l0_1 : List (S58)) (A1 : Option Addr) (c1 : Nat) (l1 : List Int) (r : Bool) (w : World) (hr0_1 : Kd.C k58 w A0_1 l0_1.length l0_1) (hc0_1 : l0_1.length ≤ c0_1) (hr1 : Kd.C (Kd.int .i64) w A1 l1.length l1) (hc1 : l1.length ≤ c1) (h : impl_nodesIn.f a0_0 l0_1 l1 = some r) :
  Calls Try.prog 99 #[.agg #[.int .i64 a0_0,.slice A0_1 l0_1.length c0_1],.slice A1 l1.length c1] w fun e w' => e = .returned (.bool r) ∧ Below w.heap.size w w':=by
 have hu34:=Try.underlying34;have p2:=zx hr0_1;have p3:=zx hc0_1;clear hr0_1 hc0_1;have HR1:=zx hr1;have HC1:=zx hc1;clear hr1 hc1;have HB:=zx (Below.refl w.heap.size w);have H : ((impl_NetOk.f a0_0 l0_1).bind fun t725 => (if t725 = true then ((impl_Net_has.f a0_0 l0_1 l1).bind fun t726 => (some t726)) else (some false))) = some r:=h;clear h;replace H:=Option.bind_eq_some_iff.mp H;obtain ⟨t725,A30,H⟩:=H;replace H : (if t725 = true then ((impl_Net_has.f a0_0 l0_1 l1).bind fun t726 => (some t726)) else (some false)) = some r:=H;have A3:=zx A30;clear A30
 by_cases c4 : t725 = true
 case neg =>
  replace c4:=Bool.eq_false_iff.mpr c4;subst c4;have H1 : (some false) = some r:=by rw [if_neg (show ¬ (false = true) by decide)] at H; exact H
  clear H;have H:=H1;clear H1;obtain rfl:=Option.some.inj H
  go_enter Try.func99,Try.ntmps99
  go_wp2_with (first | ((with_reducible refine gate_dst (N:=2) rfl ?_); refine box_event ?hg (N:=2) ?hd (cs:=#[.int .i64 a0_0,.slice A0_1 l0_1.length c0_1]) (t:=34) ?hr ?_; (case hd => rfl); (case hg => rfl); (case hr => first | (go_simp; done) | (go_simp; rfl)); intro p1 hg w11 hbox hb; have n0_:=zx (below_step HB.out hb); have n1_:=zx (hbox); have n2_:=zx ((by rw [hg]; exact (below_size HB.out) : w.heap.size ≤ p1)); have n3_:=zx ((by rw [hg]; exact (below_size HB.out) : w.heap.size ≤ p1)); clear HB; have HB:=n0_; have p0:=n1_; have GW724:=n2_; have p4:=n3_; clear n0_ n1_ n2_ n3_; clear hb hbox hg; have hcz12_0 : w11.cell? ⟨p1,0,none⟩ = some (.int .i64 a0_0):=(blk_cell p0.out 0).trans rfl; have hcz12_1 : w11.cell? ⟨p1,1,none⟩ = some (.slice A0_1 l0_1.length c0_1):=(blk_cell p0.out 1).trans rfl; have hfz12_0:=blk_frozen p0.out 0; have hfz12_1:=blk_frozen p0.out 1) | ((with_reducible refine gate_callee (f:=51) rfl ?_); refine goesL_ (some 6) rfl rfl Try.func51 (by kernel_rfl) rfl #[.agg #[.int .i64 a0_0,.slice A0_1 l0_1.length c0_1]] rfl (by (try simp only [List.map_toArray,List.map_cons,List.map_nil]); first | done | rfl | (simp only [List.length_drop,List.length_take]; rfl)) ?_; (with_reducible refine (impl_NetOk.calls a0_0 _ _ l0_1 false _ ?side1 ?side2 A3.out).mono ?_); (case side1 => repeat (first | exact (Kd.C_below p2.out HB.out) | (with_reducible refine Kd.C_alloc ?_ _) | (with_reducible refine Kd.C_drewN ?_ _) | (with_reducible refine Kd.C_drew ?_))); (case side2 => exact p3.out); rintro e w13 ⟨rfl,hb⟩; refine ⟨_,rfl,?_⟩; have n0_:=zx (blk_below (g:=p1) (o:=.cells #[.int .i64 a0_0,.slice A0_1 l0_1.length c0_1] 34 (0,0)) p0.out hb); have n1_:=zx (below_step HB.out hb); clear p0; clear HB; have p0:=n0_; have HB:=n1_; clear n0_ n1_; (try clear hb); (try clear hb2); (try clear hk); (try clear hi)))
  go_ret;exact ⟨by first | rfl | (simp [errW_none,errW_some] <;> rfl) | (simp [*,errW_none,errW_some] <;> rfl),by repeat (first | (with_reducible first | exact HB.out | apply below_alloc | apply pw_below_drewN | apply below_drew1 | refine below_set ?_ p4.out) | exact HB.out)⟩
 subst c4;have H1 : ((impl_Net_has.f a0_0 l0_1 l1).bind fun t726 => (some t726)) = some r:=by rw [if_pos rfl] at H; exact H
 clear H;have H:=H1;clear H1;replace H:=Option.bind_eq_some_iff.mp H;obtain ⟨t726,A50,H⟩:=H;replace H : (some t726) = some r:=H;have A5:=zx A50;clear A50;obtain rfl:=Option.some.inj H
 go_enter Try.func99,Try.ntmps99
 go_wp2_with (first | ((with_reducible refine gate_dst (N:=2) rfl ?_); refine box_event ?hg (N:=2) ?hd (cs:=#[.int .i64 a0_0,.slice A0_1 l0_1.length c0_1]) (t:=34) ?hr ?_; (case hd => rfl); (case hg => rfl); (case hr => first | (go_simp; done) | (go_simp; rfl)); intro p1 hg w6 hbox hb; have n0_:=zx (below_step HB.out hb); have n1_:=zx (hbox); have n2_:=zx ((by rw [hg]; exact (below_size HB.out) : w.heap.size ≤ p1)); have n3_:=zx ((by rw [hg]; exact (below_size HB.out) : w.heap.size ≤ p1)); clear HB; have HB:=n0_; have p0:=n1_; have GW724:=n2_; have p4:=n3_; clear n0_ n1_ n2_ n3_; clear hb hbox hg; have hcz7_0 : w6.cell? ⟨p1,0,none⟩ = some (.int .i64 a0_0):=(blk_cell p0.out 0).trans rfl; have hcz7_1 : w6.cell? ⟨p1,1,none⟩ = some (.slice A0_1 l0_1.length c0_1):=(blk_cell p0.out 1).trans rfl; have hfz7_0:=blk_frozen p0.out 0; have hfz7_1:=blk_frozen p0.out 1) | ((with_reducible refine gate_callee (f:=51) rfl ?_); refine goesL_ (some 6) rfl rfl Try.func51 (by kernel_rfl) rfl #[.agg #[.int .i64 a0_0,.slice A0_1 l0_1.length c0_1]] rfl (by (try simp only [List.map_toArray,List.map_cons,List.map_nil]); first | done | rfl | (simp only [List.length_drop,List.length_take]; rfl)) ?_; (with_reducible refine (impl_NetOk.calls a0_0 _ _ l0_1 true _ ?side1 ?side2 A3.out).mono ?_); (case side1 => repeat (first | exact (Kd.C_below p2.out HB.out) | (with_reducible refine Kd.C_alloc ?_ _) | (with_reducible refine Kd.C_drewN ?_ _) | (with_reducible refine Kd.C_drew ?_))); (case side2 => exact p3.out); rintro e w8 ⟨rfl,hb⟩; refine ⟨_,rfl,?_⟩; have n0_:=zx (blk_below (g:=p1) (o:=.cells #[.int .i64 a0_0,.slice A0_1 l0_1.length c0_1] 34 (0,0)) p0.out hb); have n1_:=zx (below_step HB.out hb); clear p0; clear HB; have p0:=n0_; have HB:=n1_; clear n0_ n1_; (try clear hb); (try clear hb2); (try clear hk); (try clear hi); have hcz9_0 : w8.cell? ⟨p1,0,none⟩ = some (.int .i64 a0_0):=(blk_cell p0.out 0).trans rfl; have hcz9_1 : w8.cell? ⟨p1,1,none⟩ = some (.slice A0_1 l0_1.length c0_1):=(blk_cell p0.out 1).trans rfl; have hfz9_0:=blk_frozen p0.out 0; have hfz9_1:=blk_frozen p0.out 1) | (go_at_call 109; (with_reducible refine (impl_Net_has.calls a0_0 _ _ l0_1 _ _ l1 t726 _ ?side1 ?side2 ?side3 ?side4 A5.out).mono ?_); (case side1 => repeat (first | exact (Kd.C_below p2.out HB.out) | (with_reducible refine Kd.C_alloc ?_ _) | (with_reducible refine Kd.C_drewN ?_ _) | (with_reducible refine Kd.C_drew ?_))); (case side2 => exact p3.out); (case side3 => repeat (first | exact (Kd.C_below HR1.out HB.out) | (with_reducible refine Kd.C_alloc ?_ _) | (with_reducible refine Kd.C_drewN ?_ _) | (with_reducible refine Kd.C_drew ?_))); (case side4 => exact HC1.out); rintro e w10 ⟨rfl,hb⟩; have n0_:=zx (blk_below (g:=p1) (o:=.cells #[.int .i64 a0_0,.slice A0_1 l0_1.length c0_1] 34 (0,0)) p0.out hb); have n1_:=zx (below_step HB.out hb); clear p0; clear HB; have p0:=n0_; have HB:=n1_; clear n0_ n1_; (try clear hb); (try clear hb2); (try clear hk); (try clear hi)))
 go_ret;exact ⟨by first | rfl | (simp [errW_none,errW_some] <;> rfl) | (simp [*,errW_none,errW_some] <;> rfl),by repeat (first | (with_reducible first | exact HB.out | apply below_alloc | apply pw_below_drewN | apply below_drew1 | refine below_set ?_ p4.out) | exact HB.out)⟩
def impl_apart.f (a0_0 : Int) (l0_1 : List (S58)) (a1 : Int) (a2 : Int) : Option (Bool):=(impl_nodesIn.f a0_0 l0_1 (([a1,a2] : List Int))).bind fun t731 => (if t731 = true then (some (a1 != a2)) else (some false))
set_option maxHeartbeats 8000000 in
set_option maxRecDepth 100000 in
theorem impl_apart.calls (a0_0 : Int) (A0_1 : Option Addr) (c0_1 : Nat) (l0_1 : List (S58)) (a1 : Int) (a2 : Int) (r : Bool) (w : World) (hr0_1 : Kd.C k58 w A0_1 l0_1.length l0_1) (hc0_1 : l0_1.length ≤ c0_1) (h : impl_apart.f a0_0 l0_1 a1 a2 = some r) :
  Calls Try.prog 89 #[.agg #[.int .i64 a0_0,.slice A0_1 l0_1.length c0_1],.int .i64 a1,.int .i64 a2] w fun e w' => e = .returned (.bool r) ∧ Below w.heap.size w w':=by
 have hu34:=Try.underlying34;have HR0_1:=zx hr0_1;have HC0_1:=zx hc0_1;clear hr0_1 hc0_1;have HB:=zx (Below.refl w.heap.size w);have H : ((impl_nodesIn.f a0_0 l0_1 (([a1,a2] : List Int))).bind fun t731 => (if t731 = true then (some (a1 != a2)) else (some false))) = some r:=h;clear h;obtain ⟨y728,hy728⟩ : ∃ y_ : List Int,y_ = (([a1,a2] : List Int)):=⟨_,rfl⟩
 replace H : ((impl_nodesIn.f a0_0 l0_1 y728).bind fun t731 => (if t731 = true then (some (a1 != a2)) else (some false))) = some r:=by first | (rw [hy728]; with_reducible exact H) | (have H2_:=(Option.bind_some _ _).symm.trans H; rw [hy728]; with_reducible exact H2_) | (have H2_:=(Option.bind_some _ _).symm.trans H; with_reducible exact H2_) | with_reducible exact H | (rw [hy728]; exact H) | exact H
 have p2:=zx hy728;clear hy728;replace H:=Option.bind_eq_some_iff.mp H;obtain ⟨t731,A40,H⟩:=H;replace H : (if t731 = true then (some (a1 != a2)) else (some false)) = some r:=H;have A4:=zx A40;clear A40
 by_cases c5 : t731 = true
 case pos =>
  subst c5;have H1 : (some (a1 != a2)) = some r:=by rw [if_pos rfl] at H; exact H
  clear H;have H:=H1;clear H1;obtain rfl:=Option.some.inj H
  go_enter Try.func89,Try.ntmps89
  go_wp2_with (first | ((with_reducible refine gate_dst (N:=3) rfl ?_); refine box_event ?hg (N:=3) ?hd (cs:=#[.int .i64 a0_0,.slice A0_1 l0_1.length c0_1]) (t:=34) ?hr ?_; (case hd => rfl); (case hg => rfl); (case hr => first | (go_simp; done) | (go_simp; rfl)); intro p1 hg w6 hbox hb; have n0_:=zx (below_step HB.out hb); have n1_:=zx (hbox); have n2_:=zx ((by rw [hg]; exact (below_size HB.out) : w.heap.size ≤ p1)); have n3_:=zx ((by rw [hg]; exact (below_size HB.out) : w.heap.size ≤ p1)); clear HB; have HB:=n0_; have p0:=n1_; have GW727:=n2_; have p3:=n3_; clear n0_ n1_ n2_ n3_; clear hb hbox hg; have hcz7_0 : w6.cell? ⟨p1,0,none⟩ = some (.int .i64 a0_0):=(blk_cell p0.out 0).trans rfl; have hcz7_1 : w6.cell? ⟨p1,1,none⟩ = some (.slice A0_1 l0_1.length c0_1):=(blk_cell p0.out 1).trans rfl; have hfz7_0:=blk_frozen p0.out 0; have hfz7_1:=blk_frozen p0.out 1) | ((with_reducible refine gate_dst (N:=10) rfl ?_); refine Kd.R_lit (Kd.int .i64) _ 3 ?hg (N:=10) ?hd (xs:=([a1,a2] : List Int)) (inner:=[.int .i64 a1,.int .i64 a2]) (ok:=fun _ => True) (okp:=fun _ => True) ?hr ?hp (fun _ hk => hk) trivial (Below.refl _ _) (Nat.le_refl _) (by simp) ?_; (case hd => rfl); (case hg => rfl); (case hr => first | (go_simp; done) | (go_simp; rfl)); (case hp => exact (Reps.one (show Kd.M (Kd.int .i64) _ _ _ a1 [.int .i64 a1] from rfl) (Reps.one (show Kd.M (Kd.int .i64) _ _ _ a2 [.int .i64 a2] from rfl) (Reps.none _ _)))); intro v729 w8 ho9 hb hg_ hnew_; clear hg_ hnew_; (first | rw [← p2.out] at ho9 | (simp only [Int.reduceToNat] at ho9; rw [← p2.out] at ho9)); have n0_:=zx (Kd.R_lower ho9 (below_size HB.out)); have n1_:=zx (blk_below (g:=p1) (o:=.cells #[.int .i64 a0_0,.slice A0_1 l0_1.length c0_1] 34 (0,0)) p0.out hb); have n2_:=zx (below_step HB.out hb); clear p0; clear HB; have HO730:=n0_; have p0:=n1_; have HB:=n2_; clear n0_ n1_ n2_; clear hb ho9; obtain ⟨Ao10,co10,eo10⟩:=Kd.R_slice HO730.out; subst eo10) | ((with_reducible refine gate_callee (f:=99) rfl ?_); refine goesL_ (some 11) rfl rfl Try.func99 (by kernel_rfl) rfl #[.agg #[.int .i64 a0_0,.slice A0_1 l0_1.length c0_1],.slice Ao10 y728.length co10] rfl (by (try simp only [List.map_toArray,List.map_cons,List.map_nil]); first | done | rfl | (simp only [List.length_drop,List.length_take]; rfl)) ?_; (with_reducible refine (impl_nodesIn.calls a0_0 _ _ l0_1 _ _ y728 true _ ?side1 ?side2 ?side3 ?side4 A4.out).mono ?_); (case side1 => repeat (first | exact (Kd.C_below HR0_1.out HB.out) | (with_reducible refine Kd.C_alloc ?_ _) | (with_reducible refine Kd.C_drewN ?_ _) | (with_reducible refine Kd.C_drew ?_))); (case side2 => exact HC0_1.out); (case side3 => repeat (first | exact (Kd.R_reads' HO730.out).2.2 | (with_reducible refine Kd.C_alloc ?_ _) | (with_reducible refine Kd.C_drewN ?_ _) | (with_reducible refine Kd.C_drew ?_))); (case side4 => exact (Kd.R_reads' HO730.out).2.1); rintro e w11 ⟨rfl,hb⟩; refine ⟨_,rfl,?_⟩; have n0_:=zx (Kd.R_below HO730.out hb); have n1_:=zx (blk_below (g:=p1) (o:=.cells #[.int .i64 a0_0,.slice A0_1 l0_1.length c0_1] 34 (0,0)) p0.out hb); have n2_:=zx (below_step HB.out hb); clear HO730; clear p0; clear HB; have HO730:=n0_; have p0:=n1_; have HB:=n2_; clear n0_ n1_ n2_; (try clear hb); (try clear hb2); (try clear hk); (try clear hi)))
  go_ret;exact ⟨by first | rfl | (simp [errW_none,errW_some] <;> rfl) | (simp [*,errW_none,errW_some] <;> rfl),by repeat (first | (with_reducible first | exact HB.out | apply below_alloc | apply pw_below_drewN | apply below_drew1 | refine below_set ?_ p3.out) | exact HB.out)⟩
 replace c5:=Bool.eq_false_iff.mpr c5;subst c5;have H1 : (some false) = some r:=by rw [if_neg (show ¬ (false = true) by decide)] at H; exact H
 clear H;have H:=H1;clear H1;obtain rfl:=Option.some.inj H
 go_enter Try.func89,Try.ntmps89
 go_wp2_with (first | ((with_reducible refine gate_dst (N:=3) rfl ?_); refine box_event ?hg (N:=3) ?hd (cs:=#[.int .i64 a0_0,.slice A0_1 l0_1.length c0_1]) (t:=34) ?hr ?_; (case hd => rfl); (case hg => rfl); (case hr => first | (go_simp; done) | (go_simp; rfl)); intro p1 hg w12 hbox hb; have n0_:=zx (below_step HB.out hb); have n1_:=zx (hbox); have n2_:=zx ((by rw [hg]; exact (below_size HB.out) : w.heap.size ≤ p1)); have n3_:=zx ((by rw [hg]; exact (below_size HB.out) : w.heap.size ≤ p1)); clear HB; have HB:=n0_; have p0:=n1_; have GW727:=n2_; have p3:=n3_; clear n0_ n1_ n2_ n3_; clear hb hbox hg; have hcz13_0 : w12.cell? ⟨p1,0,none⟩ = some (.int .i64 a0_0):=(blk_cell p0.out 0).trans rfl; have hcz13_1 : w12.cell? ⟨p1,1,none⟩ = some (.slice A0_1 l0_1.length c0_1):=(blk_cell p0.out 1).trans rfl; have hfz13_0:=blk_frozen p0.out 0; have hfz13_1:=blk_frozen p0.out 1) | ((with_reducible refine gate_dst (N:=10) rfl ?_); refine Kd.R_lit (Kd.int .i64) _ 3 ?hg (N:=10) ?hd (xs:=([a1,a2] : List Int)) (inner:=[.int .i64 a1,.int .i64 a2]) (ok:=fun _ => True) (okp:=fun _ => True) ?hr ?hp (fun _ hk => hk) trivial (Below.refl _ _) (Nat.le_refl _) (by simp) ?_; (case hd => rfl); (case hg => rfl); (case hr => first | (go_simp; done) | (go_simp; rfl)); (case hp => exact (Reps.one (show Kd.M (Kd.int .i64) _ _ _ a1 [.int .i64 a1] from rfl) (Reps.one (show Kd.M (Kd.int .i64) _ _ _ a2 [.int .i64 a2] from rfl) (Reps.none _ _)))); intro v729 w14 ho15 hb hg_ hnew_; clear hg_ hnew_; (first | rw [← p2.out] at ho15 | (simp only [Int.reduceToNat] at ho15; rw [← p2.out] at ho15)); have n0_:=zx (Kd.R_lower ho15 (below_size HB.out)); have n1_:=zx (blk_below (g:=p1) (o:=.cells #[.int .i64 a0_0,.slice A0_1 l0_1.length c0_1] 34 (0,0)) p0.out hb); have n2_:=zx (below_step HB.out hb); clear p0; clear HB; have HO730:=n0_; have p0:=n1_; have HB:=n2_; clear n0_ n1_ n2_; clear hb ho15; obtain ⟨Ao16,co16,eo16⟩:=Kd.R_slice HO730.out; subst eo16) | ((with_reducible refine gate_callee (f:=99) rfl ?_); refine goesL_ (some 11) rfl rfl Try.func99 (by kernel_rfl) rfl #[.agg #[.int .i64 a0_0,.slice A0_1 l0_1.length c0_1],.slice Ao16 y728.length co16] rfl (by (try simp only [List.map_toArray,List.map_cons,List.map_nil]); first | done | rfl | (simp only [List.length_drop,List.length_take]; rfl)) ?_; (with_reducible refine (impl_nodesIn.calls a0_0 _ _ l0_1 _ _ y728 false _ ?side1 ?side2 ?side3 ?side4 A4.out).mono ?_); (case side1 => repeat (first | exact (Kd.C_below HR0_1.out HB.out) | (with_reducible refine Kd.C_alloc ?_ _) | (with_reducible refine Kd.C_drewN ?_ _) | (with_reducible refine Kd.C_drew ?_))); (case side2 => exact HC0_1.out); (case side3 => repeat (first | exact (Kd.R_reads' HO730.out).2.2 | (with_reducible refine Kd.C_alloc ?_ _) | (with_reducible refine Kd.C_drewN ?_ _) | (with_reducible refine Kd.C_drew ?_))); (case side4 => exact (Kd.R_reads' HO730.out).2.1); rintro e w17 ⟨rfl,hb⟩; refine ⟨_,rfl,?_⟩; have n0_:=zx (Kd.R_below HO730.out hb); have n1_:=zx (blk_below (g:=p1) (o:=.cells #[.int .i64 a0_0,.slice A0_1 l0_1.length c0_1] 34 (0,0)) p0.out hb); have n2_:=zx (below_step HB.out hb); clear HO730; clear p0; clear HB; have HO730:=n0_; have p0:=n1_; have HB:=n2_; clear n0_ n1_ n2_; (try clear hb); (try clear hb2); (try clear hk); (try clear hi)))
 go_ret;exact ⟨by first | rfl | (simp [errW_none,errW_some] <;> rfl) | (simp [*,errW_none,errW_some] <;> rfl),by repeat (first | (with_reducible first | exact HB.out | apply below_alloc | apply pw_below_drewN | apply below_drew1 | refine below_set ?_ p3.out) | exact HB.out)⟩
abbrev Y:=true
abbrev J:=false
mutual
def impl_FlowValue.j0 : Nat → List Int → Int → Int → Bool → Int → List (S58) → Option (Int × Bool)
 | 0,_,_,_,_,_,_ => none
 | k + 1,x1,x2,x3,x27,t1,t3 => if x27 = true then (some (0,false)) else (if 0 ≤ t1 then (if (t1 : Int).toNat ≤ 35184372088832 then (impl_FlowValue.l0 k x1 x2 x3 (List.replicate (t1 : Int).toNat 0) t3 (t3.length : Int) 0) else (none)) else (none))
def impl_FlowValue.l0 : Nat → List Int → Int → Int → List Int → List (S58) → Int → Int → Option (Int × Bool)
 | 0,_,_,_,_,_,_,_ => none
 | k + 1,x1,x2,x3,x10,x32,x33,x34 => if x34 < x33 then (if 0 ≤ x34 then (if x34 < (x32.length : Int) then (if x34 < (x1.length : Int) then ((impl_within.f (rd x1 x34) 0 ((rd_T58 x32 x34).f4)).bind fun t740 => (if t740 = true then (if 0 ≤ ((rd_T58 x32 x34).f0) then (if ((rd_T58 x32 x34).f0) < (x10.length : Int) then ((some (x10.set (((rd_T58 x32 x34).f0) : Int).toNat (wrap64 ((rd x10 ((rd_T58 x32 x34).f0)) + (rd x1 x34))) : List Int)).bind fun y743 => (if 0 ≤ ((rd_T58 x32 x34).f1) then (if ((rd_T58 x32 x34).f1) < (x10.length : Int) then (impl_FlowValue.l0 k x1 x2 x3 (y743.set (((rd_T58 x32 x34).f1) : Int).toNat (wrap64 ((rd y743 ((rd_T58 x32 x34).f1)) - (rd x1 x34)))) x32 x33 (wrap64 (x34 + 1))) else (none)) else (none))) else (none)) else (none)) else (some (0,false)))) else (none)) else (none)) else (none)) else (impl_FlowValue.l1 k x2 x3 x10 (x10.length : Int) 0)
def impl_FlowValue.l1 : Nat → Int → Int → List Int → Int → Int → Option (Int × Bool)
 | 0,_,_,_,_,_ => none
 | k + 1,x2,x3,x10,x71,x72 => if x72 < x71 then (if 0 ≤ x72 then (if x72 < (x10.length : Int) then (if (rd x10 x72) = 0 then (impl_FlowValue.l1 k x2 x3 x10 x71 (wrap64 (x72 + 1))) else (if x72 = x2 then (impl_FlowValue.l1 k x2 x3 x10 x71 (wrap64 (x72 + 1))) else (if x72 = x3 then (impl_FlowValue.l1 k x2 x3 x10 x71 (wrap64 (x72 + 1))) else (some (0,false))))) else (none)) else (none)) else (if 0 ≤ x2 then (if x2 < (x10.length : Int) then (some (rd x10 x2,true)) else (none)) else (none))
end
def impl_FlowValue.f (k : Nat) (a0_0 : Int) (l0_1 : List (S58)) (l1 : List Int) (a2 : Int) (a3 : Int) : Option (Int × Bool):=(impl_apart.f a0_0 l0_1 a2 a3).bind fun t733 => (if t733 = true then (impl_FlowValue.j0 k l1 a2 a3 ((l1.length : Int) != (l0_1.length : Int)) a0_0 l0_1) else (impl_FlowValue.j0 k l1 a2 a3 true a0_0 l0_1))
def impl_FlowValue.T7 : Bool × List (List Nat × List Nat):=(true,[([],[]),([],[]),([0,1],[0,1]),([2],[2]),([],[]),([4],[4]),([3,5],[3,5]),([6],[6])])
def impl_FlowValue.B7 : List Nat:=[0,0,3,7,0,16,63,127]
theorem impl_FlowValue.tab7 : rtab .any (opsOf Try.f34 7) = impl_FlowValue.T7:=by kernel_rfl
theorem impl_FlowValue.bits7 : waitsOk impl_FlowValue.T7.2 impl_FlowValue.B7 = true:=by kernel_rfl
def impl_FlowValue.T9 : Bool × List (List Nat × List Nat):=(true,[([],[]),([],[]),([1],[1]),([0,2],[0,2]),([3],[3]),([],[]),([],[]),([5,6],[5,6]),([7],[7]),([4,8],[4,8]),([0,2,0,1,2,3,4,5,6,7,8,9],[0,2]),([10,9,0,1,2,3,4,5,6,7,8,9],[9,10])])
def impl_FlowValue.B9 : List Nat:=[0,0,2,7,15,0,0,96,224,511,1023,2047]
theorem impl_FlowValue.tab9 : rtab .any (opsOf Try.f34 9) = impl_FlowValue.T9:=by kernel_rfl
theorem impl_FlowValue.bits9 : waitsOk impl_FlowValue.T9.2 impl_FlowValue.B9 = true:=by kernel_rfl
def impl_FlowValue.T10 : Bool × List (List Nat × List Nat):=(true,[([],[]),([],[]),([1],[1]),([0,2],[0,2]),([3],[3]),([],[]),([],[]),([5,6],[5,6]),([7],[7]),([4,8],[4,8]),([0,2,0,1,2,3,4,5,6,7,8,9],[0,2]),([10,9,0,1,2,3,4,5,6,7,8,9],[9,10])])
def impl_FlowValue.B10 : List Nat:=[0,0,2,7,15,0,0,96,224,511,1023,2047]
theorem impl_FlowValue.tab10 : rtab .any (opsOf Try.f34 10) = impl_FlowValue.T10:=by kernel_rfl
theorem impl_FlowValue.bits10 : waitsOk impl_FlowValue.T10.2 impl_FlowValue.B10 = true:=by kernel_rfl
set_option maxHeartbeats 8000000 in
set_option maxRecDepth 100000 in
theorem impl_FlowValue.calls (k : Nat) (a0_0 : Int) (A0_1 : Option Addr) (c0_1 : Nat) (l0_1 : List (S58)) (A1 : Option Addr) (c1 : Nat) (l1 : List Int) (a2 : Int) (a3 : Int) (r1 : Int) (r2 : Bool) (w : World) (hr0_1 : Kd.C k58 w A0_1 l0_1.length l0_1) (hc0_1 : l0_1.length ≤ c0_1) (hr1 : Kd.C (Kd.int .i64) w A1 l1.length l1) (hc1 : l1.length ≤ c1) (h : impl_FlowValue.f k a0_0 l0_1 l1 a2 a3 = some (r1,r2)) :
  Calls Try.prog 34 #[.agg #[.int .i64 a0_0,.slice A0_1 l0_1.length c0_1],.slice A1 l1.length c1,.int .i64 a2,.int .i64 a3] w fun e w' => e = .returned (.tuple #[.int .i64 r1,.bool r2]) ∧ Below w.heap.size w w':=by
 have hu34:=Try.underlying34;have hu58:=Try.underlying58;have t4:=zx hr0_1;have HC0_1:=zx hc0_1;clear hr0_1 hc0_1;have HR1:=zx hr1;have HC1:=zx hc1;clear hr1 hc1;have HB:=zx (Below.refl w.heap.size w);have H : ((impl_apart.f a0_0 l0_1 a2 a3).bind fun t733 => (if t733 = true then (impl_FlowValue.j0 k l1 a2 a3 ((l1.length : Int) != (l0_1.length : Int)) a0_0 l0_1) else (impl_FlowValue.j0 k l1 a2 a3 true a0_0 l0_1))) = some (r1,r2):=h;clear h;have HC5:=zx H;clear H
 go_enter Try.func34,Try.ntmps34
 go_upto_region 1 with (first | ((with_reducible refine gate_dst (N:=4) rfl ?_); (try (refine gate_guard (by rfl) ?_; dsimp only)); refine box_event ?hg (N:=4) ?hd (cs:=#[.int .i64 a0_0,.slice A0_1 l0_1.length c0_1]) (t:=34) ?hr ?_; (case hd => rfl); (case hg => rfl); (case hr => first | (go_simp; done) | (go_simp; rfl)); intro q1 hg w6 hbox hb; have n0_:=zx (below_step HB.out hb); have n1_:=zx (hbox); have n2_:=zx ((by rw [hg]; exact (below_size HB.out) : w.heap.size ≤ q1)); have n3_:=zx ((by rw [hg]; exact (below_size HB.out) : w.heap.size ≤ q1)); clear HB; have HB:=n0_; have p5:=n1_; have GW732:=n2_; have q6:=n3_; clear n0_ n1_ n2_ n3_; clear hb hbox hg))
 (try simp only [Act.put,U,V,Z])
 go_cut [27] (fun v27 wc => ∃ (kq : Nat) (t5 : Bool),v27 = .bool t5 ∧ Aside0 (impl_FlowValue.j0 kq l1 a2 a3 t5 a0_0 l0_1 = some (r1,r2)) ∧ Aside0 (kq ≤ k) ∧ Aside0 (wc.heap[q1]? = some (.cells #[.int .i64 a0_0,(.slice A0_1 l0_1.length c0_1)] 34 (0,0))) ∧ Aside0 (Below w.heap.size w wc))
 case first =>
  have H:=HC5.out;clear HC5;replace H:=Option.bind_eq_some_iff.mp H;obtain ⟨t733,A70,H⟩:=H;replace H : (if t733 = true then (impl_FlowValue.j0 k l1 a2 a3 ((l1.length : Int) != (l0_1.length : Int)) a0_0 l0_1) else (impl_FlowValue.j0 k l1 a2 a3 true a0_0 l0_1)) = some (r1,r2):=H;have A7:=zx A70;clear A70
  by_cases c8 : t733 = true
  case neg =>
   replace c8:=Bool.eq_false_iff.mpr c8;subst c8;have H1 : (impl_FlowValue.j0 k l1 a2 a3 true a0_0 l0_1) = some (r1,r2):=by rw [if_neg (show ¬ (false = true) by decide)] at H; exact H
   clear H;have H:=H1;clear H1;have H':=zx H;clear H;have u0 : w6.cell? ⟨q1,0,none⟩ = some (.int .i64 a0_0):=(blk_cell p5.out 0).trans rfl;have u1 : w6.cell? ⟨q1,1,none⟩ = some (.slice A0_1 l0_1.length c0_1):=(blk_cell p5.out 1).trans rfl;have u2:=blk_frozen p5.out 0;have u3:=blk_frozen p5.out 1
   go_wp2_with (first | ((with_reducible refine gate_callee (f:=89) rfl ?_); refine goesL_ (some 18) rfl rfl Try.func89 (by kernel_rfl) rfl #[.agg #[.int .i64 a0_0,.slice A0_1 l0_1.length c0_1],.int .i64 a2,.int .i64 a3] rfl (by (try simp only [List.map_toArray,List.map_cons,List.map_nil]); first | done | rfl | (simp only [List.length_drop,List.length_take]; rfl)) ?_; (with_reducible refine (impl_apart.calls a0_0 _ _ l0_1 a2 a3 false _ ?side1 ?side2 A7.out).mono ?_); (case side1 => repeat (first | exact (Kd.C_below t4.out HB.out) | (with_reducible refine Kd.C_alloc ?_ _) | (with_reducible refine Kd.C_drewN ?_ _) | (with_reducible refine Kd.C_drew ?_))); (case side2 => exact HC0_1.out); rintro e w13 ⟨rfl,hb⟩; refine ⟨_,rfl,?_⟩; have n0_:=zx (blk_below (g:=q1) (o:=.cells #[.int .i64 a0_0,.slice A0_1 l0_1.length c0_1] 34 (0,0)) p5.out hb); have n1_:=zx (below_step HB.out hb); clear p5; clear HB; have p5:=n0_; have HB:=n1_; clear n0_ n1_; (try clear hb); (try clear hb2); (try clear hk); (try clear hi)))
   go_meet
   case rel => exact ⟨_,(true),(by first | rfl | (simp; done) | (simp [*]; done)),H',⟨by first | omega | exact Nat.le_refl _⟩,⟨by (with_reducible repeat (first | refine blk_drewN ?_ _ | refine blk_drew ?_ | refine blk_alloc ?_ _)); exact p5.out⟩,⟨by repeat (first | (with_reducible first | exact HB.out | apply below_alloc | apply pw_below_drewN | apply below_drew1 | refine below_set ?_ q6.out) | exact HB.out)⟩⟩
  subst c8;have H1 : (impl_FlowValue.j0 k l1 a2 a3 ((l1.length : Int) != (l0_1.length : Int)) a0_0 l0_1) = some (r1,r2):=by rw [if_pos rfl] at H; exact H
  clear H;have H:=H1;clear H1;have H':=zx H;clear H;have u6 : w6.cell? ⟨q1,0,none⟩ = some (.int .i64 a0_0):=(blk_cell p5.out 0).trans rfl;have u7 : w6.cell? ⟨q1,1,none⟩ = some (.slice A0_1 l0_1.length c0_1):=(blk_cell p5.out 1).trans rfl;have u8:=blk_frozen p5.out 0;have u9:=blk_frozen p5.out 1
  go_wp2_with (first | ((with_reducible refine gate_callee (f:=89) rfl ?_); refine goesL_ (some 18) rfl rfl Try.func89 (by kernel_rfl) rfl #[.agg #[.int .i64 a0_0,.slice A0_1 l0_1.length c0_1],.int .i64 a2,.int .i64 a3] rfl (by (try simp only [List.map_toArray,List.map_cons,List.map_nil]); first | done | rfl | (simp only [List.length_drop,List.length_take]; rfl)) ?_; (with_reducible refine (impl_apart.calls a0_0 _ _ l0_1 a2 a3 true _ ?side1 ?side2 A7.out).mono ?_); (case side1 => repeat (first | exact (Kd.C_below t4.out HB.out) | (with_reducible refine Kd.C_alloc ?_ _) | (with_reducible refine Kd.C_drewN ?_ _) | (with_reducible refine Kd.C_drew ?_))); (case side2 => exact HC0_1.out); rintro e w10 ⟨rfl,hb⟩; refine ⟨_,rfl,?_⟩; have n0_:=zx (blk_below (g:=q1) (o:=.cells #[.int .i64 a0_0,.slice A0_1 l0_1.length c0_1] 34 (0,0)) p5.out hb); have n1_:=zx (below_step HB.out hb); clear p5; clear HB; have p5:=n0_; have HB:=n1_; clear n0_ n1_; (try clear hb); (try clear hb2); (try clear hk); (try clear hi); have t6 : w10.cell? ⟨q1,0,none⟩ = some (.int .i64 a0_0):=(blk_cell p5.out 0).trans rfl; have t7 : w10.cell? ⟨q1,1,none⟩ = some (.slice A0_1 l0_1.length c0_1):=(blk_cell p5.out 1).trans rfl; have t8:=blk_frozen p5.out 0; have t9:=blk_frozen p5.out 1))
  go_meet
  case rel => exact ⟨_,(((l1.length : Int) != (l0_1.length : Int))),(by first | rfl | (simp; done) | (simp [*]; done)),H',⟨by first | omega | exact Nat.le_refl _⟩,⟨by (with_reducible repeat (first | refine blk_drewN ?_ _ | refine blk_drew ?_ | refine blk_alloc ?_ _)); exact p5.out⟩,⟨by repeat (first | (with_reducible first | exact HB.out | apply below_alloc | apply pw_below_drewN | apply below_drew1 | refine below_set ?_ q6.out) | exact HB.out)⟩⟩
 case rest =>
  clear HC5
  try clear c1
  try clear p2
  try clear c3
  try clear c8
  try clear t6
  try clear t7
  try clear u0
  try clear u1
  try clear u6
  try clear u7
  try clear t8
  try clear t9
  try clear u2
  try clear u3
  try clear u8
  try clear u9
  obtain ⟨kq,t5,rfl,HA,HJ4,p5,HB⟩:=hcut;cases kq with
  | zero => exact absurd HA.out (by simp [impl_FlowValue.j0])
  | succ kj4 =>
   have H:=HA.out;clear HA;simp only [impl_FlowValue.j0] at H
   by_cases c14 : t5 = true
   case pos =>
    subst c14;have H1 : (some (0,false)) = some (r1,r2):=by rw [if_pos rfl] at H; exact H
    clear H;have H:=H1;clear H1;simp only [Option.some.injEq,Prod.mk.injEq] at H;obtain ⟨rfl,rfl⟩:=H
    go_wp2
    go_ret2;exact ⟨by first | rfl | (simp [errW_none,errW_some] <;> rfl) | (simp [*,errW_none,errW_some] <;> rfl),by repeat (first | (with_reducible first | exact HB.out | apply below_alloc | apply pw_below_drewN | apply below_drew1 | refine below_set ?_ q6.out) | exact HB.out)⟩
   replace c14:=Bool.eq_false_iff.mpr c14;subst c14;have H1 : (if 0 ≤ a0_0 then (if (a0_0 : Int).toNat ≤ 35184372088832 then (impl_FlowValue.l0 kj4 l1 a2 a3 (List.replicate (a0_0 : Int).toNat 0) l0_1 (l0_1.length : Int) 0) else (none)) else (none)) = some (r1,r2):=by rw [if_neg (show ¬ (false = true) by decide)] at H; exact H
   clear H;have H:=H1;clear H1
   by_cases c15 : 0 ≤ a0_0
   case neg =>
    rw [if_neg c15] at H;exact absurd H (by simp)
   rw [if_pos c15] at H;have c15b0:=eq_true c15;have c15b1 : decide (0 ≤ a0_0) = true:=decide_eq_true c15;clear c15
   by_cases c16 : (a0_0 : Int).toNat ≤ 35184372088832
   case neg =>
    rw [if_neg c16] at H;exact absurd H (by simp)
   rw [if_pos c16] at H;have c16b0:=eq_true c16;have c16b1 : decide ((a0_0 : Int).toNat ≤ 35184372088832) = true:=decide_eq_true c16;clear c16;obtain ⟨y734,hy734⟩ : ∃ y_ : List Int,y_ = (List.replicate (a0_0 : Int).toNat 0):=⟨_,rfl⟩
   replace H : (impl_FlowValue.l0 kj4 l1 a2 a3 y734 l0_1 (l0_1.length : Int) 0) = some (r1,r2):=by first | (rw [hy734]; with_reducible exact H) | (have H2_:=(Option.bind_some _ _).symm.trans H; rw [hy734]; with_reducible exact H2_) | (have H2_:=(Option.bind_some _ _).symm.trans H; with_reducible exact H2_) | with_reducible exact H | (rw [hy734]; exact H) | exact H
   have Ny734:=zx hy734;clear hy734;have H':=zx H;clear H;have v3 : wc.cell? ⟨q1,0,none⟩ = some (.int .i64 a0_0):=(blk_cell p5.out 0).trans rfl;have v4 : wc.cell? ⟨q1,1,none⟩ = some (.slice A0_1 l0_1.length c0_1):=(blk_cell p5.out 1).trans rfl;have v5:=blk_frozen p5.out 0;have v6:=blk_frozen p5.out 1
   go_wp2_with (first | ((with_reducible refine gate_dst (N:=30) rfl ?_); (try (refine gate_guard (by rfl) ?_; dsimp only)); refine Kd.R_make (Kd.int .i64) _ 3 rfl (N:=30) rfl 23 _ _ rfl a0_0 (by first | rfl | (go_simp; done) | (go_simp; rfl)) (by first | rfl | (go_simp; done) | (go_simp; rfl)) Try.underlying23 (.int .i64 0) 8 info3 rfl (by decide) (by omega) 0 (ok:=fun _ => True) (okp:=fun _ => True) rfl (fun _ hk => hk) trivial (of_decide_eq_true (by first | (with_reducible assumption) | assumption)) (Nat.le_trans (Nat.mul_le_mul_right _ (of_decide_eq_true (by first | (with_reducible assumption) | assumption) : a0_0.toNat ≤ 35184372088832)) (by omega)) (Below.refl _ _) (Nat.le_refl _) ?_; intro v735 w18 ho19 hb hg_ hnew_; clear hg_ hnew_; (first | rw [← Ny734.out] at ho19 | (simp only [Int.reduceToNat] at ho19; rw [← Ny734.out] at ho19)); have n0_:=zx (Kd.R_lower ho19 (below_size HB.out)); have n1_:=zx (blk_below (g:=q1) (o:=.cells #[.int .i64 a0_0,.slice A0_1 l0_1.length c0_1] 34 (0,0)) p5.out hb); have n2_:=zx (below_step HB.out hb); clear p5; clear HB; have HO736:=n0_; have p5:=n1_; have HB:=n2_; clear n0_ n1_ n2_; clear hb ho19; have v7 : w18.cell? ⟨q1,0,none⟩ = some (.int .i64 a0_0):=(blk_cell p5.out 0).trans rfl; have v8 : w18.cell? ⟨q1,1,none⟩ = some (.slice A0_1 l0_1.length c0_1):=(blk_cell p5.out 1).trans rfl; have v9:=blk_frozen p5.out 0; have y7:=blk_frozen p5.out 1))
   go_loopg [34] kj4 (fun kq v34 w' => ∃ (p9 : List Int) (p0 : Int),v34 = .int .i64 p0 ∧ Aside0 (impl_FlowValue.l0 kq l1 a2 a3 p9 l0_1 (l0_1.length : Int) p0 = some (r1,r2)) ∧ Aside0 (kq ≤ kj4) ∧ Aside0 (Kd.R (Kd.int .i64) 3 w' w.heap.size (fun _ => True) v735 p9) ∧ Aside0 (w'.heap[q1]? = some (.cells #[.int .i64 a0_0,(.slice A0_1 l0_1.length c0_1)] 34 (0,0))) ∧ Aside0 (Below w.heap.size w w'))
   case atStart => exact ⟨(y734),(0),(by first | rfl | (simp; done) | (simp [*]; done)),H',⟨Nat.le_refl _⟩,⟨by (with_reducible repeat (first | apply Kd.R_alloc | apply Kd.R_drewN | apply Kd.R_drew)); exact HO736.out⟩,⟨by (with_reducible repeat (first | refine blk_drewN ?_ _ | refine blk_drew ?_ | refine blk_alloc ?_ _)); exact p5.out⟩,⟨by repeat (first | (with_reducible first | exact HB.out | apply below_alloc | apply pw_below_drewN | apply below_drew1 | refine below_set ?_ q6.out) | exact HB.out)⟩⟩
   case round =>
    clear H'
    try clear c1
    try clear p2
    try clear c3
    try clear c8
    try clear c14
    try clear c15
    try clear c15b0
    try clear c15b1
    try clear c16
    try clear c16b0
    try clear c16b1
    try clear t6
    try clear t7
    try clear u0
    try clear u1
    try clear v3
    try clear v4
    try clear v7
    try clear v8
    try clear u6
    try clear u7
    try clear t8
    try clear t9
    try clear u2
    try clear u3
    try clear v5
    try clear v6
    try clear v9
    try clear y7
    try clear u8
    try clear u9
    try clear p2
    obtain ⟨p9,p0,rfl,HA,HK2,p8,p5,HB⟩:=hrel;cases gk with
    | zero => exact absurd HA.out (by simp [impl_FlowValue.l0])
    | succ k2 =>
     have H:=HA.out;clear HA;simp only [impl_FlowValue.l0] at H
     by_cases c21 : p0 < (l0_1.length : Int)
     case neg =>
      rw [if_neg c21] at H;have c21b0 : decide (p0 < (l0_1.length : Int)) = false:=decide_eq_false c21;clear c21;have H':=zx H;clear H;obtain ⟨Ao49,co49,eo49⟩:=Kd.R_slice p8.out;subst eo49
      go_wp2
      go_loopg [72] k2 (fun kq v72 w' => ∃ (q0 : Int),v72 = .int .i64 q0 ∧ Aside0 (impl_FlowValue.l1 kq a2 a3 p9 (p9.length : Int) q0 = some (r1,r2)) ∧ Aside0 (kq ≤ k2) ∧ Aside0 (Kd.R (Kd.int .i64) 3 w' w.heap.size (fun _ => True) (.slice Ao49 p9.length co49) p9) ∧ Aside0 (w'.heap[q1]? = some (.cells #[.int .i64 a0_0,(.slice A0_1 l0_1.length c0_1)] 34 (0,0))) ∧ Aside0 (Below w.heap.size w w'))
      case atStart => exact ⟨(0),(by first | rfl | (simp; done) | (simp [*]; done)),H',⟨Nat.le_refl _⟩,⟨by (with_reducible repeat (first | apply Kd.R_alloc | apply Kd.R_drewN | apply Kd.R_drew)); exact p8.out⟩,⟨by (with_reducible repeat (first | refine blk_drewN ?_ _ | refine blk_drew ?_ | refine blk_alloc ?_ _)); exact p5.out⟩,⟨by repeat (first | (with_reducible first | exact HB.out | apply below_alloc | apply pw_below_drewN | apply below_drew1 | refine below_set ?_ q6.out) | exact HB.out)⟩⟩
      case round =>
       clear H'
       try clear c2
       try clear p2
       try clear q2
       try clear hx2
       try clear c3
       try clear p3
       try clear q3
       try clear hx3
       try clear c4
       try clear p6
       try clear p7
       try clear q7
       try clear hx7
       try clear c8
       try clear c21
       try clear c21b0
       try clear c22
       try clear c23
       try clear c24
       try clear c26
       try clear c27
       try clear c27b0
       try clear c28
       try clear c28b0
       try clear p29
       try clear q29
       try clear hx29
       try clear hf29
       try clear c30
       try clear c30b0
       try clear c31
       try clear c31b0
       try clear p32
       try clear q32
       try clear hx32
       try clear hf32
       try clear c34
       try clear c45
       try clear y8
       try clear y9
       try clear z0
       try clear z1
       try clear z2
       try clear z8
       try clear z9
       try clear m0
       try clear m1
       try clear m2
       try clear z3
       try clear z4
       try clear z5
       try clear z6
       try clear z7
       try clear m3
       try clear m4
       try clear m5
       try clear m6
       try clear m7
       try clear v0
       try clear v1
       try clear q9
       try clear r0
       try clear r3
       try clear r4
       try clear r5
       try clear q5
       try clear s8
       try clear r7
       try clear r8
       try clear r9
       try clear p29
       try clear p32
       try clear p737
       try clear p739
       try clear p741
       try clear p742
       try clear p744
       try clear p745
       try clear q29
       try clear q32
       try clear q737
       try clear q739
       try clear q741
       try clear q742
       try clear q744
       try clear q745
       obtain ⟨q0,rfl,HA,HK3,p8,p5,HB⟩:=hrel;cases gk with
       | zero => exact absurd HA.out (by simp [impl_FlowValue.l1])
       | succ k3 =>
        have H:=HA.out;clear HA;simp only [impl_FlowValue.l1] at H
        by_cases c50 : q0 < (p9.length : Int)
        case neg =>
         rw [if_neg c50] at H;have c50b0 : decide (q0 < (p9.length : Int)) = false:=decide_eq_false c50;clear c50
         by_cases c56 : 0 ≤ a2
         case neg =>
          rw [if_neg c56] at H;exact absurd H (by simp)
         rw [if_pos c56] at H;have c56b0 : decide (0 ≤ a2) = true:=decide_eq_true c56;clear c56
         by_cases c57 : a2 < (p9.length : Int)
         case neg =>
          rw [if_neg c57] at H;exact absurd H (by simp)
         rw [if_pos c57] at H;have c57b0 : decide (a2 < (p9.length : Int)) = true:=decide_eq_true c57;clear c57;simp only [Option.some.injEq,Prod.mk.injEq] at H;obtain ⟨rfl,rfl⟩:=H;have p748 : 0 ≤ (a2 : Int):=of_decide_eq_true (by first | (with_reducible assumption) | assumption);have q748 : a2 < (p9.length : Int):=of_decide_eq_true (by first | (with_reducible assumption) | assumption);obtain ⟨ad748,e748,hx748_0⟩:=Kd.at_int (Kd.R_reads' p8.out).2.2 a2 p748 q748;cases e748;replace p748:=eq_true p748;replace q748:=eq_true q748
         go_wp2
         go_ret2;exact ⟨by first | rfl | (simp [errW_none,errW_some] <;> rfl) | (simp [*,errW_none,errW_some] <;> rfl),by repeat (first | (with_reducible first | exact HB.out | apply below_alloc | apply pw_below_drewN | apply below_drew1 | refine below_set ?_ q6.out) | exact HB.out)⟩
        rw [if_pos c50] at H;have c50b0 : decide (q0 < (p9.length : Int)) = true:=decide_eq_true c50;clear c50
        by_cases c51 : 0 ≤ q0
        case neg =>
         rw [if_neg c51] at H;exact absurd H (by simp)
        rw [if_pos c51] at H;have c51b0 : decide (0 ≤ q0) = true:=decide_eq_true c51;clear c51
        by_cases c52 : q0 < (p9.length : Int)
        case neg =>
         rw [if_neg c52] at H;exact absurd H (by simp)
        rw [if_pos c52] at H;have c52b0 : decide (q0 < (p9.length : Int)) = true:=decide_eq_true c52;clear c52
        by_cases c53 : (rd p9 q0) = 0
        case pos =>
         rw [if_pos c53] at H;have c53b0 : ((rd p9 q0) == 0) = true:=beq_iff_eq.mpr c53;have c53b1 : ((rd p9 q0) != 0) = false:=bne_eq_false_iff_eq.mpr c53;clear c53;have H':=zx H;clear H;have p747 : 0 ≤ (q0 : Int):=of_decide_eq_true (by first | (with_reducible assumption) | assumption);have q747 : q0 < (p9.length : Int):=of_decide_eq_true (by first | (with_reducible assumption) | assumption);obtain ⟨v2,e747,t2⟩:=Kd.at_int (Kd.R_reads' p8.out).2.2 q0 p747 q747;cases e747;replace p747:=eq_true p747;replace q747:=eq_true q747
         go_wp2
         go_roundg k3
         case measure => have:=HJ4.out; have:=HK2.out; have:=HK3.out; omega
         case rel => exact ⟨(wrap64 (q0 + 1)),(by first | rfl | (simp; done) | (simp [*]; done)),H',⟨by have:=HJ4.out; have:=HK2.out; have:=HK3.out; omega⟩,⟨by (with_reducible repeat (first | apply Kd.R_alloc | apply Kd.R_drewN | apply Kd.R_drew)); exact p8.out⟩,⟨by (with_reducible repeat (first | refine blk_drewN ?_ _ | refine blk_drew ?_ | refine blk_alloc ?_ _)); exact p5.out⟩,⟨by repeat (first | (with_reducible first | exact HB.out | apply below_alloc | apply pw_below_drewN | apply below_drew1 | refine below_set ?_ q6.out) | exact HB.out)⟩⟩
        rw [if_neg c53] at H;have c53b0 : ((rd p9 q0) == 0) = false:=beq_eq_false_iff_ne.mpr c53;have c53b1 : ((rd p9 q0) != 0) = true:=bne_iff_ne.mpr c53
        by_cases c54 : q0 = a2
        case pos =>
         rw [if_pos c54] at H;have c54b0 : (q0 == a2) = true:=beq_iff_eq.mpr c54;have c54b1 : (q0 != a2) = false:=bne_eq_false_iff_eq.mpr c54;clear c54;have H':=zx H;clear H;have p747 : 0 ≤ (q0 : Int):=of_decide_eq_true (by first | (with_reducible assumption) | assumption);have q747 : q0 < (p9.length : Int):=of_decide_eq_true (by first | (with_reducible assumption) | assumption);obtain ⟨v2,e747,t2⟩:=Kd.at_int (Kd.R_reads' p8.out).2.2 q0 p747 q747;cases e747;replace p747:=eq_true p747;replace q747:=eq_true q747
         go_wp2
         go_roundg k3
         case measure => have:=HJ4.out; have:=HK2.out; have:=HK3.out; omega
         case rel => exact ⟨(wrap64 (q0 + 1)),(by first | rfl | (simp; done) | (simp [*]; done)),H',⟨by have:=HJ4.out; have:=HK2.out; have:=HK3.out; omega⟩,⟨by (with_reducible repeat (first | apply Kd.R_alloc | apply Kd.R_drewN | apply Kd.R_drew)); exact p8.out⟩,⟨by (with_reducible repeat (first | refine blk_drewN ?_ _ | refine blk_drew ?_ | refine blk_alloc ?_ _)); exact p5.out⟩,⟨by repeat (first | (with_reducible first | exact HB.out | apply below_alloc | apply pw_below_drewN | apply below_drew1 | refine below_set ?_ q6.out) | exact HB.out)⟩⟩
        rw [if_neg c54] at H;have c54b0 : (q0 == a2) = false:=beq_eq_false_iff_ne.mpr c54;have c54b1 : (q0 != a2) = true:=bne_iff_ne.mpr c54
        by_cases c55 : q0 = a3
        case neg =>
         rw [if_neg c55] at H;have c55b0 : (q0 == a3) = false:=beq_eq_false_iff_ne.mpr c55;have c55b1 : (q0 != a3) = true:=bne_iff_ne.mpr c55;simp only [Option.some.injEq,Prod.mk.injEq] at H;obtain ⟨rfl,rfl⟩:=H;have p747 : 0 ≤ (q0 : Int):=of_decide_eq_true (by first | (with_reducible assumption) | assumption);have q747 : q0 < (p9.length : Int):=of_decide_eq_true (by first | (with_reducible assumption) | assumption);obtain ⟨v2,e747,t2⟩:=Kd.at_int (Kd.R_reads' p8.out).2.2 q0 p747 q747;cases e747;replace p747:=eq_true p747;replace q747:=eq_true q747
         go_wp2
         go_ret2;exact ⟨by first | rfl | (simp [errW_none,errW_some] <;> rfl) | (simp [*,errW_none,errW_some] <;> rfl),by repeat (first | (with_reducible first | exact HB.out | apply below_alloc | apply pw_below_drewN | apply below_drew1 | refine below_set ?_ q6.out) | exact HB.out)⟩
        rw [if_pos c55] at H;have c55b0 : (q0 == a3) = true:=beq_iff_eq.mpr c55;have c55b1 : (q0 != a3) = false:=bne_eq_false_iff_eq.mpr c55;clear c55;have H':=zx H;clear H;have p747 : 0 ≤ (q0 : Int):=of_decide_eq_true (by first | (with_reducible assumption) | assumption);have q747 : q0 < (p9.length : Int):=of_decide_eq_true (by first | (with_reducible assumption) | assumption);obtain ⟨v2,e747,t2⟩:=Kd.at_int (Kd.R_reads' p8.out).2.2 q0 p747 q747;cases e747;replace p747:=eq_true p747;replace q747:=eq_true q747
        go_wp2
        go_roundg k3
        case measure => have:=HJ4.out; have:=HK2.out; have:=HK3.out; omega
        case rel => exact ⟨(wrap64 (q0 + 1)),(by first | rfl | (simp; done) | (simp [*]; done)),H',⟨by have:=HJ4.out; have:=HK2.out; have:=HK3.out; omega⟩,⟨by (with_reducible repeat (first | apply Kd.R_alloc | apply Kd.R_drewN | apply Kd.R_drew)); exact p8.out⟩,⟨by (with_reducible repeat (first | refine blk_drewN ?_ _ | refine blk_drew ?_ | refine blk_alloc ?_ _)); exact p5.out⟩,⟨by repeat (first | (with_reducible first | exact HB.out | apply below_alloc | apply pw_below_drewN | apply below_drew1 | refine below_set ?_ q6.out) | exact HB.out)⟩⟩
     rw [if_pos c21] at H;have c21b0 : decide (p0 < (l0_1.length : Int)) = true:=decide_eq_true c21;clear c21
     by_cases c22 : 0 ≤ p0
     case neg =>
      rw [if_neg c22] at H;exact absurd H (by simp)
     rw [if_pos c22] at H;have c22b0 : decide (0 ≤ p0) = true:=decide_eq_true c22;clear c22
     by_cases c23 : p0 < (l0_1.length : Int)
     case neg =>
      rw [if_neg c23] at H;exact absurd H (by simp)
     rw [if_pos c23] at H;have c23b0 : decide (p0 < (l0_1.length : Int)) = true:=decide_eq_true c23;clear c23
     by_cases c24 : p0 < (l1.length : Int)
     case neg =>
      rw [if_neg c24] at H;exact absurd H (by simp)
     rw [if_pos c24] at H;have c24b0 : decide (p0 < (l1.length : Int)) = true:=decide_eq_true c24;clear c24;replace H:=Option.bind_eq_some_iff.mp H;obtain ⟨t740,A250,H⟩:=H;replace H : (if t740 = true then (if 0 ≤ ((rd_T58 l0_1 p0).f0) then (if ((rd_T58 l0_1 p0).f0) < (p9.length : Int) then ((some (p9.set (((rd_T58 l0_1 p0).f0) : Int).toNat (wrap64 ((rd p9 ((rd_T58 l0_1 p0).f0)) + (rd l1 p0))) : List Int)).bind fun y743 => (if 0 ≤ ((rd_T58 l0_1 p0).f1) then (if ((rd_T58 l0_1 p0).f1) < (p9.length : Int) then (impl_FlowValue.l0 k2 l1 a2 a3 (y743.set (((rd_T58 l0_1 p0).f1) : Int).toNat (wrap64 ((rd y743 ((rd_T58 l0_1 p0).f1)) - (rd l1 p0)))) l0_1 (l0_1.length : Int) (wrap64 (p0 + 1))) else (none)) else (none))) else (none)) else (none)) else (some (0,false))) = some (r1,r2):=H;have A25:=zx A250;clear A250
     by_cases c26 : t740 = true
     case neg =>
      replace c26:=Bool.eq_false_iff.mpr c26;subst c26;have H1 : (some (0,false)) = some (r1,r2):=by rw [if_neg (show ¬ (false = true) by decide)] at H; exact H
      clear H;have H:=H1;clear H1;simp only [Option.some.injEq,Prod.mk.injEq] at H;obtain ⟨rfl,rfl⟩:=H;have p737 : 0 ≤ (p0 : Int):=of_decide_eq_true (by first | (with_reducible assumption) | assumption);have q737 : p0 < (l0_1.length : Int):=of_decide_eq_true (by first | (with_reducible assumption) | assumption);obtain ⟨r6,e737,q9,r0,r3,r4,r5⟩:=at_T58 t4.out p0 p737 q737;cases e737;replace q9:=(HB.out.cell (World.block_lt_of_cell? w _ q9)).trans q9;replace r0:=(HB.out.cell (World.block_lt_of_cell? w _ r0)).trans r0;replace r3:=(HB.out.cell (World.block_lt_of_cell? w _ r3)).trans r3;replace r4:=(HB.out.cell (World.block_lt_of_cell? w _ r4)).trans r4;replace r5:=(HB.out.cell (World.block_lt_of_cell? w _ r5)).trans r5;replace p737:=eq_true p737;replace q737:=eq_true q737
      try go_wp2_with (first | ((with_reducible refine gate_dst (N:=12) rfl ?_); (try (refine gate_guard (by rfl) ?_; dsimp only)); refine box_event ?hg (N:=12) ?hd (cs:=#[.int .i64 0,.int .i64 0,.int .i64 0,.int .i64 0,.int .i64 0]) (t:=58) ?hr ?_; (case hd => rfl); (case hg => rfl); (case hr => first | (go_simp; done) | (go_simp; rfl)); intro p1 hg w44 hbox hb; have n0_:=zx (Kd.R_below p8.out hb); have n1_:=zx (blk_below (g:=q1) (o:=.cells #[.int .i64 a0_0,.slice (some r6) l0_1.length c0_1] 34 (0,0)) p5.out hb); have n2_:=zx (below_step HB.out hb); have n3_:=zx (hbox); have n4_:=zx ((by rw [hg]; exact (below_size HB.out) : w.heap.size ≤ p1)); have n5_:=zx ((by rw [hg]; exact (below_size HB.out) : w.heap.size ≤ p1)); have n6_:=zx ((by rw [hg]; exact Nat.ne_of_lt (blk_lt (g:=q1) (o:=.cells #[.int .i64 a0_0,.slice (some r6) l0_1.length c0_1] 34 (0,0)) p5.out) : q1 ≠ p1)); have n7_:=zx ((by rw [hg]; exact Nat.ne_of_gt (blk_lt (g:=q1) (o:=.cells #[.int .i64 a0_0,.slice (some r6) l0_1.length c0_1] 34 (0,0)) p5.out) : p1 ≠ q1)); clear p8; clear p5; clear HB; have p8:=n0_; have p5:=n1_; have HB:=n2_; have p4:=n3_; have GW738:=n4_; have s9:=n5_; have q4:=n6_; have s7:=n7_; clear n0_ n1_ n2_ n3_ n4_ n5_ n6_ n7_; clear hb hbox hg; have hnb45:=s7.out; have hnc45:=q4.out; have z8 : w44.cell? ⟨p1,0,none⟩ = some (.int .i64 0):=(blk_cell p4.out 0).trans rfl; have z9 : w44.cell? ⟨p1,1,none⟩ = some (.int .i64 0):=(blk_cell p4.out 1).trans rfl; have m0 : w44.cell? ⟨p1,2,none⟩ = some (.int .i64 0):=(blk_cell p4.out 2).trans rfl; have m1 : w44.cell? ⟨p1,3,none⟩ = some (.int .i64 0):=(blk_cell p4.out 3).trans rfl; have m2 : w44.cell? ⟨p1,4,none⟩ = some (.int .i64 0):=(blk_cell p4.out 4).trans rfl; have m3:=blk_frozen p4.out 0; have m4:=blk_frozen p4.out 1; have m5:=blk_frozen p4.out 2; have m6:=blk_frozen p4.out 3; have m7:=blk_frozen p4.out 4))
      have n0_ : Aside0 (Kd.R (Kd.int .i64) 3 (((((w44.setCell ⟨p1,0,none⟩ (.int .i64 ((rd_T58 l0_1 p0).f0))).setCell ⟨p1,1,none⟩ (.int .i64 ((rd_T58 l0_1 p0).f1))).setCell ⟨p1,2,none⟩ (.int .i64 ((rd_T58 l0_1 p0).f2))).setCell ⟨p1,3,none⟩ (.int .i64 ((rd_T58 l0_1 p0).f3))).setCell ⟨p1,4,none⟩ (.int .i64 ((rd_T58 l0_1 p0).f4))) w.heap.size (fun _ => True) v735 p9):=⟨by (with_reducible repeat (first | apply Kd.R_alloc | apply Kd.R_drewN | apply Kd.R_drew)); exact Kd.R_mono (Kd.R_far (p:=⟨p1,4,none⟩) (Kd.R_far (p:=⟨p1,3,none⟩) (Kd.R_far (p:=⟨p1,2,none⟩) (Kd.R_far (p:=⟨p1,1,none⟩) (Kd.R_far (p:=⟨p1,0,none⟩) (Kd.R_types p8.out p4.out (by decide)) (fun _ hk => hk.2) (.int .i64 ((rd_T58 l0_1 p0).f0))) (fun _ hk => hk.2) (.int .i64 ((rd_T58 l0_1 p0).f1))) (fun _ hk => hk.2) (.int .i64 ((rd_T58 l0_1 p0).f2))) (fun _ hk => hk.2) (.int .i64 ((rd_T58 l0_1 p0).f3))) (fun _ hk => hk.2) (.int .i64 ((rd_T58 l0_1 p0).f4))) (fun _ hk => trivial)⟩
      have n1_ : Aside0 ((((((w44.setCell ⟨p1,0,none⟩ (.int .i64 ((rd_T58 l0_1 p0).f0))).setCell ⟨p1,1,none⟩ (.int .i64 ((rd_T58 l0_1 p0).f1))).setCell ⟨p1,2,none⟩ (.int .i64 ((rd_T58 l0_1 p0).f2))).setCell ⟨p1,3,none⟩ (.int .i64 ((rd_T58 l0_1 p0).f3))).setCell ⟨p1,4,none⟩ (.int .i64 ((rd_T58 l0_1 p0).f4))).heap[q1]? = some (.cells #[.int .i64 a0_0,.slice (some r6) l0_1.length c0_1] 34 (0,0))):=⟨by (with_reducible repeat (first | refine blk_drewN ?_ _ | refine blk_drew ?_ | refine blk_alloc ?_ _)); refine blk_far ?_ q4.out _; (with_reducible repeat (first | refine blk_drewN ?_ _ | refine blk_drew ?_ | refine blk_alloc ?_ _)); refine blk_far ?_ q4.out _; (with_reducible repeat (first | refine blk_drewN ?_ _ | refine blk_drew ?_ | refine blk_alloc ?_ _)); refine blk_far ?_ q4.out _; (with_reducible repeat (first | refine blk_drewN ?_ _ | refine blk_drew ?_ | refine blk_alloc ?_ _)); refine blk_far ?_ q4.out _; (with_reducible repeat (first | refine blk_drewN ?_ _ | refine blk_drew ?_ | refine blk_alloc ?_ _)); refine blk_far ?_ q4.out _; (with_reducible repeat (first | refine blk_drewN ?_ _ | refine blk_drew ?_ | refine blk_alloc ?_ _)); exact p5.out⟩
      have n2_ : Aside0 ((((((w44.setCell ⟨p1,0,none⟩ (.int .i64 ((rd_T58 l0_1 p0).f0))).setCell ⟨p1,1,none⟩ (.int .i64 ((rd_T58 l0_1 p0).f1))).setCell ⟨p1,2,none⟩ (.int .i64 ((rd_T58 l0_1 p0).f2))).setCell ⟨p1,3,none⟩ (.int .i64 ((rd_T58 l0_1 p0).f3))).setCell ⟨p1,4,none⟩ (.int .i64 ((rd_T58 l0_1 p0).f4))).heap[p1]? = some (.cells #[.int .i64 ((rd_T58 l0_1 p0).f0),.int .i64 ((rd_T58 l0_1 p0).f1),.int .i64 ((rd_T58 l0_1 p0).f2),.int .i64 ((rd_T58 l0_1 p0).f3),.int .i64 ((rd_T58 l0_1 p0).f4)] 58 (0,0))):=⟨by (with_reducible repeat (first | refine blk_drewN ?_ _ | refine blk_drew ?_ | refine blk_alloc ?_ _)); refine blk_put (cs:=#[.int .i64 ((rd_T58 l0_1 p0).f0),.int .i64 ((rd_T58 l0_1 p0).f1),.int .i64 ((rd_T58 l0_1 p0).f2),.int .i64 ((rd_T58 l0_1 p0).f3),.int .i64 0]) ?_ 4 _ rfl; (with_reducible repeat (first | refine blk_drewN ?_ _ | refine blk_drew ?_ | refine blk_alloc ?_ _)); refine blk_put (cs:=#[.int .i64 ((rd_T58 l0_1 p0).f0),.int .i64 ((rd_T58 l0_1 p0).f1),.int .i64 ((rd_T58 l0_1 p0).f2),.int .i64 0,.int .i64 0]) ?_ 3 _ rfl; (with_reducible repeat (first | refine blk_drewN ?_ _ | refine blk_drew ?_ | refine blk_alloc ?_ _)); refine blk_put (cs:=#[.int .i64 ((rd_T58 l0_1 p0).f0),.int .i64 ((rd_T58 l0_1 p0).f1),.int .i64 0,.int .i64 0,.int .i64 0]) ?_ 2 _ rfl; (with_reducible repeat (first | refine blk_drewN ?_ _ | refine blk_drew ?_ | refine blk_alloc ?_ _)); refine blk_put (cs:=#[.int .i64 ((rd_T58 l0_1 p0).f0),.int .i64 0,.int .i64 0,.int .i64 0,.int .i64 0]) ?_ 1 _ rfl; (with_reducible repeat (first | refine blk_drewN ?_ _ | refine blk_drew ?_ | refine blk_alloc ?_ _)); refine blk_put (cs:=#[.int .i64 0,.int .i64 0,.int .i64 0,.int .i64 0,.int .i64 0]) ?_ 0 _ rfl; (with_reducible repeat (first | refine blk_drewN ?_ _ | refine blk_drew ?_ | refine blk_alloc ?_ _)); exact p4.out⟩
      have n3_ : Aside0 (Below w.heap.size w (((((w44.setCell ⟨p1,0,none⟩ (.int .i64 ((rd_T58 l0_1 p0).f0))).setCell ⟨p1,1,none⟩ (.int .i64 ((rd_T58 l0_1 p0).f1))).setCell ⟨p1,2,none⟩ (.int .i64 ((rd_T58 l0_1 p0).f2))).setCell ⟨p1,3,none⟩ (.int .i64 ((rd_T58 l0_1 p0).f3))).setCell ⟨p1,4,none⟩ (.int .i64 ((rd_T58 l0_1 p0).f4)))):=⟨by repeat (first | (with_reducible first | exact HB.out | apply below_alloc | apply pw_below_drewN | apply below_drew1 | refine below_set ?_ q6.out | refine below_set ?_ s9.out) | exact HB.out)⟩
      (try clear p8)
      (try clear p5)
      (try clear p4)
      (try clear HB)
      generalize (((((w44.setCell ⟨p1,0,none⟩ (.int .i64 ((rd_T58 l0_1 p0).f0))).setCell ⟨p1,1,none⟩ (.int .i64 ((rd_T58 l0_1 p0).f1))).setCell ⟨p1,2,none⟩ (.int .i64 ((rd_T58 l0_1 p0).f2))).setCell ⟨p1,3,none⟩ (.int .i64 ((rd_T58 l0_1 p0).f3))).setCell ⟨p1,4,none⟩ (.int .i64 ((rd_T58 l0_1 p0).f4))) = w47 at n0_ n1_ n2_ n3_ ⊢;have p8:=n0_;have p5:=n1_;have p4:=n2_;have HB:=n3_;clear n0_ n1_ n2_ n3_;have n0_:=zx (Kd.R_drew p8.out);have n1_:=zx (blk_drew p5.out);have n2_:=zx (blk_drew p4.out);have n3_:=zx (below_drew1 HB.out);clear p8;clear p5;clear p4;clear HB;have p8:=n0_;have p5:=n1_;have p4:=n2_;have HB:=n3_;clear n0_ n1_ n2_ n3_;have p739 : 0 ≤ (p0 : Int):=of_decide_eq_true (by first | (with_reducible assumption) | assumption);have q739 : p0 < (l1.length : Int):=of_decide_eq_true (by first | (with_reducible assumption) | assumption);obtain ⟨t0,e739,q5⟩:=Kd.at_int HR1.out p0 p739 q739;have q8:=q5;cases e739;replace q5:=(HB.out.cell (World.block_lt_of_cell? w _ q5)).trans q5;replace p739:=eq_true p739;replace q739:=eq_true q739;refine start_ (n:=8) (S:=fun w' => w'.cell? ⟨p1,0,none⟩ = some (.int .i64 ((rd_T58 l0_1 p0).f0)) ∧ w'.cell? ⟨p1,1,none⟩ = some (.int .i64 ((rd_T58 l0_1 p0).f1)) ∧ w'.cell? ⟨p1,2,none⟩ = some (.int .i64 ((rd_T58 l0_1 p0).f2)) ∧ w'.cell? ⟨p1,3,none⟩ = some (.int .i64 ((rd_T58 l0_1 p0).f3)) ∧ w'.cell? ⟨p1,4,none⟩ = some (.int .i64 ((rd_T58 l0_1 p0).f4)) ∧ w'.cell? (t0.add (p0).toNat) = some (.int .i64 (rd l1 p0))) (ds:=[]) #[J,J,J,J,J,J,J,J] (by kernel_rfl) rfl rfl ⟨(blk_cell p4.out 0).trans rfl,(blk_cell p4.out 1).trans rfl,(blk_cell p4.out 2).trans rfl,(blk_cell p4.out 3).trans rfl,(blk_cell p4.out 4).trans rfl,((HB.out.cell (World.block_lt_of_cell? w _ q8)).trans q8)⟩ (fun hHeld => ?_); refine with_tabW impl_FlowValue.tab7 impl_FlowValue.bits7 (fun HT_ HW_ => ?_);generalize w47.drew = w48 at p8 p5 p4 HB q5 hHeld ⊢;refine pure_ (i:=0) (N:=some 39) (v:=?_) (a':=?_) #[Y,J,J,J,J,J,J,J] rfl rfl (any_of HT_.out (by kernel_rfl)) (fun _ _ _ h => h) (Or.inl ⟨by rfl,?_⟩) ?_ ?_;rotate_left
      ·intro w';go_simp;with_reducible rfl
      rotate_left
      ·simp only [Act.put,U,V,Z,i64_w,i32_w];rfl
      refine pure_ (i:=1) (N:=some 40) (v:=?_) (a':=?_) #[Y,Y,J,J,J,J,J,J] rfl rfl (any_of HT_.out (by kernel_rfl)) (fun _ _ _ h => h) (Or.inl ⟨by rfl,?_⟩) ?_ ?_;rotate_left
      ·intro w';go_simp;with_reducible rfl
      rotate_left
      ·simp only [Act.put,U,V,Z,i64_w,i32_w];rfl
      refine pure_ (i:=2) (N:=some 41) (v:=?_) (a':=?_) #[Y,Y,Y,J,J,J,J,J] rfl rfl (any_of HT_.out (by kernel_rfl)) (fun _ _ _ h => h) (Or.inl ⟨by rfl,?_⟩) ?_ ?_;rotate_left
      ·intro w';go_simp;with_reducible rfl
      rotate_left
      ·simp only [Act.put,U,V,Z,i64_w,i32_w];rfl
      refine pure_ (i:=4) (N:=some 43) (v:=?_) (a':=?_) #[Y,Y,Y,J,Y,J,J,J] rfl rfl (any_of HT_.out (by kernel_rfl)) (fun _ _ _ h => h) (Or.inl ⟨by rfl,?_⟩) ?_ ?_;rotate_left
      ·intro w';go_simp;with_reducible rfl
      rotate_left
      ·simp only [Act.put,U,V,Z,i64_w,i32_w];rfl
      refine take_ (i:=3) (N:=some 42) (v:=?_) (a':=?_) #[Y,Y,Y,Y,Y,J,J,J] rfl rfl (take_ofW HT_.out HW_.out (by kernel_rfl)) (fun _ _ _ h => h) (Or.inl ⟨by rfl,?_⟩) hHeld ?_ ?_;rotate_left
      ·rintro w' ⟨s0,s1,s2,s3,s4,s5⟩;go_simp;with_reducible rfl
      rotate_left
      ·simp only [Act.put,U,V,Z,i64_w,i32_w];rfl
      refine take_ (i:=5) (N:=some 44) (v:=?_) (a':=?_) #[Y,Y,Y,Y,Y,Y,J,J] rfl rfl (take_ofW HT_.out HW_.out (by kernel_rfl)) (fun _ _ _ h => h) (Or.inl ⟨by rfl,?_⟩) hHeld ?_ ?_;rotate_left
      ·rintro w' ⟨s0,s1,s2,s3,s4,s5⟩;go_simp;with_reducible rfl
      rotate_left
      ·simp only [Act.put,U,V,Z,i64_w,i32_w];rfl
      refine one_ (i:=6) (N:=some 45) #[Y,Y,Y,Y,Y,Y,Y,J] rfl rfl (one_of HT_.out (by kernel_rfl)) (by decide) (fun K hK => ?_);refine goes_ Try.func82 (by kernel_rfl) rfl #[.int .i64 (rd l1 p0),.int .i64 0,.int .i64 ((rd_T58 l0_1 p0).f4)] (by rfl) rfl rfl (by (try simp only [List.map_toArray,List.map_cons,List.map_nil]); first | done | rfl | (simp only [List.length_drop,List.length_take]; rfl)) ?_;with_reducible refine (impl_within.calls (rd l1 p0) 0 ((rd_T58 l0_1 p0).f4) false _ A25.out).mono ?_
      rintro e w' ⟨rfl,⟨nd,rfl⟩⟩;refine ⟨_,rfl,?_⟩;refine hK.out _ _ ⟨(blk_cell p4.out 0).trans rfl,(blk_cell p4.out 1).trans rfl,(blk_cell p4.out 2).trans rfl,(blk_cell p4.out 3).trans rfl,(blk_cell p4.out 4).trans rfl,((HB.out.cell (World.block_lt_of_cell? w _ q8)).trans q8)⟩ (fun hHeld => ?_);clear hK K;refine norm_ (a':=?_) ?_ ?_;rotate_left
      ·show Act.put _ (some 45) _ = _
       simp only [Act.put,U,V,Z,i64_w,i32_w];rfl
      refine pure_ (i:=7) (N:=some 46) (v:=?_) (a':=?_) #[Y,Y,Y,Y,Y,Y,Y,Y] rfl rfl (any_of HT_.out (by kernel_rfl)) (fun _ _ _ h => h) (Or.inl ⟨by rfl,?_⟩) ?_ ?_;rotate_left
      ·intro w';go_simp;with_reducible rfl
      rotate_left
      ·simp only [Act.put,U,V,Z,i64_w,i32_w];rfl
      refine done_ (done_of HT_.out (by kernel_rfl)) ?_
      try go_wp2
      go_ret2;exact ⟨by first | rfl | (simp [errW_none,errW_some] <;> rfl) | (simp [*,errW_none,errW_some] <;> rfl),by repeat (first | (with_reducible first | exact HB.out | apply below_alloc | apply pw_below_drewN | apply below_drew1 | refine below_set ?_ q6.out | refine below_set ?_ s9.out) | exact HB.out)⟩
     subst c26;have H1 : (if 0 ≤ ((rd_T58 l0_1 p0).f0) then (if ((rd_T58 l0_1 p0).f0) < (p9.length : Int) then ((some (p9.set (((rd_T58 l0_1 p0).f0) : Int).toNat (wrap64 ((rd p9 ((rd_T58 l0_1 p0).f0)) + (rd l1 p0))) : List Int)).bind fun y743 => (if 0 ≤ ((rd_T58 l0_1 p0).f1) then (if ((rd_T58 l0_1 p0).f1) < (p9.length : Int) then (impl_FlowValue.l0 k2 l1 a2 a3 (y743.set (((rd_T58 l0_1 p0).f1) : Int).toNat (wrap64 ((rd y743 ((rd_T58 l0_1 p0).f1)) - (rd l1 p0)))) l0_1 (l0_1.length : Int) (wrap64 (p0 + 1))) else (none)) else (none))) else (none)) else (none)) = some (r1,r2):=by rw [if_pos rfl] at H; exact H
     clear H;have H:=H1;clear H1
     by_cases c27 : 0 ≤ ((rd_T58 l0_1 p0).f0)
     case neg =>
      rw [if_neg c27] at H;exact absurd H (by simp)
     rw [if_pos c27] at H;have c27b0 : decide (0 ≤ ((rd_T58 l0_1 p0).f0)) = true:=decide_eq_true c27;clear c27
     by_cases c28 : ((rd_T58 l0_1 p0).f0) < (p9.length : Int)
     case neg =>
      rw [if_neg c28] at H;exact absurd H (by simp)
     rw [if_pos c28] at H;have c28b0 : decide (((rd_T58 l0_1 p0).f0) < (p9.length : Int)) = true:=decide_eq_true c28;clear c28;obtain ⟨y743,hy743⟩ : ∃ y_ : List Int,y_ = (p9.set (((rd_T58 l0_1 p0).f0) : Int).toNat (wrap64 ((rd p9 ((rd_T58 l0_1 p0).f0)) + (rd l1 p0)))):=⟨_,rfl⟩
     replace H : (if 0 ≤ ((rd_T58 l0_1 p0).f1) then (if ((rd_T58 l0_1 p0).f1) < (p9.length : Int) then (impl_FlowValue.l0 k2 l1 a2 a3 (y743.set (((rd_T58 l0_1 p0).f1) : Int).toNat (wrap64 ((rd y743 ((rd_T58 l0_1 p0).f1)) - (rd l1 p0)))) l0_1 (l0_1.length : Int) (wrap64 (p0 + 1))) else (none)) else (none)) = some (r1,r2):=by first | (rw [hy743]; with_reducible exact H) | (have H2_:=(Option.bind_some _ _).symm.trans H; rw [hy743]; with_reducible exact H2_) | (have H2_:=(Option.bind_some _ _).symm.trans H; with_reducible exact H2_) | with_reducible exact H | (rw [hy743]; exact H) | exact H
     have Ny743:=zx hy743;clear hy743
     by_cases c30 : 0 ≤ ((rd_T58 l0_1 p0).f1)
     case neg =>
      rw [if_neg c30] at H;exact absurd H (by simp)
     rw [if_pos c30] at H;have c30b0 : decide (0 ≤ ((rd_T58 l0_1 p0).f1)) = true:=decide_eq_true c30;clear c30
     by_cases c31 : ((rd_T58 l0_1 p0).f1) < (p9.length : Int)
     case neg =>
      rw [if_neg c31] at H;exact absurd H (by simp)
     rw [if_pos c31] at H;have c31b0 : decide (((rd_T58 l0_1 p0).f1) < (p9.length : Int)) = true:=decide_eq_true c31;clear c31;obtain ⟨y746,hy746⟩ : ∃ y_ : List Int,y_ = (y743.set (((rd_T58 l0_1 p0).f1) : Int).toNat (wrap64 ((rd y743 ((rd_T58 l0_1 p0).f1)) - (rd l1 p0)))):=⟨_,rfl⟩
     replace H : (impl_FlowValue.l0 k2 l1 a2 a3 y746 l0_1 (l0_1.length : Int) (wrap64 (p0 + 1))) = some (r1,r2):=by first | (rw [hy746]; with_reducible exact H) | (have H2_:=(Option.bind_some _ _).symm.trans H; rw [hy746]; with_reducible exact H2_) | (have H2_:=(Option.bind_some _ _).symm.trans H; with_reducible exact H2_) | with_reducible exact H | (rw [hy746]; exact H) | exact H
     have Ny746:=zx hy746;clear hy746;have H':=zx H;clear H;have p737 : 0 ≤ (p0 : Int):=of_decide_eq_true (by first | (with_reducible assumption) | assumption);have q737 : p0 < (l0_1.length : Int):=of_decide_eq_true (by first | (with_reducible assumption) | assumption);obtain ⟨r6,e737,q9,r0,r3,r4,r5⟩:=at_T58 t4.out p0 p737 q737;cases e737;replace q9:=(HB.out.cell (World.block_lt_of_cell? w _ q9)).trans q9;replace r0:=(HB.out.cell (World.block_lt_of_cell? w _ r0)).trans r0;replace r3:=(HB.out.cell (World.block_lt_of_cell? w _ r3)).trans r3;replace r4:=(HB.out.cell (World.block_lt_of_cell? w _ r4)).trans r4;replace r5:=(HB.out.cell (World.block_lt_of_cell? w _ r5)).trans r5;replace p737:=eq_true p737;replace q737:=eq_true q737
     try go_wp2_with (first | ((with_reducible refine gate_dst (N:=12) rfl ?_); (try (refine gate_guard (by rfl) ?_; dsimp only)); refine box_event ?hg (N:=12) ?hd (cs:=#[.int .i64 0,.int .i64 0,.int .i64 0,.int .i64 0,.int .i64 0]) (t:=58) ?hr ?_; (case hd => rfl); (case hg => rfl); (case hr => first | (go_simp; done) | (go_simp; rfl)); intro p1 hg w33 hbox hb; have n0_:=zx (Kd.R_below p8.out hb); have n1_:=zx (blk_below (g:=q1) (o:=.cells #[.int .i64 a0_0,.slice (some r6) l0_1.length c0_1] 34 (0,0)) p5.out hb); have n2_:=zx (below_step HB.out hb); have n3_:=zx (hbox); have n4_:=zx ((by rw [hg]; exact (below_size HB.out) : w.heap.size ≤ p1)); have n5_:=zx ((by rw [hg]; exact (below_size HB.out) : w.heap.size ≤ p1)); have n6_:=zx ((by rw [hg]; exact Nat.ne_of_lt (blk_lt (g:=q1) (o:=.cells #[.int .i64 a0_0,.slice (some r6) l0_1.length c0_1] 34 (0,0)) p5.out) : q1 ≠ p1)); have n7_:=zx ((by rw [hg]; exact Nat.ne_of_gt (blk_lt (g:=q1) (o:=.cells #[.int .i64 a0_0,.slice (some r6) l0_1.length c0_1] 34 (0,0)) p5.out) : p1 ≠ q1)); clear p8; clear p5; clear HB; have p8:=n0_; have p5:=n1_; have HB:=n2_; have p4:=n3_; have GW738:=n4_; have s9:=n5_; have q4:=n6_; have s7:=n7_; clear n0_ n1_ n2_ n3_ n4_ n5_ n6_ n7_; clear hb hbox hg; have hnb34:=s7.out; have hnc34:=q4.out; have y8 : w33.cell? ⟨p1,0,none⟩ = some (.int .i64 0):=(blk_cell p4.out 0).trans rfl; have y9 : w33.cell? ⟨p1,1,none⟩ = some (.int .i64 0):=(blk_cell p4.out 1).trans rfl; have z0 : w33.cell? ⟨p1,2,none⟩ = some (.int .i64 0):=(blk_cell p4.out 2).trans rfl; have z1 : w33.cell? ⟨p1,3,none⟩ = some (.int .i64 0):=(blk_cell p4.out 3).trans rfl; have z2 : w33.cell? ⟨p1,4,none⟩ = some (.int .i64 0):=(blk_cell p4.out 4).trans rfl; have z3:=blk_frozen p4.out 0; have z4:=blk_frozen p4.out 1; have z5:=blk_frozen p4.out 2; have z6:=blk_frozen p4.out 3; have z7:=blk_frozen p4.out 4))
     have n0_ : Aside0 (Kd.R (Kd.int .i64) 3 (((((w33.setCell ⟨p1,0,none⟩ (.int .i64 ((rd_T58 l0_1 p0).f0))).setCell ⟨p1,1,none⟩ (.int .i64 ((rd_T58 l0_1 p0).f1))).setCell ⟨p1,2,none⟩ (.int .i64 ((rd_T58 l0_1 p0).f2))).setCell ⟨p1,3,none⟩ (.int .i64 ((rd_T58 l0_1 p0).f3))).setCell ⟨p1,4,none⟩ (.int .i64 ((rd_T58 l0_1 p0).f4))) w.heap.size (fun _ => True) v735 p9):=⟨by (with_reducible repeat (first | apply Kd.R_alloc | apply Kd.R_drewN | apply Kd.R_drew)); exact Kd.R_mono (Kd.R_far (p:=⟨p1,4,none⟩) (Kd.R_far (p:=⟨p1,3,none⟩) (Kd.R_far (p:=⟨p1,2,none⟩) (Kd.R_far (p:=⟨p1,1,none⟩) (Kd.R_far (p:=⟨p1,0,none⟩) (Kd.R_types p8.out p4.out (by decide)) (fun _ hk => hk.2) (.int .i64 ((rd_T58 l0_1 p0).f0))) (fun _ hk => hk.2) (.int .i64 ((rd_T58 l0_1 p0).f1))) (fun _ hk => hk.2) (.int .i64 ((rd_T58 l0_1 p0).f2))) (fun _ hk => hk.2) (.int .i64 ((rd_T58 l0_1 p0).f3))) (fun _ hk => hk.2) (.int .i64 ((rd_T58 l0_1 p0).f4))) (fun _ hk => trivial)⟩
     have n1_ : Aside0 ((((((w33.setCell ⟨p1,0,none⟩ (.int .i64 ((rd_T58 l0_1 p0).f0))).setCell ⟨p1,1,none⟩ (.int .i64 ((rd_T58 l0_1 p0).f1))).setCell ⟨p1,2,none⟩ (.int .i64 ((rd_T58 l0_1 p0).f2))).setCell ⟨p1,3,none⟩ (.int .i64 ((rd_T58 l0_1 p0).f3))).setCell ⟨p1,4,none⟩ (.int .i64 ((rd_T58 l0_1 p0).f4))).heap[q1]? = some (.cells #[.int .i64 a0_0,.slice (some r6) l0_1.length c0_1] 34 (0,0))):=⟨by (with_reducible repeat (first | refine blk_drewN ?_ _ | refine blk_drew ?_ | refine blk_alloc ?_ _)); refine blk_far ?_ q4.out _; (with_reducible repeat (first | refine blk_drewN ?_ _ | refine blk_drew ?_ | refine blk_alloc ?_ _)); refine blk_far ?_ q4.out _; (with_reducible repeat (first | refine blk_drewN ?_ _ | refine blk_drew ?_ | refine blk_alloc ?_ _)); refine blk_far ?_ q4.out _; (with_reducible repeat (first | refine blk_drewN ?_ _ | refine blk_drew ?_ | refine blk_alloc ?_ _)); refine blk_far ?_ q4.out _; (with_reducible repeat (first | refine blk_drewN ?_ _ | refine blk_drew ?_ | refine blk_alloc ?_ _)); refine blk_far ?_ q4.out _; (with_reducible repeat (first | refine blk_drewN ?_ _ | refine blk_drew ?_ | refine blk_alloc ?_ _)); exact p5.out⟩
     have n2_ : Aside0 ((((((w33.setCell ⟨p1,0,none⟩ (.int .i64 ((rd_T58 l0_1 p0).f0))).setCell ⟨p1,1,none⟩ (.int .i64 ((rd_T58 l0_1 p0).f1))).setCell ⟨p1,2,none⟩ (.int .i64 ((rd_T58 l0_1 p0).f2))).setCell ⟨p1,3,none⟩ (.int .i64 ((rd_T58 l0_1 p0).f3))).setCell ⟨p1,4,none⟩ (.int .i64 ((rd_T58 l0_1 p0).f4))).heap[p1]? = some (.cells #[.int .i64 ((rd_T58 l0_1 p0).f0),.int .i64 ((rd_T58 l0_1 p0).f1),.int .i64 ((rd_T58 l0_1 p0).f2),.int .i64 ((rd_T58 l0_1 p0).f3),.int .i64 ((rd_T58 l0_1 p0).f4)] 58 (0,0))):=⟨by (with_reducible repeat (first | refine blk_drewN ?_ _ | refine blk_drew ?_ | refine blk_alloc ?_ _)); refine blk_put (cs:=#[.int .i64 ((rd_T58 l0_1 p0).f0),.int .i64 ((rd_T58 l0_1 p0).f1),.int .i64 ((rd_T58 l0_1 p0).f2),.int .i64 ((rd_T58 l0_1 p0).f3),.int .i64 0]) ?_ 4 _ rfl; (with_reducible repeat (first | refine blk_drewN ?_ _ | refine blk_drew ?_ | refine blk_alloc ?_ _)); refine blk_put (cs:=#[.int .i64 ((rd_T58 l0_1 p0).f0),.int .i64 ((rd_T58 l0_1 p0).f1),.int .i64 ((rd_T58 l0_1 p0).f2),.int .i64 0,.int .i64 0]) ?_ 3 _ rfl; (with_reducible repeat (first | refine blk_drewN ?_ _ | refine blk_drew ?_ | refine blk_alloc ?_ _)); refine blk_put (cs:=#[.int .i64 ((rd_T58 l0_1 p0).f0),.int .i64 ((rd_T58 l0_1 p0).f1),.int .i64 0,.int .i64 0,.int .i64 0]) ?_ 2 _ rfl; (with_reducible repeat (first | refine blk_drewN ?_ _ | refine blk_drew ?_ | refine blk_alloc ?_ _)); refine blk_put (cs:=#[.int .i64 ((rd_T58 l0_1 p0).f0),.int .i64 0,.int .i64 0,.int .i64 0,.int .i64 0]) ?_ 1 _ rfl; (with_reducible repeat (first | refine blk_drewN ?_ _ | refine blk_drew ?_ | refine blk_alloc ?_ _)); refine blk_put (cs:=#[.int .i64 0,.int .i64 0,.int .i64 0,.int .i64 0,.int .i64 0]) ?_ 0 _ rfl; (with_reducible repeat (first | refine blk_drewN ?_ _ | refine blk_drew ?_ | refine blk_alloc ?_ _)); exact p4.out⟩
     have n3_ : Aside0 (Below w.heap.size w (((((w33.setCell ⟨p1,0,none⟩ (.int .i64 ((rd_T58 l0_1 p0).f0))).setCell ⟨p1,1,none⟩ (.int .i64 ((rd_T58 l0_1 p0).f1))).setCell ⟨p1,2,none⟩ (.int .i64 ((rd_T58 l0_1 p0).f2))).setCell ⟨p1,3,none⟩ (.int .i64 ((rd_T58 l0_1 p0).f3))).setCell ⟨p1,4,none⟩ (.int .i64 ((rd_T58 l0_1 p0).f4)))):=⟨by repeat (first | (with_reducible first | exact HB.out | apply below_alloc | apply pw_below_drewN | apply below_drew1 | refine below_set ?_ q6.out | refine below_set ?_ s9.out) | exact HB.out)⟩
     (try clear p8)
     (try clear p5)
     (try clear p4)
     (try clear HB)
     generalize (((((w33.setCell ⟨p1,0,none⟩ (.int .i64 ((rd_T58 l0_1 p0).f0))).setCell ⟨p1,1,none⟩ (.int .i64 ((rd_T58 l0_1 p0).f1))).setCell ⟨p1,2,none⟩ (.int .i64 ((rd_T58 l0_1 p0).f2))).setCell ⟨p1,3,none⟩ (.int .i64 ((rd_T58 l0_1 p0).f3))).setCell ⟨p1,4,none⟩ (.int .i64 ((rd_T58 l0_1 p0).f4))) = w36 at n0_ n1_ n2_ n3_ ⊢;have p8:=n0_;have p5:=n1_;have p4:=n2_;have HB:=n3_;clear n0_ n1_ n2_ n3_;have n0_:=zx (Kd.R_drew p8.out);have n1_:=zx (blk_drew p5.out);have n2_:=zx (blk_drew p4.out);have n3_:=zx (below_drew1 HB.out);clear p8;clear p5;clear p4;clear HB;have p8:=n0_;have p5:=n1_;have p4:=n2_;have HB:=n3_;clear n0_ n1_ n2_ n3_;have p739 : 0 ≤ (p0 : Int):=of_decide_eq_true (by first | (with_reducible assumption) | assumption);have q739 : p0 < (l1.length : Int):=of_decide_eq_true (by first | (with_reducible assumption) | assumption);obtain ⟨t0,e739,q5⟩:=Kd.at_int HR1.out p0 p739 q739;have q8:=q5;cases e739;replace q5:=(HB.out.cell (World.block_lt_of_cell? w _ q5)).trans q5;replace p739:=eq_true p739;replace q739:=eq_true q739;refine start_ (n:=8) (S:=fun w' => w'.cell? ⟨p1,0,none⟩ = some (.int .i64 ((rd_T58 l0_1 p0).f0)) ∧ w'.cell? ⟨p1,1,none⟩ = some (.int .i64 ((rd_T58 l0_1 p0).f1)) ∧ w'.cell? ⟨p1,2,none⟩ = some (.int .i64 ((rd_T58 l0_1 p0).f2)) ∧ w'.cell? ⟨p1,3,none⟩ = some (.int .i64 ((rd_T58 l0_1 p0).f3)) ∧ w'.cell? ⟨p1,4,none⟩ = some (.int .i64 ((rd_T58 l0_1 p0).f4)) ∧ w'.cell? (t0.add (p0).toNat) = some (.int .i64 (rd l1 p0))) (ds:=[]) #[J,J,J,J,J,J,J,J] (by kernel_rfl) rfl rfl ⟨(blk_cell p4.out 0).trans rfl,(blk_cell p4.out 1).trans rfl,(blk_cell p4.out 2).trans rfl,(blk_cell p4.out 3).trans rfl,(blk_cell p4.out 4).trans rfl,((HB.out.cell (World.block_lt_of_cell? w _ q8)).trans q8)⟩ (fun hHeld => ?_); refine with_tabW impl_FlowValue.tab7 impl_FlowValue.bits7 (fun HT_ HW_ => ?_);generalize w36.drew = w37 at p8 p5 p4 HB q5 hHeld ⊢;refine pure_ (i:=0) (N:=some 39) (v:=?_) (a':=?_) #[Y,J,J,J,J,J,J,J] rfl rfl (any_of HT_.out (by kernel_rfl)) (fun _ _ _ h => h) (Or.inl ⟨by rfl,?_⟩) ?_ ?_;rotate_left
     ·intro w';go_simp;with_reducible rfl
     rotate_left
     ·simp only [Act.put,U,V,Z,i64_w,i32_w];rfl
     refine pure_ (i:=1) (N:=some 40) (v:=?_) (a':=?_) #[Y,Y,J,J,J,J,J,J] rfl rfl (any_of HT_.out (by kernel_rfl)) (fun _ _ _ h => h) (Or.inl ⟨by rfl,?_⟩) ?_ ?_;rotate_left
     ·intro w';go_simp;with_reducible rfl
     rotate_left
     ·simp only [Act.put,U,V,Z,i64_w,i32_w];rfl
     refine pure_ (i:=2) (N:=some 41) (v:=?_) (a':=?_) #[Y,Y,Y,J,J,J,J,J] rfl rfl (any_of HT_.out (by kernel_rfl)) (fun _ _ _ h => h) (Or.inl ⟨by rfl,?_⟩) ?_ ?_;rotate_left
     ·intro w';go_simp;with_reducible rfl
     rotate_left
     ·simp only [Act.put,U,V,Z,i64_w,i32_w];rfl
     refine pure_ (i:=4) (N:=some 43) (v:=?_) (a':=?_) #[Y,Y,Y,J,Y,J,J,J] rfl rfl (any_of HT_.out (by kernel_rfl)) (fun _ _ _ h => h) (Or.inl ⟨by rfl,?_⟩) ?_ ?_;rotate_left
     ·intro w';go_simp;with_reducible rfl
     rotate_left
     ·simp only [Act.put,U,V,Z,i64_w,i32_w];rfl
     refine take_ (i:=3) (N:=some 42) (v:=?_) (a':=?_) #[Y,Y,Y,Y,Y,J,J,J] rfl rfl (take_ofW HT_.out HW_.out (by kernel_rfl)) (fun _ _ _ h => h) (Or.inl ⟨by rfl,?_⟩) hHeld ?_ ?_;rotate_left
     ·rintro w' ⟨s0,s1,s2,s3,s4,s5⟩;go_simp;with_reducible rfl
     rotate_left
     ·simp only [Act.put,U,V,Z,i64_w,i32_w];rfl
     refine take_ (i:=5) (N:=some 44) (v:=?_) (a':=?_) #[Y,Y,Y,Y,Y,Y,J,J] rfl rfl (take_ofW HT_.out HW_.out (by kernel_rfl)) (fun _ _ _ h => h) (Or.inl ⟨by rfl,?_⟩) hHeld ?_ ?_;rotate_left
     ·rintro w' ⟨s0,s1,s2,s3,s4,s5⟩;go_simp;with_reducible rfl
     rotate_left
     ·simp only [Act.put,U,V,Z,i64_w,i32_w];rfl
     refine one_ (i:=6) (N:=some 45) #[Y,Y,Y,Y,Y,Y,Y,J] rfl rfl (one_of HT_.out (by kernel_rfl)) (by decide) (fun K hK => ?_);refine goes_ Try.func82 (by kernel_rfl) rfl #[.int .i64 (rd l1 p0),.int .i64 0,.int .i64 ((rd_T58 l0_1 p0).f4)] (by rfl) rfl rfl (by (try simp only [List.map_toArray,List.map_cons,List.map_nil]); first | done | rfl | (simp only [List.length_drop,List.length_take]; rfl)) ?_;with_reducible refine (impl_within.calls (rd l1 p0) 0 ((rd_T58 l0_1 p0).f4) true _ A25.out).mono ?_
     rintro e w' ⟨rfl,⟨nd,rfl⟩⟩;refine ⟨_,rfl,?_⟩;refine hK.out _ _ ⟨(blk_cell p4.out 0).trans rfl,(blk_cell p4.out 1).trans rfl,(blk_cell p4.out 2).trans rfl,(blk_cell p4.out 3).trans rfl,(blk_cell p4.out 4).trans rfl,((HB.out.cell (World.block_lt_of_cell? w _ q8)).trans q8)⟩ (fun hHeld => ?_);clear hK K;refine norm_ (a':=?_) ?_ ?_;rotate_left
     ·show Act.put _ (some 45) _ = _
      simp only [Act.put,U,V,Z,i64_w,i32_w];rfl
     refine pure_ (i:=7) (N:=some 46) (v:=?_) (a':=?_) #[Y,Y,Y,Y,Y,Y,Y,Y] rfl rfl (any_of HT_.out (by kernel_rfl)) (fun _ _ _ h => h) (Or.inl ⟨by rfl,?_⟩) ?_ ?_;rotate_left
     ·intro w';go_simp;with_reducible rfl
     rotate_left
     ·simp only [Act.put,U,V,Z,i64_w,i32_w];rfl
     refine done_ (done_of HT_.out (by kernel_rfl)) ?_
     try go_wp2
     (try (rw [drewN_self w37]; generalize hq_ : World.drewN w37 _ = w37; have n0_ : Aside0 (Kd.R (Kd.int .i64) 3 w37 w.heap.size (fun _ => True) v735 p9):=⟨by rw [← hq_]; exact (by (with_reducible repeat (first | apply Kd.R_alloc | apply Kd.R_drewN | apply Kd.R_drew)); exact p8.out)⟩; have n1_ : Aside0 (w37.heap[q1]? = some (.cells #[.int .i64 a0_0,.slice (some r6) l0_1.length c0_1] 34 (0,0))):=⟨by rw [← hq_]; exact (by (with_reducible repeat (first | refine blk_drewN ?_ _ | refine blk_drew ?_ | refine blk_alloc ?_ _)); exact p5.out)⟩; have n2_ : Aside0 (w37.heap[p1]? = some (.cells #[.int .i64 ((rd_T58 l0_1 p0).f0),.int .i64 ((rd_T58 l0_1 p0).f1),.int .i64 ((rd_T58 l0_1 p0).f2),.int .i64 ((rd_T58 l0_1 p0).f3),.int .i64 ((rd_T58 l0_1 p0).f4)] 58 (0,0))):=⟨by rw [← hq_]; exact (by (with_reducible repeat (first | refine blk_drewN ?_ _ | refine blk_drew ?_ | refine blk_alloc ?_ _)); exact p4.out)⟩; have n3_ : Aside0 (Below w.heap.size w w37):=⟨by rw [← hq_]; exact (by repeat (first | (with_reducible first | exact HB.out | apply below_alloc | apply pw_below_drewN | apply below_drew1 | refine below_set ?_ q6.out | refine below_set ?_ s9.out) | exact HB.out))⟩; clear p8 p5 p4 HB hq_; have p8:=n0_; have p5:=n1_; have p4:=n2_; have HB:=n3_; clear n0_ n1_ n2_ n3_))
     have n0_:=zx (Kd.R_drew p8.out);have n1_:=zx (blk_drew p5.out);have n2_:=zx (blk_drew p4.out);have n3_:=zx (below_drew1 HB.out);clear p8;clear p5;clear p4;clear HB;have p8:=n0_;have p5:=n1_;have p4:=n2_;have HB:=n3_;clear n0_ n1_ n2_ n3_;obtain ⟨Ao39,co39,eo39⟩:=Kd.R_slice p8.out
     (first | subst eo39 | (injection eo39 with f1_ f2_ f3_; have f4_:=f1_.symm; have f5_:=f3_.symm; clear f1_ f2_ f3_; subst f4_; subst f5_))
     have p741 : 0 ≤ (((rd_T58 l0_1 p0).f0) : Int):=of_decide_eq_true (by first | (with_reducible assumption) | assumption);have q741 : ((rd_T58 l0_1 p0).f0) < (p9.length : Int):=of_decide_eq_true (by first | (with_reducible assumption) | assumption);obtain ⟨ad741,e741,s8⟩:=Kd.at_int (Kd.R_reads' p8.out).2.2 ((rd_T58 l0_1 p0).f0) p741 q741;cases e741;replace p741:=eq_true p741;replace q741:=eq_true q741;have p742 : 0 ≤ (p0 : Int):=of_decide_eq_true (by first | (with_reducible assumption) | assumption);have q742 : p0 < (l1.length : Int):=of_decide_eq_true (by first | (with_reducible assumption) | assumption);obtain ⟨ad742,e742,r7⟩:=Kd.at_int HR1.out p0 p742 q742;have u4:=r7;obtain rfl : t0 = ad742:=(by injection e742)
     replace r7:=(HB.out.cell (World.block_lt_of_cell? w _ r7)).trans r7;replace p742:=eq_true p742;replace q742:=eq_true q742;have p29 : 0 ≤ (((rd_T58 l0_1 p0).f0) : Int):=of_decide_eq_true (by first | (with_reducible assumption) | assumption);have q29 : (((rd_T58 l0_1 p0).f0) : Int) < ((p9.length : Int) : Int):=of_decide_eq_true (by first | (with_reducible assumption) | assumption);obtain ⟨go29,co29,eo29,gb29,gl29,cl29,HG29⟩:=Kd.R_form p8.out (by omega)
     (first | cases eo29 | (injection eo29 with ea_ en_ ec_; (first | subst ea_ | (injection ea_ with ea_; subst ea_)); subst ec_; clear en_))
     have GB29:=zx gb29;have GG29:=zx HG29;clear gb29 gl29 HG29
     (first | simp only [add_plain] at s8 | skip)
     obtain ⟨v0,hf29_0⟩:=Kd.R_celln 0 p8.out (((rd_T58 l0_1 p0).f0) : Int) p29 q29;replace p29:=eq_true p29;replace q29:=eq_true q29;have HP40:=Kd.R_putn p8.out (((rd_T58 l0_1 p0).f0) : Int) (wrap64 ((rd p9 ((rd_T58 l0_1 p0).f0)) + (rd l1 p0)));rw [← Ny743.out] at HP40;have HQ40:=zx HP40;clear HP40;refine start_ (n:=12) (S:=fun w' => w'.cell? ⟨p1,0,none⟩ = some (.int .i64 ((rd_T58 l0_1 p0).f0)) ∧ w'.cell? ⟨p1,1,none⟩ = some (.int .i64 ((rd_T58 l0_1 p0).f1)) ∧ w'.cell? ⟨p1,2,none⟩ = some (.int .i64 ((rd_T58 l0_1 p0).f2)) ∧ w'.cell? ⟨p1,3,none⟩ = some (.int .i64 ((rd_T58 l0_1 p0).f3)) ∧ w'.cell? ⟨p1,4,none⟩ = some (.int .i64 ((rd_T58 l0_1 p0).f4)) ∧ w'.cell? ⟨go29,(((rd_T58 l0_1 p0).f0)).toNat,none⟩ = some (.int .i64 (rd p9 ((rd_T58 l0_1 p0).f0))) ∧ w'.cell? (t0.add (p0).toNat) = some (.int .i64 (rd l1 p0))) (ds:=[11]) #[J,J,J,J,J,J,J,J,J,J,J,J] (by kernel_rfl) rfl rfl ⟨(blk_cell p4.out 0).trans rfl,(blk_cell p4.out 1).trans rfl,(blk_cell p4.out 2).trans rfl,(blk_cell p4.out 3).trans rfl,(blk_cell p4.out 4).trans rfl,s8,((HB.out.cell (World.block_lt_of_cell? w _ u4)).trans u4)⟩ (fun hHeld => ?_); refine with_tabW impl_FlowValue.tab9 impl_FlowValue.bits9 (fun HT_ HW_ => ?_);generalize w37.drew = w38 at p8 p5 p4 HB GG29 HQ40 hf29_0 v0 s8 r7 hHeld ⊢;refine pure_ (i:=0) (N:=some 47) (v:=?_) (a':=?_) #[Y,J,J,J,J,J,J,J,J,J,J,J] rfl rfl (any_of HT_.out (by kernel_rfl)) (fun _ _ _ h => h) (Or.inl ⟨by rfl,?_⟩) ?_ ?_;rotate_left
     ·intro w';go_simp;with_reducible rfl
     rotate_left
     ·simp only [Act.put,U,V,Z,i64_w,i32_w];rfl
     refine pure_ (i:=1) (N:=some 48) (v:=?_) (a':=?_) #[Y,Y,J,J,J,J,J,J,J,J,J,J] rfl rfl (any_of HT_.out (by kernel_rfl)) (fun _ _ _ h => h) (Or.inl ⟨by rfl,?_⟩) ?_ ?_;rotate_left
     ·intro w';go_simp;with_reducible rfl
     rotate_left
     ·simp only [Act.put,U,V,Z,i64_w,i32_w];rfl
     refine pure_ (i:=5) (N:=some 52) (v:=?_) (a':=?_) #[Y,Y,J,J,J,Y,J,J,J,J,J,J] rfl rfl (any_of HT_.out (by kernel_rfl)) (fun _ _ _ h => h) (Or.inl ⟨by rfl,?_⟩) ?_ ?_;rotate_left
     ·intro w';go_simp;with_reducible rfl
     rotate_left
     ·simp only [Act.put,U,V,Z,i64_w,i32_w];rfl
     refine pure_ (i:=6) (N:=some 53) (v:=?_) (a':=?_) #[Y,Y,J,J,J,Y,Y,J,J,J,J,J] rfl rfl (any_of HT_.out (by kernel_rfl)) (fun _ _ _ h => h) (Or.inl ⟨by rfl,?_⟩) ?_ ?_;rotate_left
     ·intro w';go_simp;with_reducible rfl
     rotate_left
     ·simp only [Act.put,U,V,Z,i64_w,i32_w];rfl
     refine pure_ (i:=7) (N:=some 54) (v:=?_) (a':=?_) #[Y,Y,J,J,J,Y,Y,Y,J,J,J,J] rfl rfl (any_of HT_.out (by kernel_rfl)) (fun _ _ _ h => h) (Or.inl ⟨by rfl,?_⟩) ?_ ?_;rotate_left
     ·intro w';go_simp;with_reducible rfl
     rotate_left
     ·simp only [Act.put,U,V,Z,i64_w,i32_w];rfl
     refine take_ (i:=2) (N:=some 49) (v:=?_) (a':=?_) #[Y,Y,Y,J,J,Y,Y,Y,J,J,J,J] rfl rfl (take_ofW HT_.out HW_.out (by kernel_rfl)) (fun _ _ _ h => h) (Or.inl ⟨by rfl,?_⟩) hHeld ?_ ?_;rotate_left
     ·rintro w' ⟨s0,s1,s2,s3,s4,s5,s6⟩;go_simp;with_reducible rfl
     rotate_left
     ·simp only [Act.put,U,V,Z,i64_w,i32_w];rfl
     refine pure_ (i:=3) (N:=some 50) (v:=?_) (a':=?_) #[Y,Y,Y,Y,J,Y,Y,Y,J,J,J,J] rfl rfl (any_of HT_.out (by kernel_rfl)) (fun _ _ _ h => h) (Or.inl ⟨by rfl,?_⟩) ?_ ?_;rotate_left
     ·intro w';go_simp;with_reducible rfl
     rotate_left
     ·simp only [Act.put,U,V,Z,i64_w,i32_w];rfl
     refine take_ (i:=4) (N:=some 51) (v:=?_) (a':=?_) #[Y,Y,Y,Y,Y,Y,Y,Y,J,J,J,J] rfl rfl (take_ofW HT_.out HW_.out (by kernel_rfl)) (fun _ _ _ h => h) (Or.inl ⟨by rfl,?_⟩) hHeld ?_ ?_;rotate_left
     ·rintro w' ⟨s0,s1,s2,s3,s4,s5,s6⟩;go_simp;with_reducible rfl
     rotate_left
     ·simp only [Act.put,U,V,Z,i64_w,i32_w];rfl
     refine take_ (i:=8) (N:=some 55) (v:=?_) (a':=?_) #[Y,Y,Y,Y,Y,Y,Y,Y,Y,J,J,J] rfl rfl (take_ofW HT_.out HW_.out (by kernel_rfl)) (fun _ _ _ h => h) (Or.inl ⟨by rfl,?_⟩) hHeld ?_ ?_;rotate_left
     ·rintro w' ⟨s0,s1,s2,s3,s4,s5,s6⟩;go_simp;with_reducible rfl
     rotate_left
     ·simp only [Act.put,U,V,Z,i64_w,i32_w];rfl
     refine pure_ (i:=9) (N:=some 56) (v:=?_) (a':=?_) #[Y,Y,Y,Y,Y,Y,Y,Y,Y,Y,J,J] rfl rfl (any_of HT_.out (by kernel_rfl)) (fun _ _ _ h => h) (Or.inl ⟨by rfl,?_⟩) ?_ ?_;rotate_left
     ·intro w';go_simp;with_reducible rfl
     rotate_left
     ·simp only [Act.put,U,V,Z,i64_w,i32_w];rfl
     refine pure_ (i:=10) (N:=some 57) (v:=?_) (a':=?_) #[Y,Y,Y,Y,Y,Y,Y,Y,Y,Y,Y,J] rfl rfl (any_of HT_.out (by kernel_rfl)) (fun _ _ _ h => h) (Or.inl ⟨by rfl,?_⟩) ?_ ?_;rotate_left
     ·intro w';go_simp;with_reducible rfl
     rotate_left
     ·simp only [Act.put,U,V,Z,i64_w,i32_w];rfl
     refine last_ (i:=11) (N:=none) #[true,true,true,true,true,true,true,true,true,true,true,true] rfl rfl (one_of HT_.out (by kernel_rfl)) (by decide) (fun K hK => ?_);refine skip_ (w1:=?_) (by rfl) rfl ?_ ?_;rotate_left
     ·go_simp;rfl
     refine hK.out _ _ ?_;clear hK K;refine done_ (done_of HT_.out (by kernel_rfl)) ?_
     try go_wp2
     have n0_ : Aside0 (Kd.R (Kd.int .i64) 3 (w38.setCell ⟨go29,(((rd_T58 l0_1 p0).f0) : Int).toNat,none⟩ (.int .i64 (wrap64 ((rd p9 ((rd_T58 l0_1 p0).f0)) + (rd l1 p0))))) w.heap.size (fun _ => True) (.slice (some ⟨go29,0,none⟩) p9.length co39) y743):=⟨by (with_reducible repeat (first | apply Kd.R_alloc | apply Kd.R_drewN | apply Kd.R_drew)); exact HQ40.out⟩
     have n1_ : Aside0 ((w38.setCell ⟨go29,(((rd_T58 l0_1 p0).f0) : Int).toNat,none⟩ (.int .i64 (wrap64 ((rd p9 ((rd_T58 l0_1 p0).f0)) + (rd l1 p0))))).heap[q1]? = some (.cells #[.int .i64 a0_0,.slice (some r6) l0_1.length c0_1] 34 (0,0))):=⟨by (with_reducible repeat (first | refine blk_drewN ?_ _ | refine blk_drew ?_ | refine blk_alloc ?_ _)); refine blk_far ?_ (by have h_:=Kd.R_ne p8.out p5.out (by decide); intro e_; exact h_ (by rw [e_]; rfl)) _; (with_reducible repeat (first | refine blk_drewN ?_ _ | refine blk_drew ?_ | refine blk_alloc ?_ _)); exact p5.out⟩
     have n2_ : Aside0 ((w38.setCell ⟨go29,(((rd_T58 l0_1 p0).f0) : Int).toNat,none⟩ (.int .i64 (wrap64 ((rd p9 ((rd_T58 l0_1 p0).f0)) + (rd l1 p0))))).heap[p1]? = some (.cells #[.int .i64 ((rd_T58 l0_1 p0).f0),.int .i64 ((rd_T58 l0_1 p0).f1),.int .i64 ((rd_T58 l0_1 p0).f2),.int .i64 ((rd_T58 l0_1 p0).f3),.int .i64 ((rd_T58 l0_1 p0).f4)] 58 (0,0))):=⟨by (with_reducible repeat (first | refine blk_drewN ?_ _ | refine blk_drew ?_ | refine blk_alloc ?_ _)); refine blk_far ?_ (by have h_:=Kd.R_ne p8.out p4.out (by decide); intro e_; exact h_ (by rw [e_]; rfl)) _; (with_reducible repeat (first | refine blk_drewN ?_ _ | refine blk_drew ?_ | refine blk_alloc ?_ _)); exact p4.out⟩
     have n3_ : Aside0 (Below w.heap.size w (w38.setCell ⟨go29,(((rd_T58 l0_1 p0).f0) : Int).toNat,none⟩ (.int .i64 (wrap64 ((rd p9 ((rd_T58 l0_1 p0).f0)) + (rd l1 p0)))))):=⟨by repeat (first | (with_reducible first | exact HB.out | apply below_alloc | apply pw_below_drewN | apply below_drew1 | refine below_set ?_ GB29.out | refine below_set ?_ q6.out | refine below_set ?_ s9.out) | exact HB.out)⟩
     (try clear p8)
     (try clear p5)
     (try clear p4)
     (try clear HB)
     generalize (w38.setCell ⟨go29,(((rd_T58 l0_1 p0).f0) : Int).toNat,none⟩ (.int .i64 (wrap64 ((rd p9 ((rd_T58 l0_1 p0).f0)) + (rd l1 p0))))) = w41 at n0_ n1_ n2_ n3_ ⊢;have p8:=n0_;have p5:=n1_;have p4:=n2_;have HB:=n3_;clear n0_ n1_ n2_ n3_;have n0_:=zx (Kd.R_drew p8.out);have n1_:=zx (blk_drew p5.out);have n2_:=zx (blk_drew p4.out);have n3_:=zx (below_drew1 HB.out);clear p8;clear p5;clear p4;clear HB;have p8:=n0_;have p5:=n1_;have p4:=n2_;have HB:=n3_;clear n0_ n1_ n2_ n3_;have p744 : 0 ≤ (((rd_T58 l0_1 p0).f1) : Int):=of_decide_eq_true (by first | (with_reducible assumption) | assumption);have q744 : ((rd_T58 l0_1 p0).f1) < (y743.length : Int):=(by have h_ : (((rd_T58 l0_1 p0).f1) : Int) < ((p9.length : Int) : Int):=of_decide_eq_true (by first | (with_reducible assumption) | assumption); first | (have e_:=(Kd.R_reads' p8.out).1; omega) | simpa only [Ny743.out,List.length_set] using h_)
     have ql744 : ((((rd_T58 l0_1 p0).f1) : Int) < ((p9.length : Int) : Int)) = True:=eq_true (of_decide_eq_true (by first | (with_reducible assumption) | assumption));obtain ⟨ad744,e744,r8⟩:=Kd.at_int (Kd.R_reads' p8.out).2.2 ((rd_T58 l0_1 p0).f1) p744 q744;obtain rfl : (⟨go29,0,none⟩ : Addr) = ad744:=(by injection e744)
     (first | simp only [add_plain] at r8 | simp only [add_at] at r8 | simp only [Addr.add,Nat.zero_add] at r8 | skip)
     replace p744:=eq_true p744;replace q744:=eq_true q744;have p745 : 0 ≤ (p0 : Int):=of_decide_eq_true (by first | (with_reducible assumption) | assumption);have q745 : p0 < (l1.length : Int):=of_decide_eq_true (by first | (with_reducible assumption) | assumption);obtain ⟨ad745,e745,r9⟩:=Kd.at_int HR1.out p0 p745 q745;have u5:=r9;obtain rfl : t0 = ad745:=(by injection e745)
     replace r9:=(HB.out.cell (World.block_lt_of_cell? w _ r9)).trans r9;replace p745:=eq_true p745;replace q745:=eq_true q745;have p32 : 0 ≤ (((rd_T58 l0_1 p0).f1) : Int):=of_decide_eq_true (by first | (with_reducible assumption) | assumption);have q32 : (((rd_T58 l0_1 p0).f1) : Int) < ((p9.length : Int) : Int):=of_decide_eq_true (by first | (with_reducible assumption) | assumption);obtain ⟨v1,hf32_0⟩:=Kd.R_celln 0 p8.out (((rd_T58 l0_1 p0).f1) : Int) p32 q32;replace p32:=eq_true p32;replace q32:=eq_true q32;have HP43:=Kd.R_putn p8.out (((rd_T58 l0_1 p0).f1) : Int) (wrap64 ((rd y743 ((rd_T58 l0_1 p0).f1)) - (rd l1 p0)));rw [← Ny746.out] at HP43;have HQ43:=zx HP43;clear HP43;refine start_ (n:=12) (S:=fun w' => w'.cell? ⟨p1,0,none⟩ = some (.int .i64 ((rd_T58 l0_1 p0).f0)) ∧ w'.cell? ⟨p1,1,none⟩ = some (.int .i64 ((rd_T58 l0_1 p0).f1)) ∧ w'.cell? ⟨p1,2,none⟩ = some (.int .i64 ((rd_T58 l0_1 p0).f2)) ∧ w'.cell? ⟨p1,3,none⟩ = some (.int .i64 ((rd_T58 l0_1 p0).f3)) ∧ w'.cell? ⟨p1,4,none⟩ = some (.int .i64 ((rd_T58 l0_1 p0).f4)) ∧ w'.cell? ⟨go29,(((rd_T58 l0_1 p0).f1)).toNat,none⟩ = some (.int .i64 (rd y743 ((rd_T58 l0_1 p0).f1))) ∧ w'.cell? (t0.add (p0).toNat) = some (.int .i64 (rd l1 p0))) (ds:=[11]) #[J,J,J,J,J,J,J,J,J,J,J,J] (by kernel_rfl) rfl rfl ⟨(blk_cell p4.out 0).trans rfl,(blk_cell p4.out 1).trans rfl,(blk_cell p4.out 2).trans rfl,(blk_cell p4.out 3).trans rfl,(blk_cell p4.out 4).trans rfl,r8,((HB.out.cell (World.block_lt_of_cell? w _ u5)).trans u5)⟩ (fun hHeld => ?_); refine with_tabW impl_FlowValue.tab10 impl_FlowValue.bits10 (fun HT_ HW_ => ?_);generalize w41.drew = w42 at p8 p5 p4 HB HQ40 HQ43 hf32_0 v1 r8 r9 hHeld ⊢;refine pure_ (i:=0) (N:=some 58) (v:=?_) (a':=?_) #[Y,J,J,J,J,J,J,J,J,J,J,J] rfl rfl (any_of HT_.out (by kernel_rfl)) (fun _ _ _ h => h) (Or.inl ⟨by rfl,?_⟩) ?_ ?_;rotate_left
     ·intro w';go_simp;with_reducible rfl
     rotate_left
     ·simp only [Act.put,U,V,Z,i64_w,i32_w];rfl
     refine pure_ (i:=1) (N:=some 59) (v:=?_) (a':=?_) #[Y,Y,J,J,J,J,J,J,J,J,J,J] rfl rfl (any_of HT_.out (by kernel_rfl)) (fun _ _ _ h => h) (Or.inl ⟨by rfl,?_⟩) ?_ ?_;rotate_left
     ·intro w';go_simp;with_reducible rfl
     rotate_left
     ·simp only [Act.put,U,V,Z,i64_w,i32_w];rfl
     refine pure_ (i:=5) (N:=some 63) (v:=?_) (a':=?_) #[Y,Y,J,J,J,Y,J,J,J,J,J,J] rfl rfl (any_of HT_.out (by kernel_rfl)) (fun _ _ _ h => h) (Or.inl ⟨by rfl,?_⟩) ?_ ?_;rotate_left
     ·intro w';go_simp;with_reducible rfl
     rotate_left
     ·simp only [Act.put,U,V,Z,i64_w,i32_w];rfl
     refine pure_ (i:=6) (N:=some 64) (v:=?_) (a':=?_) #[Y,Y,J,J,J,Y,Y,J,J,J,J,J] rfl rfl (any_of HT_.out (by kernel_rfl)) (fun _ _ _ h => h) (Or.inl ⟨by rfl,?_⟩) ?_ ?_;rotate_left
     ·intro w';go_simp;with_reducible rfl
     rotate_left
     ·simp only [Act.put,U,V,Z,i64_w,i32_w];rfl
     refine pure_ (i:=7) (N:=some 65) (v:=?_) (a':=?_) #[Y,Y,J,J,J,Y,Y,Y,J,J,J,J] rfl rfl (any_of HT_.out (by kernel_rfl)) (fun _ _ _ h => h) (Or.inl ⟨by rfl,?_⟩) ?_ ?_;rotate_left
     ·intro w';go_simp;with_reducible rfl
     rotate_left
     ·simp only [Act.put,U,V,Z,i64_w,i32_w];rfl
     refine take_ (i:=2) (N:=some 60) (v:=?_) (a':=?_) #[Y,Y,Y,J,J,Y,Y,Y,J,J,J,J] rfl rfl (take_ofW HT_.out HW_.out (by kernel_rfl)) (fun _ _ _ h => h) (Or.inl ⟨by rfl,?_⟩) hHeld ?_ ?_;rotate_left
     ·rintro w' ⟨s0,s1,s2,s3,s4,s5,s6⟩;go_simp;with_reducible rfl
     rotate_left
     ·simp only [Act.put,U,V,Z,i64_w,i32_w];rfl
     refine pure_ (i:=3) (N:=some 61) (v:=?_) (a':=?_) #[Y,Y,Y,Y,J,Y,Y,Y,J,J,J,J] rfl rfl (any_of HT_.out (by kernel_rfl)) (fun _ _ _ h => h) (Or.inl ⟨by rfl,?_⟩) ?_ ?_;rotate_left
     ·intro w';go_simp;with_reducible rfl
     rotate_left
     ·simp only [Act.put,U,V,Z,i64_w,i32_w];rfl
     refine take_ (i:=4) (N:=some 62) (v:=?_) (a':=?_) #[Y,Y,Y,Y,Y,Y,Y,Y,J,J,J,J] rfl rfl (take_ofW HT_.out HW_.out (by kernel_rfl)) (fun _ _ _ h => h) (Or.inl ⟨by rfl,?_⟩) hHeld ?_ ?_;rotate_left
     ·rintro w' ⟨s0,s1,s2,s3,s4,s5,s6⟩;go_simp;with_reducible rfl
     rotate_left
     ·simp only [Act.put,U,V,Z,i64_w,i32_w];rfl
     refine take_ (i:=8) (N:=some 66) (v:=?_) (a':=?_) #[Y,Y,Y,Y,Y,Y,Y,Y,Y,J,J,J] rfl rfl (take_ofW HT_.out HW_.out (by kernel_rfl)) (fun _ _ _ h => h) (Or.inl ⟨by rfl,?_⟩) hHeld ?_ ?_;rotate_left
     ·rintro w' ⟨s0,s1,s2,s3,s4,s5,s6⟩;go_simp;with_reducible rfl
     rotate_left
     ·simp only [Act.put,U,V,Z,i64_w,i32_w];rfl
     refine pure_ (i:=9) (N:=some 67) (v:=?_) (a':=?_) #[Y,Y,Y,Y,Y,Y,Y,Y,Y,Y,J,J] rfl rfl (any_of HT_.out (by kernel_rfl)) (fun _ _ _ h => h) (Or.inl ⟨by rfl,?_⟩) ?_ ?_;rotate_left
     ·intro w';go_simp;with_reducible rfl
     rotate_left
     ·simp only [Act.put,U,V,Z,i64_w,i32_w];rfl
     refine pure_ (i:=10) (N:=some 68) (v:=?_) (a':=?_) #[Y,Y,Y,Y,Y,Y,Y,Y,Y,Y,Y,J] rfl rfl (any_of HT_.out (by kernel_rfl)) (fun _ _ _ h => h) (Or.inl ⟨by rfl,?_⟩) ?_ ?_;rotate_left
     ·intro w';go_simp;with_reducible rfl
     rotate_left
     ·simp only [Act.put,U,V,Z,i64_w,i32_w];rfl
     refine last_ (i:=11) (N:=none) #[true,true,true,true,true,true,true,true,true,true,true,true] rfl rfl (one_of HT_.out (by kernel_rfl)) (by decide) (fun K hK => ?_);refine skip_ (w1:=?_) (by rfl) rfl ?_ ?_;rotate_left
     ·go_simp;rfl
     refine hK.out _ _ ?_;clear hK K;refine done_ (done_of HT_.out (by kernel_rfl)) ?_
     try go_wp2
     go_roundg k2
     case measure => have:=HJ4.out; have:=HK2.out; omega
     case rel => exact ⟨(y746),(wrap64 (p0 + 1)),(by first | rfl | (simp; done) | (simp [*]; done)),H',⟨by have:=HJ4.out; have:=HK2.out; omega⟩,⟨by (with_reducible repeat (first | apply Kd.R_alloc | apply Kd.R_drewN | apply Kd.R_drew)); exact HQ43.out⟩,⟨by (with_reducible repeat (first | refine blk_drewN ?_ _ | refine blk_drew ?_ | refine blk_alloc ?_ _)); refine blk_far ?_ (by have h_:=Kd.R_ne p8.out p5.out (by decide); intro e_; exact h_ (by rw [e_]; rfl)) _; (with_reducible repeat (first | refine blk_drewN ?_ _ | refine blk_drew ?_ | refine blk_alloc ?_ _)); exact p5.out⟩,⟨by repeat (first | (with_reducible first | exact HB.out | apply below_alloc | apply pw_below_drewN | apply below_drew1 | refine below_set ?_ GB29.out | refine below_set ?_ q6.out | refine below_set ?_ s9.out) | exact HB.out)⟩⟩
def impl_Net_cut.l0 : Nat → Int → Int → List (S58) → Int → Int → Option (Int)
 | 0,_,_,_,_,_ => none
 | k + 1,x1,x5,x9,x10,x11 => if x11 < x10 then (if 0 ≤ x11 then (if x11 < (x9.length : Int) then (if 0 ≤ ((rd_T58 x9 x11).f0) then (if (Go.bits .and .i64 (shr .i64 x1 ((rd_T58 x9 x11).f0)) 1) = 1 then (if 0 ≤ ((rd_T58 x9 x11).f1) then (if (Go.bits .and .i64 (shr .i64 x1 ((rd_T58 x9 x11).f1)) 1) = 0 then (impl_Net_cut.l0 k x1 (wrap64 (x5 + ((rd_T58 x9 x11).f4))) x9 x10 (wrap64 (x11 + 1))) else (impl_Net_cut.l0 k x1 x5 x9 x10 (wrap64 (x11 + 1)))) else (none)) else (impl_Net_cut.l0 k x1 x5 x9 x10 (wrap64 (x11 + 1)))) else (none)) else (none)) else (none)) else (some x5)
def impl_Net_cut.f (k : Nat) (a0_0 : Int) (l0_1 : List (S58)) (a1 : Int) : Option (Int):=impl_Net_cut.l0 k a1 0 l0_1 (l0_1.length : Int) 0
set_option maxHeartbeats 8000000 in
set_option maxRecDepth 100000 in
theorem impl_Net_cut.calls (k : Nat) (a0_0 : Int) (A0_1 : Option Addr) (c0_1 : Nat) (l0_1 : List (S58)) (a1 : Int) (r : Int) (w : World) (hr0_1 : Kd.C k58 w A0_1 l0_1.length l0_1) (hc0_1 : l0_1.length ≤ c0_1) (h : impl_Net_cut.f k a0_0 l0_1 a1 = some r) :
  Calls Try.prog 92 #[.agg #[.int .i64 a0_0,.slice A0_1 l0_1.length c0_1],.int .i64 a1] w fun e w' => e = .returned (.int .i64 r) ∧ Below w.heap.size w w':=by
 have hu34:=Try.underlying34;have hu58:=Try.underlying58;have q6:=zx hr0_1;have HC0_1:=zx hc0_1;clear hr0_1 hc0_1;have HB:=zx (Below.refl w.heap.size w);have H : (impl_Net_cut.l0 k a1 0 l0_1 (l0_1.length : Int) 0) = some r:=h;clear h;have H':=zx H;clear H
 go_enter Try.func92,Try.ntmps92
 go_wp2_with (first | ((with_reducible refine gate_dst (N:=2) rfl ?_); refine box_event ?hg (N:=2) ?hd (cs:=#[.int .i64 a0_0,.slice A0_1 l0_1.length c0_1]) (t:=34) ?hr ?_; (case hd => rfl); (case hg => rfl); (case hr => first | (go_simp; done) | (go_simp; rfl)); intro p6 hg w3 hbox hb; have n0_:=zx (below_step HB.out hb); have n1_:=zx (hbox); have n2_:=zx ((by rw [hg]; exact (below_size HB.out) : w.heap.size ≤ p6)); have n3_:=zx ((by rw [hg]; exact (below_size HB.out) : w.heap.size ≤ p6)); clear HB; have HB:=n0_; have p5:=n1_; have GW774:=n2_; have q4:=n3_; clear n0_ n1_ n2_ n3_; clear hb hbox hg; have hcz4_0 : w3.cell? ⟨p6,0,none⟩ = some (.int .i64 a0_0):=(blk_cell p5.out 0).trans rfl; have hcz4_1 : w3.cell? ⟨p6,1,none⟩ = some (.slice A0_1 l0_1.length c0_1):=(blk_cell p5.out 1).trans rfl; have hfz4_0:=blk_frozen p5.out 0; have hfz4_1:=blk_frozen p5.out 1))
 go_loopg [5,11] k (fun kq v5 v11 w' => ∃ (x5_1 : Int) (p1 : Int),v5 = .int .i64 x5_1 ∧ v11 = .int .i64 p1 ∧ Aside0 (impl_Net_cut.l0 kq a1 x5_1 l0_1 (l0_1.length : Int) p1 = some r) ∧ Aside0 (kq ≤ k) ∧ Aside0 (w'.heap[p6]? = some (.cells #[.int .i64 a0_0,(.slice A0_1 l0_1.length c0_1)] 34 (0,0))) ∧ Aside0 (Below w.heap.size w w'))
 case atStart => exact ⟨(0),(0),(by first | rfl | (simp; done) | (simp [*]; done)),(by first | rfl | (simp; done) | (simp [*]; done)),H',⟨Nat.le_refl _⟩,⟨by (with_reducible repeat (first | refine blk_drewN ?_ _ | refine blk_drew ?_ | refine blk_alloc ?_ _)); exact p5.out⟩,⟨by repeat (first | (with_reducible first | exact HB.out | apply below_alloc | apply pw_below_drewN | apply below_drew1 | refine below_set ?_ q4.out) | exact HB.out)⟩⟩
 case round =>
  clear H'
  try clear p2
  try clear hcz4_0
  try clear hcz4_1
  try clear hfz4_0
  try clear hfz4_1
  obtain ⟨x5_1,p1,rfl,rfl,HA,HK1,p5,HB⟩:=hrel;cases gk with
  | zero => exact absurd HA.out (by simp [impl_Net_cut.l0])
  | succ k1 =>
   have H:=HA.out;clear HA;simp only [impl_Net_cut.l0] at H
   by_cases c5 : p1 < (l0_1.length : Int)
   case neg =>
    rw [if_neg c5] at H;have c5b0 : decide (p1 < (l0_1.length : Int)) = false:=decide_eq_false c5;clear c5;obtain rfl:=Option.some.inj H
    go_wp2
    go_ret;exact ⟨by first | rfl | (simp [errW_none,errW_some] <;> rfl) | (simp [*,errW_none,errW_some] <;> rfl),by repeat (first | (with_reducible first | exact HB.out | apply below_alloc | apply pw_below_drewN | apply below_drew1 | refine below_set ?_ q4.out) | exact HB.out)⟩
   rw [if_pos c5] at H;have c5b0 : decide (p1 < (l0_1.length : Int)) = true:=decide_eq_true c5;clear c5
   by_cases c6 : 0 ≤ p1
   case neg =>
    rw [if_neg c6] at H;exact absurd H (by simp)
   rw [if_pos c6] at H;have c6b0 : decide (0 ≤ p1) = true:=decide_eq_true c6;clear c6
   by_cases c7 : p1 < (l0_1.length : Int)
   case neg =>
    rw [if_neg c7] at H;exact absurd H (by simp)
   rw [if_pos c7] at H;have c7b0 : decide (p1 < (l0_1.length : Int)) = true:=decide_eq_true c7;clear c7
   by_cases c8 : 0 ≤ ((rd_T58 l0_1 p1).f0)
   case neg =>
    rw [if_neg c8] at H;exact absurd H (by simp)
   rw [if_pos c8] at H;have c8b0:=eq_true c8;have c8b1 : decide (0 ≤ ((rd_T58 l0_1 p1).f0)) = true:=decide_eq_true c8;clear c8;obtain ⟨ji9,hji9⟩ : ∃ j_ : Int,(shr .i64 a1 ((rd_T58 l0_1 p1).f0)) = j_:=⟨_,rfl⟩
   replace H : (if (Go.bits .and .i64 (ji9) 1) = 1 then (if 0 ≤ ((rd_T58 l0_1 p1).f1) then (if (Go.bits .and .i64 (shr .i64 a1 ((rd_T58 l0_1 p1).f1)) 1) = 0 then (impl_Net_cut.l0 k1 a1 (wrap64 (x5_1 + ((rd_T58 l0_1 p1).f4))) l0_1 (l0_1.length : Int) (wrap64 (p1 + 1))) else (impl_Net_cut.l0 k1 a1 x5_1 l0_1 (l0_1.length : Int) (wrap64 (p1 + 1)))) else (none)) else (impl_Net_cut.l0 k1 a1 x5_1 l0_1 (l0_1.length : Int) (wrap64 (p1 + 1)))) = some r:=by first | (rw [hji9] at H; exact H) | (simp only [hji9] at H ⊢; exact H)
   have hji9_ : (a1 / 2 ^ min ((rd_T58 l0_1 p1).f0).toNat 64) = ji9:=hji9;have hji9z : ((rd_T58 l0_1 p1).f0) ≤ 64 → (a1 / 2 ^ ((rd_T58 l0_1 p1).f0).toNat) = ji9:=shr_small hji9
   by_cases c10 : (Go.bits .and .i64 (ji9) 1) = 1
   case neg =>
    rw [if_neg c10] at H;have c10b0 : ((Go.bits .and .i64 (ji9) 1) == 1) = false:=beq_eq_false_iff_ne.mpr c10;have c10b1 : ((Go.bits .and .i64 (ji9) 1) != 1) = true:=bne_iff_ne.mpr c10;have H':=zx H;clear H;have p775 : 0 ≤ (p1 : Int):=of_decide_eq_true (by first | (with_reducible assumption) | assumption);have q775 : p1 < (l0_1.length : Int):=of_decide_eq_true (by first | (with_reducible assumption) | assumption);obtain ⟨q3,e775,p7,p8,p9,q0,q1⟩:=at_T58 q6.out p1 p775 q775;cases e775;replace p7:=(HB.out.cell (World.block_lt_of_cell? w _ p7)).trans p7;replace p8:=(HB.out.cell (World.block_lt_of_cell? w _ p8)).trans p8;replace p9:=(HB.out.cell (World.block_lt_of_cell? w _ p9)).trans p9;replace q0:=(HB.out.cell (World.block_lt_of_cell? w _ q0)).trans q0;replace q1:=(HB.out.cell (World.block_lt_of_cell? w _ q1)).trans q1;replace p775:=eq_true p775;replace q775:=eq_true q775
    go_wp2_with (first | ((with_reducible refine gate_dst (N:=7) rfl ?_); refine box_event ?hg (N:=7) ?hd (cs:=#[.int .i64 0,.int .i64 0,.int .i64 0,.int .i64 0,.int .i64 0]) (t:=58) ?hr ?_; (case hd => rfl); (case hg => rfl); (case hr => first | (go_simp; done) | (go_simp; rfl)); intro p4 hg w20 hbox hb; have n0_:=zx (blk_below (g:=p6) (o:=.cells #[.int .i64 a0_0,.slice (some q3) l0_1.length c0_1] 34 (0,0)) p5.out hb); have n1_:=zx (below_step HB.out hb); have n2_:=zx (hbox); have n3_:=zx ((by rw [hg]; exact (below_size HB.out) : w.heap.size ≤ p4)); have n4_:=zx ((by rw [hg]; exact (below_size HB.out) : w.heap.size ≤ p4)); have n5_:=zx ((by rw [hg]; exact Nat.ne_of_lt (blk_lt (g:=p6) (o:=.cells #[.int .i64 a0_0,.slice (some q3) l0_1.length c0_1] 34 (0,0)) p5.out) : p6 ≠ p4)); have n6_:=zx ((by rw [hg]; exact Nat.ne_of_gt (blk_lt (g:=p6) (o:=.cells #[.int .i64 a0_0,.slice (some q3) l0_1.length c0_1] 34 (0,0)) p5.out) : p4 ≠ p6)); clear p5; clear HB; have p5:=n0_; have HB:=n1_; have p3:=n2_; have GW776:=n3_; have q5:=n4_; have p0:=n5_; have q2:=n6_; clear n0_ n1_ n2_ n3_ n4_ n5_ n6_; clear hb hbox hg; have hnb21:=q2.out; have hnc21:=p0.out; have hcz22_0 : w20.cell? ⟨p4,0,none⟩ = some (.int .i64 0):=(blk_cell p3.out 0).trans rfl; have hcz22_1 : w20.cell? ⟨p4,1,none⟩ = some (.int .i64 0):=(blk_cell p3.out 1).trans rfl; have hcz22_2 : w20.cell? ⟨p4,2,none⟩ = some (.int .i64 0):=(blk_cell p3.out 2).trans rfl; have hcz22_3 : w20.cell? ⟨p4,3,none⟩ = some (.int .i64 0):=(blk_cell p3.out 3).trans rfl; have hcz22_4 : w20.cell? ⟨p4,4,none⟩ = some (.int .i64 0):=(blk_cell p3.out 4).trans rfl; have hfz22_0:=blk_frozen p3.out 0; have hfz22_1:=blk_frozen p3.out 1; have hfz22_2:=blk_frozen p3.out 2; have hfz22_3:=blk_frozen p3.out 3; have hfz22_4:=blk_frozen p3.out 4))
    go_roundg k1
    case measure => have:=HK1.out; omega
    case rel => exact ⟨(x5_1),(wrap64 (p1 + 1)),(by first | rfl | (simp; done) | (simp [*]; done)),(by first | rfl | (simp; done) | (simp [*]; done)),H',⟨by have:=HK1.out; omega⟩,⟨by (with_reducible repeat (first | refine blk_drewN ?_ _ | refine blk_drew ?_ | refine blk_alloc ?_ _)); refine blk_far ?_ p0.out _; (with_reducible repeat (first | refine blk_drewN ?_ _ | refine blk_drew ?_ | refine blk_alloc ?_ _)); refine blk_far ?_ p0.out _; (with_reducible repeat (first | refine blk_drewN ?_ _ | refine blk_drew ?_ | refine blk_alloc ?_ _)); refine blk_far ?_ p0.out _; (with_reducible repeat (first | refine blk_drewN ?_ _ | refine blk_drew ?_ | refine blk_alloc ?_ _)); refine blk_far ?_ p0.out _; (with_reducible repeat (first | refine blk_drewN ?_ _ | refine blk_drew ?_ | refine blk_alloc ?_ _)); refine blk_far ?_ p0.out _; (with_reducible repeat (first | refine blk_drewN ?_ _ | refine blk_drew ?_ | refine blk_alloc ?_ _)); exact p5.out⟩,⟨by repeat (first | (with_reducible first | exact HB.out | apply below_alloc | apply pw_below_drewN | apply below_drew1 | refine below_set ?_ q4.out | refine below_set ?_ q5.out) | exact HB.out)⟩⟩
   rw [if_pos c10] at H;have c10b0 : ((Go.bits .and .i64 (ji9) 1) == 1) = true:=beq_iff_eq.mpr c10;have c10b1 : ((Go.bits .and .i64 (ji9) 1) != 1) = false:=bne_eq_false_iff_eq.mpr c10;clear c10
   by_cases c11 : 0 ≤ ((rd_T58 l0_1 p1).f1)
   case neg =>
    rw [if_neg c11] at H;exact absurd H (by simp)
   rw [if_pos c11] at H;have c11b0:=eq_true c11;have c11b1 : decide (0 ≤ ((rd_T58 l0_1 p1).f1)) = true:=decide_eq_true c11;clear c11;obtain ⟨ji12,hji12⟩ : ∃ j_ : Int,(shr .i64 a1 ((rd_T58 l0_1 p1).f1)) = j_:=⟨_,rfl⟩
   replace H : (if (Go.bits .and .i64 (ji12) 1) = 0 then (impl_Net_cut.l0 k1 a1 (wrap64 (x5_1 + ((rd_T58 l0_1 p1).f4))) l0_1 (l0_1.length : Int) (wrap64 (p1 + 1))) else (impl_Net_cut.l0 k1 a1 x5_1 l0_1 (l0_1.length : Int) (wrap64 (p1 + 1)))) = some r:=by first | (rw [hji12] at H; exact H) | (simp only [hji12] at H ⊢; exact H)
   have hji12_ : (a1 / 2 ^ min ((rd_T58 l0_1 p1).f1).toNat 64) = ji12:=hji12;have hji12z : ((rd_T58 l0_1 p1).f1) ≤ 64 → (a1 / 2 ^ ((rd_T58 l0_1 p1).f1).toNat) = ji12:=shr_small hji12
   by_cases c13 : (Go.bits .and .i64 (ji12) 1) = 0
   case neg =>
    rw [if_neg c13] at H;have c13b0 : ((Go.bits .and .i64 (ji12) 1) == 0) = false:=beq_eq_false_iff_ne.mpr c13;have c13b1 : ((Go.bits .and .i64 (ji12) 1) != 0) = true:=bne_iff_ne.mpr c13;have H':=zx H;clear H;have p775 : 0 ≤ (p1 : Int):=of_decide_eq_true (by first | (with_reducible assumption) | assumption);have q775 : p1 < (l0_1.length : Int):=of_decide_eq_true (by first | (with_reducible assumption) | assumption);obtain ⟨q3,e775,p7,p8,p9,q0,q1⟩:=at_T58 q6.out p1 p775 q775;cases e775;replace p7:=(HB.out.cell (World.block_lt_of_cell? w _ p7)).trans p7;replace p8:=(HB.out.cell (World.block_lt_of_cell? w _ p8)).trans p8;replace p9:=(HB.out.cell (World.block_lt_of_cell? w _ p9)).trans p9;replace q0:=(HB.out.cell (World.block_lt_of_cell? w _ q0)).trans q0;replace q1:=(HB.out.cell (World.block_lt_of_cell? w _ q1)).trans q1;replace p775:=eq_true p775;replace q775:=eq_true q775
    go_wp2_with (first | ((with_reducible refine gate_dst (N:=7) rfl ?_); refine box_event ?hg (N:=7) ?hd (cs:=#[.int .i64 0,.int .i64 0,.int .i64 0,.int .i64 0,.int .i64 0]) (t:=58) ?hr ?_; (case hd => rfl); (case hg => rfl); (case hr => first | (go_simp; done) | (go_simp; rfl)); intro p4 hg w17 hbox hb; have n0_:=zx (blk_below (g:=p6) (o:=.cells #[.int .i64 a0_0,.slice (some q3) l0_1.length c0_1] 34 (0,0)) p5.out hb); have n1_:=zx (below_step HB.out hb); have n2_:=zx (hbox); have n3_:=zx ((by rw [hg]; exact (below_size HB.out) : w.heap.size ≤ p4)); have n4_:=zx ((by rw [hg]; exact (below_size HB.out) : w.heap.size ≤ p4)); have n5_:=zx ((by rw [hg]; exact Nat.ne_of_lt (blk_lt (g:=p6) (o:=.cells #[.int .i64 a0_0,.slice (some q3) l0_1.length c0_1] 34 (0,0)) p5.out) : p6 ≠ p4)); have n6_:=zx ((by rw [hg]; exact Nat.ne_of_gt (blk_lt (g:=p6) (o:=.cells #[.int .i64 a0_0,.slice (some q3) l0_1.length c0_1] 34 (0,0)) p5.out) : p4 ≠ p6)); clear p5; clear HB; have p5:=n0_; have HB:=n1_; have p3:=n2_; have GW776:=n3_; have q5:=n4_; have p0:=n5_; have q2:=n6_; clear n0_ n1_ n2_ n3_ n4_ n5_ n6_; clear hb hbox hg; have hnb18:=q2.out; have hnc18:=p0.out; have hcz19_0 : w17.cell? ⟨p4,0,none⟩ = some (.int .i64 0):=(blk_cell p3.out 0).trans rfl; have hcz19_1 : w17.cell? ⟨p4,1,none⟩ = some (.int .i64 0):=(blk_cell p3.out 1).trans rfl; have hcz19_2 : w17.cell? ⟨p4,2,none⟩ = some (.int .i64 0):=(blk_cell p3.out 2).trans rfl; have hcz19_3 : w17.cell? ⟨p4,3,none⟩ = some (.int .i64 0):=(blk_cell p3.out 3).trans rfl; have hcz19_4 : w17.cell? ⟨p4,4,none⟩ = some (.int .i64 0):=(blk_cell p3.out 4).trans rfl; have hfz19_0:=blk_frozen p3.out 0; have hfz19_1:=blk_frozen p3.out 1; have hfz19_2:=blk_frozen p3.out 2; have hfz19_3:=blk_frozen p3.out 3; have hfz19_4:=blk_frozen p3.out 4))
    go_roundg k1
    case measure => have:=HK1.out; omega
    case rel => exact ⟨(x5_1),(wrap64 (p1 + 1)),(by first | rfl | (simp; done) | (simp [*]; done)),(by first | rfl | (simp; done) | (simp [*]; done)),H',⟨by have:=HK1.out; omega⟩,⟨by (with_reducible repeat (first | refine blk_drewN ?_ _ | refine blk_drew ?_ | refine blk_alloc ?_ _)); refine blk_far ?_ p0.out _; (with_reducible repeat (first | refine blk_drewN ?_ _ | refine blk_drew ?_ | refine blk_alloc ?_ _)); refine blk_far ?_ p0.out _; (with_reducible repeat (first | refine blk_drewN ?_ _ | refine blk_drew ?_ | refine blk_alloc ?_ _)); refine blk_far ?_ p0.out _; (with_reducible repeat (first | refine blk_drewN ?_ _ | refine blk_drew ?_ | refine blk_alloc ?_ _)); refine blk_far ?_ p0.out _; (with_reducible repeat (first | refine blk_drewN ?_ _ | refine blk_drew ?_ | refine blk_alloc ?_ _)); refine blk_far ?_ p0.out _; (with_reducible repeat (first | refine blk_drewN ?_ _ | refine blk_drew ?_ | refine blk_alloc ?_ _)); exact p5.out⟩,⟨by repeat (first | (with_reducible first | exact HB.out | apply below_alloc | apply pw_below_drewN | apply below_drew1 | refine below_set ?_ q4.out | refine below_set ?_ q5.out) | exact HB.out)⟩⟩
   rw [if_pos c13] at H;have c13b0 : ((Go.bits .and .i64 (ji12) 1) == 0) = true:=beq_iff_eq.mpr c13;have c13b1 : ((Go.bits .and .i64 (ji12) 1) != 0) = false:=bne_eq_false_iff_eq.mpr c13;clear c13;have H':=zx H;clear H;have p775 : 0 ≤ (p1 : Int):=of_decide_eq_true (by first | (with_reducible assumption) | assumption);have q775 : p1 < (l0_1.length : Int):=of_decide_eq_true (by first | (with_reducible assumption) | assumption);obtain ⟨q3,e775,p7,p8,p9,q0,q1⟩:=at_T58 q6.out p1 p775 q775;cases e775;replace p7:=(HB.out.cell (World.block_lt_of_cell? w _ p7)).trans p7;replace p8:=(HB.out.cell (World.block_lt_of_cell? w _ p8)).trans p8;replace p9:=(HB.out.cell (World.block_lt_of_cell? w _ p9)).trans p9;replace q0:=(HB.out.cell (World.block_lt_of_cell? w _ q0)).trans q0;replace q1:=(HB.out.cell (World.block_lt_of_cell? w _ q1)).trans q1;replace p775:=eq_true p775;replace q775:=eq_true q775
   go_wp2_with (first | ((with_reducible refine gate_dst (N:=7) rfl ?_); refine box_event ?hg (N:=7) ?hd (cs:=#[.int .i64 0,.int .i64 0,.int .i64 0,.int .i64 0,.int .i64 0]) (t:=58) ?hr ?_; (case hd => rfl); (case hg => rfl); (case hr => first | (go_simp; done) | (go_simp; rfl)); intro p4 hg w14 hbox hb; have n0_:=zx (blk_below (g:=p6) (o:=.cells #[.int .i64 a0_0,.slice (some q3) l0_1.length c0_1] 34 (0,0)) p5.out hb); have n1_:=zx (below_step HB.out hb); have n2_:=zx (hbox); have n3_:=zx ((by rw [hg]; exact (below_size HB.out) : w.heap.size ≤ p4)); have n4_:=zx ((by rw [hg]; exact (below_size HB.out) : w.heap.size ≤ p4)); have n5_:=zx ((by rw [hg]; exact Nat.ne_of_lt (blk_lt (g:=p6) (o:=.cells #[.int .i64 a0_0,.slice (some q3) l0_1.length c0_1] 34 (0,0)) p5.out) : p6 ≠ p4)); have n6_:=zx ((by rw [hg]; exact Nat.ne_of_gt (blk_lt (g:=p6) (o:=.cells #[.int .i64 a0_0,.slice (some q3) l0_1.length c0_1] 34 (0,0)) p5.out) : p4 ≠ p6)); clear p5; clear HB; have p5:=n0_; have HB:=n1_; have p3:=n2_; have GW776:=n3_; have q5:=n4_; have p0:=n5_; have q2:=n6_; clear n0_ n1_ n2_ n3_ n4_ n5_ n6_; clear hb hbox hg; have hnb15:=q2.out; have hnc15:=p0.out; have hcz16_0 : w14.cell? ⟨p4,0,none⟩ = some (.int .i64 0):=(blk_cell p3.out 0).trans rfl; have hcz16_1 : w14.cell? ⟨p4,1,none⟩ = some (.int .i64 0):=(blk_cell p3.out 1).trans rfl; have hcz16_2 : w14.cell? ⟨p4,2,none⟩ = some (.int .i64 0):=(blk_cell p3.out 2).trans rfl; have hcz16_3 : w14.cell? ⟨p4,3,none⟩ = some (.int .i64 0):=(blk_cell p3.out 3).trans rfl; have hcz16_4 : w14.cell? ⟨p4,4,none⟩ = some (.int .i64 0):=(blk_cell p3.out 4).trans rfl; have hfz16_0:=blk_frozen p3.out 0; have hfz16_1:=blk_frozen p3.out 1; have hfz16_2:=blk_frozen p3.out 2; have hfz16_3:=blk_frozen p3.out 3; have hfz16_4:=blk_frozen p3.out 4))
   go_roundg k1
   case measure => have:=HK1.out; omega
   case rel => exact ⟨(wrap64 (x5_1 + ((rd_T58 l0_1 p1).f4))),(wrap64 (p1 + 1)),(by first | rfl | (simp; done) | (simp [*]; done)),(by first | rfl | (simp; done) | (simp [*]; done)),H',⟨by have:=HK1.out; omega⟩,⟨by (with_reducible repeat (first | refine blk_drewN ?_ _ | refine blk_drew ?_ | refine blk_alloc ?_ _)); refine blk_far ?_ p0.out _; (with_reducible repeat (first | refine blk_drewN ?_ _ | refine blk_drew ?_ | refine blk_alloc ?_ _)); refine blk_far ?_ p0.out _; (with_reducible repeat (first | refine blk_drewN ?_ _ | refine blk_drew ?_ | refine blk_alloc ?_ _)); refine blk_far ?_ p0.out _; (with_reducible repeat (first | refine blk_drewN ?_ _ | refine blk_drew ?_ | refine blk_alloc ?_ _)); refine blk_far ?_ p0.out _; (with_reducible repeat (first | refine blk_drewN ?_ _ | refine blk_drew ?_ | refine blk_alloc ?_ _)); refine blk_far ?_ p0.out _; (with_reducible repeat (first | refine blk_drewN ?_ _ | refine blk_drew ?_ | refine blk_alloc ?_ _)); exact p5.out⟩,⟨by repeat (first | (with_reducible first | exact HB.out | apply below_alloc | apply pw_below_drewN | apply below_drew1 | refine below_set ?_ q4.out | refine below_set ?_ q5.out) | exact HB.out)⟩⟩
end Go.Proofs.Ytlhmljngjdfbpaa.Pr
end
