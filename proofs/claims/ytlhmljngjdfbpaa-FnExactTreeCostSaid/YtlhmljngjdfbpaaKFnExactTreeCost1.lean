/- For the statement FnExactTreeCost of this seat: it is proved here, with no further conditions (part 2 of its texts: words, walks of the functions, the plain law, the row). -/
import Derived.Laws.AppendOwn
import Derived.Laws.OwnMore
import Derived.Maps.AppendAt
import Derived.OwnWalk
import Derived.Tactics
section
namespace Go
def World.ownsRow2 (w : World) (base : Nat) (e : TypeId) (size : Nat) (v : Value) (n : Nat) (xs : List Value) : Prop :=
 xs.length = n * size ∧
 ((v = .slice none 0 0 ∧ n = 0) ∨
 ∃ g cap cur,v = .slice (some ⟨g,0,none⟩) n cap ∧ base ≤ g ∧ w.heap[g]? = some (.cells cur e (0,0)) ∧ n ≤ cap ∧ cap ≤ maxLen ∧ cap * size ≤ cur.size ∧ cur.toList.take (n * size) = xs)
section
variable {w : World} {base : Nat} {e : TypeId} {size : Nat} {v : Value} {n : Nat} {xs : List Value}
theorem World.ownsRow.two (h : w.ownsRow base e size v n xs) : w.ownsRow2 base e size v n xs:=by
 refine ⟨h.1,?_⟩
 rcases h.2 with h | ⟨g,cap,cur,a,b,c,d,f,k,m⟩
 ·exact .inl h
 ·exact .inr ⟨g,cap,cur,a,b,c,d,f,Nat.le_of_eq k.symm,m⟩
theorem World.ownsRow2_lit (w : World) (cs : Array Value) (n : Nat) (hb : base ≤ w.heap.size) (hm : n ≤ maxLen) (hs : cs.size = n * size) :
  (w.alloc (.cells cs e)).ownsRow2 base e size (.slice (some ⟨w.heap.size,0,none⟩) n n) n cs.toList:=(World.ownsRow_lit w cs n hb hm hs).two
theorem World.ownsRow2.cells (h : w.ownsRow2 base e size v n xs) {g : Nat} (hg : v.ownBlock = some g) : ∀ j u,xs[j]? = some u → w.cell? ((⟨g,0,none⟩ : Addr).add j) = some u:=by
 intro j u hu
 rcases h.2 with ⟨rfl,_⟩ | ⟨g',cap,cur,rfl,_,hgg,_,_,_,htake⟩
 ·simp [Value.ownBlock] at hg
 ·simp [Value.ownBlock] at hg;subst hg;have hadd : (⟨g',0,none⟩ : Addr).add j = ⟨g',j,none⟩:=by unfold Addr.add; split <;> simp_all
  rw [hadd,cell_of_row w g' j cur e (0,0) hgg];rw [← htake,List.getElem?_take] at hu
  split at hu
  ·simpa using hu
  ·cases hu
theorem World.ownsRow2.form (h : w.ownsRow2 base e size v n xs) (hp : 0 < n) : ∃ g cap,v = .slice (some ⟨g,0,none⟩) n cap ∧ base ≤ g ∧ g < w.heap.size:=by
 rcases h.2 with ⟨_,h0⟩ | ⟨g,cap,cur,rfl,hb,hgg,_⟩
 ·omega
 ·exact ⟨g,cap,rfl,hb,(Array.getElem?_eq_some_iff.1 hgg).1⟩
variable {g cap : Nat}
theorem World.ownsRow2.stored (h : w.ownsRow2 base e size (.slice (some ⟨g,0,none⟩) n cap) n xs) (j : Nat) (u : Value) :
  (w.setCell ⟨g,j,none⟩ u).ownsRow2 base e size (.slice (some ⟨g,0,none⟩) n cap) n (xs.set j u) ∧ w.grownBy (w.setCell ⟨g,j,none⟩ u) (some g):=by
 rcases h.2 with ⟨h',_⟩ | ⟨g',cap',cur,h',hb,hg,hnc,hcm,hcs,htake⟩
 ·simp at h'
 ·simp only [Value.slice.injEq,Option.some.injEq,Addr.mk.injEq,and_true,true_and] at h';obtain ⟨rfl,rfl⟩:=h';refine ⟨⟨by simpa using h.1,.inr ⟨g,cap,cur.setIfInBounds j u,rfl,hb,heap_setCell_same w g j cur e u hg,hnc,hcm,by simpa using hcs,?_⟩⟩,
   ⟨rfl,rfl,rfl,by simp,fun k _ hk => heap_setCell_other w ⟨g,j,none⟩ k u (fun e => hk (by simp [e]))⟩⟩
  rw [Array.toList_setIfInBounds,← htake,List.take_set]
end
end Go
end
