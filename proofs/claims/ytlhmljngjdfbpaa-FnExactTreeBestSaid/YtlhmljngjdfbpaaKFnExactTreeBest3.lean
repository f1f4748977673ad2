/- For the statement FnExactTreeBest of this seat: it is proved here, with no further conditions (part 4 of its texts: words, walks of the functions, the plain law, the row). -/
import Derived.Deep.RegionLaw
import Derived.Shelf.SlSortCmp.Insertion
import Derived.Shelf.SlicesG.Cmp
import Derived.Test.YtlhmljngjdfbpaaKFnExactTreeBest2
section
namespace Go.Proofs.Ytlhmljngjdfbpaa.Pr
open Go.RowKit Go.Proofs.YtlhmljngjdfbpaaW.PrintWords Go.Proofs.YtlhmljngjdfbpaaW.PrintLast Go.Proofs.YtlhmljngjdfbpaaW.PrintMore
attribute [local go_sem] max2_int min2_int max_two min_two max_three min_three max_four min_four
set_option linter.unusedVariables false
set_option linter.unusedSimpArgs false
open List renaming setIfInBounds_toArray → J,set_cons_zero → U,set_cons_succ → O
open Go.Proofs.YtlhmljngjdfbpaaW.PrintWords.Aside0 renaming mk → I
def laws_markIntS.l0 : Nat → List Int → Int → Int → Option (Int × List Int)
 | 0,_,_,_ => none
 | k + 1,x0,x1,x5 => if x5 < (x0.length : Int) then (if 0 ≤ x5 then (laws_markIntS.l0 k (x0.set (x5 : Int).toNat x1) (wrap64 (x1 + 1)) (wrap64 (x5 + 1))) else (none)) else (some (x1,x0))
def laws_markIntS.f (k : Nat) (l0 : List Int) (a1 : Int) : Option (Int × List Int):=laws_markIntS.l0 k l0 a1 0
set_option maxHeartbeats 8000000 in
set_option maxRecDepth 100000 in
theorem laws_markIntS.calls (k : Nat) (P0_ : Nat → Prop) (u9000_ : Value) (l0 : List Int) (a1 : Int) (r1 : Int) (r2 : List Int) (w0 w : World) (hB : Below w0.heap.size w0 w) (ho0 : Kd.R (Kd.int .i64) 3 w w0.heap.size P0_ u9000_ l0) (h : laws_markIntS.f k l0 a1 = some (r1,r2)) :
  Calls Try.prog 42 #[u9000_,.int .i64 a1] w fun e w' => e = .returned (.int .i64 r1) ∧ Kd.R (Kd.int .i64) 3 w' w0.heap.size (fun k_ => (P0_ k_ ∨ w.heap.size ≤ k_)) u9000_ r2 ∧ Below w0.heap.size w0 w' ∧ Kept w w' (fun k_ => P0_ k_):=by
 have HO0:=I (show Kd.R (Kd.int .i64) 3 w w0.heap.size (fun k_ => (P0_ k_ ∨ w.heap.size ≤ k_)) u9000_ l0 from Kd.R_mono ho0 (fun k_ hk => (.inl hk)));have HK:=I (Kept.refl w (fun k_ => P0_ k_));have HW0:=I hB.size;have HB:=I hB;clear hB;have H : (laws_markIntS.l0 k l0 a1 0) = some (r1,r2):=h;clear h;have H':=I H;clear H
 go_enter Try.func42,Try.ntmps42
 go_wp2
 go_loopg [1,5] k (fun kq v1 v5 w' => ∃ (x0_1 : List Int) (x1_1 : Int) (x5_1 : Int),v1 = .int .i64 x1_1 ∧ v5 = .int .i64 x5_1 ∧ Aside0 (laws_markIntS.l0 kq x0_1 x1_1 x5_1 = some (r1,r2)) ∧ Aside0 (kq ≤ k) ∧ Aside0 (Kd.R (Kd.int .i64) 3 w' w0.heap.size (fun k_ => (P0_ k_ ∨ w.heap.size ≤ k_)) u9000_ x0_1) ∧ Aside0 (Kept w w' (fun k_ => P0_ k_)) ∧ Aside0 (Below w0.heap.size w0 w'))
 case atStart => exact ⟨(l0),(a1),(0),(by first | rfl | (simp; done) | (simp [*]; done)),(by first | rfl | (simp; done) | (simp [*]; done)),H',⟨Nat.le_refl _⟩,⟨by (with_reducible repeat (first | apply Kd.R_alloc | apply Kd.R_drewN | apply Kd.R_drew)); exact HO0.out⟩,⟨by repeat (first | (with_reducible first | exact HK.out | apply Kept.alloc | apply Kept.drewN | apply Kept.drew) | exact HK.out)⟩,⟨by repeat (first | (with_reducible first | exact HB.out | apply below_alloc | apply pw_below_drewN | apply below_drew1) | exact HB.out)⟩⟩
 case round =>
  clear H'
  try clear p2
  obtain ⟨x0_1,x1_1,x5_1,rfl,rfl,HA,HK1,HO_0,HK,HB⟩:=hrel;cases gk with
  | zero => exact absurd HA.out (by simp [laws_markIntS.l0])
  | succ k1 =>
   have H:=HA.out;clear HA;simp only [laws_markIntS.l0] at H
   by_cases c3 : x5_1 < (x0_1.length : Int)
   case neg =>
    rw [if_neg c3] at H;have c3b0 : decide (x5_1 < (x0_1.length : Int)) = false:=decide_eq_false c3;clear c3;simp only [Option.some.injEq,Prod.mk.injEq] at H;obtain ⟨rfl,rfl⟩:=H;obtain ⟨Ao9,co9,eo9⟩:=Kd.R_slice HO_0.out;subst eo9
    go_wp2
    go_ret;exact ⟨by first | rfl | (simp [errW_none,errW_some] <;> rfl) | (simp [*,errW_none,errW_some] <;> rfl),by (with_reducible repeat (first | apply Kd.R_alloc | apply Kd.R_drewN | apply Kd.R_drew)); exact HO_0.out,by repeat (first | (with_reducible first | exact HB.out | apply below_alloc | apply pw_below_drewN | apply below_drew1) | exact HB.out),by repeat (first | (with_reducible first | exact HK.out | apply Kept.alloc | apply Kept.drewN | apply Kept.drew) | exact HK.out)⟩
   rw [if_pos c3] at H;have c3b0 : decide (x5_1 < (x0_1.length : Int)) = true:=decide_eq_true c3;clear c3
   by_cases c4 : 0 ≤ x5_1
   case neg =>
    rw [if_neg c4] at H;exact absurd H (by simp)
   rw [if_pos c4] at H;have c4b0 : decide (0 ≤ x5_1) = true:=decide_eq_true c4;clear c4;obtain ⟨y849,hy849⟩ : ∃ y_ : List Int,y_ = (x0_1.set (x5_1 : Int).toNat x1_1):=⟨_,rfl⟩
   replace H : (laws_markIntS.l0 k1 y849 (wrap64 (x1_1 + 1)) (wrap64 (x5_1 + 1))) = some (r1,r2):=by first | (rw [hy849]; with_reducible exact H) | (have H2_:=(Option.bind_some _ _).symm.trans H; rw [hy849]; with_reducible exact H2_) | (have H2_:=(Option.bind_some _ _).symm.trans H; with_reducible exact H2_) | with_reducible exact H | (rw [hy849]; exact H) | exact H
   have Ny849:=I hy849;clear hy849;have H':=I H;clear H;obtain ⟨Ao6,co6,eo6⟩:=Kd.R_slice HO_0.out;subst eo6;have p5 : 0 ≤ (x5_1 : Int):=of_decide_eq_true (by first | (with_reducible assumption) | assumption);have q5 : (x5_1 : Int) < ((x0_1.length : Int) : Int):=of_decide_eq_true (by first | (with_reducible assumption) | assumption);obtain ⟨go5,co5,eo5,gb5,gl5,cl5,HG5⟩:=Kd.R_form HO_0.out (by omega)
   (first | cases eo5 | (injection eo5 with ea_ en_ ec_; (first | subst ea_ | (injection ea_ with ea_; subst ea_)); subst ec_; clear en_))
   have GB5:=I gb5;have GG5:=I HG5;clear gb5 gl5 HG5;have HMgo5:=I (show (P0_ go5 ∨ w.heap.size ≤ go5) from (HO_0.out.1 _ rfl));obtain ⟨hx5_0,hf5_0⟩:=Kd.R_celln 0 HO_0.out (x5_1 : Int) p5 q5;replace p5:=eq_true p5;replace q5:=eq_true q5;have HP7:=Kd.R_putg HO_0.out (x5_1 : Int) x1_1
   go_wp2_with (first | ((with_reducible refine gate_store (t:=3) (p:=15) rfl ?_); refine store_event (t:=3) (p:=15) (v:=?vo_w8) (w1:=(wr.setCell ⟨go5,(x5_1 : Int).toNat,none⟩ (.int .i64 x1_1))) ?hg ?ho ?hn ?hr ?_; (case ho => rfl); (case hg => rfl); (case hn => rfl); (case hr => first | (go_simp; done) | (go_simp; rfl)); intro w8 hw; have hg : wr.grownBy w8 (some go5):=(by rw [hw]; exact HP7.2); have hp_ : Kd.R (Kd.int .i64) 3 w8 w0.heap.size (fun k_ => (P0_ k_ ∨ w.heap.size ≤ k_)) (.slice (some ⟨go5,0,none⟩) x0_1.length co6) y849:=(by rw [hw,Ny849.out]; exact HP7.1); clear HP7; have n0_:=I (hp_); have n1_:=I ((by rw [hw]; exact below_set (HB.out) GB5.out : Below w0.heap.size w0 w8)); have n2_:=I (Kept.of_grown (S:=(fun k_ => P0_ k_)) hg (by repeat (first | (with_reducible first | exact HK.out | apply Kept.alloc | apply Kept.drewN | apply Kept.drew) | exact HK.out)) (fun k_ e_ => (HO_0.out.1 k_ e_))); clear HO_0; clear HB; clear HK; have HO_0:=n0_; have HB:=n1_; have HK:=n2_; clear n0_ n1_ n2_; clear hg hw hp_))
   go_roundg k1
   case measure => have:=HK1.out; omega
   case rel => exact ⟨(y849),(wrap64 (x1_1 + 1)),(wrap64 (x5_1 + 1)),(by first | rfl | (simp; done) | (simp [*]; done)),(by first | rfl | (simp; done) | (simp [*]; done)),H',⟨by have:=HK1.out; omega⟩,⟨by (with_reducible repeat (first | apply Kd.R_alloc | apply Kd.R_drewN | apply Kd.R_drew)); exact HO_0.out⟩,⟨by repeat (first | (with_reducible first | exact HK.out | apply Kept.alloc | apply Kept.drewN | apply Kept.drew) | exact HK.out)⟩,⟨by repeat (first | (with_reducible first | exact HB.out | apply below_alloc | apply pw_below_drewN | apply below_drew1) | exact HB.out)⟩⟩
def laws_heldIntS.l0 : Nat → List Int → Int → Int → Option (Int)
 | 0,_,_,_ => none
 | k + 1,x0,x1,x5 => if x5 < (x0.length : Int) then (if 0 ≤ x5 then (if (rd x0 x5) = x1 then (laws_heldIntS.l0 k x0 (wrap64 (x1 + 1)) (wrap64 (x5 + 1))) else (some (-1))) else (none)) else (some x1)
def laws_heldIntS.f (k : Nat) (l0 : List Int) (a1 : Int) : Option (Int):=laws_heldIntS.l0 k l0 a1 0
set_option maxHeartbeats 8000000 in
set_option maxRecDepth 100000 in
theorem laws_heldIntS.calls (k : Nat) (A0 : Option Addr) (c0 : Nat) (l0 : List Int) (a1 : Int) (r : Int) (w : World) (hr0 : Kd.C (Kd.int .i64) w A0 l0.length l0) (hc0 : l0.length ≤ c0) (h : laws_heldIntS.f k l0 a1 = some r) :
  Calls Try.prog 43 #[.slice A0 l0.length c0,.int .i64 a1] w fun e w' => e = .returned (.int .i64 r) ∧ Drawn0 w w':=by
 have HR0:=I hr0;have HC0:=I hc0;clear hr0 hc0;have H : (laws_heldIntS.l0 k l0 a1 0) = some r:=h;clear h;have H':=I H;clear H
 go_enter Try.func43,Try.ntmps43
 go_wp2
 go_loopg [1,5] k (fun kq v1 v5 w' => ∃ (x1_1 : Int) (x5_1 : Int),v1 = .int .i64 x1_1 ∧ v5 = .int .i64 x5_1 ∧ Aside0 (laws_heldIntS.l0 kq l0 x1_1 x5_1 = some r) ∧ Aside0 (kq ≤ k) ∧ Drawn0 w w')
 case atStart => exact ⟨(a1),(0),(by first | rfl | (simp; done) | (simp [*]; done)),(by first | rfl | (simp; done) | (simp [*]; done)),H',⟨Nat.le_refl _⟩,by repeat (first | exact Drawn0.refl _ | apply Drawn0.step)⟩
 case round =>
  clear H'
  try clear p2
  obtain ⟨x1_1,x5_1,rfl,rfl,HA,HK1,⟨m1,rfl⟩⟩:=hrel;cases gk with
  | zero => exact absurd HA.out (by simp [laws_heldIntS.l0])
  | succ k1 =>
   have H:=HA.out;clear HA;simp only [laws_heldIntS.l0] at H
   by_cases c3 : x5_1 < (l0.length : Int)
   case neg =>
    rw [if_neg c3] at H;have c3b0 : decide (x5_1 < (l0.length : Int)) = false:=decide_eq_false c3;clear c3;obtain rfl:=Option.some.inj H
    go_wp2
    go_ret;exact ⟨by first | rfl | (simp; done) | (simp [*]; done),by repeat (first | exact Drawn0.refl _ | apply Drawn0.step)⟩
   rw [if_pos c3] at H;have c3b0 : decide (x5_1 < (l0.length : Int)) = true:=decide_eq_true c3;clear c3
   by_cases c4 : 0 ≤ x5_1
   case neg =>
    rw [if_neg c4] at H;exact absurd H (by simp)
   rw [if_pos c4] at H;have c4b0 : decide (0 ≤ x5_1) = true:=decide_eq_true c4;clear c4
   by_cases c5 : (rd l0 x5_1) = x1_1
   case neg =>
    rw [if_neg c5] at H;have c5b0 : ((rd l0 x5_1) == x1_1) = false:=beq_eq_false_iff_ne.mpr c5;have c5b1 : ((rd l0 x5_1) != x1_1) = true:=bne_iff_ne.mpr c5;obtain rfl:=Option.some.inj H;have p850 : 0 ≤ (x5_1 : Int):=of_decide_eq_true (by first | (with_reducible assumption) | assumption);have q850 : x5_1 < (l0.length : Int):=of_decide_eq_true (by first | (with_reducible assumption) | assumption);obtain ⟨ad850,e850,hx850_0⟩:=Kd.at_int HR0.out x5_1 p850 q850;cases e850;replace p850:=eq_true p850;replace q850:=eq_true q850
    go_wp2
    go_ret;exact ⟨by first | rfl | (simp; done) | (simp [*]; done),by repeat (first | exact Drawn0.refl _ | apply Drawn0.step)⟩
   rw [if_pos c5] at H;have c5b0 : ((rd l0 x5_1) == x1_1) = true:=beq_iff_eq.mpr c5;have c5b1 : ((rd l0 x5_1) != x1_1) = false:=bne_eq_false_iff_eq.mpr c5;clear c5;have H':=I H;clear H;have p850 : 0 ≤ (x5_1 : Int):=of_decide_eq_true (by first | (with_reducible assumption) | assumption);have q850 : x5_1 < (l0.length : Int):=of_decide_eq_true (by first | (with_reducible assumption) | assumption);obtain ⟨ad850,e850,hx850_0⟩:=Kd.at_int HR0.out x5_1 p850 q850;cases e850;replace p850:=eq_true p850;replace q850:=eq_true q850
   go_wp2
   go_roundg k1
   case measure => have:=HK1.out; omega
   case rel => exact ⟨(wrap64 (x1_1 + 1)),(wrap64 (x5_1 + 1)),(by first | rfl | (simp; done) | (simp [*]; done)),(by first | rfl | (simp; done) | (simp [*]; done)),H',⟨by have:=HK1.out; omega⟩,by repeat (first | exact Drawn0.refl _ | apply Drawn0.step)⟩
end Go.Proofs.Ytlhmljngjdfbpaa.Pr
end
section
set_option linter.unusedVariables false
set_option linter.unusedSimpArgs false
namespace Go.Proofs.YtlhmljngjdfbpaaW.PrintWords
open Go.RowKit
section
variable {P : Program} {ops : Array Oper} {rest : List Oper} {o : Oper} {a : Act} {Q : Exit → Act → World → Prop}
theorem cut_cap (t e : TypeId) (kh : IntKind) {i : TypeInfo} (ht : P.underlying t = some (.slice e)) (hi : P.info? e = some i) (A : Option Addr) (n c : Nat) (j : Int) (h0 : 0 ≤ j) (hm : j ≤ n) (hc : n ≤ c) :
  ∀ W : World,(Instr.slice t (.slice A n c) none (some (.int kh j)) (some (.int kh j))).run P W = .ok (.slice A j.toNat j.toNat) W:=by
 intro W;have hel : P.elem t = e:=by simp [Program.elem,ht]
 have hu : P.underlying t = some (.slice (P.elem t)):=by rw [hel]; exact ht
 have ha : (A.map fun x => x.add 0) = A:=by cases A <;> simp [Addr.add]
 rw [run_slice_hm W t A n c hu kh kh j j h0 (Int.le_refl _) (by omega),hel];simp [sizeOf,typeInfo,hi,sliced,Result.andThen,ha]
theorem own_clip {w : World} {base n m c size : Nat} {e : TypeId} {A : Option Addr} {xs : List Value} (h : w.ownsRow2 base e size (.slice A n c) n xs) (hm : m ≤ n) : w.ownsRow2 base e size (.slice A m m) m (xs.take (m * size)):=by
 obtain ⟨h1,h2⟩:=h;refine ⟨by rw [List.length_take,h1]; exact Nat.min_eq_left (Nat.mul_le_mul_right _ hm),?_⟩
 rcases h2 with ⟨he,h0⟩ | ⟨g,cap,cur,he,hb,hh,hnc,hcm,hcs,ht⟩
 ·injection he with ha _ hc
  subst ha;obtain rfl : m = 0:=by omega
  exact .inl ⟨rfl,rfl⟩
 ·injection he with ha _ hc
  subst ha; subst hc;refine .inr ⟨g,m,cur,rfl,hb,hh,Nat.le_refl _,by omega,Nat.le_trans (Nat.mul_le_mul_right _ (by omega)) hcs,?_⟩;rw [← ht,List.take_take,Nat.min_eq_left (Nat.mul_le_mul_right _ hm)]
namespace Kd
section
variable {α : Type} {d : Kd α} {e m n c : Nat} {w : World} {base : Nat} {ok : Nat → Prop} {A : Option Addr} {xs : List α}
theorem R_cap (h : d.R e w base ok (.slice A n c) xs) (hm : m ≤ xs.length) : d.R e w base ok (.slice A m m) (xs.take m):=by
 obtain ⟨h0,inner,ho,hr⟩:=h;have hn : n = xs.length:=by
  obtain ⟨A',c',he⟩:=own_slice ho;injection he
 subst hn;have hb : ∀ x y a b : Nat,(Value.slice A x a).ownBlock = (Value.slice A y b).ownBlock:=by
  intro x y a b;cases A <;> rfl
 refine ⟨fun k hk => h0 k (by rw [hb _ m _ m]; exact hk),inner.take (m * d.sz),?_,?_⟩
 ·rw [List.length_take,Nat.min_eq_left hm];exact own_clip ho hm
 ·rw [hb m xs.length m c];exact reps_take hr hm
theorem R_cap1 (h : d.R e w base ok (.slice A n c) xs) : d.R e w base ok (.slice A n n) xs:=by
 obtain ⟨rfl,_⟩:=R_reads' h;have:=R_cap (m:=xs.length) h (Nat.le_refl _)
 rwa [List.take_length] at this
end
end Kd
end
end Go.Proofs.YtlhmljngjdfbpaaW.PrintWords
end
section
namespace Go.Proofs.Ytlhmljngjdfbpaa.Pr
open Go.RowKit Go.Proofs.YtlhmljngjdfbpaaW.PrintWords Go.Proofs.YtlhmljngjdfbpaaW.PrintLast Go.Proofs.YtlhmljngjdfbpaaW.PrintMore
attribute [local go_sem] max2_int min2_int max_two min_two max_three min_three max_four min_four
set_option linter.unusedVariables false
set_option linter.unusedSimpArgs false
open List renaming setIfInBounds_toArray → J,set_cons_zero → U,set_cons_succ → O
open Go.Proofs.YtlhmljngjdfbpaaW.PrintWords.Aside0 renaming mk → I
def idxI {α : Type} (p : α → Bool) (l : List α) : Int:=match l.findIdx? p with | some i => (i : Int) | none => -1
theorem idxI_hit {α : Type} {p : α → Bool} {l : List α} (k : Nat) (hk : k < l.length) (h : p l[k] = true) (hne : ∀ j (hj : j < k),p (l[j]'(by omega)) = false) : idxI p l = k:=by
 have : l.findIdx? p = some k:=by
  rw [List.findIdx?_eq_some_iff_getElem];exact ⟨hk,h,fun j hj => by rw [hne j hj]; simp⟩
 simp [idxI,this]
theorem idxI_miss {α : Type} {p : α → Bool} {l : List α} (h : ∀ x ∈ l,p x = false) : idxI p l = -1:=by
 have : l.findIdx? p = none:=by
  rw [List.findIdx?_eq_none_iff];exact h
 simp [idxI,this]
theorem idxI_any {α : Type} (p : α → Bool) (l : List α) : decide (idxI p l ≥ 0) = l.any p:=by
 cases h : l.findIdx? p with
 | none =>
  rw [List.findIdx?_eq_none_iff] at h;simp only [idxI,List.findIdx?_eq_none_iff.2 h];rw [eq_comm]
  simpa using h
 | some i =>
  have h':=h;rw [List.findIdx?_eq_some_iff_getElem] at h';obtain ⟨hi,hp,_⟩:=h';simp only [idxI,h];have : l.any p = true:=List.any_eq_true.2 ⟨_,List.getElem_mem hi,hp⟩;rw [this];simp
theorem rd_at {l : List Int} {k : Nat} (hk : k < l.length) : rd l (k : Int) = l[k]:=by
 simp [rd,hk]
set_option maxHeartbeats 8000000 in
set_option maxRecDepth 100000 in
theorem slices_IndexFunc_int_int.calls (p : Int → Bool) (g : Nat) (lb : Array Value) (eg : ∀ args w,(callFunc g args).run Try.prog w = .ok (.enter g args) w) (A0 : Option Addr) (c0 : Nat) (l0 : List Int) (w : World) (hr0 : Kd.C (Kd.int .i64) w A0 l0.length l0) (_hc0 : l0.length ≤ c0)
  (hp : ∀ (W : World) (x : Int),x ∈ l0 → Below w.heap.size w W → Calls Try.prog g (#[.int .i64 x] ++ lb) W fun e w' => e = .returned (.bool (p x)) ∧ Below W.heap.size W w') :
  Calls Try.prog 145 #[.slice A0 l0.length c0,.func (.func g) #[] lb] w fun e w' => e = .returned (.int .i64 (idxI p l0)) ∧ Below w.heap.size w w':=by
 have HR0:=I hr0;have hlen:=hr0.2.1;clear hr0
 go_enter Try.func145,Try.ntmps145
 go_wp2
 go_loopg [5,8] l0.length (fun gg _ s8 wr => ∃ x : Int,s8 = .int .i64 x ∧ Aside0 (0 ≤ x) ∧ Aside0 (x ≤ (l0.length : Int)) ∧ Aside0 ((l0.length : Int) - x ≤ gg) ∧ Aside0 (Below w.heap.size w wr) ∧ Aside0 (∀ j (hl : j < l0.length),(j : Int) < x → p l0[j] = false))
 case atStart => exact ⟨0,rfl,⟨by omega⟩,⟨by omega⟩,⟨by omega⟩,⟨Below.refl _ w⟩,⟨fun j hj h => absurd h (by omega)⟩⟩
 case round =>
  obtain ⟨x,rfl,X0,X1,X2,BW,AA⟩:=hrel
  by_cases c2 : x < (l0.length : Int)
  case neg =>
   have c2b0 : decide (x < (l0.length : Int)) = false:=decide_eq_false c2;have E1:=I c2;clear c2 hp
   go_wp2
   go_ret;refine ⟨?_,BW.out⟩;rw [idxI_miss (fun y hy => by
    obtain ⟨j,hj,rfl⟩:=List.getElem_of_mem hy;have h1:=E1.out;exact AA.out j hj (by omega))]
   rfl
  have c2b0 : decide (x < (l0.length : Int)) = true:=decide_eq_true c2;have h0:=X0.out;have hg:=X2.out;have hlt : x.toNat < l0.length:=by omega
  obtain ⟨ad,e,hx⟩:=Kd.at_int (Kd.C_below HR0.out BW.out) x h0 c2;cases e;have hw : wrap64 (x + 1) = x + 1:=by unfold wrap64; omega
  have HW:=I hw;clear hw;have hcall:=hp wr l0[x.toNat] (List.getElem_mem hlt) BW.out;clear hp;have hrd : rd l0 x = l0[x.toNat]:=by simp [rd,hlt]
  rw [← hrd] at hcall;have B : Aside0 (∀ h : x.toNat < l0.length,rd l0 x = l0[x.toNat]):=⟨fun _ => hrd⟩
  clear hrd;generalize hy : rd l0 x = y at hx hcall B;clear hy;have p108:=eq_true h0;have q108:=eq_true c2;have E0:=I h0;have E1:=I c2;have E2:=I hg;have E3:=I hlt;clear h0 hg hlt c2;cases hq : p y with
  | true =>
   rw [hq] at hcall;have HQ:=I hq;clear hq
   go_wp2_with (go_at_fn g; refine hcall.mono ?_; rintro e w' ⟨rfl,hb'⟩)
   go_ret;refine ⟨?_,below_then BW.out BW.out.size hb'⟩;have h0:=E0.out;rw [idxI_hit x.toNat E3.out (by rw [← B.out E3.out]; exact HQ.out) (fun j hj => AA.out j _ (by omega))];rw [Int.toNat_of_nonneg h0];rfl
  | false =>
   rw [hq] at hcall;have HQ:=I hq;clear hq
   go_wp2_with (go_at_fn g; refine hcall.mono ?_; rintro e w' ⟨rfl,hb'⟩)
   have h0:=E0.out;have h1:=E1.out;have h2:=E2.out;go_roundg (l0.length - (x.toNat + 1))
   case measure => omega
   case rel =>
    refine ⟨x + 1,by first | rfl | rw [HW.out],⟨by omega⟩,⟨by omega⟩,⟨by omega⟩,⟨below_then BW.out BW.out.size hb'⟩,⟨fun j hj hl => ?_⟩⟩
    by_cases e : (j : Int) = x
    case neg => exact AA.out j hj (by omega)
    have e' : j = x.toNat:=by omega
    subst e';rw [← B.out E3.out]; exact HQ.out
def impl_within.f (a0 : Int) (a1 : Int) (a2 : Int) : Option (Bool):=if a0 ≥ a1 then (some (decide (a0 ≤ a2))) else (some false)
set_option maxHeartbeats 8000000 in
set_option maxRecDepth 100000 in
theorem impl_within.calls (a0 : Int) (a1 : Int) (a2 : Int) (r : Bool) (w : World) (h : impl_within.f a0 a1 a2 = some r) :
  Calls Try.prog 82 #[.int .i64 a0,.int .i64 a1,.int .i64 a2] w fun e w' => e = .returned (.bool r) ∧ Drawn0 w w':=by
 have H : (if a0 ≥ a1 then (some (decide (a0 ≤ a2))) else (some false)) = some r:=h;clear h
 by_cases c4 : a0 ≥ a1
 case pos =>
  rw [if_pos c4] at H;have c4b0 : decide (a1 ≤ a0) = true:=decide_eq_true c4;clear c4;obtain rfl:=Option.some.inj H
  go_enter Try.func82,Try.ntmps82
  go_wp2
  go_ret;exact ⟨by first | rfl | (simp; done) | (simp [*]; done),by repeat (first | exact Drawn0.refl _ | apply Drawn0.step)⟩
 rw [if_neg c4] at H;have c4b0 : decide (a1 ≤ a0) = false:=decide_eq_false c4;clear c4;obtain rfl:=Option.some.inj H
 go_enter Try.func82,Try.ntmps82
 go_wp2
 go_ret;exact ⟨by first | rfl | (simp; done) | (simp [*]; done),by repeat (first | exact Drawn0.refl _ | apply Drawn0.step)⟩
def impl_costOk.f (a0 : Int) : Option (Bool):=(impl_within.f a0 0 99).bind fun t182 => (some t182)
set_option maxHeartbeats 8000000 in
set_option maxRecDepth 100000 in
theorem impl_costOk.calls (a0 : Int) (r : Bool) (w : World) (h : impl_costOk.f a0 = some r) :
  Calls Try.prog 81 #[.int .i64 a0] w fun e w' => e = .returned (.bool r) ∧ Drawn0 w w':=by
 have H : ((impl_within.f a0 0 99).bind fun t182 => (some t182)) = some r:=h;clear h;replace H:=Option.bind_eq_some_iff.mp H;obtain ⟨t182,A20,H⟩:=H;replace H : (some t182) = some r:=H;have A2:=I A20;clear A20;obtain rfl:=Option.some.inj H
 go_enter Try.func81,Try.ntmps81
 go_wp2_with (first | ((with_reducible refine gate_callee (f:=82) rfl ?_); refine goesL_ (some 4) rfl rfl Try.func82 (by kernel_rfl) rfl #[.int .i64 a0,.int .i64 0,.int .i64 99] rfl (by (try simp only [List.map_toArray,List.map_cons,List.map_nil]); first | done | rfl | (simp only [List.length_drop,List.length_take]; rfl)) ?_; (with_reducible refine (impl_within.calls a0 0 99 t182 _ A2.out).mono ?_); rintro e w' ⟨rfl,⟨nd,rfl⟩⟩; refine ⟨_,rfl,?_⟩))
 go_ret;exact ⟨by first | rfl | (simp; done) | (simp [*]; done),by repeat (first | exact Drawn0.refl _ | apply Drawn0.step)⟩
set_option maxHeartbeats 8000000 in
theorem slices_ContainsFunc_int_int.calls (p : Int → Bool) (g : Nat) (lb : Array Value) (eg : ∀ args w,(callFunc g args).run Try.prog w = .ok (.enter g args) w) (A0 : Option Addr) (c0 : Nat) (l0 : List Int) (w : World) (hr0 : Kd.C (Kd.int .i64) w A0 l0.length l0) (hc0 : l0.length ≤ c0)
  (hp : ∀ (W : World) (x : Int),x ∈ l0 → Below w.heap.size w W → Calls Try.prog g (#[.int .i64 x] ++ lb) W fun e w' => e = .returned (.bool (p x)) ∧ Below W.heap.size W w') :
  Calls Try.prog 120 #[.slice A0 l0.length c0,.func (.func g) #[] lb] w fun e w' => e = .returned (.bool (l0.any p)) ∧ Below w.heap.size w w':=by
 rw [← idxI_any];have hcall:=slices_IndexFunc_int_int.calls p g lb eg A0 c0 l0 w hr0 hc0 hp;clear hp eg hr0
 go_enter Try.func120,Try.ntmps120
 go_wp2_with (go_at_call 145; refine hcall.mono ?_; rintro e w' ⟨rfl,hb'⟩)
 go_ret;exact ⟨rfl,hb'⟩
def okC (c : Int) : Bool:=decide (0 ≤ c) && decide (c ≤ 99)
theorem okC_costOk (c : Int) : impl_costOk.f c = some (okC c):=by
 unfold impl_costOk.f impl_within.f okC
 by_cases h : c ≥ 0
 case pos => rw [if_pos h]; simp [show (0 : Int) ≤ c from h]
 rw [if_neg h]; simp [show ¬ (0 : Int) ≤ c from h]
theorem rd_at_T {l : List S58} {k : Int} (h : k.toNat < l.length) : rd_T58 l k = l[k.toNat]:=by
 simp [rd_T58,h]
def encA (x : S58) : Value:=.agg #[.int .i64 x.f0,.int .i64 x.f1,.int .i64 x.f2,.int .i64 x.f3,.int .i64 x.f4]
set_option maxHeartbeats 8000000 in
set_option maxRecDepth 100000 in
theorem slices_IndexFunc_Arc.calls (p : S58 → Bool) (g : Nat) (lb : Array Value) (eg : ∀ args w,(callFunc g args).run Try.prog w = .ok (.enter g args) w) (A0 : Option Addr) (c0 : Nat) (l0 : List S58) (w : World) (hr0 : Kd.C k58 w A0 l0.length l0) (_hc0 : l0.length ≤ c0)
  (hp : ∀ (W : World) (x : S58),x ∈ l0 → Below w.heap.size w W → Calls Try.prog g (#[encA x] ++ lb) W fun e w' => e = .returned (.bool (p x)) ∧ Below W.heap.size W w') :
  Calls Try.prog 137 #[.slice A0 l0.length c0,.func (.func g) #[] lb] w fun e w' => e = .returned (.int .i64 (idxI p l0)) ∧ Below w.heap.size w w':=by
 have HR0:=I hr0;have hlen:=hr0.2.1;clear hr0;have hu:=Try.underlying58
 go_enter Try.func137,Try.ntmps137
 go_wp2
 go_loopg [5,8] l0.length (fun gg _ s8 wr => ∃ x : Int,s8 = .int .i64 x ∧ Aside0 (0 ≤ x) ∧ Aside0 (x ≤ (l0.length : Int)) ∧ Aside0 ((l0.length : Int) - x ≤ gg) ∧ Aside0 (Below w.heap.size w wr) ∧ Aside0 (∀ j (hl : j < l0.length),(j : Int) < x → p l0[j] = false))
 case atStart => exact ⟨0,rfl,⟨by omega⟩,⟨by omega⟩,⟨by omega⟩,⟨Below.refl _ w⟩,⟨fun j hj h => absurd h (by omega)⟩⟩
 case round =>
  obtain ⟨x,rfl,X0,X1,X2,BW,AA⟩:=hrel
  by_cases c2 : x < (l0.length : Int)
  case neg =>
   have c2b0 : decide (x < (l0.length : Int)) = false:=decide_eq_false c2;have E1:=I c2;clear c2 hp
   go_wp2
   go_ret;refine ⟨?_,BW.out⟩;rw [idxI_miss (fun y hy => by
    obtain ⟨j,hj,rfl⟩:=List.getElem_of_mem hy;have h1:=E1.out;exact AA.out j hj (by omega))]
   rfl
  have c2b0 : decide (x < (l0.length : Int)) = true:=decide_eq_true c2;have h0:=X0.out;have hg:=X2.out;have hlt : x.toNat < l0.length:=by omega
  obtain ⟨ad,e,hx0,hx1,hx2,hx3,hx4⟩:=at_T58 (Kd.C_below HR0.out BW.out) x h0 c2;cases e;have hw : wrap64 (x + 1) = x + 1:=by unfold wrap64; omega
  have HW:=I hw;clear hw;have hcall:=hp wr l0[x.toNat] (List.getElem_mem hlt) BW.out;clear hp;have hrd : rd_T58 l0 x = l0[x.toNat]:=rd_at_T hlt;rw [← hrd] at hcall;have B : Aside0 (∀ h : x.toNat < l0.length,rd_T58 l0 x = l0[x.toNat]):=⟨fun _ => hrd⟩
  clear hrd;generalize hy : rd_T58 l0 x = y at hx0 hx1 hx2 hx3 hx4 hcall B;clear hy
  unfold encA at hcall
  have p108:=eq_true h0;have q108:=eq_true c2;have E0:=I h0;have E1:=I c2;have E2:=I hg;have E3:=I hlt;clear h0 hg hlt c2;cases hq : p y with
  | true =>
   rw [hq] at hcall;have HQ:=I hq;clear hq
   go_wp2_with (go_at_fn g; refine hcall.mono ?_; rintro e w' ⟨rfl,hb'⟩)
   go_ret;refine ⟨?_,below_then BW.out BW.out.size hb'⟩;have h0:=E0.out;rw [idxI_hit x.toNat E3.out (by rw [← B.out E3.out]; exact HQ.out) (fun j hj => AA.out j _ (by omega))];rw [Int.toNat_of_nonneg h0];rfl
  | false =>
   rw [hq] at hcall;have HQ:=I hq;clear hq
   go_wp2_with (go_at_fn g; refine hcall.mono ?_; rintro e w' ⟨rfl,hb'⟩)
   have h0:=E0.out;have h1:=E1.out;have h2:=E2.out;go_roundg (l0.length - (x.toNat + 1))
   case measure => omega
   case rel =>
    refine ⟨x + 1,by first | rfl | rw [HW.out],⟨by omega⟩,⟨by omega⟩,⟨by omega⟩,⟨below_then BW.out BW.out.size hb'⟩,⟨fun j hj hl => ?_⟩⟩
    by_cases e : (j : Int) = x
    case neg => exact AA.out j hj (by omega)
    have e' : j = x.toNat:=by omega
    subst e';rw [← B.out E3.out]; exact HQ.out
set_option maxHeartbeats 8000000 in
theorem slices_ContainsFunc_Arc.calls (p : S58 → Bool) (g : Nat) (lb : Array Value) (eg : ∀ args w,(callFunc g args).run Try.prog w = .ok (.enter g args) w) (A0 : Option Addr) (c0 : Nat) (l0 : List S58) (w : World) (hr0 : Kd.C k58 w A0 l0.length l0) (hc0 : l0.length ≤ c0)
  (hp : ∀ (W : World) (x : S58),x ∈ l0 → Below w.heap.size w W → Calls Try.prog g (#[encA x] ++ lb) W fun e w' => e = .returned (.bool (p x)) ∧ Below W.heap.size W w') :
  Calls Try.prog 107 #[.slice A0 l0.length c0,.func (.func g) #[] lb] w fun e w' => e = .returned (.bool (l0.any p)) ∧ Below w.heap.size w w':=by
 rw [← idxI_any];have hcall:=slices_IndexFunc_Arc.calls p g lb eg A0 c0 l0 w hr0 hc0 hp;clear hp eg hr0;have hu:=Try.underlying58
 go_enter Try.func107,Try.ntmps107
 go_wp2_with (go_at_call 137; refine hcall.mono ?_; rintro e w' ⟨rfl,hb'⟩)
 go_ret;exact ⟨rfl,hb'⟩
def okN (n v : Int) : Bool:=decide (0 ≤ v) && decide (v ≤ n - 1)
theorem okN_within (n x : Int) : impl_within.f x 0 (n - 1) = some (okN n x):=by
 unfold impl_within.f okN
 by_cases h : x ≥ 0
 case pos => rw [if_pos h]; simp [show (0 : Int) ≤ x from h]
 rw [if_neg h]; simp [show ¬ (0 : Int) ≤ x from h]
def impl_Net_has.f (a0_0 : Int) (_l0_1 : List S58) (l1 : List Int) : Option Bool:=if -9223372036854775807 ≤ a0_0 then if a0_0 ≤ 9223372036854775807 then some (l1.all (okN a0_0)) else none else none
set_option maxHeartbeats 8000000 in
set_option maxRecDepth 100000 in
theorem has_closure (x n : Int) (g : Nat) (v : Value) (w : World) (hn : -9223372036854775807 ≤ n) (hn2 : n ≤ 9223372036854775807) (hb : w.heap[g]? = some (.cells #[.int .i64 n,v] 34 (0,0))) :
  Calls Try.prog 138 #[.int .i64 x,.pointer (some ⟨g,0,none⟩)] w fun e w' => e = .returned (.bool (!okN n x)) ∧ Below w.heap.size w w':=by
 have hcell : w.cell? ⟨g,0,none⟩ = some (.int .i64 n):=(blk_cell hb 0).trans rfl;have hcall:=impl_within.calls x 0 (n - 1) (okN n x) w (okN_within n x);have hu:=Try.underlying34;generalize okN n x = b at hcall;clear hb
 go_enter Try.func138,Try.ntmps138
 go_wp2_with (go_at_call 82; refine hcall.mono ?_; rintro e w' ⟨rfl,⟨nd,rfl⟩⟩)
 go_ret;exact ⟨rfl,pw_below_drewN (Below.refl _ _) _⟩
set_option maxHeartbeats 8000000 in
set_option maxRecDepth 100000 in
theorem impl_Net_has.calls (a0_0 : Int) (A0_1 : Option Addr) (c0_1 : Nat) (l0_1 : List S58) (A1 : Option Addr) (c1 : Nat) (l1 : List Int) (r : Bool) (w : World) (_hr0_1 : Kd.C k58 w A0_1 l0_1.length l0_1) (_hc0_1 : l0_1.length ≤ c0_1) (hr1 : Kd.C (Kd.int .i64) w A1 l1.length l1) (hc1 : l1.length ≤ c1) (h : impl_Net_has.f a0_0 l0_1 l1 = some r) :
  Calls Try.prog 109 #[.agg #[.int .i64 a0_0,.slice A0_1 l0_1.length c0_1],.slice A1 l1.length c1] w fun e w' => e = .returned (.bool r) ∧ Below w.heap.size w w':=by
 have hn : -9223372036854775807 ≤ a0_0:=by
  apply Decidable.byContradiction
  intro c
  unfold impl_Net_has.f at h
  rw [if_neg c] at h;exact absurd h (by simp)
 have hn2 : a0_0 ≤ 9223372036854775807:=by
  apply Decidable.byContradiction
  intro c
  unfold impl_Net_has.f at h
  rw [if_pos hn,if_neg c] at h;exact absurd h (by simp)
 have hr : l1.all (okN a0_0) = r:=by
  unfold impl_Net_has.f at h
  rw [if_pos hn,if_pos hn2] at h;exact Option.some.inj h
 clear h;have hr' : (!(l1.any fun v => !okN a0_0 v)) = r:=by
  rw [← hr,List.not_any_eq_all_not]
  congr 1
  funext v
  simp
 have hcall:=slices_ContainsFunc_int_int.calls (fun v => !okN a0_0 v) 138 #[.pointer (some ⟨w.heap.size,0,none⟩)] (enters_of Try.func138 (by kernel_rfl) rfl) A1 c1 l1 (w.alloc (.cells #[.int .i64 a0_0,.slice A0_1 l0_1.length c0_1] 34)) (Kd.C_below hr1 (below_alloc (Below.refl _ _) _)) hc1
  (fun W x _ hB => has_closure x a0_0 w.heap.size (.slice A0_1 l0_1.length c0_1) W hn hn2 ((hB.block w.heap.size (by simp)).trans (heap_alloc_new w _)))
 have HN:=I hn;have HR:=I hr';clear hr1 hr hr' hn hn2;generalize l1.any (fun v => !okN a0_0 v) = b at hcall HR
 go_enter Try.func109,Try.ntmps109
 go_wp2_with (go_at_call 120; refine hcall.mono ?_; rintro e w' ⟨rfl,hb'⟩)
 go_ret;exact ⟨by rw [← HR.out]; rfl,below_then (below_alloc (Below.refl _ _) _) (by simp) hb'⟩
def okArc (n : Int) (a : S58) : Bool:=okN n a.f0 && okN n a.f1 && !(a.f0 == a.f1) && okC a.f2 && okC a.f3 && okN 10 a.f4
def netOkB (n : Int) (l : List S58) : Bool:=decide (1 ≤ n) && decide (n ≤ 8) && decide ((l.length : Int) ≤ 16) && l.all (okArc n)
def impl_NetOk.f (a0_0 : Int) (l0_1 : List S58) : Option Bool:=some (decide (1 ≤ a0_0) && decide (a0_0 ≤ 8) && decide ((l0_1.length : Int) ≤ 16) && l0_1.all (okArc a0_0))
theorem heap_alloc_at {W : World} {o : Obj} {k : Nat} (h : k = W.heap.size) : (W.alloc o).heap[k]? = some o:=by subst h; exact heap_alloc_new W o
theorem two_reads (W : World) (b : Nat) (x y : Int) (h : W.heap[b]? = some (.cells #[.int .i64 x,.int .i64 y] 3 (0,0))) : Kd.C (Kd.int .i64) W (some ⟨b,0,none⟩) [x,y].length [x,y] :=
 Kd.C_of_reads (d:=(0 : Int)) (h1:=fun _ => rfl) ⟨rfl,by simp,fun _ => ⟨_,rfl,fun j hj => by
  have h0 : W.cell? ⟨b,0,none⟩ = some (.int .i64 x):=(blk_cell h 0).trans rfl;have h1 : W.cell? ⟨b,1,none⟩ = some (.int .i64 y):=(blk_cell h 1).trans rfl
  match j,hj with
  | 0,_ => rw [add_plain]; exact h0
  | 1,_ => rw [add_plain]; exact h1⟩⟩
set_option maxHeartbeats 8000000 in
set_option maxRecDepth 100000 in
theorem NetOk_closure (x : S58) (n : Int) (g : Nat) (A : Option Addr) (c : Nat) (l : List S58) (w : World) (hn : 1 ≤ n) (hn2 : n ≤ 8) (hr : Kd.C k58 w A l.length l) (hc : l.length ≤ c) (hb : w.heap[g]? = some (.cells #[.int .i64 n,.slice A l.length c] 34 (0,0))) :
  Calls Try.prog 108 #[encA x,.pointer (some ⟨g,0,none⟩)] w fun e w' => e = .returned (.bool (!okArc n x)) ∧ Below w.heap.size w w':=by
 have hcell : w.cell? ⟨g,0,none⟩ = some (.int .i64 n):=(blk_cell hb 0).trans rfl;have hcell1 : w.cell? ⟨g,1,none⟩ = some (.slice A l.length c):=(blk_cell hb 1).trans rfl;have hhas:=fun (W : World) (a0 : Nat) (h1 : Below w.heap.size w W) (h2 : W.heap[a0]? = some (.cells #[.int .i64 x.f0,.int .i64 x.f1] 3 (0,0))) => impl_Net_has.calls n A c l (some ⟨a0,0,none⟩) 2 [x.f0,x.f1] ([x.f0,x.f1].all (okN n)) W (Kd.C_below hr h1) hc (two_reads W a0 x.f0 x.f1 h2) (by simp) (by unfold impl_Net_has.f; rw [if_pos (by omega),if_pos (by omega)])
 have hbl:=World.block_lt_of_cell? _ _ hcell;have hu:=Try.underlying34;have hu2:=Try.underlying58;have hc2:=fun (W : World) => impl_costOk.calls x.f2 (okC x.f2) W (okC_costOk x.f2)
 have hc3:=fun (W : World) => impl_costOk.calls x.f3 (okC x.f3) W (okC_costOk x.f3)
 have hload:=fun (W : World) => impl_within.calls x.f4 0 9 (okN 10 x.f4) W (okN_within 10 x.f4)
 clear hb hr
 unfold encA
 have hall : [x.f0,x.f1].all (okN n) = (okN n x.f0 && okN n x.f1):=by simp
 rw [hall] at hhas;clear hall
 unfold okArc
 generalize hA : (okN n x.f0 && okN n x.f1) = b1 at hhas;clear hA;generalize okN 10 x.f4 = b5 at hload;generalize okC x.f2 = b2 at hc2;generalize okC x.f3 = b3 at hc3;have HB:=I (Below.refl w.heap.size w);have HN:=I hn;have HC:=I hc;clear hn hn2 hc;have bcell : ∀ {W w1 : World},Below W.heap.size W w1 → (∀ b o,b < W.heap.size → w1.cell? ⟨b,o,none⟩ = W.cell? ⟨b,o,none⟩):=fun hb b o h => hb.cell (p:=⟨b,o,none⟩) h
 have HCELL:=I @bcell;clear bcell;have hcN:=hbl;cases b1 with
 | false =>
  go_enter Try.func108,Try.ntmps108
  go_wp2_with (go_at_call 109; refine (hhas _ _ ?h1 ?h2).mono ?_; (case h1 => repeat (first | exact Below.refl _ _ | apply below_alloc)); (case h2 => exact heap_alloc_at (by simp)); rintro e w1 ⟨rfl,hb'⟩)
  go_ret;exact ⟨rfl,below_then (below_alloc (below_alloc (Below.refl _ _) _) _) (by simp; omega) hb'⟩
 | true =>
  by_cases hft : x.f0 = x.f1
  case pos =>
   have e1 : (x.f0 == x.f1) = true:=by simpa using hft
   clear hft;rw [e1]
   go_enter Try.func108,Try.ntmps108
   go_wp2_with (go_at_call 109; refine (hhas _ _ ?h1 ?h2).mono ?_; (case h1 => repeat (first | exact Below.refl _ _ | apply below_alloc)); (case h2 => exact heap_alloc_at (by simp)); rintro e w1 ⟨rfl,hb'⟩; have hc1:=HCELL.out hb'; have HB1:=I hb'; clear hb')
   go_ret;exact ⟨rfl,by repeat (first | apply pw_below_drewN | exact below_then (below_alloc (below_alloc (Below.refl _ _) _) _) (by simp; omega) HB1.out)⟩
  have e1 : (x.f0 == x.f1) = false:=by simpa using hft
  clear hft;rw [e1];cases b2 with
  | false =>
   go_enter Try.func108,Try.ntmps108
   go_wp2_with (first | (go_at_call 109; refine (hhas _ _ ?h1 ?h2).mono ?_; (case h1 => repeat (first | exact Below.refl _ _ | apply below_alloc)); (case h2 => exact heap_alloc_at (by simp)); rintro e w1 ⟨rfl,hb'⟩; have hc1:=HCELL.out hb'; have HB1:=I hb'; clear hb') | (go_at_call 81; (with_reducible refine (hc2 _).mono ?_); rintro e w2 ⟨rfl,⟨nd2,rfl⟩⟩))
   go_ret;exact ⟨rfl,by repeat (first | apply pw_below_drewN | exact below_then (below_alloc (below_alloc (Below.refl _ _) _) _) (by simp; omega) HB1.out)⟩
  | true =>
   cases b3 with
   | false =>
    go_enter Try.func108,Try.ntmps108
    go_wp2_with (first | (go_at_call 109; refine (hhas _ _ ?h1 ?h2).mono ?_; (case h1 => repeat (first | exact Below.refl _ _ | apply below_alloc)); (case h2 => exact heap_alloc_at (by simp)); rintro e w1 ⟨rfl,hb'⟩; have hc1:=HCELL.out hb'; have HB1:=I hb'; clear hb') | (go_at_call 81; (with_reducible refine (hc2 _).mono ?_); rintro e w2 ⟨rfl,⟨nd2,rfl⟩⟩) | (go_at_call 81; (with_reducible refine (hc3 _).mono ?_); rintro e w3 ⟨rfl,⟨nd3,rfl⟩⟩))
    go_ret;exact ⟨rfl,by repeat (first | apply pw_below_drewN | exact below_then (below_alloc (below_alloc (Below.refl _ _) _) _) (by simp; omega) HB1.out)⟩
   | true =>
    go_enter Try.func108,Try.ntmps108
    go_wp2_with (first | (go_at_call 109; refine (hhas _ _ ?h1 ?h2).mono ?_; (case h1 => repeat (first | exact Below.refl _ _ | apply below_alloc)); (case h2 => exact heap_alloc_at (by simp)); rintro e w1 ⟨rfl,hb'⟩; have hc1:=HCELL.out hb'; have HB1:=I hb'; clear hb') | (go_at_call 81; (with_reducible refine (hc2 _).mono ?_); rintro e w2 ⟨rfl,⟨nd2,rfl⟩⟩) | (go_at_call 81; (with_reducible refine (hc3 _).mono ?_); rintro e w3 ⟨rfl,⟨nd3,rfl⟩⟩) | (go_at_call 82; refine (hload _).mono ?_; rintro e w4 ⟨rfl,⟨nd4,rfl⟩⟩))
    go_ret;exact ⟨by cases b5 <;> rfl,by repeat (first | apply pw_below_drewN | exact below_then (below_alloc (below_alloc (Below.refl _ _) _) _) (by simp; omega) HB1.out)⟩
set_option maxHeartbeats 8000000 in
set_option maxRecDepth 100000 in
theorem impl_NetOk.calls (a0_0 : Int) (A0_1 : Option Addr) (c0_1 : Nat) (l0_1 : List S58) (r : Bool) (w : World) (hr0_1 : Kd.C k58 w A0_1 l0_1.length l0_1) (hc0_1 : l0_1.length ≤ c0_1) (h : impl_NetOk.f a0_0 l0_1 = some r) :
  Calls Try.prog 51 #[.agg #[.int .i64 a0_0,.slice A0_1 l0_1.length c0_1]] w fun e w' => e = .returned (.bool r) ∧ Below w.heap.size w w':=by
 have hw1:=fun (W : World) => impl_within.calls a0_0 1 8 (decide (1 ≤ a0_0) && decide (a0_0 ≤ 8)) W (by
  unfold impl_within.f
  by_cases h : a0_0 ≥ 1
  case pos => rw [if_pos h]; simp [show (1 : Int) ≤ a0_0 from h]
  rw [if_neg h]; simp [show ¬ (1 : Int) ≤ a0_0 from h])
 obtain rfl:=Option.some.inj h;clear h;have hu:=Try.underlying34
 by_cases hn : 1 ≤ a0_0 ∧ a0_0 ≤ 8
 case neg =>
  have e0 : (decide (1 ≤ a0_0) && decide (a0_0 ≤ 8)) = false:=by
   rw [Bool.and_eq_false_iff]
   by_cases h1 : 1 ≤ a0_0
   case neg => exact .inl (decide_eq_false h1)
   exact .inr (decide_eq_false (fun h2 => hn ⟨h1,h2⟩))
  rw [e0] at hw1 ⊢;clear hn e0
  go_enter Try.func51,Try.ntmps51
  go_wp2_with (first | (go_at_call 82; refine (hw1 _).mono ?_; rintro e w1 ⟨rfl,⟨nd,rfl⟩⟩))
  go_ret;exact ⟨by simp,pw_below_drewN (below_alloc (Below.refl _ _) _) _⟩
 obtain ⟨hn1,hn2⟩:=hn;rw [decide_eq_true hn1,decide_eq_true hn2] at hw1;rw [decide_eq_true hn1,decide_eq_true hn2];have hbox:=fun (nd : Nat) => slices_ContainsFunc_Arc.calls (fun v => !okArc a0_0 v) 108 #[.pointer (some ⟨w.heap.size,0,none⟩)] (enters_of Try.func108 (by kernel_rfl) rfl) A0_1 c0_1 l0_1 ((w.alloc (.cells #[.int .i64 a0_0,.slice A0_1 l0_1.length c0_1] 34)).drewN nd) (Kd.C_below hr0_1 (pw_below_drewN (below_alloc (Below.refl _ _) _) nd)) hc0_1
  (fun W x _ hB => NetOk_closure x a0_0 w.heap.size A0_1 c0_1 l0_1 W hn1 hn2 (Kd.C_below hr0_1 (below_then (pw_below_drewN (below_alloc (Below.refl _ _) _) nd) (by simp) hB)) hc0_1 ((hB.block w.heap.size (by simp)).trans (heap_alloc_new w _)))
 have hall : (!(l0_1.any fun v => !okArc a0_0 v)) = l0_1.all (okArc a0_0):=by
  rw [List.not_any_eq_all_not]
  congr 1
  funext v
  simp
 rw [← hall];clear hall hr0_1 hc0_1 hn1 hn2;generalize (l0_1.any fun v => !okArc a0_0 v) = b at hbox
 by_cases hl : (l0_1.length : Int) ≤ 16
 case neg =>
  have e1 : decide ((l0_1.length : Int) ≤ 16) = false:=decide_eq_false hl;have e2 : decide (l0_1.length ≤ 16) = false:=decide_eq_false (by omega);rw [e1];clear hl
  go_enter Try.func51,Try.ntmps51
  go_wp2_with (first | (go_at_call 82; refine (hw1 _).mono ?_; rintro e w1 ⟨rfl,⟨nd,rfl⟩⟩))
  go_ret;exact ⟨rfl,pw_below_drewN (below_alloc (Below.refl _ _) _) _⟩
 have e1 : decide ((l0_1.length : Int) ≤ 16) = true:=decide_eq_true hl;have e2 : decide (l0_1.length ≤ 16) = true:=decide_eq_true (by omega);rw [e1];clear hl
 go_enter Try.func51,Try.ntmps51
 go_wp2_with (first | (go_at_call 82; refine (hw1 _).mono ?_; rintro e w1 ⟨rfl,⟨nd,rfl⟩⟩) | (go_at_call 107; refine (hbox _).mono ?_; rintro e w2 ⟨rfl,hb'⟩))
 go_ret;exact ⟨by cases b <;> rfl,below_then (pw_below_drewN (below_alloc (Below.refl _ _) _) _) (by simp) hb'⟩
mutual
def impl_Net_joined.l0 : Nat → List Int → List Int → Int → Int → Int → List (S58) → Option (List Int)
 | 0,_,_,_,_,_,_ => none
 | k + 1,x1,x5,x17,x18,x1007000,x1007001 => if x18 < x17 then (if x5.length < 17592186044416 then (impl_Net_joined.l0 k x1 (x5 ++ [x18]) x17 (wrap64 (x18 + 1)) x1007000 x1007001) else (none)) else (impl_Net_joined.l1 k x5 x1 (x1.length : Int) 0 x1007000 x1007001)
def impl_Net_joined.l1 : Nat → List Int → List Int → Int → Int → Int → List (S58) → Option (List Int)
 | 0,_,_,_,_,_,_ => none
 | k + 1,x5,x26,x27,x28,x1007000,x1007001 => if x28 < x27 then (if 0 ≤ x28 then (if x28 < (x26.length : Int) then (if 0 ≤ (rd x26 x28) then (if (rd x26 x28) < (x1007001.length : Int) then (if 0 ≤ ((rd_T58 x1007001 (rd x26 x28)).f0) then (if ((rd_T58 x1007001 (rd x26 x28)).f0) < (x5.length : Int) then (if 0 ≤ ((rd_T58 x1007001 (rd x26 x28)).f1) then (if ((rd_T58 x1007001 (rd x26 x28)).f1) < (x5.length : Int) then (impl_Net_joined.l2 k x5 (rd x5 ((rd_T58 x1007001 (rd x26 x28)).f0)) (rd x5 ((rd_T58 x1007001 (rd x26 x28)).f1)) x26 x27 x28 (x5.length : Int) 0 x1007000 x1007001) else (none)) else (none)) else (none)) else (none)) else (none)) else (none)) else (none)) else (none)) else (some x5)
def impl_Net_joined.l2 : Nat → List Int → Int → Int → List Int → Int → Int → Int → Int → Int → List (S58) → Option (List Int)
 | 0,_,_,_,_,_,_,_,_,_,_ => none
 | k + 1,x5,x9,x10,x26,x27,x28,x51,x52,x1007000,x1007001 => if x52 < x51 then (if 0 ≤ x52 then (if x52 < (x5.length : Int) then (if (rd x5 x52) = (mx x9 x10) then (impl_Net_joined.l2 k (x5.set (x52 : Int).toNat (mn x9 x10)) x9 x10 x26 x27 x28 x51 (wrap64 (x52 + 1)) x1007000 x1007001) else (impl_Net_joined.l2 k x5 x9 x10 x26 x27 x28 x51 (wrap64 (x52 + 1)) x1007000 x1007001)) else (none)) else (none)) else (impl_Net_joined.l1 k x5 x26 x27 (wrap64 (x28 + 1)) x1007000 x1007001)
end
def impl_Net_joined.f (k : Nat) (a0_0 : Int) (l0_1 : List (S58)) (l1 : List Int) : Option (List Int):=if 0 ≤ a0_0 then (if (a0_0 : Int).toNat ≤ 35184372088832 then (impl_Net_joined.l0 k l1 (([] : List Int)) a0_0 0 a0_0 l0_1) else (none)) else (none)
set_option maxHeartbeats 8000000 in
set_option maxRecDepth 100000 in
theorem impl_Net_joined.calls (k : Nat) (a0_0 : Int) (A0_1 : Option Addr) (c0_1 : Nat) (l0_1 : List (S58)) (A1 : Option Addr) (c1 : Nat) (l1 : List Int) (r : List Int) (w : World) (hr0_1 : Kd.C k58 w A0_1 l0_1.length l0_1) (hc0_1 : l0_1.length ≤ c0_1) (hr1 : Kd.C (Kd.int .i64) w A1 l1.length l1) (hc1 : l1.length ≤ c1) (h : impl_Net_joined.f k a0_0 l0_1 l1 = some r) :
  Calls Try.prog 105 #[.agg #[.int .i64 a0_0,.slice A0_1 l0_1.length c0_1],.slice A1 l1.length c1] w fun e w' => ∃ v0_ : Value,e = .returned (v0_) ∧ Kd.R (Kd.int .i64) 3 w' w.heap.size (fun _ => True) v0_ r ∧ Below w.heap.size w w':=by
 have hu34:=Try.underlying34;have HR0_1:=I hr0_1;have HC0_1:=I hc0_1;clear hr0_1 hc0_1;have HR1:=I hr1;have HC1:=I hc1;clear hr1 hc1;have HB:=I (Below.refl w.heap.size w);have H : (if 0 ≤ a0_0 then (if (a0_0 : Int).toNat ≤ 35184372088832 then (impl_Net_joined.l0 k l1 (([] : List Int)) a0_0 0 a0_0 l0_1) else (none)) else (none)) = some r:=h;clear h
 by_cases c3 : 0 ≤ a0_0
 case neg =>
  rw [if_neg c3] at H;exact absurd H (by simp)
 rw [if_pos c3] at H;have c3b0:=eq_true c3;have c3b1 : decide (0 ≤ a0_0) = true:=decide_eq_true c3;clear c3
 by_cases c4 : (a0_0 : Int).toNat ≤ 35184372088832
 case neg =>
  rw [if_neg c4] at H;exact absurd H (by simp)
 rw [if_pos c4] at H;have c4b0:=eq_true c4;have c4b1 : decide ((a0_0 : Int).toNat ≤ 35184372088832) = true:=decide_eq_true c4;clear c4;obtain ⟨y1007,hy1007⟩ : ∃ y_ : List Int,y_ = (([] : List Int)):=⟨_,rfl⟩
 replace H : (impl_Net_joined.l0 k l1 y1007 a0_0 0 a0_0 l0_1) = some r:=by first | (rw [hy1007]; with_reducible exact H) | (have H2_:=(Option.bind_some _ _).symm.trans H; rw [hy1007]; with_reducible exact H2_) | (have H2_:=(Option.bind_some _ _).symm.trans H; with_reducible exact H2_) | with_reducible exact H | (rw [hy1007]; exact H) | exact H
 have Ny1007:=I hy1007;clear hy1007;have H':=I H;clear H
 go_enter Try.func105,Try.ntmps105
 go_wp2_with (first | ((with_reducible refine gate_dst (N:=2) rfl ?_); refine box_event ?hg (N:=2) ?hd (cs:=#[.int .i64 a0_0,.slice A0_1 l0_1.length c0_1]) (t:=34) ?hr ?_; (case hd => rfl); (case hg => rfl); (case hr => first | (go_simp; done) | (go_simp; rfl)); intro gb1006 hg w5 hbox hb; have n0_:=I (below_step (by repeat (first | (with_reducible first | exact HB.out | apply below_alloc | apply pw_below_drewN | apply below_drew1) | exact HB.out)) hb); have n1_:=I (hbox); have n2_:=I ((by rw [hg]; exact (below_size (by repeat (first | (with_reducible first | exact HB.out | apply below_alloc | apply pw_below_drewN | apply below_drew1) | exact HB.out))) : w.heap.size ≤ gb1006)); have n3_:=I ((by rw [hg]; exact (below_size (by repeat (first | (with_reducible first | exact HB.out | apply below_alloc | apply pw_below_drewN | apply below_drew1) | exact HB.out))) : w.heap.size ≤ gb1006)); clear HB; have HB:=n0_; have BK1006:=n1_; have GW1006:=n2_; have GE1006:=n3_; clear n0_ n1_ n2_ n3_; clear hb hbox hg; have hcz6_0 : w5.cell? ⟨gb1006,0,none⟩ = some (.int .i64 a0_0):=(blk_cell BK1006.out 0).trans rfl; have hcz6_1 : w5.cell? ⟨gb1006,1,none⟩ = some (.slice A0_1 l0_1.length c0_1):=(blk_cell BK1006.out 1).trans rfl; have hfz6_0:=blk_frozen BK1006.out 0; have hfz6_1:=blk_frozen BK1006.out 1) | ((with_reducible refine gate_dst (N:=15) rfl ?_); refine Kd.R_make0 (Kd.int .i64) _ 3 rfl (N:=15) rfl 23 _ _ rfl a0_0 (by first | rfl | (go_simp; done) | (go_simp; rfl)) (by first | rfl | (go_simp; done) | (go_simp; rfl)) Try.underlying23 (.int .i64 0) 8 info3 rfl (by decide) (by omega) 0 (ok:=fun _ => True) (okp:=fun _ => True) rfl (fun _ hk => hk) trivial (of_decide_eq_true (by first | (with_reducible assumption) | assumption)) (Nat.le_trans (Nat.mul_le_mul_right _ (of_decide_eq_true (by first | (with_reducible assumption) | assumption) : a0_0.toNat ≤ 35184372088832)) (by omega)) (Below.refl _ _) (Nat.le_refl _) ?_; intro v1008 w7 ho8 hb hg_ hnew_; clear hg_ hnew_; (first | rw [← Ny1007.out] at ho8 | (simp only [Int.reduceToNat] at ho8; rw [← Ny1007.out] at ho8)); have n0_:=I (Kd.R_lower ho8 (below_size (by repeat (first | (with_reducible first | exact HB.out | apply below_alloc | apply pw_below_drewN | apply below_drew1 | refine below_set ?_ GE1006.out) | exact HB.out)))); have n1_:=I (blk_below (g:=gb1006) (o:=.cells #[.int .i64 a0_0,.slice A0_1 l0_1.length c0_1] 34 (0,0)) (by (with_reducible repeat (first | refine blk_drewN ?_ _ | refine blk_drew ?_ | refine blk_alloc ?_ _)); exact BK1006.out) hb); have n2_:=I (below_step (by repeat (first | (with_reducible first | exact HB.out | apply below_alloc | apply pw_below_drewN | apply below_drew1 | refine below_set ?_ GE1006.out) | exact HB.out)) hb); clear BK1006; clear HB; have HO1009:=n0_; have BK1006:=n1_; have HB:=n2_; clear n0_ n1_ n2_; clear hb ho8; have hcz9_0 : w7.cell? ⟨gb1006,0,none⟩ = some (.int .i64 a0_0):=(blk_cell BK1006.out 0).trans rfl; have hcz9_1 : w7.cell? ⟨gb1006,1,none⟩ = some (.slice A0_1 l0_1.length c0_1):=(blk_cell BK1006.out 1).trans rfl; have hfz9_0:=blk_frozen BK1006.out 0; have hfz9_1:=blk_frozen BK1006.out 1))
 repeat (go_quiet (first | ((with_reducible refine gate_dst (N:=2) rfl ?_); refine box_event ?hg (N:=2) ?hd (cs:=#[.int .i64 a0_0,.slice A0_1 l0_1.length c0_1]) (t:=34) ?hr ?_; (case hd => rfl); (case hg => rfl); (case hr => first | (go_simp; done) | (go_simp; rfl)); intro gb1006 hg w5 hbox hb; have n0_:=I (below_step (by repeat (first | (with_reducible first | exact HB.out | apply below_alloc | apply pw_below_drewN | apply below_drew1) | exact HB.out)) hb); have n1_:=I (hbox); have n2_:=I ((by rw [hg]; exact (below_size (by repeat (first | (with_reducible first | exact HB.out | apply below_alloc | apply pw_below_drewN | apply below_drew1) | exact HB.out))) : w.heap.size ≤ gb1006)); have n3_:=I ((by rw [hg]; exact (below_size (by repeat (first | (with_reducible first | exact HB.out | apply below_alloc | apply pw_below_drewN | apply below_drew1) | exact HB.out))) : w.heap.size ≤ gb1006)); clear HB; have HB:=n0_; have BK1006:=n1_; have GW1006:=n2_; have GE1006:=n3_; clear n0_ n1_ n2_ n3_; clear hb hbox hg; have hcz6_0 : w5.cell? ⟨gb1006,0,none⟩ = some (.int .i64 a0_0):=(blk_cell BK1006.out 0).trans rfl; have hcz6_1 : w5.cell? ⟨gb1006,1,none⟩ = some (.slice A0_1 l0_1.length c0_1):=(blk_cell BK1006.out 1).trans rfl; have hfz6_0:=blk_frozen BK1006.out 0; have hfz6_1:=blk_frozen BK1006.out 1) | ((with_reducible refine gate_dst (N:=15) rfl ?_); refine Kd.R_make0 (Kd.int .i64) _ 3 rfl (N:=15) rfl 23 _ _ rfl a0_0 (by first | rfl | (go_simp; done) | (go_simp; rfl)) (by first | rfl | (go_simp; done) | (go_simp; rfl)) Try.underlying23 (.int .i64 0) 8 info3 rfl (by decide) (by omega) 0 (ok:=fun _ => True) (okp:=fun _ => True) rfl (fun _ hk => hk) trivial (of_decide_eq_true (by first | (with_reducible assumption) | assumption)) (Nat.le_trans (Nat.mul_le_mul_right _ (of_decide_eq_true (by first | (with_reducible assumption) | assumption) : a0_0.toNat ≤ 35184372088832)) (by omega)) (Below.refl _ _) (Nat.le_refl _) ?_; intro v1008 w7 ho8 hb hg_ hnew_; clear hg_ hnew_; (first | rw [← Ny1007.out] at ho8 | (simp only [Int.reduceToNat] at ho8; rw [← Ny1007.out] at ho8)); have n0_:=I (Kd.R_lower ho8 (below_size (by repeat (first | (with_reducible first | exact HB.out | apply below_alloc | apply pw_below_drewN | apply below_drew1 | refine below_set ?_ GE1006.out) | exact HB.out)))); have n1_:=I (blk_below (g:=gb1006) (o:=.cells #[.int .i64 a0_0,.slice A0_1 l0_1.length c0_1] 34 (0,0)) (by (with_reducible repeat (first | refine blk_drewN ?_ _ | refine blk_drew ?_ | refine blk_alloc ?_ _)); exact BK1006.out) hb); have n2_:=I (below_step (by repeat (first | (with_reducible first | exact HB.out | apply below_alloc | apply pw_below_drewN | apply below_drew1 | refine below_set ?_ GE1006.out) | exact HB.out)) hb); clear BK1006; clear HB; have HO1009:=n0_; have BK1006:=n1_; have HB:=n2_; clear n0_ n1_ n2_; clear hb ho8; have hcz9_0 : w7.cell? ⟨gb1006,0,none⟩ = some (.int .i64 a0_0):=(blk_cell BK1006.out 0).trans rfl; have hcz9_1 : w7.cell? ⟨gb1006,1,none⟩ = some (.slice A0_1 l0_1.length c0_1):=(blk_cell BK1006.out 1).trans rfl; have hfz9_0:=blk_frozen BK1006.out 0; have hfz9_1:=blk_frozen BK1006.out 1)); try go_wp2_with (first | ((with_reducible refine gate_dst (N:=2) rfl ?_); refine box_event ?hg (N:=2) ?hd (cs:=#[.int .i64 a0_0,.slice A0_1 l0_1.length c0_1]) (t:=34) ?hr ?_; (case hd => rfl); (case hg => rfl); (case hr => first | (go_simp; done) | (go_simp; rfl)); intro gb1006 hg w5 hbox hb; have n0_:=I (below_step (by repeat (first | (with_reducible first | exact HB.out | apply below_alloc | apply pw_below_drewN | apply below_drew1) | exact HB.out)) hb); have n1_:=I (hbox); have n2_:=I ((by rw [hg]; exact (below_size (by repeat (first | (with_reducible first | exact HB.out | apply below_alloc | apply pw_below_drewN | apply below_drew1) | exact HB.out))) : w.heap.size ≤ gb1006)); have n3_:=I ((by rw [hg]; exact (below_size (by repeat (first | (with_reducible first | exact HB.out | apply below_alloc | apply pw_below_drewN | apply below_drew1) | exact HB.out))) : w.heap.size ≤ gb1006)); clear HB; have HB:=n0_; have BK1006:=n1_; have GW1006:=n2_; have GE1006:=n3_; clear n0_ n1_ n2_ n3_; clear hb hbox hg; have hcz6_0 : w5.cell? ⟨gb1006,0,none⟩ = some (.int .i64 a0_0):=(blk_cell BK1006.out 0).trans rfl; have hcz6_1 : w5.cell? ⟨gb1006,1,none⟩ = some (.slice A0_1 l0_1.length c0_1):=(blk_cell BK1006.out 1).trans rfl; have hfz6_0:=blk_frozen BK1006.out 0; have hfz6_1:=blk_frozen BK1006.out 1) | ((with_reducible refine gate_dst (N:=15) rfl ?_); refine Kd.R_make0 (Kd.int .i64) _ 3 rfl (N:=15) rfl 23 _ _ rfl a0_0 (by first | rfl | (go_simp; done) | (go_simp; rfl)) (by first | rfl | (go_simp; done) | (go_simp; rfl)) Try.underlying23 (.int .i64 0) 8 info3 rfl (by decide) (by omega) 0 (ok:=fun _ => True) (okp:=fun _ => True) rfl (fun _ hk => hk) trivial (of_decide_eq_true (by first | (with_reducible assumption) | assumption)) (Nat.le_trans (Nat.mul_le_mul_right _ (of_decide_eq_true (by first | (with_reducible assumption) | assumption) : a0_0.toNat ≤ 35184372088832)) (by omega)) (Below.refl _ _) (Nat.le_refl _) ?_; intro v1008 w7 ho8 hb hg_ hnew_; clear hg_ hnew_; (first | rw [← Ny1007.out] at ho8 | (simp only [Int.reduceToNat] at ho8; rw [← Ny1007.out] at ho8)); have n0_:=I (Kd.R_lower ho8 (below_size (by repeat (first | (with_reducible first | exact HB.out | apply below_alloc | apply pw_below_drewN | apply below_drew1 | refine below_set ?_ GE1006.out) | exact HB.out)))); have n1_:=I (blk_below (g:=gb1006) (o:=.cells #[.int .i64 a0_0,.slice A0_1 l0_1.length c0_1] 34 (0,0)) (by (with_reducible repeat (first | refine blk_drewN ?_ _ | refine blk_drew ?_ | refine blk_alloc ?_ _)); exact BK1006.out) hb); have n2_:=I (below_step (by repeat (first | (with_reducible first | exact HB.out | apply below_alloc | apply pw_below_drewN | apply below_drew1 | refine below_set ?_ GE1006.out) | exact HB.out)) hb); clear BK1006; clear HB; have HO1009:=n0_; have BK1006:=n1_; have HB:=n2_; clear n0_ n1_ n2_; clear hb ho8; have hcz9_0 : w7.cell? ⟨gb1006,0,none⟩ = some (.int .i64 a0_0):=(blk_cell BK1006.out 0).trans rfl; have hcz9_1 : w7.cell? ⟨gb1006,1,none⟩ = some (.slice A0_1 l0_1.length c0_1):=(blk_cell BK1006.out 1).trans rfl; have hfz9_0:=blk_frozen BK1006.out 0; have hfz9_1:=blk_frozen BK1006.out 1)))
 go_loopg [5,18] k (fun kq v5 v18 w' => ∃ (x5_1 : List Int) (x18_1 : Int),v18 = .int .i64 x18_1 ∧ Aside0 (impl_Net_joined.l0 kq l1 x5_1 a0_0 x18_1 a0_0 l0_1 = some r) ∧ Aside0 (kq ≤ k) ∧ Aside0 (Kd.R (Kd.int .i64) 3 w' w.heap.size (fun _ => True) v5 x5_1) ∧ Aside0 (w'.heap[gb1006]? = some (.cells #[.int .i64 a0_0,(.slice A0_1 l0_1.length c0_1)] 34 (0,0))) ∧ Aside0 (Below w.heap.size w w'))
 case atStart => exact ⟨(y1007),(0),(by first | rfl | (simp; done) | (simp [*]; done)),H',⟨Nat.le_refl _⟩,⟨by (with_reducible repeat (first | apply Kd.R_alloc | apply Kd.R_drewN | apply Kd.R_drew)); exact HO1009.out⟩,⟨by (with_reducible repeat (first | refine blk_drewN ?_ _ | refine blk_drew ?_ | refine blk_alloc ?_ _)); exact BK1006.out⟩,⟨by repeat (first | (with_reducible first | exact HB.out | apply below_alloc | apply pw_below_drewN | apply below_drew1 | refine below_set ?_ GE1006.out) | exact HB.out)⟩⟩
 case round =>
  clear H'
  try clear c1
  try clear p2
  try clear c3
  try clear c3b0
  try clear c3b1
  try clear c4
  try clear c4b0
  try clear c4b1
  try clear hcz6_0
  try clear hcz6_1
  try clear hcz9_0
  try clear hcz9_1
  try clear hfz6_0
  try clear hfz6_1
  try clear hfz9_0
  try clear hfz9_1
  obtain ⟨x5_1,x18_1,rfl,HA,HK1,HO_5,BK1006,HB⟩:=hrel;cases gk with
  | zero => exact absurd HA.out (by simp [impl_Net_joined.l0])
  | succ k1 =>
   have H:=HA.out;clear HA;simp only [impl_Net_joined.l0] at H
   by_cases c10 : x18_1 < a0_0
   case pos =>
    rw [if_pos c10] at H;have c10b0 : decide (x18_1 < a0_0) = true:=decide_eq_true c10;clear c10
    by_cases c11 : x5_1.length < 17592186044416
    case neg =>
     rw [if_neg c11] at H;exact absurd H (by simp)
    rw [if_pos c11] at H;have LMc11:=I c11;clear c11;obtain ⟨y1010,hy1010⟩ : ∃ y_ : List Int,y_ = (x5_1 ++ [x18_1]):=⟨_,rfl⟩
    replace H : (impl_Net_joined.l0 k1 l1 y1010 a0_0 (wrap64 (x18_1 + 1)) a0_0 l0_1) = some r:=by first | (rw [hy1010]; with_reducible exact H) | (have H2_:=(Option.bind_some _ _).symm.trans H; rw [hy1010]; with_reducible exact H2_) | (have H2_:=(Option.bind_some _ _).symm.trans H; with_reducible exact H2_) | with_reducible exact H | (rw [hy1010]; exact H) | exact H
    have Ny1010:=I hy1010;clear hy1010;have H':=I H;clear H
    go_wp2_with (first | ((with_reducible refine gate_builtin (b:=.append) (xs:=#[.tmp 21,.tmp 23]) rfl ?_); at_builtin; refine Kd.R_append (Kd.int .i64) (w0:=w) w.heap.size rfl (.tmp 21) (.tmp 23) 23 3 (.int .i64 0) 8 rfl Try.underlying23 info3 rfl (by decide) (by omega) u5 x5_1 x18_1 [.int .i64 x18_1] (fun _ => True) (fun _ => False) rfl rfl ?aP (fun _ hk => hk.elim) ?aF ?aO ?aB ?aS ?aL ?_; (case aP => exact rfl); (case aB => exact (by repeat (first | (with_reducible first | exact HB.out | apply below_alloc | apply pw_below_drewN | apply below_drew1 | refine below_set ?_ GE1006.out) | exact HB.out))); (case aF => exact (fun _ _ => trivial)); (case aO => exact (by (with_reducible repeat (first | apply Kd.R_alloc | apply Kd.R_drewN | apply Kd.R_drew)); exact HO_5.out)); (case aS => exact (below_size (by repeat (first | (with_reducible first | exact HB.out | apply below_alloc | apply pw_below_drewN | apply below_drew1 | refine below_set ?_ GE1006.out) | exact HB.out)))); (case aL => have:=LMc11.out; omega); intro v1011 w12 ho hb hg hat; rw [← Ny1010.out] at ho; have n0_:=I (blk_grown (g:=gb1006) (o:=.cells #[.int .i64 a0_0,.slice A0_1 l0_1.length c0_1] 34 (0,0)) (by (with_reducible repeat (first | refine blk_drewN ?_ _ | refine blk_drew ?_ | refine blk_alloc ?_ _)); exact BK1006.out) hg (Kd.R_ne HO_5.out BK1006.out (by decide))); have n1_:=I (hb); have n2_:=I (ho); clear BK1006; clear HB; clear HO_5; have BK1006:=n0_; have HB:=n1_; have HO1012:=n2_; clear n0_ n1_ n2_; clear ho hb hg hat))
    repeat (go_quiet (first | ((with_reducible refine gate_builtin (b:=.append) (xs:=#[.tmp 21,.tmp 23]) rfl ?_); at_builtin; refine Kd.R_append (Kd.int .i64) (w0:=w) w.heap.size rfl (.tmp 21) (.tmp 23) 23 3 (.int .i64 0) 8 rfl Try.underlying23 info3 rfl (by decide) (by omega) u5 x5_1 x18_1 [.int .i64 x18_1] (fun _ => True) (fun _ => False) rfl rfl ?aP (fun _ hk => hk.elim) ?aF ?aO ?aB ?aS ?aL ?_; (case aP => exact rfl); (case aB => exact (by repeat (first | (with_reducible first | exact HB.out | apply below_alloc | apply pw_below_drewN | apply below_drew1 | refine below_set ?_ GE1006.out) | exact HB.out))); (case aF => exact (fun _ _ => trivial)); (case aO => exact (by (with_reducible repeat (first | apply Kd.R_alloc | apply Kd.R_drewN | apply Kd.R_drew)); exact HO_5.out)); (case aS => exact (below_size (by repeat (first | (with_reducible first | exact HB.out | apply below_alloc | apply pw_below_drewN | apply below_drew1 | refine below_set ?_ GE1006.out) | exact HB.out)))); (case aL => have:=LMc11.out; omega); intro v1011 w12 ho hb hg hat; rw [← Ny1010.out] at ho; have n0_:=I (blk_grown (g:=gb1006) (o:=.cells #[.int .i64 a0_0,.slice A0_1 l0_1.length c0_1] 34 (0,0)) (by (with_reducible repeat (first | refine blk_drewN ?_ _ | refine blk_drew ?_ | refine blk_alloc ?_ _)); exact BK1006.out) hg (Kd.R_ne HO_5.out BK1006.out (by decide))); have n1_:=I (hb); have n2_:=I (ho); clear BK1006; clear HB; clear HO_5; have BK1006:=n0_; have HB:=n1_; have HO1012:=n2_; clear n0_ n1_ n2_; clear ho hb hg hat)); try go_wp2_with (first | ((with_reducible refine gate_builtin (b:=.append) (xs:=#[.tmp 21,.tmp 23]) rfl ?_); at_builtin; refine Kd.R_append (Kd.int .i64) (w0:=w) w.heap.size rfl (.tmp 21) (.tmp 23) 23 3 (.int .i64 0) 8 rfl Try.underlying23 info3 rfl (by decide) (by omega) u5 x5_1 x18_1 [.int .i64 x18_1] (fun _ => True) (fun _ => False) rfl rfl ?aP (fun _ hk => hk.elim) ?aF ?aO ?aB ?aS ?aL ?_; (case aP => exact rfl); (case aB => exact (by repeat (first | (with_reducible first | exact HB.out | apply below_alloc | apply pw_below_drewN | apply below_drew1 | refine below_set ?_ GE1006.out) | exact HB.out))); (case aF => exact (fun _ _ => trivial)); (case aO => exact (by (with_reducible repeat (first | apply Kd.R_alloc | apply Kd.R_drewN | apply Kd.R_drew)); exact HO_5.out)); (case aS => exact (below_size (by repeat (first | (with_reducible first | exact HB.out | apply below_alloc | apply pw_below_drewN | apply below_drew1 | refine below_set ?_ GE1006.out) | exact HB.out)))); (case aL => have:=LMc11.out; omega); intro v1011 w12 ho hb hg hat; rw [← Ny1010.out] at ho; have n0_:=I (blk_grown (g:=gb1006) (o:=.cells #[.int .i64 a0_0,.slice A0_1 l0_1.length c0_1] 34 (0,0)) (by (with_reducible repeat (first | refine blk_drewN ?_ _ | refine blk_drew ?_ | refine blk_alloc ?_ _)); exact BK1006.out) hg (Kd.R_ne HO_5.out BK1006.out (by decide))); have n1_:=I (hb); have n2_:=I (ho); clear BK1006; clear HB; clear HO_5; have BK1006:=n0_; have HB:=n1_; have HO1012:=n2_; clear n0_ n1_ n2_; clear ho hb hg hat)))
    go_roundg k1
    case measure => have:=HK1.out; omega
    case rel => exact ⟨(y1010),(wrap64 (x18_1 + 1)),(by first | rfl | (simp; done) | (simp [*]; done)),H',⟨by have:=HK1.out; omega⟩,⟨by (with_reducible repeat (first | apply Kd.R_alloc | apply Kd.R_drewN | apply Kd.R_drew)); exact HO1012.out⟩,⟨by (with_reducible repeat (first | refine blk_drewN ?_ _ | refine blk_drew ?_ | refine blk_alloc ?_ _)); exact BK1006.out⟩,⟨by repeat (first | (with_reducible first | exact HB.out | apply below_alloc | apply pw_below_drewN | apply below_drew1 | refine below_set ?_ GE1006.out) | exact HB.out)⟩⟩
   rw [if_neg c10] at H;have c10b0 : decide (x18_1 < a0_0) = false:=decide_eq_false c10;clear c10;have H':=I H;clear H
   go_wp2
   repeat (go_quiet (fail); try go_wp2)
   go_loopg [28] k1 (fun kq v28 w' => ∃ (x5_2 : List Int) (x28_2 : Int),v28 = .int .i64 x28_2 ∧ Aside0 (impl_Net_joined.l1 kq x5_2 l1 (l1.length : Int) x28_2 a0_0 l0_1 = some r) ∧ Aside0 (kq ≤ k1) ∧ Aside0 (Kd.R (Kd.int .i64) 3 w' w.heap.size (fun _ => True) u5 x5_2) ∧ Aside0 (w'.heap[gb1006]? = some (.cells #[.int .i64 a0_0,(.slice A0_1 l0_1.length c0_1)] 34 (0,0))) ∧ Aside0 (Below w.heap.size w w'))
   case atStart => exact ⟨(x5_1),(0),(by first | rfl | (simp; done) | (simp [*]; done)),H',⟨Nat.le_refl _⟩,⟨by (with_reducible repeat (first | apply Kd.R_alloc | apply Kd.R_drewN | apply Kd.R_drew)); exact HO_5.out⟩,⟨by (with_reducible repeat (first | refine blk_drewN ?_ _ | refine blk_drew ?_ | refine blk_alloc ?_ _)); exact BK1006.out⟩,⟨by repeat (first | (with_reducible first | exact HB.out | apply below_alloc | apply pw_below_drewN | apply below_drew1 | refine below_set ?_ GE1006.out) | exact HB.out)⟩⟩
   case round =>
    clear H'
    try clear c1
    try clear p2
    try clear c3
    try clear c3b0
    try clear c3b1
    try clear c4
    try clear c4b0
    try clear c4b1
    try clear p6
    try clear c10
    try clear c10b0
    try clear c11
    try clear hcz6_0
    try clear hcz6_1
    try clear hcz9_0
    try clear hcz9_1
    try clear hfz6_0
    try clear hfz6_1
    try clear hfz9_0
    try clear hfz9_1
    try clear p2
    obtain ⟨x5_2,x28_2,rfl,HA,HK2,HO_5,BK1006,HB⟩:=hrel;cases gk with
    | zero => exact absurd HA.out (by simp [impl_Net_joined.l1])
    | succ k2 =>
     have H:=HA.out;clear HA;simp only [impl_Net_joined.l1] at H
     by_cases c13 : x28_2 < (l1.length : Int)
     case neg =>
      rw [if_neg c13] at H;have c13b0 : decide (x28_2 < (l1.length : Int)) = false:=decide_eq_false c13;clear c13;obtain rfl:=Option.some.inj H
      go_wp2
      repeat (go_quiet (fail); try go_wp2)
      go_ret;exact ⟨_,by first | rfl | (simp [errW_none,errW_some] <;> rfl) | (simp [*,errW_none,errW_some] <;> rfl),by (with_reducible repeat (first | apply Kd.R_alloc | apply Kd.R_drewN | apply Kd.R_drew)); exact HO_5.out,by repeat (first | (with_reducible first | exact HB.out | apply below_alloc | apply pw_below_drewN | apply below_drew1 | refine below_set ?_ GE1006.out) | exact HB.out)⟩
     rw [if_pos c13] at H;have c13b0 : decide (x28_2 < (l1.length : Int)) = true:=decide_eq_true c13;clear c13
     by_cases c14 : 0 ≤ x28_2
     case neg =>
      rw [if_neg c14] at H;exact absurd H (by simp)
     rw [if_pos c14] at H;have c14b0 : decide (0 ≤ x28_2) = true:=decide_eq_true c14;clear c14
     by_cases c15 : x28_2 < (l1.length : Int)
     case neg =>
      rw [if_neg c15] at H;exact absurd H (by simp)
     rw [if_pos c15] at H;have c15b0 : decide (x28_2 < (l1.length : Int)) = true:=decide_eq_true c15;clear c15
     by_cases c16 : 0 ≤ (rd l1 x28_2)
     case neg =>
      rw [if_neg c16] at H;exact absurd H (by simp)
     rw [if_pos c16] at H;have c16b0 : decide (0 ≤ (rd l1 x28_2)) = true:=decide_eq_true c16;clear c16
     by_cases c17 : (rd l1 x28_2) < (l0_1.length : Int)
     case neg =>
      rw [if_neg c17] at H;exact absurd H (by simp)
     rw [if_pos c17] at H;have c17b0 : decide ((rd l1 x28_2) < (l0_1.length : Int)) = true:=decide_eq_true c17;clear c17
     by_cases c18 : 0 ≤ ((rd_T58 l0_1 (rd l1 x28_2)).f0)
     case neg =>
      rw [if_neg c18] at H;exact absurd H (by simp)
     rw [if_pos c18] at H;have c18b0 : decide (0 ≤ ((rd_T58 l0_1 (rd l1 x28_2)).f0)) = true:=decide_eq_true c18;clear c18
     by_cases c19 : ((rd_T58 l0_1 (rd l1 x28_2)).f0) < (x5_2.length : Int)
     case neg =>
      rw [if_neg c19] at H;exact absurd H (by simp)
     rw [if_pos c19] at H;have c19b0 : decide (((rd_T58 l0_1 (rd l1 x28_2)).f0) < (x5_2.length : Int)) = true:=decide_eq_true c19;clear c19
     by_cases c20 : 0 ≤ ((rd_T58 l0_1 (rd l1 x28_2)).f1)
     case neg =>
      rw [if_neg c20] at H;exact absurd H (by simp)
     rw [if_pos c20] at H;have c20b0 : decide (0 ≤ ((rd_T58 l0_1 (rd l1 x28_2)).f1)) = true:=decide_eq_true c20;clear c20
     by_cases c21 : ((rd_T58 l0_1 (rd l1 x28_2)).f1) < (x5_2.length : Int)
     case neg =>
      rw [if_neg c21] at H;exact absurd H (by simp)
     rw [if_pos c21] at H;have c21b0 : decide (((rd_T58 l0_1 (rd l1 x28_2)).f1) < (x5_2.length : Int)) = true:=decide_eq_true c21;clear c21;have H':=I H;clear H;have p1013 : 0 ≤ (x28_2 : Int):=of_decide_eq_true (by first | (with_reducible assumption) | assumption);have q1013 : x28_2 < (l1.length : Int):=of_decide_eq_true (by first | (with_reducible assumption) | assumption);obtain ⟨ad1013,e1013,hx1013_0⟩:=Kd.at_int HR1.out x28_2 p1013 q1013;cases e1013;replace hx1013_0:=(HB.out.cell (World.block_lt_of_cell? w _ hx1013_0)).trans hx1013_0;replace p1013:=eq_true p1013;replace q1013:=eq_true q1013;have hcz22_0 : wr.cell? ⟨gb1006,0,none⟩ = some (.int .i64 a0_0):=(blk_cell BK1006.out 0).trans rfl;have hcz22_1 : wr.cell? ⟨gb1006,1,none⟩ = some (.slice A0_1 l0_1.length c0_1):=(blk_cell BK1006.out 1).trans rfl;have hfz22_0:=blk_frozen BK1006.out 0;have hfz22_1:=blk_frozen BK1006.out 1;have p1014 : 0 ≤ ((rd l1 x28_2) : Int):=of_decide_eq_true (by first | (with_reducible assumption) | assumption);have q1014 : (rd l1 x28_2) < (l0_1.length : Int):=of_decide_eq_true (by first | (with_reducible assumption) | assumption);obtain ⟨ad1014,e1014,hx1014_0,hx1014_1,hx1014_2,hx1014_3,hx1014_4⟩:=at_T58 HR0_1.out (rd l1 x28_2) p1014 q1014;cases e1014;replace hx1014_0:=(HB.out.cell (World.block_lt_of_cell? w _ hx1014_0)).trans hx1014_0;replace hx1014_1:=(HB.out.cell (World.block_lt_of_cell? w _ hx1014_1)).trans hx1014_1;replace hx1014_2:=(HB.out.cell (World.block_lt_of_cell? w _ hx1014_2)).trans hx1014_2;replace hx1014_3:=(HB.out.cell (World.block_lt_of_cell? w _ hx1014_3)).trans hx1014_3;replace hx1014_4:=(HB.out.cell (World.block_lt_of_cell? w _ hx1014_4)).trans hx1014_4;replace p1014:=eq_true p1014;replace q1014:=eq_true q1014;obtain ⟨Ao23,co23,eo23⟩:=Kd.R_slice HO_5.out;subst eo23;have p1015 : 0 ≤ (((rd_T58 l0_1 (rd l1 x28_2)).f0) : Int):=of_decide_eq_true (by first | (with_reducible assumption) | assumption);have q1015 : ((rd_T58 l0_1 (rd l1 x28_2)).f0) < (x5_2.length : Int):=of_decide_eq_true (by first | (with_reducible assumption) | assumption);obtain ⟨ad1015,e1015,hx1015_0⟩:=Kd.at_int (Kd.R_reads' HO_5.out).2.2 ((rd_T58 l0_1 (rd l1 x28_2)).f0) p1015 q1015;cases e1015;replace p1015:=eq_true p1015;replace q1015:=eq_true q1015;have p1016 : 0 ≤ ((rd l1 x28_2) : Int):=of_decide_eq_true (by first | (with_reducible assumption) | assumption);have q1016 : (rd l1 x28_2) < (l0_1.length : Int):=of_decide_eq_true (by first | (with_reducible assumption) | assumption);obtain ⟨ad1016,e1016,hx1016_0,hx1016_1,hx1016_2,hx1016_3,hx1016_4⟩:=at_T58 HR0_1.out (rd l1 x28_2) p1016 q1016;obtain rfl : ad1014 = ad1016:=(by injection e1016)
     replace hx1016_0:=(HB.out.cell (World.block_lt_of_cell? w _ hx1016_0)).trans hx1016_0;replace hx1016_1:=(HB.out.cell (World.block_lt_of_cell? w _ hx1016_1)).trans hx1016_1;replace hx1016_2:=(HB.out.cell (World.block_lt_of_cell? w _ hx1016_2)).trans hx1016_2;replace hx1016_3:=(HB.out.cell (World.block_lt_of_cell? w _ hx1016_3)).trans hx1016_3;replace hx1016_4:=(HB.out.cell (World.block_lt_of_cell? w _ hx1016_4)).trans hx1016_4;replace p1016:=eq_true p1016;replace q1016:=eq_true q1016;have p1017 : 0 ≤ (((rd_T58 l0_1 (rd l1 x28_2)).f1) : Int):=of_decide_eq_true (by first | (with_reducible assumption) | assumption);have q1017 : ((rd_T58 l0_1 (rd l1 x28_2)).f1) < (x5_2.length : Int):=of_decide_eq_true (by first | (with_reducible assumption) | assumption);obtain ⟨ad1017,e1017,hx1017_0⟩:=Kd.at_int (Kd.R_reads' HO_5.out).2.2 ((rd_T58 l0_1 (rd l1 x28_2)).f1) p1017 q1017;obtain rfl : ad1015 = ad1017:=(by injection e1017)
     replace p1017:=eq_true p1017;replace q1017:=eq_true q1017
     go_wp2
     repeat (go_quiet (fail); try go_wp2)
     go_loopg [52] k2 (fun kq v52 w' => ∃ (x5_3 : List Int) (x52_3 : Int),v52 = .int .i64 x52_3 ∧ Aside0 (impl_Net_joined.l2 kq x5_3 (rd x5_2 ((rd_T58 l0_1 (rd l1 x28_2)).f0)) (rd x5_2 ((rd_T58 l0_1 (rd l1 x28_2)).f1)) l1 (l1.length : Int) x28_2 (x5_2.length : Int) x52_3 a0_0 l0_1 = some r) ∧ Aside0 (kq ≤ k2) ∧ Aside0 (Kd.R (Kd.int .i64) 3 w' w.heap.size (fun _ => True) (.slice (some ad1015) x5_2.length co23) x5_3) ∧ Aside0 (w'.heap[gb1006]? = some (.cells #[.int .i64 a0_0,(.slice (some ad1014) l0_1.length c0_1)] 34 (0,0))) ∧ Aside0 (Below w.heap.size w w'))
     case atStart => exact ⟨(x5_2),(0),(by first | rfl | (simp; done) | (simp [*]; done)),H',⟨Nat.le_refl _⟩,⟨by (with_reducible repeat (first | apply Kd.R_alloc | apply Kd.R_drewN | apply Kd.R_drew)); exact HO_5.out⟩,⟨by (with_reducible repeat (first | refine blk_drewN ?_ _ | refine blk_drew ?_ | refine blk_alloc ?_ _)); exact BK1006.out⟩,⟨by repeat (first | (with_reducible first | exact HB.out | apply below_alloc | apply pw_below_drewN | apply below_drew1 | refine below_set ?_ GE1006.out) | exact HB.out)⟩⟩
     case round =>
      clear H'
      try clear c1
      try clear p1
      try clear q1
      try clear hx1
      try clear c2
      try clear p2
      try clear c3
      try clear c3b0
      try clear c3b1
      try clear c4
      try clear c4b0
      try clear c4b1
      try clear p6
      try clear c10
      try clear c10b0
      try clear p10
      try clear q10
      try clear hx10
      try clear c11
      try clear c13
      try clear c13b0
      try clear c14
      try clear c14b0
      try clear c15
      try clear c15b0
      try clear c16
      try clear c16b0
      try clear c17
      try clear c17b0
      try clear c18
      try clear c18b0
      try clear c19
      try clear c19b0
      try clear c20
      try clear c20b0
      try clear c21
      try clear c21b0
      try clear hcz22_0
      try clear hcz22_1
      try clear hcz6_0
      try clear hcz6_1
      try clear hcz9_0
      try clear hcz9_1
      try clear hfz22_0
      try clear hfz22_1
      try clear hfz6_0
      try clear hfz6_1
      try clear hfz9_0
      try clear hfz9_1
      try clear hx1013_0
      try clear hx1014_0
      try clear hx1014_1
      try clear hx1014_2
      try clear hx1014_3
      try clear hx1014_4
      try clear hx1015_0
      try clear hx1016_0
      try clear hx1016_1
      try clear hx1016_2
      try clear hx1016_3
      try clear hx1016_4
      try clear hx1017_0
      try clear p1013
      try clear p1014
      try clear p1015
      try clear p1016
      try clear p1017
      try clear p2
      try clear p6
      try clear q1013
      try clear q1014
      try clear q1015
      try clear q1016
      try clear q1017
      obtain ⟨x5_3,x52_3,rfl,HA,HK3,HO_5,BK1006,HB⟩:=hrel;have hl5_3:=(Kd.R_reads' HO_5.out).1;rw [hl5_3] at HO_5
      (try simp only [hl5_3])
      (try simp only [hl5_3] at BK1006)
      cases gk with
      | zero => exact absurd HA.out (by simp [impl_Net_joined.l2])
      | succ k3 =>
       have H:=HA.out;clear HA;simp only [impl_Net_joined.l2] at H
       by_cases c24 : x52_3 < (x5_2.length : Int)
       case neg =>
        rw [if_neg c24] at H;have c24b0 : decide (x52_3 < (x5_2.length : Int)) = false:=decide_eq_false c24;have c24b0z : decide (x52_3 < (x5_3.length : Int)) = false:=by rw [← hl5_3]; exact c24b0
        clear c24;have H':=I H;clear H
        go_wp2
        repeat (go_quiet (fail); try go_wp2)
        (try simp only [← hl5_3])
        (try simp only [add_plain] at *)
        go_roundg k3
        case measure => have:=HK1.out; have:=HK2.out; have:=HK3.out; omega
        case rel => exact ⟨(x5_3),(wrap64 (x28_2 + 1)),(by first | rfl | (simp; done) | (simp [*]; done)),H',⟨by have:=HK1.out; have:=HK2.out; have:=HK3.out; omega⟩,⟨by (try simp only [hl5_3]); (with_reducible repeat (first | apply Kd.R_alloc | apply Kd.R_drewN | apply Kd.R_drew)); exact HO_5.out⟩,⟨by (try simp only [hl5_3]); (with_reducible repeat (first | refine blk_drewN ?_ _ | refine blk_drew ?_ | refine blk_alloc ?_ _)); exact BK1006.out⟩,⟨by repeat (first | (with_reducible first | exact HB.out | apply below_alloc | apply pw_below_drewN | apply below_drew1 | refine below_set ?_ GE1006.out) | exact HB.out)⟩⟩
       rw [if_pos c24] at H;have c24b0 : decide (x52_3 < (x5_2.length : Int)) = true:=decide_eq_true c24;have c24b0z : decide (x52_3 < (x5_3.length : Int)) = true:=by rw [← hl5_3]; exact c24b0
       clear c24
       by_cases c25 : 0 ≤ x52_3
       case neg =>
        rw [if_neg c25] at H;exact absurd H (by simp)
       rw [if_pos c25] at H;have c25b0 : decide (0 ≤ x52_3) = true:=decide_eq_true c25;clear c25
       by_cases c26 : x52_3 < (x5_3.length : Int)
       case neg =>
        rw [if_neg c26] at H;exact absurd H (by simp)
       rw [if_pos c26] at H;have c26b0 : decide (x52_3 < (x5_3.length : Int)) = true:=decide_eq_true c26;clear c26;obtain ⟨ji27,hji27⟩ : ∃ j_ : Int,(mx (rd x5_2 ((rd_T58 l0_1 (rd l1 x28_2)).f0)) (rd x5_2 ((rd_T58 l0_1 (rd l1 x28_2)).f1))) = j_:=⟨_,rfl⟩
       replace H : (if (rd x5_3 x52_3) = (ji27) then (impl_Net_joined.l2 k3 (x5_3.set (x52_3 : Int).toNat (mn (rd x5_2 ((rd_T58 l0_1 (rd l1 x28_2)).f0)) (rd x5_2 ((rd_T58 l0_1 (rd l1 x28_2)).f1)))) (rd x5_2 ((rd_T58 l0_1 (rd l1 x28_2)).f0)) (rd x5_2 ((rd_T58 l0_1 (rd l1 x28_2)).f1)) l1 (l1.length : Int) x28_2 (x5_2.length : Int) (wrap64 (x52_3 + 1)) a0_0 l0_1) else (impl_Net_joined.l2 k3 x5_3 (rd x5_2 ((rd_T58 l0_1 (rd l1 x28_2)).f0)) (rd x5_2 ((rd_T58 l0_1 (rd l1 x28_2)).f1)) l1 (l1.length : Int) x28_2 (x5_2.length : Int) (wrap64 (x52_3 + 1)) a0_0 l0_1)) = some r:=by first | (rw [hji27] at H; exact H) | (simp only [hji27] at H ⊢; exact H)
       have hji27_ : (if (rd x5_2 ((rd_T58 l0_1 (rd l1 x28_2)).f0)) < (rd x5_2 ((rd_T58 l0_1 (rd l1 x28_2)).f1)) then (rd x5_2 ((rd_T58 l0_1 (rd l1 x28_2)).f1)) else (rd x5_2 ((rd_T58 l0_1 (rd l1 x28_2)).f0))) = ji27:=hji27
       by_cases c28 : (rd x5_3 x52_3) = (ji27)
       case neg =>
        rw [if_neg c28] at H;have c28b0 : ((rd x5_3 x52_3) == (ji27)) = false:=beq_eq_false_iff_ne.mpr c28;have c28b1 : ((rd x5_3 x52_3) != (ji27)) = true:=bne_iff_ne.mpr c28;have H':=I H;clear H;have p1018 : 0 ≤ (x52_3 : Int):=of_decide_eq_true (by first | (with_reducible assumption) | assumption);have q1018 : x52_3 < (x5_3.length : Int):=of_decide_eq_true (by first | (with_reducible assumption) | assumption);obtain ⟨ad1018,e1018,hx1018_0⟩:=Kd.at_int (Kd.R_reads' HO_5.out).2.2 x52_3 p1018 q1018;obtain rfl : ad1015 = ad1018:=(by injection e1018)
        replace p1018:=eq_true p1018;replace q1018:=eq_true q1018
        go_wp2
        repeat (go_quiet (fail); try go_wp2)
        (try simp only [← hl5_3])
        (try simp only [add_plain] at *)
        go_roundg k3
        case measure => have:=HK1.out; have:=HK2.out; have:=HK3.out; omega
        case rel => exact ⟨(x5_3),(wrap64 (x52_3 + 1)),(by first | rfl | (simp; done) | (simp [*]; done)),H',⟨by have:=HK1.out; have:=HK2.out; have:=HK3.out; omega⟩,⟨by (try simp only [hl5_3]); (with_reducible repeat (first | apply Kd.R_alloc | apply Kd.R_drewN | apply Kd.R_drew)); exact HO_5.out⟩,⟨by (try simp only [hl5_3]); (with_reducible repeat (first | refine blk_drewN ?_ _ | refine blk_drew ?_ | refine blk_alloc ?_ _)); exact BK1006.out⟩,⟨by repeat (first | (with_reducible first | exact HB.out | apply below_alloc | apply pw_below_drewN | apply below_drew1 | refine below_set ?_ GE1006.out) | exact HB.out)⟩⟩
       rw [if_pos c28] at H;have c28b0 : ((rd x5_3 x52_3) == (ji27)) = true:=beq_iff_eq.mpr c28;have c28b1 : ((rd x5_3 x52_3) != (ji27)) = false:=bne_eq_false_iff_eq.mpr c28;clear c28;obtain ⟨ji29,hji29⟩ : ∃ j_ : Int,(mn (rd x5_2 ((rd_T58 l0_1 (rd l1 x28_2)).f0)) (rd x5_2 ((rd_T58 l0_1 (rd l1 x28_2)).f1))) = j_:=⟨_,rfl⟩
       replace H : (impl_Net_joined.l2 k3 (x5_3.set (x52_3 : Int).toNat (ji29)) (rd x5_2 ((rd_T58 l0_1 (rd l1 x28_2)).f0)) (rd x5_2 ((rd_T58 l0_1 (rd l1 x28_2)).f1)) l1 (l1.length : Int) x28_2 (x5_2.length : Int) (wrap64 (x52_3 + 1)) a0_0 l0_1) = some r:=by first | (rw [hji29] at H; exact H) | (simp only [hji29] at H ⊢; exact H)
       have hji29_ : (if (rd x5_2 ((rd_T58 l0_1 (rd l1 x28_2)).f1)) < (rd x5_2 ((rd_T58 l0_1 (rd l1 x28_2)).f0)) then (rd x5_2 ((rd_T58 l0_1 (rd l1 x28_2)).f1)) else (rd x5_2 ((rd_T58 l0_1 (rd l1 x28_2)).f0))) = ji29:=hji29;obtain ⟨y1019,hy1019⟩ : ∃ y_ : List Int,y_ = (x5_3.set (x52_3 : Int).toNat (ji29)):=⟨_,rfl⟩
       replace H : (impl_Net_joined.l2 k3 y1019 (rd x5_2 ((rd_T58 l0_1 (rd l1 x28_2)).f0)) (rd x5_2 ((rd_T58 l0_1 (rd l1 x28_2)).f1)) l1 (l1.length : Int) x28_2 (x5_2.length : Int) (wrap64 (x52_3 + 1)) a0_0 l0_1) = some r:=by first | (rw [hy1019]; with_reducible exact H) | (have H2_:=(Option.bind_some _ _).symm.trans H; rw [hy1019]; with_reducible exact H2_) | (have H2_:=(Option.bind_some _ _).symm.trans H; with_reducible exact H2_) | with_reducible exact H | (rw [hy1019]; exact H) | exact H
       have Ny1019:=I hy1019;clear hy1019;have H':=I H;clear H;have p1018 : 0 ≤ (x52_3 : Int):=of_decide_eq_true (by first | (with_reducible assumption) | assumption);have q1018 : x52_3 < (x5_3.length : Int):=of_decide_eq_true (by first | (with_reducible assumption) | assumption);obtain ⟨ad1018,e1018,hx1018_0⟩:=Kd.at_int (Kd.R_reads' HO_5.out).2.2 x52_3 p1018 q1018;obtain rfl : ad1015 = ad1018:=(by injection e1018)
       replace p1018:=eq_true p1018;replace q1018:=eq_true q1018;have p30 : 0 ≤ (x52_3 : Int):=of_decide_eq_true (by first | (with_reducible assumption) | assumption);have q30 : (x52_3 : Int) < ((x5_3.length : Int) : Int):=of_decide_eq_true (by first | (with_reducible assumption) | assumption);obtain ⟨go30,co30,eo30,gb30,gl30,cl30,HG30⟩:=Kd.R_form HO_5.out (by omega)
       (first | cases eo30 | (injection eo30 with ea_ en_ ec_; (first | subst ea_ | (injection ea_ with ea_; subst ea_)); subst ec_; clear en_))
       have GB30:=I gb30;have GG30:=I HG30;clear gb30 gl30 HG30
       (first | simp only [add_plain] at hx1015_0 | skip)
       (first | simp only [add_plain] at hx1017_0 | skip)
       (first | simp only [add_plain] at hx1018_0 | skip)
       obtain ⟨hx30_0,hf30_0⟩:=Kd.R_celln 0 HO_5.out (x52_3 : Int) p30 q30;replace p30:=eq_true p30;replace q30:=eq_true q30;have HP31:=Kd.R_putg HO_5.out (x52_3 : Int) ji29
       go_wp2_with (first | ((with_reducible refine gate_store (t:=3) (p:=67) rfl ?_); (try (rw [drewN_self wr]; generalize hq_ : World.drewN wr _ = wr; have n0_:=I (Kd.R_at hq_ HO_5.out); have n1_:=I (blk_at hq_ BK1006.out); have n2_:=I (below_at hq_ HB.out); clear hq_ HO_5 BK1006 HB; have HO_5:=n0_; have BK1006:=n1_; have HB:=n2_; clear n0_ n1_ n2_; (try (have HP31:=Kd.R_putg HO_5.out (x52_3 : Int) ji29)))); refine store_event (t:=3) (p:=67) (v:=?vo_w32) (w1:=(wr.setCell ⟨go30,(x52_3 : Int).toNat,none⟩ (.int .i64 ji29))) ?hg ?ho ?hn ?hr ?_; (case ho => rfl); (case hg => rfl); (case hn => rfl); (case hr => first | (go_simp; done) | (go_simp; rfl)); intro w32 hw; have hg : wr.grownBy w32 (some go30):=(by rw [hw]; exact HP31.2); have hp_ : Kd.R (Kd.int .i64) 3 w32 w.heap.size (fun _ => True) (.slice (some ⟨go30,0,none⟩) x5_3.length co23) y1019:=(by rw [hw,Ny1019.out]; exact HP31.1); clear HP31; have n0_:=I (hp_); have n1_:=I (blk_grown (g:=gb1006) (o:=.cells #[.int .i64 a0_0,.slice (some ad1014) l0_1.length c0_1] 34 (0,0)) (by (with_reducible repeat (first | refine blk_drewN ?_ _ | refine blk_drew ?_ | refine blk_alloc ?_ _)); exact BK1006.out) hg (Kd.R_ne HO_5.out BK1006.out (by decide))); have n2_:=I ((by rw [hw]; exact below_set (HB.out) GB30.out : Below w.heap.size w w32)); clear HO_5; clear BK1006; clear HB; have HO_5:=n0_; have BK1006:=n1_; have HB:=n2_; clear n0_ n1_ n2_; clear hg hw hp_))
       repeat (go_quiet (first | ((with_reducible refine gate_store (t:=3) (p:=67) rfl ?_); (try (rw [drewN_self wr]; generalize hq_ : World.drewN wr _ = wr; have n0_:=I (Kd.R_at hq_ HO_5.out); have n1_:=I (blk_at hq_ BK1006.out); have n2_:=I (below_at hq_ HB.out); clear hq_ HO_5 BK1006 HB; have HO_5:=n0_; have BK1006:=n1_; have HB:=n2_; clear n0_ n1_ n2_; (try (have HP31:=Kd.R_putg HO_5.out (x52_3 : Int) ji29)))); refine store_event (t:=3) (p:=67) (v:=?vo_w32) (w1:=(wr.setCell ⟨go30,(x52_3 : Int).toNat,none⟩ (.int .i64 ji29))) ?hg ?ho ?hn ?hr ?_; (case ho => rfl); (case hg => rfl); (case hn => rfl); (case hr => first | (go_simp; done) | (go_simp; rfl)); intro w32 hw; have hg : wr.grownBy w32 (some go30):=(by rw [hw]; exact HP31.2); have hp_ : Kd.R (Kd.int .i64) 3 w32 w.heap.size (fun _ => True) (.slice (some ⟨go30,0,none⟩) x5_3.length co23) y1019:=(by rw [hw,Ny1019.out]; exact HP31.1); clear HP31; have n0_:=I (hp_); have n1_:=I (blk_grown (g:=gb1006) (o:=.cells #[.int .i64 a0_0,.slice (some ad1014) l0_1.length c0_1] 34 (0,0)) (by (with_reducible repeat (first | refine blk_drewN ?_ _ | refine blk_drew ?_ | refine blk_alloc ?_ _)); exact BK1006.out) hg (Kd.R_ne HO_5.out BK1006.out (by decide))); have n2_:=I ((by rw [hw]; exact below_set (HB.out) GB30.out : Below w.heap.size w w32)); clear HO_5; clear BK1006; clear HB; have HO_5:=n0_; have BK1006:=n1_; have HB:=n2_; clear n0_ n1_ n2_; clear hg hw hp_)); try go_wp2_with (first | ((with_reducible refine gate_store (t:=3) (p:=67) rfl ?_); (try (rw [drewN_self wr]; generalize hq_ : World.drewN wr _ = wr; have n0_:=I (Kd.R_at hq_ HO_5.out); have n1_:=I (blk_at hq_ BK1006.out); have n2_:=I (below_at hq_ HB.out); clear hq_ HO_5 BK1006 HB; have HO_5:=n0_; have BK1006:=n1_; have HB:=n2_; clear n0_ n1_ n2_; (try (have HP31:=Kd.R_putg HO_5.out (x52_3 : Int) ji29)))); refine store_event (t:=3) (p:=67) (v:=?vo_w32) (w1:=(wr.setCell ⟨go30,(x52_3 : Int).toNat,none⟩ (.int .i64 ji29))) ?hg ?ho ?hn ?hr ?_; (case ho => rfl); (case hg => rfl); (case hn => rfl); (case hr => first | (go_simp; done) | (go_simp; rfl)); intro w32 hw; have hg : wr.grownBy w32 (some go30):=(by rw [hw]; exact HP31.2); have hp_ : Kd.R (Kd.int .i64) 3 w32 w.heap.size (fun _ => True) (.slice (some ⟨go30,0,none⟩) x5_3.length co23) y1019:=(by rw [hw,Ny1019.out]; exact HP31.1); clear HP31; have n0_:=I (hp_); have n1_:=I (blk_grown (g:=gb1006) (o:=.cells #[.int .i64 a0_0,.slice (some ad1014) l0_1.length c0_1] 34 (0,0)) (by (with_reducible repeat (first | refine blk_drewN ?_ _ | refine blk_drew ?_ | refine blk_alloc ?_ _)); exact BK1006.out) hg (Kd.R_ne HO_5.out BK1006.out (by decide))); have n2_:=I ((by rw [hw]; exact below_set (HB.out) GB30.out : Below w.heap.size w w32)); clear HO_5; clear BK1006; clear HB; have HO_5:=n0_; have BK1006:=n1_; have HB:=n2_; clear n0_ n1_ n2_; clear hg hw hp_)))
       (try simp only [← hl5_3])
       (try simp only [add_plain] at *)
       go_roundg k3
       case measure => have:=HK1.out; have:=HK2.out; have:=HK3.out; omega
       case rel => exact ⟨(y1019),(wrap64 (x52_3 + 1)),(by first | rfl | (simp; done) | (simp [*]; done)),H',⟨by have:=HK1.out; have:=HK2.out; have:=HK3.out; omega⟩,⟨by (try simp only [hl5_3]); (with_reducible repeat (first | apply Kd.R_alloc | apply Kd.R_drewN | apply Kd.R_drew)); exact HO_5.out⟩,⟨by (try simp only [hl5_3]); (with_reducible repeat (first | refine blk_drewN ?_ _ | refine blk_drew ?_ | refine blk_alloc ?_ _)); exact BK1006.out⟩,⟨by repeat (first | (with_reducible first | exact HB.out | apply below_alloc | apply pw_below_drewN | apply below_drew1 | refine below_set ?_ GE1006.out) | exact HB.out)⟩⟩
end Go.Proofs.Ytlhmljngjdfbpaa.Pr
end
section
namespace Go.Proofs.Ytlhmljngjdfbpaa.Pr
open Go.RowKit Go.Proofs.YtlhmljngjdfbpaaW.PrintWords Go.Proofs.YtlhmljngjdfbpaaW.PrintLast Go.Proofs.YtlhmljngjdfbpaaW.PrintMore
attribute [local go_sem] max2_int min2_int max_two min_two max_three min_three max_four min_four
set_option linter.unusedVariables false
set_option linter.unusedSimpArgs false
open List renaming setIfInBounds_toArray → J, set_cons_zero → U, set_cons_succ → O
open Go.Proofs.YtlhmljngjdfbpaaW.PrintWords.Aside0 renaming mk → I
def insRho : Go.Shelf.Ren := ⟨fun n => if n = 20 then 149 else n, fun n => if n = 22 then 23 else if n = 24 then 3 else if n = 25 then 112 else n, fun n => n⟩
theorem insLays : Go.Proofs.SlLaysF.n20 Try.prog insRho where
 mixed := by kernel_rfl
 f20 := ⟨"slices.insertionSortCmpFunc[int]", by decide, by kernel_rfl⟩
 t0 := by kernel_rfl
 a0 := fun w => by kernel_rfl
 z0 := fun w => by kernel_rfl
 v0 := fun w => by kernel_rfl
 t3 := by kernel_rfl
 a3 := fun w => by kernel_rfl
 z3 := fun w => by kernel_rfl
 v3 := fun w => by kernel_rfl
 t4 := by kernel_rfl
 a4 := fun w => by kernel_rfl
 z4 := fun w => by kernel_rfl
 v4 := fun w => by kernel_rfl
 t22 := by kernel_rfl
 a22 := fun w => by kernel_rfl
 z22 := fun w => by kernel_rfl
 v22 := fun w => by kernel_rfl
 a24 := fun w => by kernel_rfl
 z24 := fun w => by kernel_rfl
 t25 := by kernel_rfl
 a25 := fun w => by kernel_rfl
 z25 := fun w => by kernel_rfl
 v25 := fun w => by kernel_rfl
set_option maxHeartbeats 4000000 in
set_option maxRecDepth 100000 in
theorem stable_one {α : Type} [Inhabited α] (enc : α → Value) (hO : Go.Proofs.OneCell enc) (cf : α → α → Int) (g : Nat) (cb : Array Value) (blk off cap : Nat) (d : Array α) (w : World)
  (eg : ∀ args w, (callFunc g args).run Try.prog w = .ok (.enter g args) w) (hcmp : Go.Proofs.CmpReads Try.prog g cb enc cf blk off d.size w) (hH : Go.Sort.Holds enc w blk off d) (hsz : d.size < 20) :
  Calls Try.prog 134 #[.slice (some ⟨blk, off, none⟩) d.size cap, .int .i64 d.size, .func (.func g) #[] cb] w fun e w' => e = .returned (.tuple #[]) ∧ ∃ n, w' = (Go.Sort.putRow enc w blk off (Go.Sort.insertionSort (Go.Proofs.ltOf cf) d 0 d.size)).drewN n := by
 have hcon := Go.Proofs.Any.insertionSortCmpFunc_one insLays enc hO cf g cb blk off cap 0 d.size d w eg hcmp hH (Nat.zero_le _) (Nat.le_refl _) (by omega)
 change Calls Try.prog 149 #[.slice (some ⟨blk, off, none⟩) d.size cap, .int .i64 0, .int .i64 d.size, .func (.func g) #[] cb] w _ at hcon
 clear hH hcmp;generalize Go.Sort.insertionSort (Go.Proofs.ltOf cf) d 0 d.size = r at hcon ⊢;generalize d.size = m at hcon hsz ⊢;have b1 : decide ((20 : Int) ≤ (m : Int)) = false := decide_eq_false (by omega);have b2 : decide ((20 : Int) < (m : Int)) = false := decide_eq_false (by omega);have b3 : ¬ ((20 : Int) ≤ (m : Int)) := by omega
 have b4 : ¬ ((20 : Int) < (m : Int)) := by omega
 have b5 : ¬ (20 ≤ m) := by omega
 have b6 : ¬ (20 < m) := by omega
 clear hsz
 go_enter Try.func134, Try.ntmps134
 go_wp2
 refine wp_loop_rounds 1 ?_;rw [rounds_succ]
 go_wp2_with (go_at_call 149; refine hcon.mono ?_; rintro e w' ⟨rfl, n1, rfl⟩)
 refine wp_loop_rounds 1 ?_;rw [rounds_succ]
 go_wp2
 go_end0
 exact ⟨rfl, n1, rfl⟩
set_option maxHeartbeats 4000000 in
set_option maxRecDepth 100000 in
theorem sort_one {α : Type} [Inhabited α] (enc : α → Value) (hO : Go.Proofs.OneCell enc) (cf : α → α → Int) (g : Nat) (cb : Array Value) (blk off cap : Nat) (d : Array α) (w : World)
  (eg : ∀ args w, (callFunc g args).run Try.prog w = .ok (.enter g args) w) (hcmp : Go.Proofs.CmpReads Try.prog g cb enc cf blk off d.size w) (hH : Go.Sort.Holds enc w blk off d) (hsz : d.size < 20) :
  Calls Try.prog 102 #[.slice (some ⟨blk, off, none⟩) d.size cap, .func (.func g) #[] cb] w fun e w' => e = .returned (.tuple #[]) ∧ ∃ n, w' = (Go.Sort.putRow enc w blk off (Go.Sort.insertionSort (Go.Proofs.ltOf cf) d 0 d.size)).drewN n := by
 have hcon := stable_one enc hO cf g cb blk off cap d w eg hcmp hH hsz;clear hH hcmp;generalize Go.Sort.insertionSort (Go.Proofs.ltOf cf) d 0 d.size = r at hcon ⊢;generalize d.size = m at hcon hsz ⊢
 go_enter Try.func102, Try.ntmps102
 go_wp2_with (go_at_call 134; refine hcon.mono ?_; rintro e w' ⟨rfl, n1, rfl⟩)
 go_end0
 exact ⟨rfl, n1, rfl⟩
set_option maxHeartbeats 4000000 in
set_option maxRecDepth 100000 in
theorem sort_none (A : Option Addr) (cap g : Nat) (cb : Array Value) (w : World) : Calls Try.prog 102 #[.slice A 0 cap, .func (.func g) #[] cb] w fun e w' => e = .returned (.tuple #[]) ∧ ∃ n, w' = w.drewN n := by
 have h1 : Calls Try.prog 149 #[.slice A 0 cap, .int .i64 0, .int .i64 0, .func (.func g) #[] cb] w fun e w' => e = .returned (.tuple #[]) ∧ ∃ n, w' = w.drewN n := by
  go_enter Try.func149, Try.ntmps149
  go_wp2
  refine wp_loop_rounds 1 ?_;rw [rounds_succ]
  go_wp2
  go_end0
  exact ⟨rfl, 0, rfl⟩
 have h2 : Calls Try.prog 134 #[.slice A 0 cap, .int .i64 0, .func (.func g) #[] cb] w fun e w' => e = .returned (.tuple #[]) ∧ ∃ n, w' = w.drewN n := by
  go_enter Try.func134, Try.ntmps134
  go_wp2
  refine wp_loop_rounds 1 ?_;rw [rounds_succ]
  go_wp2_with (go_at_call 149; refine h1.mono ?_; rintro e w' ⟨rfl, n1, rfl⟩)
  refine wp_loop_rounds 1 ?_;rw [rounds_succ]
  go_wp2
  go_end0
  exact ⟨rfl, n1, rfl⟩
 go_enter Try.func102, Try.ntmps102
 go_wp2_with (go_at_call 134; refine h2.mono ?_; rintro e w' ⟨rfl, n1, rfl⟩)
 go_end0
 exact ⟨rfl, n1, rfl⟩
def cmpRho : Go.Shelf.Ren := ⟨fun n => if n = 5 then 104 else if n = 7 then 135 else n, fun n => if n = 22 then 3 else n, fun n => n⟩
theorem cmpLays : Go.Proofs.SlLaysC2.n5 Try.prog cmpRho where
 mixed := by kernel_rfl
 f5 := ⟨"cmp.Compare[int]", by decide, by kernel_rfl⟩
 f7 := ⟨"cmp.isNaN[int]", by decide, by kernel_rfl⟩
 t3 := by kernel_rfl
 a3 := fun w => by kernel_rfl
 z3 := fun w => by kernel_rfl
 v3 := fun w => by kernel_rfl
 t4 := by kernel_rfl
 a4 := fun w => by kernel_rfl
 z4 := fun w => by kernel_rfl
 v4 := fun w => by kernel_rfl
 t22 := by kernel_rfl
 a22 := fun w => by kernel_rfl
 z22 := fun w => by kernel_rfl
 v22 := fun w => by kernel_rfl
theorem compare_calls (x y : Int) (w : World) : Calls Try.prog 104 #[.int .i64 x, .int .i64 y] w fun e w' => e = .returned (.int .i64 (Go.Lib.compareInt x y)) ∧ w' = w := Go.Proofs.AnyG.cmp_Compare_int cmpLays x y w
set_option maxHeartbeats 4000000 in
set_option maxRecDepth 100000 in
theorem tree_less (gN : Nat) (n : Int) (A : Option Addr) (c : Nat) (l : List S58) (i k : Int) (w : World) (hb : w.heap[gN]? = some (.cells #[.int .i64 n, .slice A l.length c] 34 (0, 0))) (hr : Kd.C k58 w A l.length l) (i0 : 0 ≤ i) (i1 : i < (l.length : Int)) (k0 : 0 ≤ k) (k1 : k < (l.length : Int)) :
  Calls Try.prog 103 #[.int .i64 i, .int .i64 k, .pointer (some ⟨gN, 0, none⟩)] w fun e w' => e = .returned (.int .i64 (Go.Lib.compareInt (rd_T58 l i).f2 (rd_T58 l k).f2)) ∧ ∃ q, w' = w.drewN q := by
 have hu := Try.underlying34;have hu2 := Try.underlying58;have c1 : w.cell? ⟨gN, 1, none⟩ = some (.slice A l.length c) := (blk_cell hb 1).trans rfl;obtain ⟨ad, e, hx⟩ := at_T58 hr i i0 i1;obtain ⟨ad', e', hy⟩ := at_T58 hr k k0 k1;cases e;cases e';generalize rd_T58 l i = a at hx ⊢;generalize rd_T58 l k = b at hy ⊢;have p0 := eq_true i0;have p1 := eq_true i1;have p2 := eq_true k0;have p3 := eq_true k1;have hc := fun W => compare_calls a.f2 b.f2 W
 generalize Go.Lib.compareInt a.f2 b.f2 = r at hc ⊢;clear hb hr i0 i1 k0 k1;obtain ⟨_, _, hx2, _, _⟩ := hx;obtain ⟨_, _, hy2, _, _⟩ := hy
 go_enter Try.func103, Try.ntmps103
 go_wp2
 go_quiet (first | (go_at_call 104; refine Calls.quiet_of_same (hc _)))
 go_wp2
 go_ret;exact ⟨rfl, _, rfl⟩
theorem grownBy_put {α : Type} [Inhabited α] (enc : α → Value) (w : World) (g : Nat) (d : Array α) : w.grownBy (Go.Sort.putRow enc w g 0 d) (some g) := by
 refine ⟨rfl, rfl, rfl, by simp, fun k hk hne => ?_⟩;have : g ≠ k := fun e => hne (by rw [e])
 simp [Go.Sort.putRow, Go.Sort.mapBlock, Array.getElem?_modify, this]
theorem take_put {α : Type} [Inhabited α] (enc : α → Value) (cur : Array Value) (d : Array α) (h : d.size ≤ cur.size) : (Go.Sort.putCells enc 0 d cur).toList.take d.size = d.toList.map enc := by
 apply List.ext_getElem?
 intro j
 by_cases hj : j < d.size
 case neg => rw [List.getElem?_take_eq_none (by omega), List.getElem?_eq_none (by simp; omega)]
 rw [List.getElem?_take_of_lt hj, Array.getElem?_toList];simp [Go.Sort.putCells, hj, show j < cur.size by omega]
theorem R_sorted {α : Type} [Inhabited α] (enc : α → Value) {e base g n cap : Nat} {ok : Nat → Prop} {W : World} {xs : List Int} (h : (Kd.int .i64).R e W base ok (.slice (some ⟨g, 0, none⟩) n cap) xs) (d : Array α) (ys : List Int) (hd : d.toList.map enc = ys.map (Value.int .i64)) (hn : d.size = n) (hy : ys.length = n) :
  (Kd.int .i64).R e (Go.Sort.putRow enc W g 0 d) base ok (.slice (some ⟨g, 0, none⟩) n cap) ys ∧ W.grownBy (Go.Sort.putRow enc W g 0 d) (some g) := by
 refine ⟨Kd.R_of_own ?_ h.1, grownBy_put enc W g d⟩;obtain ⟨h1, h2⟩ := Kd.own_of_R h;refine ⟨by rw [encs_length, Nat.mul_one, hy], ?_⟩
 rcases h2 with ⟨he, _⟩ | ⟨g', cap', cur, he, hb, hh, hnc, hcm, hcs, ht⟩
 ·exact absurd he (by simp)
 ·injection he with he1 he2 he3
  injection he1 with he1
  injection he1 with he1 he4 he5
  subst he1;refine .inr ⟨g, cap', Go.Sort.putCells enc 0 d cur, by rw [hy]; simp [he3], hb, ?_, by omega, hcm, by simp [Go.Sort.putCells]; omega, ?_⟩
  ·simp [Go.Sort.putRow, Go.Sort.mapBlock, Array.getElem?_modify, hh, Go.Sort.onCells]
  ·have hx : xs.length = n := he2.symm;have := take_put enc cur d (by omega);rw [hn, hd] at this;rw [hy, Nat.mul_one];exact this
theorem grownBy_sw {α : Type} [Inhabited α] (enc : α → Value) (w : World) (g m : Nat) (d : Array α) (os : Array Obj) : w.grownBy (Go.Proofs.sortWorld enc w g 0 m d os) (some g) := by
 unfold Go.Proofs.sortWorld
 refine ⟨rfl, rfl, rfl, by simp, fun k hk hne => ?_⟩;rw [Go.Sort.heap_grow_old _ _ (by simpa using hk)];have : g ≠ k := fun e => hne (by rw [e])
 simp [Go.Sort.putRow, Go.Sort.mapBlock, Go.Sort.ahead, Array.getElem?_modify, this]
def ordOf (l : List S58) : Nat → List Int
 | 0 => []
 | m + 1 => (Go.Sort.insertionSort (Go.Proofs.ltOf fun x y : Fin (m + 1) => Go.Lib.compareInt (rd_T58 l ((x.1 : Nat) : Int)).f2 (rd_T58 l ((y.1 : Nat) : Int)).f2) (Array.ofFn fun x : Fin (m + 1) => x) 0 (m + 1)).toList.map fun x => ((x.1 : Nat) : Int)
theorem insInner_size {α : Type} [Inhabited α] (lt : α → α → Bool) (a : Nat) : ∀ (j : Nat) (d : Array α), (Go.Sort.insInner lt a j d).size = d.size
 | 0, d => rfl
 | j + 1, d => by
  unfold Go.Sort.insInner
  by_cases h : (decide (j + 1 > a) && lt d[j + 1]! d[j]!) = true
  case neg => rw [if_neg h]
  rw [if_pos h, insInner_size lt a j]; simp [Go.Sort.swp]
theorem insOuter_size {α : Type} [Inhabited α] (lt : α → α → Bool) (a b : Nat) : ∀ (m i : Nat) (d : Array α), b - i = m → (Go.Sort.insOuter lt a b i d).size = d.size := by
 intro m
 induction m with
 | zero => intro i d hm; rw [Go.Sort.insOuter, if_neg (by omega)]
 | succ m ih => intro i d hm; rw [Go.Sort.insOuter, if_pos (by omega), ih (i + 1) _ (by omega), insInner_size]
theorem insSort_size {α : Type} [Inhabited α] (lt : α → α → Bool) (d : Array α) (a b : Nat) : (Go.Sort.insertionSort lt d a b).size = d.size := insOuter_size lt a b _ _ d rfl
theorem ordOf_len (l : List S58) : ∀ m, (ordOf l m).length = m
 | 0 => rfl
 | m + 1 => by unfold ordOf; rw [List.length_map, Array.length_toList, insSort_size]; simp
set_option maxHeartbeats 4000000 in
set_option maxRecDepth 100000 in
theorem tree_sort (gN : Nat) (n : Int) (A : Option Addr) (c : Nat) (l : List S58) (hl : l.length ≤ 16) (w W : World) {o : List Int} {Ao : Option Addr} {co : Nat} (hr : Kd.C k58 w A l.length l) (hR : (Kd.int .i64).R 3 W w.heap.size (fun _ => True) (.slice Ao o.length co) o) (hM : W.heap[gN]? = some (.cells #[.int .i64 n, .slice A l.length c] 34 (0, 0))) (hB : Below w.heap.size w W) (ho : o = (List.range l.length).map fun i => ((i : Nat) : Int)) (hs : w.heap.size ≤ W.heap.size) :
  Calls Try.prog 102 #[.slice Ao o.length co, .func (.func 103) #[] #[.pointer (some ⟨gN, 0, none⟩)]] W fun e w' => e = .returned (.tuple #[]) ∧ (Kd.int .i64).R 3 w' w.heap.size (fun _ => True) (.slice Ao o.length co) (ordOf l l.length) ∧ w'.heap[gN]? = some (.cells #[.int .i64 n, .slice A l.length c] 34 (0, 0)) ∧ Below w.heap.size w w' := by
 have hol : o.length = l.length := by rw [ho]; simp
 cases hm : l.length with
 | zero =>
  have he : o = [] := List.length_eq_zero_iff.1 (by omega);subst he;refine (sort_none Ao co _ _ W).mono ?_;rintro e w' ⟨rfl, q, rfl⟩;exact ⟨rfl, Kd.R_drewN hR q, by rw [hm] at hM; exact blk_drewN hM q, pw_below_drewN hB q⟩
 | succ m =>
  have hpos : 0 < o.length := by omega
  obtain ⟨g, cap, hv, hb, hlt, cells, hcells⟩ := Kd.R_form hR hpos;injection hv with hv1 hv2 hv3
  subst hv1;have hne : some gN ≠ some g := fun e => by
   have e := Option.some.inj e;subst e;rw [hM] at hcells;have := Option.some.inj hcells;simp at this
  have hsz : (Array.ofFn fun x : Fin (m + 1) => x).size = m + 1 := Array.size_ofFn;have hH : Go.Sort.Holds (fun x : Fin (m + 1) => Value.int .i64 ((x.1 : Nat) : Int)) W g 0 (Array.ofFn fun x : Fin (m + 1) => x) := by
   intro j hj;rw [hsz] at hj;obtain ⟨h1, h2⟩ := Kd.R_celln 0 hR (j : Int) (by omega) (by omega);rw [Int.toNat_natCast] at h1 h2;rw [Nat.zero_add];refine ⟨h1.trans ?_, h2⟩;have e1 : rdOf 0 o (j : Int) = (j : Int) := by
    rw [ho]
    unfold rdOf
    rw [Int.toNat_natCast];simp [show j < l.length by omega]
   rw [e1, getElem!_pos (Array.ofFn fun x : Fin (m + 1) => x) j (by rw [hsz]; exact hj)];simp
  have hcmp : Go.Proofs.CmpReads Try.prog 103 #[.pointer (some ⟨gN, 0, none⟩)] (fun x : Fin (m + 1) => Value.int .i64 ((x.1 : Nat) : Int)) (fun x y : Fin (m + 1) => Go.Lib.compareInt (rd_T58 l ((x.1 : Nat) : Int)).f2 (rd_T58 l ((y.1 : Nat) : Int)).f2) g 0 (Array.ofFn fun x : Fin (m + 1) => x).size W := by
   intro q os dk hd x y;have hg := grownBy_sw (fun x : Fin (m + 1) => Value.int .i64 ((x.1 : Nat) : Int)) W g q dk os;have h1 := blk_grown hM hg hne;have h2 := pw_below_grown hB _ hs hg (fun k hk => by obtain rfl := Option.some.inj hk; exact hb);have hx := x.2;have hy := y.2;exact tree_less gN n A c l ((x.1 : Nat) : Int) ((y.1 : Nat) : Int) _ h1 (Kd.C_below hr h2) (by omega) (by omega) (by omega) (by omega)
  have hcon := sort_one (fun x : Fin (m + 1) => Value.int .i64 ((x.1 : Nat) : Int)) (fun _ => rfl) (fun x y : Fin (m + 1) => Go.Lib.compareInt (rd_T58 l ((x.1 : Nat) : Int)).f2 (rd_T58 l ((y.1 : Nat) : Int)).f2) 103 #[.pointer (some ⟨gN, 0, none⟩)] g 0 co (Array.ofFn fun x : Fin (m + 1) => x) W (enters_of Try.func103 (by kernel_rfl) rfl) hcmp hH (by rw [hsz]; omega);rw [hsz] at hcon;have hS := R_sorted (fun x : Fin (m + 1) => Value.int .i64 ((x.1 : Nat) : Int)) hR (Go.Sort.insertionSort (Go.Proofs.ltOf fun x y : Fin (m + 1) => Go.Lib.compareInt (rd_T58 l ((x.1 : Nat) : Int)).f2 (rd_T58 l ((y.1 : Nat) : Int)).f2) (Array.ofFn fun x : Fin (m + 1) => x) 0 (m + 1)) (ordOf l (m + 1)) (by unfold ordOf; rw [List.map_map]; rfl) (by rw [insSort_size, hsz]; omega) (by rw [ordOf_len]; omega);rw [show o.length = m + 1 by omega] at hS hR ⊢;refine hcon.mono ?_;rintro e w' ⟨rfl, q, rfl⟩;refine ⟨rfl, Kd.R_drewN hS.1 q, blk_drewN ?_ q, pw_below_drewN (pw_below_grown hB _ hs hS.2 (fun k hk => by obtain rfl := Option.some.inj hk; exact hb)) q⟩;have := blk_grown hM hS.2 hne;rw [hm] at this;exact this
def treeL (k : Nat) (n : Int) (l : List S58) : List Int → List Int → Option (List Int)
 | [], o => some o
 | q :: r, o => (impl_Net_joined.f k n l o).bind fun p => if (0 ≤ q ∧ q < (l.length : Int)) ∧ (0 ≤ (rd_T58 l q).f0 ∧ (rd_T58 l q).f0 < (p.length : Int)) ∧ (0 ≤ (rd_T58 l q).f1 ∧ (rd_T58 l q).f1 < (p.length : Int)) then if rd p (rd_T58 l q).f0 = rd p (rd_T58 l q).f1 then treeL k n l r o else treeL k n l r (o ++ [q]) else none
def impl_TreeBest.f (k : Nat) (a0_0 : Int) (l0_1 : List S58) : Option (List Int) := (impl_NetOk.f a0_0 l0_1).bind fun b => if b = true then if l0_1.length ≤ 16 ∧ 0 ≤ a0_0 ∧ a0_0 ≤ 64 then treeL k a0_0 l0_1 (ordOf l0_1 l0_1.length) [] else none else some []
set_option maxHeartbeats 8000000 in
set_option maxRecDepth 100000 in
theorem impl_TreeBest.calls (k : Nat) (a0_0 : Int) (A0_1 : Option Addr) (c0_1 : Nat) (l0_1 : List S58) (r : List Int) (w : World) (hr0_1 : Kd.C k58 w A0_1 l0_1.length l0_1) (hc0_1 : l0_1.length ≤ c0_1) (h : impl_TreeBest.f k a0_0 l0_1 = some r) :
  Calls Try.prog 49 #[.agg #[.int .i64 a0_0, .slice A0_1 l0_1.length c0_1]] w fun e w' => ∃ v0_ : Value, e = .returned v0_ ∧ Kd.R (Kd.int .i64) 3 w' w.heap.size (fun _ => True) v0_ r ∧ Below w.heap.size w w' := by
 have hu := Try.underlying34;have hu2 := Try.underlying58;have HR := I hr0_1;have HC := I hc0_1;clear hr0_1 hc0_1
 unfold impl_TreeBest.f at h
 obtain ⟨b0, h0, h⟩ := Option.bind_eq_some_iff.1 h;have E0 := I h0;clear h0;cases b0 with
 | false =>
  obtain rfl : [] = r := by simpa using h
  clear h
  go_enter Try.func49, Try.ntmps49
  go_wp2_with (first | ((with_reducible refine gate_dst (N := 1) rfl ?_); refine box_event ?hg (N := 1) ?hd (cs := #[.int .i64 a0_0, .slice A0_1 l0_1.length c0_1]) (t := 34) ?hr ?_; (case hd => rfl); (case hg => rfl); (case hr => first | (go_simp; done) | (go_simp; rfl)); intro gN hgN w1 hbox hb; have M1 := I hbox; have B1 := I hb; have q10 : w1.cell? ⟨gN, 0, none⟩ = some (.int .i64 a0_0) := (blk_cell hbox 0).trans rfl; have q11 : w1.cell? ⟨gN, 1, none⟩ = some (.slice A0_1 l0_1.length c0_1) := (blk_cell hbox 1).trans rfl; clear hbox hb hgN) | (go_at_call 51; refine (impl_NetOk.calls a0_0 A0_1 c0_1 l0_1 false w1 (Kd.C_below HR.out B1.out) HC.out E0.out).mono ?_; rintro e w2 ⟨rfl, hB⟩; have B2 := I (below_step B1.out hB); have M2 := I (blk_below M1.out hB); have q20 : w2.cell? ⟨gN, 0, none⟩ = some (.int .i64 a0_0) := (blk_cell M2.out 0).trans rfl; have q21 : w2.cell? ⟨gN, 1, none⟩ = some (.slice A0_1 l0_1.length c0_1) := (blk_cell M2.out 1).trans rfl; clear hB q10 q11))
  go_ret;exact ⟨_, rfl, Kd.R_nil _ _ _ _ _, B2.out⟩
 | true =>
  rw [if_pos rfl] at h;have hcond : l0_1.length ≤ 16 ∧ 0 ≤ a0_0 ∧ a0_0 ≤ 64 := by
   by_cases hc : l0_1.length ≤ 16 ∧ 0 ≤ a0_0 ∧ a0_0 ≤ 64
   case pos => exact hc
   rw [if_neg hc] at h; exact absurd h (by simp)
  rw [if_pos hcond] at h;have HT := I h;have HL := I hcond.1;have HA0 := I hcond.2.1;have HA1 := I hcond.2.2;clear h hcond
  go_enter Try.func49, Try.ntmps49
  go_wp2_with (first | ((with_reducible refine gate_dst (N := 1) rfl ?_); refine box_event ?hg (N := 1) ?hd (cs := #[.int .i64 a0_0, .slice A0_1 l0_1.length c0_1]) (t := 34) ?hr ?_; (case hd => rfl); (case hg => rfl); (case hr => first | (go_simp; done) | (go_simp; rfl)); intro gN hgN w1 hbox hb; have M1 := I hbox; have B1 := I hb; have q10 : w1.cell? ⟨gN, 0, none⟩ = some (.int .i64 a0_0) := (blk_cell hbox 0).trans rfl; have q11 : w1.cell? ⟨gN, 1, none⟩ = some (.slice A0_1 l0_1.length c0_1) := (blk_cell hbox 1).trans rfl; clear hbox hb hgN) | (go_at_call 51; refine (impl_NetOk.calls a0_0 A0_1 c0_1 l0_1 true w1 (Kd.C_below HR.out B1.out) HC.out E0.out).mono ?_; rintro e w2 ⟨rfl, hB⟩; have B2 := I (below_step B1.out hB); have M2 := I (blk_below M1.out hB); have q20 : w2.cell? ⟨gN, 0, none⟩ = some (.int .i64 a0_0) := (blk_cell M2.out 0).trans rfl; have q21 : w2.cell? ⟨gN, 1, none⟩ = some (.slice A0_1 l0_1.length c0_1) := (blk_cell M2.out 1).trans rfl; clear hB q10 q11) | ((with_reducible refine gate_dst (N := 15) rfl ?_); refine Kd.R_make0 (Kd.int .i64) (w0 := w) w.heap.size 3 rfl (N := 15) rfl 23 _ _ rfl (l0_1.length : Int) (by first | rfl | (go_simp; done) | (go_simp; rfl)) (by first | rfl | (go_simp; done) | (go_simp; rfl)) Try.underlying23 (.int .i64 0) 8 info3 rfl (by decide) (by omega) 0 (ok := fun _ => True) (okp := fun _ => True) rfl (fun _ hk => hk) trivial (by omega) (by have h1 := HL.out; omega) B2.out (below_size B2.out) ?_; intro v3 w3 ho hb hg hat; obtain ⟨A3, c3, rfl⟩ := Kd.R_slice ho; have R3 := I ho; have B3 := I hb; have M3 := I (blk_grown M2.out hg (by simp)); have q31 : w3.cell? ⟨gN, 1, none⟩ = some (.slice A0_1 l0_1.length c0_1) := (blk_cell M3.out 1).trans rfl; clear ho hb hg hat q20 q21))
  clear q31
  go_loopg [3, 19] l0_1.length (fun gg s3 s19 wr => ∃ (j : Nat) (o : List Int) (A : Option Addr) (c : Nat), s3 = .slice A o.length c ∧ s19 = .int .i64 (j : Int) ∧ Aside0 (o = (List.range j).map fun i => ((i : Nat) : Int)) ∧ Aside0 (j ≤ l0_1.length ∧ l0_1.length - j ≤ gg) ∧ Aside0 ((Kd.int .i64).R 3 wr w.heap.size (fun _ => True) (.slice A o.length c) o) ∧ Aside0 (Below w.heap.size w wr) ∧ Aside0 (wr.heap[gN]? = some (.cells #[.int .i64 a0_0, .slice A0_1 l0_1.length c0_1] 34 (0, 0))))
  case atStart => exact ⟨0, [], A3, c3, rfl, rfl, ⟨rfl⟩, ⟨⟨by omega, by omega⟩⟩, R3, B3, M3⟩
  case round =>
   clear R3 B3 M3 B1 B2 M1 M2;obtain ⟨j, o, A, c, rfl, rfl, J0, J1, J2, J3, J4⟩ := hrel
   by_cases hj : j < l0_1.length
   case pos =>
    have c1 : decide ((j : Int) < (l0_1.length : Int)) = true := decide_eq_true (by omega);have c2 : decide (j < l0_1.length) = true := decide_eq_true hj;have hw : wrap64 ((j : Int) + 1) = ((j + 1 : Nat) : Int) := by have h1 := HL.out; unfold wrap64; omega
    have HW := I hw;have HJ := I hj;clear hw hj
    go_wp2_with (first | ((with_reducible refine gate_builtin (b := .append) (xs := #[.tmp 22, .tmp 24]) rfl ?_); at_builtin; refine Kd.R_append (Kd.int .i64) (w0 := w) w.heap.size rfl (.tmp 22) (.tmp 24) 23 3 (.int .i64 0) 8 rfl Try.underlying23 info3 rfl (by decide) (by omega) (.slice A o.length c) o (j : Int) [.int .i64 (j : Int)] (fun _ => True) (fun _ => False) rfl rfl ?aP (fun _ hk => hk.elim) ?aF J2.out J3.out ?aS ?aL ?_; (case aP => exact rfl); (case aF => exact fun _ _ => trivial); (case aS => exact below_size J3.out); (case aL => have h1 := HL.out; have h2 := HJ.out; have h3 : o.length = j := (by rw [J0.out]; simp); omega); intro v7 w7 ho hb hg hat; obtain ⟨A7, c7, rfl⟩ := Kd.R_slice ho; have R7 := I ho; have B7 := I hb; have M7 := I (blk_grown J4.out hg (Kd.R_ne J2.out J4.out (by decide))); clear ho hb hg hat))
    have hj2 := HJ.out;go_roundg (l0_1.length - (j + 1))
    case measure => have := J1.out.2; omega
    case rel => exact ⟨j + 1, o ++ [(j : Int)], A7, c7, by simp, by first | rfl | (rw [HW.out]; done) | (simp [HW.out]; done), ⟨by rw [J0.out, List.range_succ, List.map_append]; rfl⟩, ⟨⟨by omega, by omega⟩⟩, R7, B7, M7⟩
   have c1 : decide ((j : Int) < (l0_1.length : Int)) = false := decide_eq_false (by omega);have c2 : decide (j < l0_1.length) = false := decide_eq_false hj;have hjm : j = l0_1.length := by have := J1.out.1; omega
   have HJM := I hjm;clear hj hjm
   go_wp2_with (first | (go_at_call 102; refine (tree_sort gN a0_0 A0_1 c0_1 l0_1 HL.out w wr HR.out (J2.out) (J4.out) (J3.out) (by have h := J0.out; have h2 := HJM.out; rw [h2] at h; exact h) (below_size J3.out)).mono ?_; rintro e w8 ⟨rfl, r8, m8, b8⟩; have R8 := I r8; have M8 := I m8; have B8 := I b8; have q80 : w8.cell? ⟨gN, 0, none⟩ = some (.int .i64 a0_0) := (blk_cell m8 0).trans rfl; clear r8 m8 b8) | ((with_reducible refine gate_dst (N := 32) rfl ?_); refine Kd.R_make0 (Kd.int .i64) (w0 := w) w.heap.size 3 rfl (N := 32) rfl 23 _ _ rfl a0_0 (by first | rfl | (go_simp; done) | (go_simp; rfl)) (by first | rfl | (go_simp; done) | (go_simp; rfl)) Try.underlying23 (.int .i64 0) 8 info3 rfl (by decide) (by omega) 0 (ok := fun _ => True) (okp := fun _ => True) rfl (fun _ hk => hk) trivial HA0.out (by have h1 := HA1.out; omega) B8.out (below_size B8.out) ?_; intro v5 w9 ho hb hg hat; have R9 := I (Kd.R_mono (Kd.R_grown (Kd.R_bound R8.out) hg (fun k _ e => by cases e)) (ok' := fun k => True ∧ some k ≠ v5.ownBlock) (fun k hk => ⟨trivial, fun e => by obtain ⟨b, hb1, hb2⟩ := hat; rw [hb1] at e; have h1 := Option.some.inj e; have h2 := hk.2.2.1; omega⟩)); obtain ⟨A5, c5, rfl⟩ := Kd.R_slice ho; have O9 := I ho; have B9 := I hb; have M9 := I (blk_grown M8.out hg (by simp)); clear ho hb hg hat q80))
   clear J0 J1 J2 J3 J4 R8 M8 B8 HJM;have hol : o.length = (ordOf l0_1 l0_1.length).length := (Kd.R_reads' R9.out).1;have HOL := I hol;clear hol
   go_loopg [5, 35] o.length (fun gg s5 s35 wr => ∃ (j : Nat) (x : List Int) (A' : Option Addr) (c' : Nat), s5 = .slice A' x.length c' ∧ s35 = .int .i64 (j : Int) ∧ Aside0 (j ≤ o.length ∧ o.length - j ≤ gg ∧ x.length ≤ j) ∧ Aside0 ((Kd.int .i64).R 3 wr w.heap.size (fun _ => True) (.slice A' x.length c') x) ∧ Aside0 ((Kd.int .i64).R 3 wr w.heap.size (fun k => True ∧ some k ≠ (Value.slice A' x.length c').ownBlock) (.slice A o.length c) (ordOf l0_1 l0_1.length)) ∧ Aside0 (wr.heap[gN]? = some (.cells #[.int .i64 a0_0, .slice A0_1 l0_1.length c0_1] 34 (0, 0))) ∧ Aside0 (Below w.heap.size w wr) ∧ Aside0 (treeL k a0_0 l0_1 ((ordOf l0_1 l0_1.length).drop j) x = some r))
   case atStart => exact ⟨0, [], A5, c5, rfl, rfl, ⟨⟨by omega, by omega, by simp⟩⟩, O9, R9, M9, B9, HT⟩
   case round =>
    clear R9 O9 M9 B9 HT;obtain ⟨j, x, A2, c2, rfl, rfl, J1, J2, J3, J4, J5, J6⟩ := hrel
    by_cases hj : j < o.length
    case neg =>
     have c1 : decide ((j : Int) < (o.length : Int)) = false := decide_eq_false (by omega);have c2_ : decide (j < o.length) = false := decide_eq_false hj;have hjm : j = (ordOf l0_1 l0_1.length).length := by have := J1.out.1; have h := HOL.out; omega
     have hx : x = r := by have h := J6.out; rw [hjm, List.drop_length] at h; exact Option.some.inj h
     subst hx;obtain ⟨i0, hi0⟩ : ∃ i, Try.prog.info? 3 = some i := ⟨_, rfl⟩
     have hcut := cut_cap (P := Try.prog) 23 3 .i64 Try.underlying23 hi0 A2 x.length c2 (x.length : Int) (by omega) (by omega) (Kd.R_reads' J2.out).2.1;rw [Int.toNat_natCast] at hcut;clear hj hjm hi0
     go_wp2
     go_ret;exact ⟨_, rfl, Kd.R_cap1 J2.out, J5.out⟩
    have c1 : decide ((j : Int) < (o.length : Int)) = true := decide_eq_true (by omega);have c2_ : decide (j < o.length) = true := decide_eq_true hj;have hj2 : j < (ordOf l0_1 l0_1.length).length := by have := HOL.out; omega
    have h6 := J6.out;rw [List.drop_eq_getElem_cons hj2] at h6;have hrd : rd (ordOf l0_1 l0_1.length) (j : Int) = (ordOf l0_1 l0_1.length)[j] := rd_at hj2;rw [← hrd] at h6
    unfold treeL at h6
    obtain ⟨p, hp, h7⟩ := Option.bind_eq_some_iff.1 h6;obtain ⟨ad, e, hxc⟩ := Kd.at_int (Kd.R_reads' J3.out).2.2 (j : Int) (by omega) (by omega);cases e;rw [Int.toNat_natCast] at hxc;generalize rd (ordOf l0_1 l0_1.length) (j : Int) = q at hxc h7;have hq : (0 ≤ q ∧ q < (l0_1.length : Int)) ∧ (0 ≤ (rd_T58 l0_1 q).f0 ∧ (rd_T58 l0_1 q).f0 < (p.length : Int)) ∧ (0 ≤ (rd_T58 l0_1 q).f1 ∧ (rd_T58 l0_1 q).f1 < (p.length : Int)) := by
     apply Decidable.byContradiction
     intro hc;rw [if_neg hc] at h7;exact absurd h7 (by simp)
    rw [if_pos hq] at h7;obtain ⟨ad5, e5, _, _, _, _, _⟩ := at_T58 (Kd.C_below HR.out J5.out) q hq.1.1 hq.1.2;cases e5;have HP := I hp;have HQ := I hq.1;have hu' := hq.2;generalize hf : rd_T58 l0_1 q = a at hu' h7;have HF := I hf;have HU := I hu';have p0 := eq_true hq.1.1;have p1 := eq_true hq.1.2;have p2 := eq_true hu'.1.1;have p3 := eq_true hu'.1.2;have p4 := eq_true hu'.2.1;have p5 := eq_true hu'.2.2;have p6 : ((0 : Int) ≤ (j : Int)) = True := eq_true (by omega);have p7 : ((j : Int) < (o.length : Int)) = True := eq_true (by omega);have hw : wrap64 ((j : Int) + 1) = ((j + 1 : Nat) : Int) := by have h1 := HL.out; have h2 := HOL.out; rw [ordOf_len] at h2; unfold wrap64; omega
    have HW := I hw;have HJ := I hj;have H7 := I h7;have qj0 : wr.cell? ⟨gN, 0, none⟩ = some (.int .i64 a0_0) := (blk_cell J4.out 0).trans rfl;have qj1 : wr.cell? ⟨gN, 1, none⟩ = some (.slice (some ad5) l0_1.length c0_1) := (blk_cell J4.out 1).trans rfl;clear hw hj hj2 h6 h7 hp hq hu' hf hrd J6
    go_wp2_with (first | (go_at_call 105; refine (impl_Net_joined.calls k a0_0 (some ad5) c0_1 l0_1 A2 c2 x p wr (Kd.C_below HR.out J5.out) HC.out (Kd.R_reads' J2.out).2.2 (Kd.R_reads' J2.out).2.1 HP.out).mono ?_; rintro e w6 ⟨v6, rfl, hR6, hb6⟩; obtain ⟨A6, c6, rfl⟩ := Kd.R_slice hR6; have O6 := I (Kd.R_below J2.out hb6); have Q6 := I (Kd.R_below J3.out hb6); have M6 := I (blk_below J4.out hb6); have B6 := I (below_step J5.out hb6); have q61 : w6.cell? ⟨gN, 1, none⟩ = some (.slice (some ad5) l0_1.length c0_1) := (blk_cell M6.out 1).trans rfl; obtain ⟨ad6, e6, hp0⟩ := Kd.at_int (Kd.R_reads' hR6).2.2 a.f0 HU.out.1.1 HU.out.1.2; obtain ⟨ad6', e6', hp1⟩ := Kd.at_int (Kd.R_reads' hR6).2.2 a.f1 HU.out.2.1 HU.out.2.2; cases e6; cases e6'; obtain ⟨ad5', e5', hx0, hx1, _, _, _⟩ := at_T58 (Kd.C_below HR.out B6.out) q HQ.out.1 HQ.out.2; cases e5'; rw [HF.out] at hx0 hx1; clear hR6 hb6 qj0 qj1 hxc))
    go_quiet (first | done)
    clear hx0 hx1 hp0 hp1 q61;have O9 := I (Kd.R_drewN O6.out nq);have Q9 := I (Kd.R_drewN Q6.out nq);have M9 := I (blk_drewN M6.out nq);have B9 := I (pw_below_drewN B6.out nq);clear O6 Q6 M6 B6 J2 J3 J4 J5;generalize w6.drewN nq = w9 at O9 Q9 M9 B9 ⊢
    by_cases hne : rd p a.f0 = rd p a.f1
    case pos =>
     have h8 := H7.out;rw [if_pos hne] at h8;have H8 := I h8;have d1 : (rd p a.f0 != rd p a.f1) = false := bne_eq_false_iff_eq.2 hne;have d2 : (rd p a.f0 == rd p a.f1) = true := beq_iff_eq.2 hne;clear h8 H7 hne
     go_wp2
     have hj2 := HJ.out;go_roundg (o.length - (j + 1))
     case measure => have := J1.out.2; omega
     case rel => exact ⟨j + 1, x, A2, c2, rfl, by first | rfl | (rw [HW.out]; done) | (simp [HW.out]; done), ⟨⟨by omega, by omega, by have := J1.out.2.2; omega⟩⟩, O9, Q9, M9, B9, H8⟩
    have h8 := H7.out;rw [if_neg hne] at h8;have H8 := I h8;have d1 : (rd p a.f0 != rd p a.f1) = true := bne_iff_ne.2 hne;have d2 : (rd p a.f0 == rd p a.f1) = false := beq_eq_false_iff_ne.2 hne;clear h8 H7 hne
    go_wp2_with (first | ((with_reducible refine gate_builtin (b := .append) (xs := #[.tmp 61, .tmp 63]) rfl ?_); at_builtin; refine Kd.R_append (Kd.int .i64) (w0 := w) w.heap.size rfl (.tmp 61) (.tmp 63) 23 3 (.int .i64 0) 8 rfl Try.underlying23 info3 rfl (by decide) (by omega) (.slice A2 x.length c2) x q [.int .i64 q] (fun _ => True) (fun _ => False) rfl rfl ?aP (fun _ hk => hk.elim) ?aF O9.out B9.out ?aS ?aL ?_; (case aP => exact rfl); (case aF => exact fun _ _ => trivial); (case aS => exact below_size B9.out); (case aL => have h1 := HL.out; have h2 := HOL.out; have h3 := J1.out.2.2; have h4 := HJ.out; rw [ordOf_len] at h2; omega); intro v7 w7 ho hb hg hat; obtain ⟨A7, c7, rfl⟩ := Kd.R_slice ho; have R7 := I ho; have B7 := I hb; have M7 := I (blk_grown M9.out hg (Kd.R_ne O9.out M9.out (by decide))); have K7 := I (Kd.R_after (ok := fun _ => True) Q9.out hg hat); clear ho hb hg hat))
    have hj2 := HJ.out;go_roundg (o.length - (j + 1))
    case measure => have := J1.out.2; omega
    case rel => exact ⟨j + 1, x ++ [q], A7, c7, by simp, by first | rfl | (rw [HW.out]; done) | (simp [HW.out]; done), ⟨⟨by omega, by omega, by have := J1.out.2.2; simp; omega⟩⟩, R7, K7, M7, B7, H8⟩
end Go.Proofs.Ytlhmljngjdfbpaa.Pr
end
section
namespace Go.Proofs.Ytlhmljngjdfbpaa.Pr
open Go.RowKit Go.Proofs.YtlhmljngjdfbpaaW.PrintWords Go.Proofs.YtlhmljngjdfbpaaW.PrintLast Go.Proofs.YtlhmljngjdfbpaaW.PrintMore
attribute [local go_sem] max2_int min2_int max_two min_two max_three min_three max_four min_four
set_option linter.unusedVariables false
set_option linter.unusedSimpArgs false
open List renaming setIfInBounds_toArray → J,set_cons_zero → U,set_cons_succ → O
open Go.Proofs.YtlhmljngjdfbpaaW.PrintWords.Aside0 renaming mk → I
def spec_l1In.f (a0 : Int) (a1 : Int) (a2 : Int) : Option (Bool):=if a0 ≥ a1 then (some (decide (a0 ≤ a2))) else (some false)
set_option maxHeartbeats 8000000 in
set_option maxRecDepth 100000 in
theorem spec_l1In.calls (a0 : Int) (a1 : Int) (a2 : Int) (r : Bool) (w : World) (h : spec_l1In.f a0 a1 a2 = some r) :
  Calls Try.prog 90 #[.int .i64 a0,.int .i64 a1,.int .i64 a2] w fun e w' => e = .returned (.bool r) ∧ Drawn0 w w':=by
 have H : (if a0 ≥ a1 then (some (decide (a0 ≤ a2))) else (some false)) = some r:=h;clear h
 by_cases c4 : a0 ≥ a1
 case pos =>
  rw [if_pos c4] at H;have c4b0 : decide (a1 ≤ a0) = true:=decide_eq_true c4;clear c4;obtain rfl:=Option.some.inj H
  go_enter Try.func90,Try.ntmps90
  go_wp2
  go_ret;exact ⟨by first | rfl | (simp; done) | (simp [*]; done),by repeat (first | exact Drawn0.refl _ | apply Drawn0.step)⟩
 rw [if_neg c4] at H;have c4b0 : decide (a1 ≤ a0) = false:=decide_eq_false c4;clear c4;obtain rfl:=Option.some.inj H
 go_enter Try.func90,Try.ntmps90
 go_wp2
 go_ret;exact ⟨by first | rfl | (simp; done) | (simp [*]; done),by repeat (first | exact Drawn0.refl _ | apply Drawn0.step)⟩
def spec_l1Ok.l0 : Nat → Int → Int → List (S58) → Option (Bool)
 | 0,_,_,_ => none
 | k + 1,x3,x335000,x335001 => if x3 < (x335001.length : Int) then (if 0 ≤ x3 then ((spec_l1In.f ((rd_T58 x335001 x3).f0) 0 (wrap64 (x335000 - 1))).bind fun t338 => (if t338 = true then ((spec_l1In.f ((rd_T58 x335001 x3).f1) 0 (wrap64 (x335000 - 1))).bind fun t339 => (if t339 = true then (if ((rd_T58 x335001 x3).f0) = ((rd_T58 x335001 x3).f1) then (some false) else ((spec_l1In.f ((rd_T58 x335001 x3).f2) 0 99).bind fun t340 => (if t340 = true then ((spec_l1In.f ((rd_T58 x335001 x3).f3) 0 99).bind fun t341 => (if t341 = true then ((spec_l1In.f ((rd_T58 x335001 x3).f4) 0 9).bind fun t342 => (if t342 = true then (spec_l1Ok.l0 k (wrap64 (x3 + 1)) x335000 x335001) else (some false))) else (some false))) else (some false)))) else (some false))) else (some false))) else (none)) else ((spec_l1In.f x335000 1 8).bind fun t335 => (if t335 = true then (some (decide ((x335001.length : Int) ≤ 16))) else (some false)))
def spec_l1Ok.f (k : Nat) (a0_0 : Int) (l0_1 : List (S58)) : Option (Bool):=spec_l1Ok.l0 k 0 a0_0 l0_1
set_option maxHeartbeats 8000000 in
set_option maxRecDepth 100000 in
theorem spec_l1Ok.calls (k : Nat) (a0_0 : Int) (A0_1 : Option Addr) (c0_1 : Nat) (l0_1 : List (S58)) (r : Bool) (w : World) (hr0_1 : Kd.C k58 w A0_1 l0_1.length l0_1) (hc0_1 : l0_1.length ≤ c0_1) (h : spec_l1Ok.f k a0_0 l0_1 = some r) :
  Calls Try.prog 76 #[.agg #[.int .i64 a0_0,.slice A0_1 l0_1.length c0_1]] w fun e w' => e = .returned (.bool r) ∧ Below w.heap.size w w':=by
 have hu34:=Try.underlying34;have hu58:=Try.underlying58;have HR0_1:=I hr0_1;have HC0_1:=I hc0_1;clear hr0_1 hc0_1;have HB:=I (Below.refl w.heap.size w);have H : (spec_l1Ok.l0 k 0 a0_0 l0_1) = some r:=h;clear h;have H':=I H;clear H
 go_enter Try.func76,Try.ntmps76
 go_wp2_with (first | ((with_reducible refine gate_dst (N:=1) rfl ?_); (try (refine gate_guard (by rfl) ?_; dsimp only)); refine box_event ?hg (N:=1) ?hd (cs:=#[.int .i64 a0_0,.slice A0_1 l0_1.length c0_1]) (t:=34) ?hr ?_; (case hd => rfl); (case hg => rfl); (case hr => first | (go_simp; done) | (go_simp; rfl)); intro gb334 hg w2 hbox hb; have n0_:=I (below_step (by repeat (first | (with_reducible first | exact HB.out | apply below_alloc | apply pw_below_drewN | apply below_drew1) | exact HB.out)) hb); have n1_:=I (hbox); have n2_:=I ((by rw [hg]; exact (below_size (by repeat (first | (with_reducible first | exact HB.out | apply below_alloc | apply pw_below_drewN | apply below_drew1) | exact HB.out))) : w.heap.size ≤ gb334)); have n3_:=I ((by rw [hg]; exact (below_size (by repeat (first | (with_reducible first | exact HB.out | apply below_alloc | apply pw_below_drewN | apply below_drew1) | exact HB.out))) : w.heap.size ≤ gb334)); clear HB; have HB:=n0_; have BK334:=n1_; have GW334:=n2_; have GE334:=n3_; clear n0_ n1_ n2_ n3_; clear hb hbox hg))
 go_loopg [3] k (fun kq v3 w' => ∃ (x3_1 : Int),v3 = .int .i64 x3_1 ∧ Aside0 (spec_l1Ok.l0 kq x3_1 a0_0 l0_1 = some r) ∧ Aside0 (kq ≤ k) ∧ Aside0 (w'.heap[gb334]? = some (.cells #[.int .i64 a0_0,(.slice A0_1 l0_1.length c0_1)] 34 (0,0))) ∧ Aside0 (Below w.heap.size w w'))
 case atStart => exact ⟨(0),(by first | rfl | (simp; done) | (simp [*]; done)),H',⟨Nat.le_refl _⟩,⟨by (with_reducible repeat (first | refine blk_drewN ?_ _ | refine blk_drew ?_ | refine blk_alloc ?_ _)); exact BK334.out⟩,⟨by repeat (first | (with_reducible first | exact HB.out | apply below_alloc | apply pw_below_drewN | apply below_drew1 | refine below_set ?_ GE334.out) | exact HB.out)⟩⟩
 case round =>
  clear H'
  try clear p2
  obtain ⟨x3_1,rfl,HA,HK1,BK334,HB⟩:=hrel;cases gk with
  | zero => exact absurd HA.out (by simp [spec_l1Ok.l0])
  | succ k1 =>
   have H:=HA.out;clear HA;simp only [spec_l1Ok.l0] at H
   by_cases c3 : x3_1 < (l0_1.length : Int)
   case neg =>
    rw [if_neg c3] at H;have c3b0 : decide (x3_1 < (l0_1.length : Int)) = false:=decide_eq_false c3;clear c3;replace H:=Option.bind_eq_some_iff.mp H;obtain ⟨t335,A510,H⟩:=H;replace H : (if t335 = true then (some (decide ((l0_1.length : Int) ≤ 16))) else (some false)) = some r:=H;have A51:=I A510;clear A510
    by_cases c52 : t335 = true
    case pos =>
     subst c52;have H1 : (some (decide ((l0_1.length : Int) ≤ 16))) = some r:=by rw [if_pos rfl] at H; exact H
     clear H;have H:=H1;clear H1;obtain rfl:=Option.some.inj H;have hcz53_0 : wr.cell? ⟨gb334,0,none⟩ = some (.int .i64 a0_0):=(blk_cell BK334.out 0).trans rfl;have hcz53_1 : wr.cell? ⟨gb334,1,none⟩ = some (.slice A0_1 l0_1.length c0_1):=(blk_cell BK334.out 1).trans rfl;have hfz53_0:=blk_frozen BK334.out 0;have hfz53_1:=blk_frozen BK334.out 1
     go_wp2_with (first | ((with_reducible refine gate_callee (f:=90) rfl ?_); refine goesL_ (some 60) rfl rfl Try.func90 (by kernel_rfl) rfl #[.int .i64 a0_0,.int .i64 1,.int .i64 8] rfl (by (try simp only [List.map_toArray,List.map_cons,List.map_nil]); first | done | rfl | (simp only [List.length_drop,List.length_take]; rfl)) ?_; (with_reducible refine (spec_l1In.calls a0_0 1 8 true _ A51.out).mono ?_); rintro e w' ⟨rfl,⟨nd,rfl⟩⟩; refine ⟨_,rfl,?_⟩))
     go_ret;exact ⟨by first | rfl | (simp [errW_none,errW_some] <;> rfl) | (simp [*,errW_none,errW_some] <;> rfl),by repeat (first | (with_reducible first | exact HB.out | apply below_alloc | apply pw_below_drewN | apply below_drew1 | refine below_set ?_ GE334.out) | exact HB.out)⟩
    replace c52:=Bool.eq_false_iff.mpr c52;subst c52;have H1 : (some false) = some r:=by rw [if_neg (show ¬ (false = true) by decide)] at H; exact H
    clear H;have H:=H1;clear H1;obtain rfl:=Option.some.inj H;have hcz54_0 : wr.cell? ⟨gb334,0,none⟩ = some (.int .i64 a0_0):=(blk_cell BK334.out 0).trans rfl;have hcz54_1 : wr.cell? ⟨gb334,1,none⟩ = some (.slice A0_1 l0_1.length c0_1):=(blk_cell BK334.out 1).trans rfl;have hfz54_0:=blk_frozen BK334.out 0;have hfz54_1:=blk_frozen BK334.out 1
    go_wp2_with (first | ((with_reducible refine gate_callee (f:=90) rfl ?_); refine goesL_ (some 60) rfl rfl Try.func90 (by kernel_rfl) rfl #[.int .i64 a0_0,.int .i64 1,.int .i64 8] rfl (by (try simp only [List.map_toArray,List.map_cons,List.map_nil]); first | done | rfl | (simp only [List.length_drop,List.length_take]; rfl)) ?_; (with_reducible refine (spec_l1In.calls a0_0 1 8 false _ A51.out).mono ?_); rintro e w' ⟨rfl,⟨nd,rfl⟩⟩; refine ⟨_,rfl,?_⟩))
    go_ret;exact ⟨by first | rfl | (simp [errW_none,errW_some] <;> rfl) | (simp [*,errW_none,errW_some] <;> rfl),by repeat (first | (with_reducible first | exact HB.out | apply below_alloc | apply pw_below_drewN | apply below_drew1 | refine below_set ?_ GE334.out) | exact HB.out)⟩
   rw [if_pos c3] at H;have c3b0 : decide (x3_1 < (l0_1.length : Int)) = true:=decide_eq_true c3;clear c3
   by_cases c4 : 0 ≤ x3_1
   case neg =>
    rw [if_neg c4] at H;exact absurd H (by simp)
   rw [if_pos c4] at H;have c4b0 : decide (0 ≤ x3_1) = true:=decide_eq_true c4;clear c4;replace H:=Option.bind_eq_some_iff.mp H;obtain ⟨t338,A50,H⟩:=H;replace H : (if t338 = true then ((spec_l1In.f ((rd_T58 l0_1 x3_1).f1) 0 (wrap64 (a0_0 - 1))).bind fun t339 => (if t339 = true then (if ((rd_T58 l0_1 x3_1).f0) = ((rd_T58 l0_1 x3_1).f1) then (some false) else ((spec_l1In.f ((rd_T58 l0_1 x3_1).f2) 0 99).bind fun t340 => (if t340 = true then ((spec_l1In.f ((rd_T58 l0_1 x3_1).f3) 0 99).bind fun t341 => (if t341 = true then ((spec_l1In.f ((rd_T58 l0_1 x3_1).f4) 0 9).bind fun t342 => (if t342 = true then (spec_l1Ok.l0 k1 (wrap64 (x3_1 + 1)) a0_0 l0_1) else (some false))) else (some false))) else (some false)))) else (some false))) else (some false)) = some r:=H;have A5:=I A50;clear A50
   by_cases c6 : t338 = true
   case neg =>
    replace c6:=Bool.eq_false_iff.mpr c6;subst c6;have H1 : (some false) = some r:=by rw [if_neg (show ¬ (false = true) by decide)] at H; exact H
    clear H;have H:=H1;clear H1;obtain rfl:=Option.some.inj H;have hcz46_0 : wr.cell? ⟨gb334,0,none⟩ = some (.int .i64 a0_0):=(blk_cell BK334.out 0).trans rfl;have hcz46_1 : wr.cell? ⟨gb334,1,none⟩ = some (.slice A0_1 l0_1.length c0_1):=(blk_cell BK334.out 1).trans rfl;have hfz46_0:=blk_frozen BK334.out 0;have hfz46_1:=blk_frozen BK334.out 1;have p336 : 0 ≤ (x3_1 : Int):=of_decide_eq_true (by first | (with_reducible assumption) | assumption);have q336 : x3_1 < (l0_1.length : Int):=of_decide_eq_true (by first | (with_reducible assumption) | assumption);obtain ⟨ad336,e336,hx336_0,hx336_1,hx336_2,hx336_3,hx336_4⟩:=at_T58 HR0_1.out x3_1 p336 q336;cases e336;replace hx336_0:=(HB.out.cell (World.block_lt_of_cell? w _ hx336_0)).trans hx336_0;replace hx336_1:=(HB.out.cell (World.block_lt_of_cell? w _ hx336_1)).trans hx336_1;replace hx336_2:=(HB.out.cell (World.block_lt_of_cell? w _ hx336_2)).trans hx336_2;replace hx336_3:=(HB.out.cell (World.block_lt_of_cell? w _ hx336_3)).trans hx336_3;replace hx336_4:=(HB.out.cell (World.block_lt_of_cell? w _ hx336_4)).trans hx336_4;replace p336:=eq_true p336;replace q336:=eq_true q336
    go_wp2_with (first | ((with_reducible refine gate_dst (N:=4) rfl ?_); (try (refine gate_guard (by rfl) ?_; dsimp only)); refine box_event ?hg (N:=4) ?hd (cs:=#[.int .i64 0,.int .i64 0,.int .i64 0,.int .i64 0,.int .i64 0]) (t:=58) ?hr ?_; (case hd => rfl); (case hg => rfl); (case hr => first | (go_simp; done) | (go_simp; rfl)); intro gb337 hg w47 hbox hb; have n0_:=I (blk_below (g:=gb334) (o:=.cells #[.int .i64 a0_0,.slice (some ad336) l0_1.length c0_1] 34 (0,0)) (by (with_reducible repeat (first | refine blk_drewN ?_ _ | refine blk_drew ?_ | refine blk_alloc ?_ _)); exact BK334.out) hb); have n1_:=I (below_step (by repeat (first | (with_reducible first | exact HB.out | apply below_alloc | apply pw_below_drewN | apply below_drew1 | refine below_set ?_ GE334.out) | exact HB.out)) hb); have n2_:=I (hbox); have n3_:=I ((by rw [hg]; exact (below_size (by repeat (first | (with_reducible first | exact HB.out | apply below_alloc | apply pw_below_drewN | apply below_drew1 | refine below_set ?_ GE334.out) | exact HB.out))) : w.heap.size ≤ gb337)); have n4_:=I ((by rw [hg]; exact (below_size (by repeat (first | (with_reducible first | exact HB.out | apply below_alloc | apply pw_below_drewN | apply below_drew1 | refine below_set ?_ GE334.out) | exact HB.out))) : w.heap.size ≤ gb337)); have n5_:=I ((by rw [hg]; exact Nat.ne_of_lt (blk_lt (g:=gb334) (o:=.cells #[.int .i64 a0_0,.slice (some ad336) l0_1.length c0_1] 34 (0,0)) (by (with_reducible repeat (first | refine blk_drewN ?_ _ | refine blk_drew ?_ | refine blk_alloc ?_ _)); exact BK334.out)) : gb334 ≠ gb337)); have n6_:=I ((by rw [hg]; exact Nat.ne_of_gt (blk_lt (g:=gb334) (o:=.cells #[.int .i64 a0_0,.slice (some ad336) l0_1.length c0_1] 34 (0,0)) (by (with_reducible repeat (first | refine blk_drewN ?_ _ | refine blk_drew ?_ | refine blk_alloc ?_ _)); exact BK334.out)) : gb337 ≠ gb334)); clear BK334; clear HB; have BK334:=n0_; have HB:=n1_; have BK337:=n2_; have GW337:=n3_; have GE337:=n4_; have NB334_337:=n5_; have NB337_334:=n6_; clear n0_ n1_ n2_ n3_ n4_ n5_ n6_; clear hb hbox hg; have hnb48:=NB337_334.out; have hnc48:=NB334_337.out; have hcz49_0 : w47.cell? ⟨gb337,0,none⟩ = some (.int .i64 0):=(blk_cell BK337.out 0).trans rfl; have hcz49_1 : w47.cell? ⟨gb337,1,none⟩ = some (.int .i64 0):=(blk_cell BK337.out 1).trans rfl; have hcz49_2 : w47.cell? ⟨gb337,2,none⟩ = some (.int .i64 0):=(blk_cell BK337.out 2).trans rfl; have hcz49_3 : w47.cell? ⟨gb337,3,none⟩ = some (.int .i64 0):=(blk_cell BK337.out 3).trans rfl; have hcz49_4 : w47.cell? ⟨gb337,4,none⟩ = some (.int .i64 0):=(blk_cell BK337.out 4).trans rfl; have hfz49_0:=blk_frozen BK337.out 0; have hfz49_1:=blk_frozen BK337.out 1; have hfz49_2:=blk_frozen BK337.out 2; have hfz49_3:=blk_frozen BK337.out 3; have hfz49_4:=blk_frozen BK337.out 4; have hcz50_0 : w47.cell? ⟨gb334,0,none⟩ = some (.int .i64 a0_0):=(blk_cell BK334.out 0).trans rfl; have hcz50_1 : w47.cell? ⟨gb334,1,none⟩ = some (.slice (some ad336) l0_1.length c0_1):=(blk_cell BK334.out 1).trans rfl; have hfz50_0:=blk_frozen BK334.out 0; have hfz50_1:=blk_frozen BK334.out 1) | ((with_reducible refine gate_callee (f:=90) rfl ?_); refine goesL_ (some 22) rfl rfl Try.func90 (by kernel_rfl) rfl #[.int .i64 ((rd_T58 l0_1 x3_1).f0),.int .i64 0,.int .i64 (wrap64 (a0_0 - 1))] rfl (by (try simp only [List.map_toArray,List.map_cons,List.map_nil]); first | done | rfl | (simp only [List.length_drop,List.length_take]; rfl)) ?_; (with_reducible refine (spec_l1In.calls ((rd_T58 l0_1 x3_1).f0) 0 (wrap64 (a0_0 - 1)) false _ A5.out).mono ?_); rintro e w' ⟨rfl,⟨nd,rfl⟩⟩; refine ⟨_,rfl,?_⟩))
    go_ret;exact ⟨by first | rfl | (simp [errW_none,errW_some] <;> rfl) | (simp [*,errW_none,errW_some] <;> rfl),by repeat (first | (with_reducible first | exact HB.out | apply below_alloc | apply pw_below_drewN | apply below_drew1 | refine below_set ?_ GE334.out | refine below_set ?_ GE337.out) | exact HB.out)⟩
   subst c6;have H1 : ((spec_l1In.f ((rd_T58 l0_1 x3_1).f1) 0 (wrap64 (a0_0 - 1))).bind fun t339 => (if t339 = true then (if ((rd_T58 l0_1 x3_1).f0) = ((rd_T58 l0_1 x3_1).f1) then (some false) else ((spec_l1In.f ((rd_T58 l0_1 x3_1).f2) 0 99).bind fun t340 => (if t340 = true then ((spec_l1In.f ((rd_T58 l0_1 x3_1).f3) 0 99).bind fun t341 => (if t341 = true then ((spec_l1In.f ((rd_T58 l0_1 x3_1).f4) 0 9).bind fun t342 => (if t342 = true then (spec_l1Ok.l0 k1 (wrap64 (x3_1 + 1)) a0_0 l0_1) else (some false))) else (some false))) else (some false)))) else (some false))) = some r:=by rw [if_pos rfl] at H; exact H
   clear H;have H:=H1;clear H1;replace H:=Option.bind_eq_some_iff.mp H;obtain ⟨t339,A70,H⟩:=H;replace H : (if t339 = true then (if ((rd_T58 l0_1 x3_1).f0) = ((rd_T58 l0_1 x3_1).f1) then (some false) else ((spec_l1In.f ((rd_T58 l0_1 x3_1).f2) 0 99).bind fun t340 => (if t340 = true then ((spec_l1In.f ((rd_T58 l0_1 x3_1).f3) 0 99).bind fun t341 => (if t341 = true then ((spec_l1In.f ((rd_T58 l0_1 x3_1).f4) 0 9).bind fun t342 => (if t342 = true then (spec_l1Ok.l0 k1 (wrap64 (x3_1 + 1)) a0_0 l0_1) else (some false))) else (some false))) else (some false)))) else (some false)) = some r:=H;have A7:=I A70;clear A70
   by_cases c8 : t339 = true
   case neg =>
    replace c8:=Bool.eq_false_iff.mpr c8;subst c8;have H1 : (some false) = some r:=by rw [if_neg (show ¬ (false = true) by decide)] at H; exact H
    clear H;have H:=H1;clear H1;obtain rfl:=Option.some.inj H;have hcz41_0 : wr.cell? ⟨gb334,0,none⟩ = some (.int .i64 a0_0):=(blk_cell BK334.out 0).trans rfl;have hcz41_1 : wr.cell? ⟨gb334,1,none⟩ = some (.slice A0_1 l0_1.length c0_1):=(blk_cell BK334.out 1).trans rfl;have hfz41_0:=blk_frozen BK334.out 0;have hfz41_1:=blk_frozen BK334.out 1;have p336 : 0 ≤ (x3_1 : Int):=of_decide_eq_true (by first | (with_reducible assumption) | assumption);have q336 : x3_1 < (l0_1.length : Int):=of_decide_eq_true (by first | (with_reducible assumption) | assumption);obtain ⟨ad336,e336,hx336_0,hx336_1,hx336_2,hx336_3,hx336_4⟩:=at_T58 HR0_1.out x3_1 p336 q336;cases e336;replace hx336_0:=(HB.out.cell (World.block_lt_of_cell? w _ hx336_0)).trans hx336_0;replace hx336_1:=(HB.out.cell (World.block_lt_of_cell? w _ hx336_1)).trans hx336_1;replace hx336_2:=(HB.out.cell (World.block_lt_of_cell? w _ hx336_2)).trans hx336_2;replace hx336_3:=(HB.out.cell (World.block_lt_of_cell? w _ hx336_3)).trans hx336_3;replace hx336_4:=(HB.out.cell (World.block_lt_of_cell? w _ hx336_4)).trans hx336_4;replace p336:=eq_true p336;replace q336:=eq_true q336
    go_wp2_with (first | ((with_reducible refine gate_dst (N:=4) rfl ?_); (try (refine gate_guard (by rfl) ?_; dsimp only)); refine box_event ?hg (N:=4) ?hd (cs:=#[.int .i64 0,.int .i64 0,.int .i64 0,.int .i64 0,.int .i64 0]) (t:=58) ?hr ?_; (case hd => rfl); (case hg => rfl); (case hr => first | (go_simp; done) | (go_simp; rfl)); intro gb337 hg w42 hbox hb; have n0_:=I (blk_below (g:=gb334) (o:=.cells #[.int .i64 a0_0,.slice (some ad336) l0_1.length c0_1] 34 (0,0)) (by (with_reducible repeat (first | refine blk_drewN ?_ _ | refine blk_drew ?_ | refine blk_alloc ?_ _)); exact BK334.out) hb); have n1_:=I (below_step (by repeat (first | (with_reducible first | exact HB.out | apply below_alloc | apply pw_below_drewN | apply below_drew1 | refine below_set ?_ GE334.out) | exact HB.out)) hb); have n2_:=I (hbox); have n3_:=I ((by rw [hg]; exact (below_size (by repeat (first | (with_reducible first | exact HB.out | apply below_alloc | apply pw_below_drewN | apply below_drew1 | refine below_set ?_ GE334.out) | exact HB.out))) : w.heap.size ≤ gb337)); have n4_:=I ((by rw [hg]; exact (below_size (by repeat (first | (with_reducible first | exact HB.out | apply below_alloc | apply pw_below_drewN | apply below_drew1 | refine below_set ?_ GE334.out) | exact HB.out))) : w.heap.size ≤ gb337)); have n5_:=I ((by rw [hg]; exact Nat.ne_of_lt (blk_lt (g:=gb334) (o:=.cells #[.int .i64 a0_0,.slice (some ad336) l0_1.length c0_1] 34 (0,0)) (by (with_reducible repeat (first | refine blk_drewN ?_ _ | refine blk_drew ?_ | refine blk_alloc ?_ _)); exact BK334.out)) : gb334 ≠ gb337)); have n6_:=I ((by rw [hg]; exact Nat.ne_of_gt (blk_lt (g:=gb334) (o:=.cells #[.int .i64 a0_0,.slice (some ad336) l0_1.length c0_1] 34 (0,0)) (by (with_reducible repeat (first | refine blk_drewN ?_ _ | refine blk_drew ?_ | refine blk_alloc ?_ _)); exact BK334.out)) : gb337 ≠ gb334)); clear BK334; clear HB; have BK334:=n0_; have HB:=n1_; have BK337:=n2_; have GW337:=n3_; have GE337:=n4_; have NB334_337:=n5_; have NB337_334:=n6_; clear n0_ n1_ n2_ n3_ n4_ n5_ n6_; clear hb hbox hg; have hnb43:=NB337_334.out; have hnc43:=NB334_337.out; have hcz44_0 : w42.cell? ⟨gb337,0,none⟩ = some (.int .i64 0):=(blk_cell BK337.out 0).trans rfl; have hcz44_1 : w42.cell? ⟨gb337,1,none⟩ = some (.int .i64 0):=(blk_cell BK337.out 1).trans rfl; have hcz44_2 : w42.cell? ⟨gb337,2,none⟩ = some (.int .i64 0):=(blk_cell BK337.out 2).trans rfl; have hcz44_3 : w42.cell? ⟨gb337,3,none⟩ = some (.int .i64 0):=(blk_cell BK337.out 3).trans rfl; have hcz44_4 : w42.cell? ⟨gb337,4,none⟩ = some (.int .i64 0):=(blk_cell BK337.out 4).trans rfl; have hfz44_0:=blk_frozen BK337.out 0; have hfz44_1:=blk_frozen BK337.out 1; have hfz44_2:=blk_frozen BK337.out 2; have hfz44_3:=blk_frozen BK337.out 3; have hfz44_4:=blk_frozen BK337.out 4; have hcz45_0 : w42.cell? ⟨gb334,0,none⟩ = some (.int .i64 a0_0):=(blk_cell BK334.out 0).trans rfl; have hcz45_1 : w42.cell? ⟨gb334,1,none⟩ = some (.slice (some ad336) l0_1.length c0_1):=(blk_cell BK334.out 1).trans rfl; have hfz45_0:=blk_frozen BK334.out 0; have hfz45_1:=blk_frozen BK334.out 1) | ((with_reducible refine gate_callee (f:=90) rfl ?_); refine goesL_ (some 22) rfl rfl Try.func90 (by kernel_rfl) rfl #[.int .i64 ((rd_T58 l0_1 x3_1).f0),.int .i64 0,.int .i64 (wrap64 (a0_0 - 1))] rfl (by (try simp only [List.map_toArray,List.map_cons,List.map_nil]); first | done | rfl | (simp only [List.length_drop,List.length_take]; rfl)) ?_; (with_reducible refine (spec_l1In.calls ((rd_T58 l0_1 x3_1).f0) 0 (wrap64 (a0_0 - 1)) true _ A5.out).mono ?_); rintro e w' ⟨rfl,⟨nd,rfl⟩⟩; refine ⟨_,rfl,?_⟩) | (go_at_call 90; (with_reducible refine (spec_l1In.calls ((rd_T58 l0_1 x3_1).f1) 0 (wrap64 (a0_0 - 1)) false _ A7.out).mono ?_); rintro e w' ⟨rfl,⟨nd,rfl⟩⟩))
    go_ret;exact ⟨by first | rfl | (simp [errW_none,errW_some] <;> rfl) | (simp [*,errW_none,errW_some] <;> rfl),by repeat (first | (with_reducible first | exact HB.out | apply below_alloc | apply pw_below_drewN | apply below_drew1 | refine below_set ?_ GE334.out | refine below_set ?_ GE337.out) | exact HB.out)⟩
   subst c8;have H1 : (if ((rd_T58 l0_1 x3_1).f0) = ((rd_T58 l0_1 x3_1).f1) then (some false) else ((spec_l1In.f ((rd_T58 l0_1 x3_1).f2) 0 99).bind fun t340 => (if t340 = true then ((spec_l1In.f ((rd_T58 l0_1 x3_1).f3) 0 99).bind fun t341 => (if t341 = true then ((spec_l1In.f ((rd_T58 l0_1 x3_1).f4) 0 9).bind fun t342 => (if t342 = true then (spec_l1Ok.l0 k1 (wrap64 (x3_1 + 1)) a0_0 l0_1) else (some false))) else (some false))) else (some false)))) = some r:=by rw [if_pos rfl] at H; exact H
   clear H;have H:=H1;clear H1
   by_cases c9 : ((rd_T58 l0_1 x3_1).f0) = ((rd_T58 l0_1 x3_1).f1)
   case pos =>
    rw [if_pos c9] at H;have c9b0 : (((rd_T58 l0_1 x3_1).f0) == ((rd_T58 l0_1 x3_1).f1)) = true:=beq_iff_eq.mpr c9;have c9b1 : (((rd_T58 l0_1 x3_1).f0) != ((rd_T58 l0_1 x3_1).f1)) = false:=bne_eq_false_iff_eq.mpr c9;clear c9;obtain rfl:=Option.some.inj H;have hcz10_0 : wr.cell? ⟨gb334,0,none⟩ = some (.int .i64 a0_0):=(blk_cell BK334.out 0).trans rfl;have hcz10_1 : wr.cell? ⟨gb334,1,none⟩ = some (.slice A0_1 l0_1.length c0_1):=(blk_cell BK334.out 1).trans rfl;have hfz10_0:=blk_frozen BK334.out 0;have hfz10_1:=blk_frozen BK334.out 1;have p336 : 0 ≤ (x3_1 : Int):=of_decide_eq_true (by first | (with_reducible assumption) | assumption);have q336 : x3_1 < (l0_1.length : Int):=of_decide_eq_true (by first | (with_reducible assumption) | assumption);obtain ⟨ad336,e336,hx336_0,hx336_1,hx336_2,hx336_3,hx336_4⟩:=at_T58 HR0_1.out x3_1 p336 q336;cases e336;replace hx336_0:=(HB.out.cell (World.block_lt_of_cell? w _ hx336_0)).trans hx336_0;replace hx336_1:=(HB.out.cell (World.block_lt_of_cell? w _ hx336_1)).trans hx336_1;replace hx336_2:=(HB.out.cell (World.block_lt_of_cell? w _ hx336_2)).trans hx336_2;replace hx336_3:=(HB.out.cell (World.block_lt_of_cell? w _ hx336_3)).trans hx336_3;replace hx336_4:=(HB.out.cell (World.block_lt_of_cell? w _ hx336_4)).trans hx336_4;replace p336:=eq_true p336;replace q336:=eq_true q336
    go_wp2_with (first | ((with_reducible refine gate_dst (N:=4) rfl ?_); (try (refine gate_guard (by rfl) ?_; dsimp only)); refine box_event ?hg (N:=4) ?hd (cs:=#[.int .i64 0,.int .i64 0,.int .i64 0,.int .i64 0,.int .i64 0]) (t:=58) ?hr ?_; (case hd => rfl); (case hg => rfl); (case hr => first | (go_simp; done) | (go_simp; rfl)); intro gb337 hg w11 hbox hb; have n0_:=I (blk_below (g:=gb334) (o:=.cells #[.int .i64 a0_0,.slice (some ad336) l0_1.length c0_1] 34 (0,0)) (by (with_reducible repeat (first | refine blk_drewN ?_ _ | refine blk_drew ?_ | refine blk_alloc ?_ _)); exact BK334.out) hb); have n1_:=I (below_step (by repeat (first | (with_reducible first | exact HB.out | apply below_alloc | apply pw_below_drewN | apply below_drew1 | refine below_set ?_ GE334.out) | exact HB.out)) hb); have n2_:=I (hbox); have n3_:=I ((by rw [hg]; exact (below_size (by repeat (first | (with_reducible first | exact HB.out | apply below_alloc | apply pw_below_drewN | apply below_drew1 | refine below_set ?_ GE334.out) | exact HB.out))) : w.heap.size ≤ gb337)); have n4_:=I ((by rw [hg]; exact (below_size (by repeat (first | (with_reducible first | exact HB.out | apply below_alloc | apply pw_below_drewN | apply below_drew1 | refine below_set ?_ GE334.out) | exact HB.out))) : w.heap.size ≤ gb337)); have n5_:=I ((by rw [hg]; exact Nat.ne_of_lt (blk_lt (g:=gb334) (o:=.cells #[.int .i64 a0_0,.slice (some ad336) l0_1.length c0_1] 34 (0,0)) (by (with_reducible repeat (first | refine blk_drewN ?_ _ | refine blk_drew ?_ | refine blk_alloc ?_ _)); exact BK334.out)) : gb334 ≠ gb337)); have n6_:=I ((by rw [hg]; exact Nat.ne_of_gt (blk_lt (g:=gb334) (o:=.cells #[.int .i64 a0_0,.slice (some ad336) l0_1.length c0_1] 34 (0,0)) (by (with_reducible repeat (first | refine blk_drewN ?_ _ | refine blk_drew ?_ | refine blk_alloc ?_ _)); exact BK334.out)) : gb337 ≠ gb334)); clear BK334; clear HB; have BK334:=n0_; have HB:=n1_; have BK337:=n2_; have GW337:=n3_; have GE337:=n4_; have NB334_337:=n5_; have NB337_334:=n6_; clear n0_ n1_ n2_ n3_ n4_ n5_ n6_; clear hb hbox hg; have hnb12:=NB337_334.out; have hnc12:=NB334_337.out; have hcz13_0 : w11.cell? ⟨gb337,0,none⟩ = some (.int .i64 0):=(blk_cell BK337.out 0).trans rfl; have hcz13_1 : w11.cell? ⟨gb337,1,none⟩ = some (.int .i64 0):=(blk_cell BK337.out 1).trans rfl; have hcz13_2 : w11.cell? ⟨gb337,2,none⟩ = some (.int .i64 0):=(blk_cell BK337.out 2).trans rfl; have hcz13_3 : w11.cell? ⟨gb337,3,none⟩ = some (.int .i64 0):=(blk_cell BK337.out 3).trans rfl; have hcz13_4 : w11.cell? ⟨gb337,4,none⟩ = some (.int .i64 0):=(blk_cell BK337.out 4).trans rfl; have hfz13_0:=blk_frozen BK337.out 0; have hfz13_1:=blk_frozen BK337.out 1; have hfz13_2:=blk_frozen BK337.out 2; have hfz13_3:=blk_frozen BK337.out 3; have hfz13_4:=blk_frozen BK337.out 4; have hcz14_0 : w11.cell? ⟨gb334,0,none⟩ = some (.int .i64 a0_0):=(blk_cell BK334.out 0).trans rfl; have hcz14_1 : w11.cell? ⟨gb334,1,none⟩ = some (.slice (some ad336) l0_1.length c0_1):=(blk_cell BK334.out 1).trans rfl; have hfz14_0:=blk_frozen BK334.out 0; have hfz14_1:=blk_frozen BK334.out 1) | ((with_reducible refine gate_callee (f:=90) rfl ?_); refine goesL_ (some 22) rfl rfl Try.func90 (by kernel_rfl) rfl #[.int .i64 ((rd_T58 l0_1 x3_1).f0),.int .i64 0,.int .i64 (wrap64 (a0_0 - 1))] rfl (by (try simp only [List.map_toArray,List.map_cons,List.map_nil]); first | done | rfl | (simp only [List.length_drop,List.length_take]; rfl)) ?_; (with_reducible refine (spec_l1In.calls ((rd_T58 l0_1 x3_1).f0) 0 (wrap64 (a0_0 - 1)) true _ A5.out).mono ?_); rintro e w' ⟨rfl,⟨nd,rfl⟩⟩; refine ⟨_,rfl,?_⟩) | (go_at_call 90; (with_reducible refine (spec_l1In.calls ((rd_T58 l0_1 x3_1).f1) 0 (wrap64 (a0_0 - 1)) true _ A7.out).mono ?_); rintro e w' ⟨rfl,⟨nd,rfl⟩⟩))
    go_ret;exact ⟨by first | rfl | (simp [errW_none,errW_some] <;> rfl) | (simp [*,errW_none,errW_some] <;> rfl),by repeat (first | (with_reducible first | exact HB.out | apply below_alloc | apply pw_below_drewN | apply below_drew1 | refine below_set ?_ GE334.out | refine below_set ?_ GE337.out) | exact HB.out)⟩
   rw [if_neg c9] at H;have c9b0 : (((rd_T58 l0_1 x3_1).f0) == ((rd_T58 l0_1 x3_1).f1)) = false:=beq_eq_false_iff_ne.mpr c9;have c9b1 : (((rd_T58 l0_1 x3_1).f0) != ((rd_T58 l0_1 x3_1).f1)) = true:=bne_iff_ne.mpr c9;replace H:=Option.bind_eq_some_iff.mp H;obtain ⟨t340,A150,H⟩:=H;replace H : (if t340 = true then ((spec_l1In.f ((rd_T58 l0_1 x3_1).f3) 0 99).bind fun t341 => (if t341 = true then ((spec_l1In.f ((rd_T58 l0_1 x3_1).f4) 0 9).bind fun t342 => (if t342 = true then (spec_l1Ok.l0 k1 (wrap64 (x3_1 + 1)) a0_0 l0_1) else (some false))) else (some false))) else (some false)) = some r:=H;have A15:=I A150;clear A150
   by_cases c16 : t340 = true
   case neg =>
    replace c16:=Bool.eq_false_iff.mpr c16;subst c16;have H1 : (some false) = some r:=by rw [if_neg (show ¬ (false = true) by decide)] at H; exact H
    clear H;have H:=H1;clear H1;obtain rfl:=Option.some.inj H;have hcz36_0 : wr.cell? ⟨gb334,0,none⟩ = some (.int .i64 a0_0):=(blk_cell BK334.out 0).trans rfl;have hcz36_1 : wr.cell? ⟨gb334,1,none⟩ = some (.slice A0_1 l0_1.length c0_1):=(blk_cell BK334.out 1).trans rfl;have hfz36_0:=blk_frozen BK334.out 0;have hfz36_1:=blk_frozen BK334.out 1;have p336 : 0 ≤ (x3_1 : Int):=of_decide_eq_true (by first | (with_reducible assumption) | assumption);have q336 : x3_1 < (l0_1.length : Int):=of_decide_eq_true (by first | (with_reducible assumption) | assumption);obtain ⟨ad336,e336,hx336_0,hx336_1,hx336_2,hx336_3,hx336_4⟩:=at_T58 HR0_1.out x3_1 p336 q336;cases e336;replace hx336_0:=(HB.out.cell (World.block_lt_of_cell? w _ hx336_0)).trans hx336_0;replace hx336_1:=(HB.out.cell (World.block_lt_of_cell? w _ hx336_1)).trans hx336_1;replace hx336_2:=(HB.out.cell (World.block_lt_of_cell? w _ hx336_2)).trans hx336_2;replace hx336_3:=(HB.out.cell (World.block_lt_of_cell? w _ hx336_3)).trans hx336_3;replace hx336_4:=(HB.out.cell (World.block_lt_of_cell? w _ hx336_4)).trans hx336_4;replace p336:=eq_true p336;replace q336:=eq_true q336
    go_wp2_with (first | ((with_reducible refine gate_dst (N:=4) rfl ?_); (try (refine gate_guard (by rfl) ?_; dsimp only)); refine box_event ?hg (N:=4) ?hd (cs:=#[.int .i64 0,.int .i64 0,.int .i64 0,.int .i64 0,.int .i64 0]) (t:=58) ?hr ?_; (case hd => rfl); (case hg => rfl); (case hr => first | (go_simp; done) | (go_simp; rfl)); intro gb337 hg w37 hbox hb; have n0_:=I (blk_below (g:=gb334) (o:=.cells #[.int .i64 a0_0,.slice (some ad336) l0_1.length c0_1] 34 (0,0)) (by (with_reducible repeat (first | refine blk_drewN ?_ _ | refine blk_drew ?_ | refine blk_alloc ?_ _)); exact BK334.out) hb); have n1_:=I (below_step (by repeat (first | (with_reducible first | exact HB.out | apply below_alloc | apply pw_below_drewN | apply below_drew1 | refine below_set ?_ GE334.out) | exact HB.out)) hb); have n2_:=I (hbox); have n3_:=I ((by rw [hg]; exact (below_size (by repeat (first | (with_reducible first | exact HB.out | apply below_alloc | apply pw_below_drewN | apply below_drew1 | refine below_set ?_ GE334.out) | exact HB.out))) : w.heap.size ≤ gb337)); have n4_:=I ((by rw [hg]; exact (below_size (by repeat (first | (with_reducible first | exact HB.out | apply below_alloc | apply pw_below_drewN | apply below_drew1 | refine below_set ?_ GE334.out) | exact HB.out))) : w.heap.size ≤ gb337)); have n5_:=I ((by rw [hg]; exact Nat.ne_of_lt (blk_lt (g:=gb334) (o:=.cells #[.int .i64 a0_0,.slice (some ad336) l0_1.length c0_1] 34 (0,0)) (by (with_reducible repeat (first | refine blk_drewN ?_ _ | refine blk_drew ?_ | refine blk_alloc ?_ _)); exact BK334.out)) : gb334 ≠ gb337)); have n6_:=I ((by rw [hg]; exact Nat.ne_of_gt (blk_lt (g:=gb334) (o:=.cells #[.int .i64 a0_0,.slice (some ad336) l0_1.length c0_1] 34 (0,0)) (by (with_reducible repeat (first | refine blk_drewN ?_ _ | refine blk_drew ?_ | refine blk_alloc ?_ _)); exact BK334.out)) : gb337 ≠ gb334)); clear BK334; clear HB; have BK334:=n0_; have HB:=n1_; have BK337:=n2_; have GW337:=n3_; have GE337:=n4_; have NB334_337:=n5_; have NB337_334:=n6_; clear n0_ n1_ n2_ n3_ n4_ n5_ n6_; clear hb hbox hg; have hnb38:=NB337_334.out; have hnc38:=NB334_337.out; have hcz39_0 : w37.cell? ⟨gb337,0,none⟩ = some (.int .i64 0):=(blk_cell BK337.out 0).trans rfl; have hcz39_1 : w37.cell? ⟨gb337,1,none⟩ = some (.int .i64 0):=(blk_cell BK337.out 1).trans rfl; have hcz39_2 : w37.cell? ⟨gb337,2,none⟩ = some (.int .i64 0):=(blk_cell BK337.out 2).trans rfl; have hcz39_3 : w37.cell? ⟨gb337,3,none⟩ = some (.int .i64 0):=(blk_cell BK337.out 3).trans rfl; have hcz39_4 : w37.cell? ⟨gb337,4,none⟩ = some (.int .i64 0):=(blk_cell BK337.out 4).trans rfl; have hfz39_0:=blk_frozen BK337.out 0; have hfz39_1:=blk_frozen BK337.out 1; have hfz39_2:=blk_frozen BK337.out 2; have hfz39_3:=blk_frozen BK337.out 3; have hfz39_4:=blk_frozen BK337.out 4; have hcz40_0 : w37.cell? ⟨gb334,0,none⟩ = some (.int .i64 a0_0):=(blk_cell BK334.out 0).trans rfl; have hcz40_1 : w37.cell? ⟨gb334,1,none⟩ = some (.slice (some ad336) l0_1.length c0_1):=(blk_cell BK334.out 1).trans rfl; have hfz40_0:=blk_frozen BK334.out 0; have hfz40_1:=blk_frozen BK334.out 1) | ((with_reducible refine gate_callee (f:=90) rfl ?_); refine goesL_ (some 22) rfl rfl Try.func90 (by kernel_rfl) rfl #[.int .i64 ((rd_T58 l0_1 x3_1).f0),.int .i64 0,.int .i64 (wrap64 (a0_0 - 1))] rfl (by (try simp only [List.map_toArray,List.map_cons,List.map_nil]); first | done | rfl | (simp only [List.length_drop,List.length_take]; rfl)) ?_; (with_reducible refine (spec_l1In.calls ((rd_T58 l0_1 x3_1).f0) 0 (wrap64 (a0_0 - 1)) true _ A5.out).mono ?_); rintro e w' ⟨rfl,⟨nd,rfl⟩⟩; refine ⟨_,rfl,?_⟩) | (go_at_call 90; (with_reducible refine (spec_l1In.calls ((rd_T58 l0_1 x3_1).f1) 0 (wrap64 (a0_0 - 1)) true _ A7.out).mono ?_); rintro e w' ⟨rfl,⟨nd,rfl⟩⟩) | (go_at_call 90; (with_reducible refine (spec_l1In.calls ((rd_T58 l0_1 x3_1).f2) 0 99 false _ A15.out).mono ?_); rintro e w' ⟨rfl,⟨nd,rfl⟩⟩))
    go_ret;exact ⟨by first | rfl | (simp [errW_none,errW_some] <;> rfl) | (simp [*,errW_none,errW_some] <;> rfl),by repeat (first | (with_reducible first | exact HB.out | apply below_alloc | apply pw_below_drewN | apply below_drew1 | refine below_set ?_ GE334.out | refine below_set ?_ GE337.out) | exact HB.out)⟩
   subst c16;have H1 : ((spec_l1In.f ((rd_T58 l0_1 x3_1).f3) 0 99).bind fun t341 => (if t341 = true then ((spec_l1In.f ((rd_T58 l0_1 x3_1).f4) 0 9).bind fun t342 => (if t342 = true then (spec_l1Ok.l0 k1 (wrap64 (x3_1 + 1)) a0_0 l0_1) else (some false))) else (some false))) = some r:=by rw [if_pos rfl] at H; exact H
   clear H;have H:=H1;clear H1;replace H:=Option.bind_eq_some_iff.mp H;obtain ⟨t341,A170,H⟩:=H;replace H : (if t341 = true then ((spec_l1In.f ((rd_T58 l0_1 x3_1).f4) 0 9).bind fun t342 => (if t342 = true then (spec_l1Ok.l0 k1 (wrap64 (x3_1 + 1)) a0_0 l0_1) else (some false))) else (some false)) = some r:=H;have A17:=I A170;clear A170
   by_cases c18 : t341 = true
   case neg =>
    replace c18:=Bool.eq_false_iff.mpr c18;subst c18;have H1 : (some false) = some r:=by rw [if_neg (show ¬ (false = true) by decide)] at H; exact H
    clear H;have H:=H1;clear H1;obtain rfl:=Option.some.inj H;have hcz31_0 : wr.cell? ⟨gb334,0,none⟩ = some (.int .i64 a0_0):=(blk_cell BK334.out 0).trans rfl;have hcz31_1 : wr.cell? ⟨gb334,1,none⟩ = some (.slice A0_1 l0_1.length c0_1):=(blk_cell BK334.out 1).trans rfl;have hfz31_0:=blk_frozen BK334.out 0;have hfz31_1:=blk_frozen BK334.out 1;have p336 : 0 ≤ (x3_1 : Int):=of_decide_eq_true (by first | (with_reducible assumption) | assumption);have q336 : x3_1 < (l0_1.length : Int):=of_decide_eq_true (by first | (with_reducible assumption) | assumption);obtain ⟨ad336,e336,hx336_0,hx336_1,hx336_2,hx336_3,hx336_4⟩:=at_T58 HR0_1.out x3_1 p336 q336;cases e336;replace hx336_0:=(HB.out.cell (World.block_lt_of_cell? w _ hx336_0)).trans hx336_0;replace hx336_1:=(HB.out.cell (World.block_lt_of_cell? w _ hx336_1)).trans hx336_1;replace hx336_2:=(HB.out.cell (World.block_lt_of_cell? w _ hx336_2)).trans hx336_2;replace hx336_3:=(HB.out.cell (World.block_lt_of_cell? w _ hx336_3)).trans hx336_3;replace hx336_4:=(HB.out.cell (World.block_lt_of_cell? w _ hx336_4)).trans hx336_4;replace p336:=eq_true p336;replace q336:=eq_true q336
    go_wp2_with (first | ((with_reducible refine gate_dst (N:=4) rfl ?_); (try (refine gate_guard (by rfl) ?_; dsimp only)); refine box_event ?hg (N:=4) ?hd (cs:=#[.int .i64 0,.int .i64 0,.int .i64 0,.int .i64 0,.int .i64 0]) (t:=58) ?hr ?_; (case hd => rfl); (case hg => rfl); (case hr => first | (go_simp; done) | (go_simp; rfl)); intro gb337 hg w32 hbox hb; have n0_:=I (blk_below (g:=gb334) (o:=.cells #[.int .i64 a0_0,.slice (some ad336) l0_1.length c0_1] 34 (0,0)) (by (with_reducible repeat (first | refine blk_drewN ?_ _ | refine blk_drew ?_ | refine blk_alloc ?_ _)); exact BK334.out) hb); have n1_:=I (below_step (by repeat (first | (with_reducible first | exact HB.out | apply below_alloc | apply pw_below_drewN | apply below_drew1 | refine below_set ?_ GE334.out) | exact HB.out)) hb); have n2_:=I (hbox); have n3_:=I ((by rw [hg]; exact (below_size (by repeat (first | (with_reducible first | exact HB.out | apply below_alloc | apply pw_below_drewN | apply below_drew1 | refine below_set ?_ GE334.out) | exact HB.out))) : w.heap.size ≤ gb337)); have n4_:=I ((by rw [hg]; exact (below_size (by repeat (first | (with_reducible first | exact HB.out | apply below_alloc | apply pw_below_drewN | apply below_drew1 | refine below_set ?_ GE334.out) | exact HB.out))) : w.heap.size ≤ gb337)); have n5_:=I ((by rw [hg]; exact Nat.ne_of_lt (blk_lt (g:=gb334) (o:=.cells #[.int .i64 a0_0,.slice (some ad336) l0_1.length c0_1] 34 (0,0)) (by (with_reducible repeat (first | refine blk_drewN ?_ _ | refine blk_drew ?_ | refine blk_alloc ?_ _)); exact BK334.out)) : gb334 ≠ gb337)); have n6_:=I ((by rw [hg]; exact Nat.ne_of_gt (blk_lt (g:=gb334) (o:=.cells #[.int .i64 a0_0,.slice (some ad336) l0_1.length c0_1] 34 (0,0)) (by (with_reducible repeat (first | refine blk_drewN ?_ _ | refine blk_drew ?_ | refine blk_alloc ?_ _)); exact BK334.out)) : gb337 ≠ gb334)); clear BK334; clear HB; have BK334:=n0_; have HB:=n1_; have BK337:=n2_; have GW337:=n3_; have GE337:=n4_; have NB334_337:=n5_; have NB337_334:=n6_; clear n0_ n1_ n2_ n3_ n4_ n5_ n6_; clear hb hbox hg; have hnb33:=NB337_334.out; have hnc33:=NB334_337.out; have hcz34_0 : w32.cell? ⟨gb337,0,none⟩ = some (.int .i64 0):=(blk_cell BK337.out 0).trans rfl; have hcz34_1 : w32.cell? ⟨gb337,1,none⟩ = some (.int .i64 0):=(blk_cell BK337.out 1).trans rfl; have hcz34_2 : w32.cell? ⟨gb337,2,none⟩ = some (.int .i64 0):=(blk_cell BK337.out 2).trans rfl; have hcz34_3 : w32.cell? ⟨gb337,3,none⟩ = some (.int .i64 0):=(blk_cell BK337.out 3).trans rfl; have hcz34_4 : w32.cell? ⟨gb337,4,none⟩ = some (.int .i64 0):=(blk_cell BK337.out 4).trans rfl; have hfz34_0:=blk_frozen BK337.out 0; have hfz34_1:=blk_frozen BK337.out 1; have hfz34_2:=blk_frozen BK337.out 2; have hfz34_3:=blk_frozen BK337.out 3; have hfz34_4:=blk_frozen BK337.out 4; have hcz35_0 : w32.cell? ⟨gb334,0,none⟩ = some (.int .i64 a0_0):=(blk_cell BK334.out 0).trans rfl; have hcz35_1 : w32.cell? ⟨gb334,1,none⟩ = some (.slice (some ad336) l0_1.length c0_1):=(blk_cell BK334.out 1).trans rfl; have hfz35_0:=blk_frozen BK334.out 0; have hfz35_1:=blk_frozen BK334.out 1) | ((with_reducible refine gate_callee (f:=90) rfl ?_); refine goesL_ (some 22) rfl rfl Try.func90 (by kernel_rfl) rfl #[.int .i64 ((rd_T58 l0_1 x3_1).f0),.int .i64 0,.int .i64 (wrap64 (a0_0 - 1))] rfl (by (try simp only [List.map_toArray,List.map_cons,List.map_nil]); first | done | rfl | (simp only [List.length_drop,List.length_take]; rfl)) ?_; (with_reducible refine (spec_l1In.calls ((rd_T58 l0_1 x3_1).f0) 0 (wrap64 (a0_0 - 1)) true _ A5.out).mono ?_); rintro e w' ⟨rfl,⟨nd,rfl⟩⟩; refine ⟨_,rfl,?_⟩) | (go_at_call 90; (with_reducible refine (spec_l1In.calls ((rd_T58 l0_1 x3_1).f1) 0 (wrap64 (a0_0 - 1)) true _ A7.out).mono ?_); rintro e w' ⟨rfl,⟨nd,rfl⟩⟩) | (go_at_call 90; (with_reducible refine (spec_l1In.calls ((rd_T58 l0_1 x3_1).f2) 0 99 true _ A15.out).mono ?_); rintro e w' ⟨rfl,⟨nd,rfl⟩⟩) | (go_at_call 90; (with_reducible refine (spec_l1In.calls ((rd_T58 l0_1 x3_1).f3) 0 99 false _ A17.out).mono ?_); rintro e w' ⟨rfl,⟨nd,rfl⟩⟩))
    go_ret;exact ⟨by first | rfl | (simp [errW_none,errW_some] <;> rfl) | (simp [*,errW_none,errW_some] <;> rfl),by repeat (first | (with_reducible first | exact HB.out | apply below_alloc | apply pw_below_drewN | apply below_drew1 | refine below_set ?_ GE334.out | refine below_set ?_ GE337.out) | exact HB.out)⟩
   subst c18;have H1 : ((spec_l1In.f ((rd_T58 l0_1 x3_1).f4) 0 9).bind fun t342 => (if t342 = true then (spec_l1Ok.l0 k1 (wrap64 (x3_1 + 1)) a0_0 l0_1) else (some false))) = some r:=by rw [if_pos rfl] at H; exact H
   clear H;have H:=H1;clear H1;replace H:=Option.bind_eq_some_iff.mp H;obtain ⟨t342,A190,H⟩:=H;replace H : (if t342 = true then (spec_l1Ok.l0 k1 (wrap64 (x3_1 + 1)) a0_0 l0_1) else (some false)) = some r:=H;have A19:=I A190;clear A190
   by_cases c20 : t342 = true
   case neg =>
    replace c20:=Bool.eq_false_iff.mpr c20;subst c20;have H1 : (some false) = some r:=by rw [if_neg (show ¬ (false = true) by decide)] at H; exact H
    clear H;have H:=H1;clear H1;obtain rfl:=Option.some.inj H;have hcz26_0 : wr.cell? ⟨gb334,0,none⟩ = some (.int .i64 a0_0):=(blk_cell BK334.out 0).trans rfl;have hcz26_1 : wr.cell? ⟨gb334,1,none⟩ = some (.slice A0_1 l0_1.length c0_1):=(blk_cell BK334.out 1).trans rfl;have hfz26_0:=blk_frozen BK334.out 0;have hfz26_1:=blk_frozen BK334.out 1;have p336 : 0 ≤ (x3_1 : Int):=of_decide_eq_true (by first | (with_reducible assumption) | assumption);have q336 : x3_1 < (l0_1.length : Int):=of_decide_eq_true (by first | (with_reducible assumption) | assumption);obtain ⟨ad336,e336,hx336_0,hx336_1,hx336_2,hx336_3,hx336_4⟩:=at_T58 HR0_1.out x3_1 p336 q336;cases e336;replace hx336_0:=(HB.out.cell (World.block_lt_of_cell? w _ hx336_0)).trans hx336_0;replace hx336_1:=(HB.out.cell (World.block_lt_of_cell? w _ hx336_1)).trans hx336_1;replace hx336_2:=(HB.out.cell (World.block_lt_of_cell? w _ hx336_2)).trans hx336_2;replace hx336_3:=(HB.out.cell (World.block_lt_of_cell? w _ hx336_3)).trans hx336_3;replace hx336_4:=(HB.out.cell (World.block_lt_of_cell? w _ hx336_4)).trans hx336_4;replace p336:=eq_true p336;replace q336:=eq_true q336
    go_wp2_with (first | ((with_reducible refine gate_dst (N:=4) rfl ?_); (try (refine gate_guard (by rfl) ?_; dsimp only)); refine box_event ?hg (N:=4) ?hd (cs:=#[.int .i64 0,.int .i64 0,.int .i64 0,.int .i64 0,.int .i64 0]) (t:=58) ?hr ?_; (case hd => rfl); (case hg => rfl); (case hr => first | (go_simp; done) | (go_simp; rfl)); intro gb337 hg w27 hbox hb; have n0_:=I (blk_below (g:=gb334) (o:=.cells #[.int .i64 a0_0,.slice (some ad336) l0_1.length c0_1] 34 (0,0)) (by (with_reducible repeat (first | refine blk_drewN ?_ _ | refine blk_drew ?_ | refine blk_alloc ?_ _)); exact BK334.out) hb); have n1_:=I (below_step (by repeat (first | (with_reducible first | exact HB.out | apply below_alloc | apply pw_below_drewN | apply below_drew1 | refine below_set ?_ GE334.out) | exact HB.out)) hb); have n2_:=I (hbox); have n3_:=I ((by rw [hg]; exact (below_size (by repeat (first | (with_reducible first | exact HB.out | apply below_alloc | apply pw_below_drewN | apply below_drew1 | refine below_set ?_ GE334.out) | exact HB.out))) : w.heap.size ≤ gb337)); have n4_:=I ((by rw [hg]; exact (below_size (by repeat (first | (with_reducible first | exact HB.out | apply below_alloc | apply pw_below_drewN | apply below_drew1 | refine below_set ?_ GE334.out) | exact HB.out))) : w.heap.size ≤ gb337)); have n5_:=I ((by rw [hg]; exact Nat.ne_of_lt (blk_lt (g:=gb334) (o:=.cells #[.int .i64 a0_0,.slice (some ad336) l0_1.length c0_1] 34 (0,0)) (by (with_reducible repeat (first | refine blk_drewN ?_ _ | refine blk_drew ?_ | refine blk_alloc ?_ _)); exact BK334.out)) : gb334 ≠ gb337)); have n6_:=I ((by rw [hg]; exact Nat.ne_of_gt (blk_lt (g:=gb334) (o:=.cells #[.int .i64 a0_0,.slice (some ad336) l0_1.length c0_1] 34 (0,0)) (by (with_reducible repeat (first | refine blk_drewN ?_ _ | refine blk_drew ?_ | refine blk_alloc ?_ _)); exact BK334.out)) : gb337 ≠ gb334)); clear BK334; clear HB; have BK334:=n0_; have HB:=n1_; have BK337:=n2_; have GW337:=n3_; have GE337:=n4_; have NB334_337:=n5_; have NB337_334:=n6_; clear n0_ n1_ n2_ n3_ n4_ n5_ n6_; clear hb hbox hg; have hnb28:=NB337_334.out; have hnc28:=NB334_337.out; have hcz29_0 : w27.cell? ⟨gb337,0,none⟩ = some (.int .i64 0):=(blk_cell BK337.out 0).trans rfl; have hcz29_1 : w27.cell? ⟨gb337,1,none⟩ = some (.int .i64 0):=(blk_cell BK337.out 1).trans rfl; have hcz29_2 : w27.cell? ⟨gb337,2,none⟩ = some (.int .i64 0):=(blk_cell BK337.out 2).trans rfl; have hcz29_3 : w27.cell? ⟨gb337,3,none⟩ = some (.int .i64 0):=(blk_cell BK337.out 3).trans rfl; have hcz29_4 : w27.cell? ⟨gb337,4,none⟩ = some (.int .i64 0):=(blk_cell BK337.out 4).trans rfl; have hfz29_0:=blk_frozen BK337.out 0; have hfz29_1:=blk_frozen BK337.out 1; have hfz29_2:=blk_frozen BK337.out 2; have hfz29_3:=blk_frozen BK337.out 3; have hfz29_4:=blk_frozen BK337.out 4; have hcz30_0 : w27.cell? ⟨gb334,0,none⟩ = some (.int .i64 a0_0):=(blk_cell BK334.out 0).trans rfl; have hcz30_1 : w27.cell? ⟨gb334,1,none⟩ = some (.slice (some ad336) l0_1.length c0_1):=(blk_cell BK334.out 1).trans rfl; have hfz30_0:=blk_frozen BK334.out 0; have hfz30_1:=blk_frozen BK334.out 1) | ((with_reducible refine gate_callee (f:=90) rfl ?_); refine goesL_ (some 22) rfl rfl Try.func90 (by kernel_rfl) rfl #[.int .i64 ((rd_T58 l0_1 x3_1).f0),.int .i64 0,.int .i64 (wrap64 (a0_0 - 1))] rfl (by (try simp only [List.map_toArray,List.map_cons,List.map_nil]); first | done | rfl | (simp only [List.length_drop,List.length_take]; rfl)) ?_; (with_reducible refine (spec_l1In.calls ((rd_T58 l0_1 x3_1).f0) 0 (wrap64 (a0_0 - 1)) true _ A5.out).mono ?_); rintro e w' ⟨rfl,⟨nd,rfl⟩⟩; refine ⟨_,rfl,?_⟩) | (go_at_call 90; (with_reducible refine (spec_l1In.calls ((rd_T58 l0_1 x3_1).f1) 0 (wrap64 (a0_0 - 1)) true _ A7.out).mono ?_); rintro e w' ⟨rfl,⟨nd,rfl⟩⟩) | (go_at_call 90; (with_reducible refine (spec_l1In.calls ((rd_T58 l0_1 x3_1).f2) 0 99 true _ A15.out).mono ?_); rintro e w' ⟨rfl,⟨nd,rfl⟩⟩) | (go_at_call 90; (with_reducible refine (spec_l1In.calls ((rd_T58 l0_1 x3_1).f3) 0 99 true _ A17.out).mono ?_); rintro e w' ⟨rfl,⟨nd,rfl⟩⟩) | (go_at_call 90; (with_reducible refine (spec_l1In.calls ((rd_T58 l0_1 x3_1).f4) 0 9 false _ A19.out).mono ?_); rintro e w' ⟨rfl,⟨nd,rfl⟩⟩))
    go_ret;exact ⟨by first | rfl | (simp [errW_none,errW_some] <;> rfl) | (simp [*,errW_none,errW_some] <;> rfl),by repeat (first | (with_reducible first | exact HB.out | apply below_alloc | apply pw_below_drewN | apply below_drew1 | refine below_set ?_ GE334.out | refine below_set ?_ GE337.out) | exact HB.out)⟩
   subst c20;have H1 : (spec_l1Ok.l0 k1 (wrap64 (x3_1 + 1)) a0_0 l0_1) = some r:=by rw [if_pos rfl] at H; exact H
   clear H;have H:=H1;clear H1;have H':=I H;clear H;have hcz21_0 : wr.cell? ⟨gb334,0,none⟩ = some (.int .i64 a0_0):=(blk_cell BK334.out 0).trans rfl;have hcz21_1 : wr.cell? ⟨gb334,1,none⟩ = some (.slice A0_1 l0_1.length c0_1):=(blk_cell BK334.out 1).trans rfl;have hfz21_0:=blk_frozen BK334.out 0;have hfz21_1:=blk_frozen BK334.out 1;have p336 : 0 ≤ (x3_1 : Int):=of_decide_eq_true (by first | (with_reducible assumption) | assumption);have q336 : x3_1 < (l0_1.length : Int):=of_decide_eq_true (by first | (with_reducible assumption) | assumption);obtain ⟨ad336,e336,hx336_0,hx336_1,hx336_2,hx336_3,hx336_4⟩:=at_T58 HR0_1.out x3_1 p336 q336;cases e336;replace hx336_0:=(HB.out.cell (World.block_lt_of_cell? w _ hx336_0)).trans hx336_0;replace hx336_1:=(HB.out.cell (World.block_lt_of_cell? w _ hx336_1)).trans hx336_1;replace hx336_2:=(HB.out.cell (World.block_lt_of_cell? w _ hx336_2)).trans hx336_2;replace hx336_3:=(HB.out.cell (World.block_lt_of_cell? w _ hx336_3)).trans hx336_3;replace hx336_4:=(HB.out.cell (World.block_lt_of_cell? w _ hx336_4)).trans hx336_4;replace p336:=eq_true p336;replace q336:=eq_true q336
   go_wp2_with (first | ((with_reducible refine gate_dst (N:=4) rfl ?_); (try (refine gate_guard (by rfl) ?_; dsimp only)); refine box_event ?hg (N:=4) ?hd (cs:=#[.int .i64 0,.int .i64 0,.int .i64 0,.int .i64 0,.int .i64 0]) (t:=58) ?hr ?_; (case hd => rfl); (case hg => rfl); (case hr => first | (go_simp; done) | (go_simp; rfl)); intro gb337 hg w22 hbox hb; have n0_:=I (blk_below (g:=gb334) (o:=.cells #[.int .i64 a0_0,.slice (some ad336) l0_1.length c0_1] 34 (0,0)) (by (with_reducible repeat (first | refine blk_drewN ?_ _ | refine blk_drew ?_ | refine blk_alloc ?_ _)); exact BK334.out) hb); have n1_:=I (below_step (by repeat (first | (with_reducible first | exact HB.out | apply below_alloc | apply pw_below_drewN | apply below_drew1 | refine below_set ?_ GE334.out) | exact HB.out)) hb); have n2_:=I (hbox); have n3_:=I ((by rw [hg]; exact (below_size (by repeat (first | (with_reducible first | exact HB.out | apply below_alloc | apply pw_below_drewN | apply below_drew1 | refine below_set ?_ GE334.out) | exact HB.out))) : w.heap.size ≤ gb337)); have n4_:=I ((by rw [hg]; exact (below_size (by repeat (first | (with_reducible first | exact HB.out | apply below_alloc | apply pw_below_drewN | apply below_drew1 | refine below_set ?_ GE334.out) | exact HB.out))) : w.heap.size ≤ gb337)); have n5_:=I ((by rw [hg]; exact Nat.ne_of_lt (blk_lt (g:=gb334) (o:=.cells #[.int .i64 a0_0,.slice (some ad336) l0_1.length c0_1] 34 (0,0)) (by (with_reducible repeat (first | refine blk_drewN ?_ _ | refine blk_drew ?_ | refine blk_alloc ?_ _)); exact BK334.out)) : gb334 ≠ gb337)); have n6_:=I ((by rw [hg]; exact Nat.ne_of_gt (blk_lt (g:=gb334) (o:=.cells #[.int .i64 a0_0,.slice (some ad336) l0_1.length c0_1] 34 (0,0)) (by (with_reducible repeat (first | refine blk_drewN ?_ _ | refine blk_drew ?_ | refine blk_alloc ?_ _)); exact BK334.out)) : gb337 ≠ gb334)); clear BK334; clear HB; have BK334:=n0_; have HB:=n1_; have BK337:=n2_; have GW337:=n3_; have GE337:=n4_; have NB334_337:=n5_; have NB337_334:=n6_; clear n0_ n1_ n2_ n3_ n4_ n5_ n6_; clear hb hbox hg; have hnb23:=NB337_334.out; have hnc23:=NB334_337.out; have hcz24_0 : w22.cell? ⟨gb337,0,none⟩ = some (.int .i64 0):=(blk_cell BK337.out 0).trans rfl; have hcz24_1 : w22.cell? ⟨gb337,1,none⟩ = some (.int .i64 0):=(blk_cell BK337.out 1).trans rfl; have hcz24_2 : w22.cell? ⟨gb337,2,none⟩ = some (.int .i64 0):=(blk_cell BK337.out 2).trans rfl; have hcz24_3 : w22.cell? ⟨gb337,3,none⟩ = some (.int .i64 0):=(blk_cell BK337.out 3).trans rfl; have hcz24_4 : w22.cell? ⟨gb337,4,none⟩ = some (.int .i64 0):=(blk_cell BK337.out 4).trans rfl; have hfz24_0:=blk_frozen BK337.out 0; have hfz24_1:=blk_frozen BK337.out 1; have hfz24_2:=blk_frozen BK337.out 2; have hfz24_3:=blk_frozen BK337.out 3; have hfz24_4:=blk_frozen BK337.out 4; have hcz25_0 : w22.cell? ⟨gb334,0,none⟩ = some (.int .i64 a0_0):=(blk_cell BK334.out 0).trans rfl; have hcz25_1 : w22.cell? ⟨gb334,1,none⟩ = some (.slice (some ad336) l0_1.length c0_1):=(blk_cell BK334.out 1).trans rfl; have hfz25_0:=blk_frozen BK334.out 0; have hfz25_1:=blk_frozen BK334.out 1) | ((with_reducible refine gate_callee (f:=90) rfl ?_); refine goesL_ (some 22) rfl rfl Try.func90 (by kernel_rfl) rfl #[.int .i64 ((rd_T58 l0_1 x3_1).f0),.int .i64 0,.int .i64 (wrap64 (a0_0 - 1))] rfl (by (try simp only [List.map_toArray,List.map_cons,List.map_nil]); first | done | rfl | (simp only [List.length_drop,List.length_take]; rfl)) ?_; (with_reducible refine (spec_l1In.calls ((rd_T58 l0_1 x3_1).f0) 0 (wrap64 (a0_0 - 1)) true _ A5.out).mono ?_); rintro e w' ⟨rfl,⟨nd,rfl⟩⟩; refine ⟨_,rfl,?_⟩) | (go_at_call 90; (with_reducible refine (spec_l1In.calls ((rd_T58 l0_1 x3_1).f1) 0 (wrap64 (a0_0 - 1)) true _ A7.out).mono ?_); rintro e w' ⟨rfl,⟨nd,rfl⟩⟩) | (go_at_call 90; (with_reducible refine (spec_l1In.calls ((rd_T58 l0_1 x3_1).f2) 0 99 true _ A15.out).mono ?_); rintro e w' ⟨rfl,⟨nd,rfl⟩⟩) | (go_at_call 90; (with_reducible refine (spec_l1In.calls ((rd_T58 l0_1 x3_1).f3) 0 99 true _ A17.out).mono ?_); rintro e w' ⟨rfl,⟨nd,rfl⟩⟩) | (go_at_call 90; (with_reducible refine (spec_l1In.calls ((rd_T58 l0_1 x3_1).f4) 0 9 true _ A19.out).mono ?_); rintro e w' ⟨rfl,⟨nd,rfl⟩⟩))
   go_roundg k1
   case measure => have:=HK1.out; omega
   case rel => exact ⟨(wrap64 (x3_1 + 1)),(by first | rfl | (simp; done) | (simp [*]; done)),H',⟨by have:=HK1.out; omega⟩,⟨by (with_reducible repeat (first | refine blk_drewN ?_ _ | refine blk_drew ?_ | refine blk_alloc ?_ _)); refine blk_far ?_ NB334_337.out _; (with_reducible repeat (first | refine blk_drewN ?_ _ | refine blk_drew ?_ | refine blk_alloc ?_ _)); refine blk_far ?_ NB334_337.out _; (with_reducible repeat (first | refine blk_drewN ?_ _ | refine blk_drew ?_ | refine blk_alloc ?_ _)); refine blk_far ?_ NB334_337.out _; (with_reducible repeat (first | refine blk_drewN ?_ _ | refine blk_drew ?_ | refine blk_alloc ?_ _)); refine blk_far ?_ NB334_337.out _; (with_reducible repeat (first | refine blk_drewN ?_ _ | refine blk_drew ?_ | refine blk_alloc ?_ _)); refine blk_far ?_ NB334_337.out _; (with_reducible repeat (first | refine blk_drewN ?_ _ | refine blk_drew ?_ | refine blk_alloc ?_ _)); exact BK334.out⟩,⟨by repeat (first | (with_reducible first | exact HB.out | apply below_alloc | apply pw_below_drewN | apply below_drew1 | refine below_set ?_ GE334.out | refine below_set ?_ GE337.out) | exact HB.out)⟩⟩
def spec_l23Root.l0 : Nat → List Int → Int → Option (Int)
 | 0,_,_ => none
 | k + 1,x0,x1 => if 0 ≤ x1 then (if x1 < (x0.length : Int) then (if (rd x0 x1) = x1 then (some x1) else (spec_l23Root.l0 k x0 (rd x0 x1))) else (none)) else (none)
def spec_l23Root.f (k : Nat) (l0 : List Int) (a1 : Int) : Option (Int):=spec_l23Root.l0 k l0 a1
set_option maxHeartbeats 8000000 in
set_option maxRecDepth 100000 in
theorem spec_l23Root.calls (k : Nat) (A0 : Option Addr) (c0 : Nat) (l0 : List Int) (a1 : Int) (r : Int) (w : World) (hr0 : Kd.C (Kd.int .i64) w A0 l0.length l0) (hc0 : l0.length ≤ c0) (h : spec_l23Root.f k l0 a1 = some r) :
  Calls Try.prog 136 #[.slice A0 l0.length c0,.int .i64 a1] w fun e w' => e = .returned (.int .i64 r) ∧ Drawn0 w w':=by
 have HR0:=I hr0;have HC0:=I hc0;clear hr0 hc0;have H : (spec_l23Root.l0 k l0 a1) = some r:=h;clear h;have H':=I H;clear H
 go_enter Try.func136,Try.ntmps136
 go_wp2
 go_loopg [1] k (fun kq v1 w' => ∃ (x1_1 : Int),v1 = .int .i64 x1_1 ∧ Aside0 (spec_l23Root.l0 kq l0 x1_1 = some r) ∧ Aside0 (kq ≤ k) ∧ Drawn0 w w')
 case atStart => exact ⟨(a1),(by first | rfl | (simp; done) | (simp [*]; done)),H',⟨Nat.le_refl _⟩,by repeat (first | exact Drawn0.refl _ | apply Drawn0.step)⟩
 case round =>
  clear H'
  try clear c1
  try clear p2
  obtain ⟨x1_1,rfl,HA,HK1,⟨m1,rfl⟩⟩:=hrel;cases gk with
  | zero => exact absurd HA.out (by simp [spec_l23Root.l0])
  | succ k1 =>
   have H:=HA.out;clear HA;simp only [spec_l23Root.l0] at H
   by_cases c3 : 0 ≤ x1_1
   case neg =>
    rw [if_neg c3] at H;exact absurd H (by simp)
   rw [if_pos c3] at H;have c3b0 : decide (0 ≤ x1_1) = true:=decide_eq_true c3;clear c3
   by_cases c4 : x1_1 < (l0.length : Int)
   case neg =>
    rw [if_neg c4] at H;exact absurd H (by simp)
   rw [if_pos c4] at H;have c4b0 : decide (x1_1 < (l0.length : Int)) = true:=decide_eq_true c4;clear c4
   by_cases c5 : (rd l0 x1_1) = x1_1
   case pos =>
    rw [if_pos c5] at H;have c5b0 : ((rd l0 x1_1) == x1_1) = true:=beq_iff_eq.mpr c5;have c5b1 : ((rd l0 x1_1) != x1_1) = false:=bne_eq_false_iff_eq.mpr c5;clear c5;obtain rfl:=Option.some.inj H;have p1020 : 0 ≤ (x1_1 : Int):=of_decide_eq_true (by first | (with_reducible assumption) | assumption);have q1020 : x1_1 < (l0.length : Int):=of_decide_eq_true (by first | (with_reducible assumption) | assumption);obtain ⟨ad1020,e1020,hx1020_0⟩:=Kd.at_int HR0.out x1_1 p1020 q1020;cases e1020;replace p1020:=eq_true p1020;replace q1020:=eq_true q1020
    go_wp2
    go_ret;exact ⟨by first | rfl | (simp; done) | (simp [*]; done),by repeat (first | exact Drawn0.refl _ | apply Drawn0.step)⟩
   rw [if_neg c5] at H;have c5b0 : ((rd l0 x1_1) == x1_1) = false:=beq_eq_false_iff_ne.mpr c5;have c5b1 : ((rd l0 x1_1) != x1_1) = true:=bne_iff_ne.mpr c5;have H':=I H;clear H;have p1020 : 0 ≤ (x1_1 : Int):=of_decide_eq_true (by first | (with_reducible assumption) | assumption);have q1020 : x1_1 < (l0.length : Int):=of_decide_eq_true (by first | (with_reducible assumption) | assumption);obtain ⟨ad1020,e1020,hx1020_0⟩:=Kd.at_int HR0.out x1_1 p1020 q1020;cases e1020;replace p1020:=eq_true p1020;replace q1020:=eq_true q1020;have p1021 : 0 ≤ (x1_1 : Int):=of_decide_eq_true (by first | (with_reducible assumption) | assumption);have q1021 : x1_1 < (l0.length : Int):=of_decide_eq_true (by first | (with_reducible assumption) | assumption);obtain ⟨ad1021,e1021,hx1021_0⟩:=Kd.at_int HR0.out x1_1 p1021 q1021;obtain rfl : ad1020 = ad1021:=(by injection e1021)
   replace p1021:=eq_true p1021;replace q1021:=eq_true q1021
   go_wp2
   go_roundg k1
   case measure => have:=HK1.out; omega
   case rel => exact ⟨(rd l0 x1_1),(by first | rfl | (simp; done) | (simp [*]; done)),H',⟨by have:=HK1.out; omega⟩,by repeat (first | exact Drawn0.refl _ | apply Drawn0.step)⟩
mutual
def spec_l23Tree.l0 : Nat → List Int → Int → Int → List (S58) → Option (List Int)
 | 0,_,_,_,_ => none
 | k + 1,x3,x4,x1023000,x1023001 => if x4 < x1023000 then (if x3.length < 17592186044416 then (spec_l23Tree.l0 k (x3 ++ [x4]) (wrap64 (x4 + 1)) x1023000 x1023001) else (none)) else (spec_l23Tree.l1 k x3 (([] : List Int)) 0 x1023000 x1023001)
def spec_l23Tree.l1 : Nat → List Int → List Int → Int → Int → List (S58) → Option (List Int)
 | 0,_,_,_,_,_ => none
 | k + 1,x3,x5,x6,x1023000,x1023001 => if x6 ≤ 99 then (spec_l23Tree.l2 k x3 x5 x6 0 x1023000 x1023001) else (some x5)
def spec_l23Tree.l2 : Nat → List Int → List Int → Int → Int → Int → List (S58) → Option (List Int)
 | 0,_,_,_,_,_,_ => none
 | k + 1,x3,x5,x6,x7,x1023000,x1023001 => if x7 < (x1023001.length : Int) then (if 0 ≤ x7 then ((spec_l23Root.f k x3 ((rd_T58 x1023001 x7).f0)).bind fun t1033 => ((spec_l23Root.f k x3 ((rd_T58 x1023001 x7).f1)).bind fun t1035 => (if ((rd_T58 x1023001 x7).f2) = x6 then (spec_l23Tree.j3 k x3 x5 x6 x7 t1033 t1035 (t1033 == t1035) x1023000 x1023001) else (spec_l23Tree.j3 k x3 x5 x6 x7 t1033 t1035 true x1023000 x1023001)))) else (none)) else (spec_l23Tree.l1 k x3 x5 (wrap64 (x6 + 1)) x1023000 x1023001)
def spec_l23Tree.j3 : Nat → List Int → List Int → Int → Int → Int → Int → Bool → Int → List (S58) → Option (List Int)
 | 0,_,_,_,_,_,_,_,_,_ => none
 | k + 1,x3,x5,x6,x7,x8,x9,x61,x1023000,x1023001 => if x61 = true then (spec_l23Tree.l2 k x3 x5 x6 (wrap64 (x7 + 1)) x1023000 x1023001) else (if x8 < x9 then (if 0 ≤ x9 then (if x9 < (x3.length : Int) then (if x5.length < 17592186044416 then (spec_l23Tree.l2 k (x3.set (x9 : Int).toNat x8) (x5 ++ [x7]) x6 (wrap64 (x7 + 1)) x1023000 x1023001) else (none)) else (none)) else (none)) else (if 0 ≤ x8 then (if x8 < (x3.length : Int) then (if x5.length < 17592186044416 then (spec_l23Tree.l2 k (x3.set (x8 : Int).toNat x9) (x5 ++ [x7]) x6 (wrap64 (x7 + 1)) x1023000 x1023001) else (none)) else (none)) else (none)))
end
def spec_l23Tree.f (k : Nat) (a0_0 : Int) (l0_1 : List (S58)) : Option (List Int):=spec_l23Tree.l0 k (([] : List Int)) 0 a0_0 l0_1
set_option maxHeartbeats 8000000 in
set_option maxRecDepth 100000 in
theorem spec_l23Tree.calls (k : Nat) (a0_0 : Int) (A0_1 : Option Addr) (c0_1 : Nat) (l0_1 : List (S58)) (r : List Int) (w : World) (hr0_1 : Kd.C k58 w A0_1 l0_1.length l0_1) (hc0_1 : l0_1.length ≤ c0_1) (h : spec_l23Tree.f k a0_0 l0_1 = some r) :
  Calls Try.prog 106 #[.agg #[.int .i64 a0_0,.slice A0_1 l0_1.length c0_1]] w fun e w' => ∃ v0_ : Value,e = .returned (v0_) ∧ Kd.R (Kd.int .i64) 3 w' w.heap.size (fun _ => True) v0_ r ∧ Below w.heap.size w w':=by
 have hu34:=Try.underlying34;have HR0_1:=I hr0_1;have HC0_1:=I hc0_1;clear hr0_1 hc0_1;have HB:=I (Below.refl w.heap.size w);have H : (spec_l23Tree.l0 k (([] : List Int)) 0 a0_0 l0_1) = some r:=h;clear h;obtain ⟨y1023,hy1023⟩ : ∃ y_ : List Int,y_ = (([] : List Int)):=⟨_,rfl⟩
 replace H : (spec_l23Tree.l0 k y1023 0 a0_0 l0_1) = some r:=by first | (rw [hy1023]; with_reducible exact H) | (have H2_:=(Option.bind_some _ _).symm.trans H; rw [hy1023]; with_reducible exact H2_) | (have H2_:=(Option.bind_some _ _).symm.trans H; with_reducible exact H2_) | with_reducible exact H | (rw [hy1023]; exact H) | exact H
 have Ny1023:=I hy1023;clear hy1023;have H':=I H;clear H
 go_enter Try.func106,Try.ntmps106
 go_wp2_with (first | ((with_reducible refine gate_dst (N:=1) rfl ?_); refine box_event ?hg (N:=1) ?hd (cs:=#[.int .i64 a0_0,.slice A0_1 l0_1.length c0_1]) (t:=34) ?hr ?_; (case hd => rfl); (case hg => rfl); (case hr => first | (go_simp; done) | (go_simp; rfl)); intro gb1022 hg w2 hbox hb; have n0_:=I (below_step (by repeat (first | (with_reducible first | exact HB.out | apply below_alloc | apply pw_below_drewN | apply below_drew1) | exact HB.out)) hb); have n1_:=I (hbox); have n2_:=I ((by rw [hg]; exact (below_size (by repeat (first | (with_reducible first | exact HB.out | apply below_alloc | apply pw_below_drewN | apply below_drew1) | exact HB.out))) : w.heap.size ≤ gb1022)); have n3_:=I ((by rw [hg]; exact (below_size (by repeat (first | (with_reducible first | exact HB.out | apply below_alloc | apply pw_below_drewN | apply below_drew1) | exact HB.out))) : w.heap.size ≤ gb1022)); clear HB; have HB:=n0_; have BK1022:=n1_; have GW1022:=n2_; have GE1022:=n3_; clear n0_ n1_ n2_ n3_; clear hb hbox hg) | ((with_reducible refine gate_dst (N:=10) rfl ?_); refine Kd.R_lit (Kd.int .i64) _ 3 ?hg (N:=10) ?hd (xs:=([] : List Int)) (inner:=[]) (ok:=fun _ => True) (okp:=fun _ => True) ?hr ?hp (fun _ hk => hk) trivial (Below.refl _ _) (Nat.le_refl _) (by simp) ?_; (case hd => rfl); (case hg => rfl); (case hr => first | (go_simp; done) | (go_simp; rfl)); (case hp => exact (Reps.none _ _)); intro v1024 w3 ho4 hb hg_ hnew_; clear hg_ hnew_; (first | rw [← Ny1023.out] at ho4 | (simp only [Int.reduceToNat] at ho4; rw [← Ny1023.out] at ho4)); have n0_:=I (Kd.R_lower ho4 (below_size (by repeat (first | (with_reducible first | exact HB.out | apply below_alloc | apply pw_below_drewN | apply below_drew1 | refine below_set ?_ GE1022.out) | exact HB.out)))); have n1_:=I (blk_below (g:=gb1022) (o:=.cells #[.int .i64 a0_0,.slice A0_1 l0_1.length c0_1] 34 (0,0)) (by (with_reducible repeat (first | refine blk_drewN ?_ _ | refine blk_drew ?_ | refine blk_alloc ?_ _)); exact BK1022.out) hb); have n2_:=I (below_step (by repeat (first | (with_reducible first | exact HB.out | apply below_alloc | apply pw_below_drewN | apply below_drew1 | refine below_set ?_ GE1022.out) | exact HB.out)) hb); clear BK1022; clear HB; have HO1025:=n0_; have BK1022:=n1_; have HB:=n2_; clear n0_ n1_ n2_; clear hb ho4))
 go_loopg [3,4] k (fun kq v3 v4 w' => ∃ (x3_1 : List Int) (x4_1 : Int),v4 = .int .i64 x4_1 ∧ Aside0 (spec_l23Tree.l0 kq x3_1 x4_1 a0_0 l0_1 = some r) ∧ Aside0 (kq ≤ k) ∧ Aside0 (Kd.R (Kd.int .i64) 3 w' w.heap.size (fun _ => True) v3 x3_1) ∧ Aside0 (w'.heap[gb1022]? = some (.cells #[.int .i64 a0_0,(.slice A0_1 l0_1.length c0_1)] 34 (0,0))) ∧ Aside0 (Below w.heap.size w w'))
 case atStart => exact ⟨(y1023),(0),(by first | rfl | (simp; done) | (simp [*]; done)),H',⟨Nat.le_refl _⟩,⟨by (with_reducible repeat (first | apply Kd.R_alloc | apply Kd.R_drewN | apply Kd.R_drew)); exact HO1025.out⟩,⟨by (with_reducible repeat (first | refine blk_drewN ?_ _ | refine blk_drew ?_ | refine blk_alloc ?_ _)); exact BK1022.out⟩,⟨by repeat (first | (with_reducible first | exact HB.out | apply below_alloc | apply pw_below_drewN | apply below_drew1 | refine below_set ?_ GE1022.out) | exact HB.out)⟩⟩
 case round =>
  clear H'
  try clear c1
  try clear p2
  obtain ⟨x3_1,x4_1,rfl,HA,HK1,HO_3,BK1022,HB⟩:=hrel;cases gk with
  | zero => exact absurd HA.out (by simp [spec_l23Tree.l0])
  | succ k1 =>
   have H:=HA.out;clear HA;simp only [spec_l23Tree.l0] at H
   by_cases c5 : x4_1 < a0_0
   case pos =>
    rw [if_pos c5] at H;have c5b0 : decide (x4_1 < a0_0) = true:=decide_eq_true c5;clear c5
    by_cases c6 : x3_1.length < 17592186044416
    case neg =>
     rw [if_neg c6] at H;exact absurd H (by simp)
    rw [if_pos c6] at H;have LMc6:=I c6;clear c6;obtain ⟨y1026,hy1026⟩ : ∃ y_ : List Int,y_ = (x3_1 ++ [x4_1]):=⟨_,rfl⟩
    replace H : (spec_l23Tree.l0 k1 y1026 (wrap64 (x4_1 + 1)) a0_0 l0_1) = some r:=by first | (rw [hy1026]; with_reducible exact H) | (have H2_:=(Option.bind_some _ _).symm.trans H; rw [hy1026]; with_reducible exact H2_) | (have H2_:=(Option.bind_some _ _).symm.trans H; with_reducible exact H2_) | with_reducible exact H | (rw [hy1026]; exact H) | exact H
    have Ny1026:=I hy1026;clear hy1026;have H':=I H;clear H;have hcz7_0 : wr.cell? ⟨gb1022,0,none⟩ = some (.int .i64 a0_0):=(blk_cell BK1022.out 0).trans rfl;have hcz7_1 : wr.cell? ⟨gb1022,1,none⟩ = some (.slice A0_1 l0_1.length c0_1):=(blk_cell BK1022.out 1).trans rfl;have hfz7_0:=blk_frozen BK1022.out 0;have hfz7_1:=blk_frozen BK1022.out 1
    go_wp2_with (first | ((with_reducible refine gate_builtin (b:=.append) (xs:=#[.tmp 17,.tmp 19]) rfl ?_); at_builtin; refine Kd.R_append (Kd.int .i64) (w0:=w) w.heap.size rfl (.tmp 17) (.tmp 19) 23 3 (.int .i64 0) 8 rfl Try.underlying23 info3 rfl (by decide) (by omega) u3 x3_1 x4_1 [.int .i64 x4_1] (fun _ => True) (fun _ => False) rfl rfl ?aP (fun _ hk => hk.elim) ?aF ?aO ?aB ?aS ?aL ?_; (case aP => exact rfl); (case aB => exact (by repeat (first | (with_reducible first | exact HB.out | apply below_alloc | apply pw_below_drewN | apply below_drew1 | refine below_set ?_ GE1022.out) | exact HB.out))); (case aF => exact (fun _ _ => trivial)); (case aO => exact (by (with_reducible repeat (first | apply Kd.R_alloc | apply Kd.R_drewN | apply Kd.R_drew)); exact HO_3.out)); (case aS => exact (below_size (by repeat (first | (with_reducible first | exact HB.out | apply below_alloc | apply pw_below_drewN | apply below_drew1 | refine below_set ?_ GE1022.out) | exact HB.out)))); (case aL => have:=LMc6.out; omega); intro v1027 w8 ho hb hg hat; rw [← Ny1026.out] at ho; have n0_:=I (blk_grown (g:=gb1022) (o:=.cells #[.int .i64 a0_0,.slice A0_1 l0_1.length c0_1] 34 (0,0)) (by (with_reducible repeat (first | refine blk_drewN ?_ _ | refine blk_drew ?_ | refine blk_alloc ?_ _)); exact BK1022.out) hg (Kd.R_ne HO_3.out BK1022.out (by decide))); have n1_:=I (hb); have n2_:=I (ho); clear BK1022; clear HB; clear HO_3; have BK1022:=n0_; have HB:=n1_; have HO1028:=n2_; clear n0_ n1_ n2_; clear ho hb hg hat))
    go_roundg k1
    case measure => have:=HK1.out; omega
    case rel => exact ⟨(y1026),(wrap64 (x4_1 + 1)),(by first | rfl | (simp; done) | (simp [*]; done)),H',⟨by have:=HK1.out; omega⟩,⟨by (with_reducible repeat (first | apply Kd.R_alloc | apply Kd.R_drewN | apply Kd.R_drew)); exact HO1028.out⟩,⟨by (with_reducible repeat (first | refine blk_drewN ?_ _ | refine blk_drew ?_ | refine blk_alloc ?_ _)); exact BK1022.out⟩,⟨by repeat (first | (with_reducible first | exact HB.out | apply below_alloc | apply pw_below_drewN | apply below_drew1 | refine below_set ?_ GE1022.out) | exact HB.out)⟩⟩
   rw [if_neg c5] at H;have c5b0 : decide (x4_1 < a0_0) = false:=decide_eq_false c5;clear c5;obtain ⟨y1029,hy1029⟩ : ∃ y_ : List Int,y_ = (([] : List Int)):=⟨_,rfl⟩
   replace H : (spec_l23Tree.l1 k1 x3_1 y1029 0 a0_0 l0_1) = some r:=by first | (rw [hy1029]; with_reducible exact H) | (have H2_:=(Option.bind_some _ _).symm.trans H; rw [hy1029]; with_reducible exact H2_) | (have H2_:=(Option.bind_some _ _).symm.trans H; with_reducible exact H2_) | with_reducible exact H | (rw [hy1029]; exact H) | exact H
   have Ny1029:=I hy1029;clear hy1029;have H':=I H;clear H;have hcz9_0 : wr.cell? ⟨gb1022,0,none⟩ = some (.int .i64 a0_0):=(blk_cell BK1022.out 0).trans rfl;have hcz9_1 : wr.cell? ⟨gb1022,1,none⟩ = some (.slice A0_1 l0_1.length c0_1):=(blk_cell BK1022.out 1).trans rfl;have hfz9_0:=blk_frozen BK1022.out 0;have hfz9_1:=blk_frozen BK1022.out 1
   go_wp2_with (first | ((with_reducible refine gate_dst (N:=21) rfl ?_); refine Kd.R_lit (Kd.int .i64) _ 3 ?hg (N:=21) ?hd (xs:=([] : List Int)) (inner:=[]) (ok:=fun _ => True) (okp:=fun _ => True) ?hr ?hp (fun _ hk => hk) trivial (Below.refl _ _) (Nat.le_refl _) (by simp) ?_; (case hd => rfl); (case hg => rfl); (case hr => first | (go_simp; done) | (go_simp; rfl)); (case hp => exact (Reps.none _ _)); intro v1030 w10 ho11 hb hg_ hnew_; clear hg_ hnew_; (first | rw [← Ny1029.out] at ho11 | (simp only [Int.reduceToNat] at ho11; rw [← Ny1029.out] at ho11)); have n0_:=I (Kd.R_elder' (by (with_reducible repeat (first | apply Kd.R_alloc | apply Kd.R_drewN | apply Kd.R_drew)); exact HO_3.out) (Kd.R_base ho11) hb); have n1_:=I (Kd.R_lower (Kd.R_new' ho11 (Kd.R_lt (by (with_reducible repeat (first | apply Kd.R_alloc | apply Kd.R_drewN | apply Kd.R_drew)); exact HO_3.out))) (below_size (by repeat (first | (with_reducible first | exact HB.out | apply below_alloc | apply pw_below_drewN | apply below_drew1 | refine below_set ?_ GE1022.out) | exact HB.out)))); have n2_:=I (blk_below (g:=gb1022) (o:=.cells #[.int .i64 a0_0,.slice A0_1 l0_1.length c0_1] 34 (0,0)) (by (with_reducible repeat (first | refine blk_drewN ?_ _ | refine blk_drew ?_ | refine blk_alloc ?_ _)); exact BK1022.out) hb); have n3_:=I (below_step (by repeat (first | (with_reducible first | exact HB.out | apply below_alloc | apply pw_below_drewN | apply below_drew1 | refine below_set ?_ GE1022.out) | exact HB.out)) hb); clear HO_3; clear BK1022; clear HB; have HO_3:=n0_; have HO1031:=n1_; have BK1022:=n2_; have HB:=n3_; clear n0_ n1_ n2_ n3_; clear hb ho11))
   go_loopg [5,6] k1 (fun kq v5 v6 w' => ∃ (x3_2 : List Int) (x5_2 : List Int) (x6_2 : Int),v6 = .int .i64 x6_2 ∧ Aside0 (spec_l23Tree.l1 kq x3_2 x5_2 x6_2 a0_0 l0_1 = some r) ∧ Aside0 (kq ≤ k1) ∧ Aside0 (Kd.R (Kd.int .i64) 3 w' w.heap.size (fun k_ => some k_ ≠ (v5 : Value).ownBlock) u3 x3_2) ∧ Aside0 (Kd.R (Kd.int .i64) 3 w' w.heap.size (fun k_ => some k_ ≠ (u3 : Value).ownBlock) v5 x5_2) ∧ Aside0 (w'.heap[gb1022]? = some (.cells #[.int .i64 a0_0,(.slice A0_1 l0_1.length c0_1)] 34 (0,0))) ∧ Aside0 (Below w.heap.size w w'))
   case atStart => exact ⟨(x3_1),(y1029),(0),(by first | rfl | (simp; done) | (simp [*]; done)),H',⟨Nat.le_refl _⟩,⟨by (with_reducible repeat (first | apply Kd.R_alloc | apply Kd.R_drewN | apply Kd.R_drew)); exact Kd.R_mono HO_3.out (fun _ hk => hk.2)⟩,⟨by (with_reducible repeat (first | apply Kd.R_alloc | apply Kd.R_drewN | apply Kd.R_drew)); exact Kd.R_mono HO1031.out (fun _ hk => hk.2)⟩,⟨by (with_reducible repeat (first | refine blk_drewN ?_ _ | refine blk_drew ?_ | refine blk_alloc ?_ _)); exact BK1022.out⟩,⟨by repeat (first | (with_reducible first | exact HB.out | apply below_alloc | apply pw_below_drewN | apply below_drew1 | refine below_set ?_ GE1022.out) | exact HB.out)⟩⟩
   case round =>
    clear H'
    try clear c1
    try clear p2
    try clear c5
    try clear c5b0
    try clear c6
    try clear p6
    try clear c10
    try clear hcz7_0
    try clear hcz7_1
    try clear hcz9_0
    try clear hcz9_1
    try clear hfz7_0
    try clear hfz7_1
    try clear hfz9_0
    try clear hfz9_1
    try clear p2
    obtain ⟨x3_2,x5_2,x6_2,rfl,HA,HK2,HO_3,HO_5,BK1022,HB⟩:=hrel;cases gk with
    | zero => exact absurd HA.out (by simp [spec_l23Tree.l1])
    | succ k2 =>
     have H:=HA.out;clear HA;simp only [spec_l23Tree.l1] at H
     by_cases c12 : x6_2 ≤ 99
     case neg =>
      rw [if_neg c12] at H;have c12b0 : decide (x6_2 ≤ 99) = false:=decide_eq_false c12;clear c12;obtain rfl:=Option.some.inj H
      go_wp2
      go_ret;exact ⟨_,by first | rfl | (simp [errW_none,errW_some] <;> rfl) | (simp [*,errW_none,errW_some] <;> rfl),by (with_reducible repeat (first | apply Kd.R_alloc | apply Kd.R_drewN | apply Kd.R_drew)); exact Kd.R_mono HO_5.out (fun _ hk => trivial),by repeat (first | (with_reducible first | exact HB.out | apply below_alloc | apply pw_below_drewN | apply below_drew1 | refine below_set ?_ GE1022.out) | exact HB.out)⟩
     rw [if_pos c12] at H;have c12b0 : decide (x6_2 ≤ 99) = true:=decide_eq_true c12;clear c12;have H':=I H;clear H
     go_wp2
     go_loopg [5,7] k2 (fun kq v5 v7 w' => ∃ (x3_3 : List Int) (x5_3 : List Int) (x7_3 : Int),v7 = .int .i64 x7_3 ∧ Aside0 (spec_l23Tree.l2 kq x3_3 x5_3 x6_2 x7_3 a0_0 l0_1 = some r) ∧ Aside0 (kq ≤ k2) ∧ Aside0 (Kd.R (Kd.int .i64) 3 w' w.heap.size (fun k_ => some k_ ≠ (v5 : Value).ownBlock) u3 x3_3) ∧ Aside0 (Kd.R (Kd.int .i64) 3 w' w.heap.size (fun k_ => some k_ ≠ (u3 : Value).ownBlock) v5 x5_3) ∧ Aside0 (w'.heap[gb1022]? = some (.cells #[.int .i64 a0_0,(.slice A0_1 l0_1.length c0_1)] 34 (0,0))) ∧ Aside0 (Below w.heap.size w w'))
     case atStart => exact ⟨(x3_2),(x5_2),(0),(by first | rfl | (simp; done) | (simp [*]; done)),H',⟨Nat.le_refl _⟩,⟨by (with_reducible repeat (first | apply Kd.R_alloc | apply Kd.R_drewN | apply Kd.R_drew)); exact HO_3.out⟩,⟨by (with_reducible repeat (first | apply Kd.R_alloc | apply Kd.R_drewN | apply Kd.R_drew)); exact HO_5.out⟩,⟨by (with_reducible repeat (first | refine blk_drewN ?_ _ | refine blk_drew ?_ | refine blk_alloc ?_ _)); exact BK1022.out⟩,⟨by repeat (first | (with_reducible first | exact HB.out | apply below_alloc | apply pw_below_drewN | apply below_drew1 | refine below_set ?_ GE1022.out) | exact HB.out)⟩⟩
     case round =>
      clear H'
      try clear c1
      try clear p2
      try clear c5
      try clear c5b0
      try clear c6
      try clear p6
      try clear c10
      try clear c12
      try clear c12b0
      try clear hcz7_0
      try clear hcz7_1
      try clear hcz9_0
      try clear hcz9_1
      try clear hfz7_0
      try clear hfz7_1
      try clear hfz9_0
      try clear hfz9_1
      try clear p2
      try clear p6
      obtain ⟨x3_3,x5_3,x7_3,rfl,HA,HK3,HO_3,HO_5,BK1022,HB⟩:=hrel;cases gk with
      | zero => exact absurd HA.out (by simp [spec_l23Tree.l2])
      | succ k3 =>
       have H:=HA.out;clear HA;simp only [spec_l23Tree.l2] at H
       by_cases c13 : x7_3 < (l0_1.length : Int)
       case neg =>
        rw [if_neg c13] at H;have c13b0 : decide (x7_3 < (l0_1.length : Int)) = false:=decide_eq_false c13;clear c13;have H':=I H;clear H;have hcz39_0 : wr.cell? ⟨gb1022,0,none⟩ = some (.int .i64 a0_0):=(blk_cell BK1022.out 0).trans rfl;have hcz39_1 : wr.cell? ⟨gb1022,1,none⟩ = some (.slice A0_1 l0_1.length c0_1):=(blk_cell BK1022.out 1).trans rfl;have hfz39_0:=blk_frozen BK1022.out 0;have hfz39_1:=blk_frozen BK1022.out 1
        go_wp2
        go_roundg k3
        case measure => have:=HK1.out; have:=HK2.out; have:=HK3.out; omega
        case rel => exact ⟨(x3_3),(x5_3),(wrap64 (x6_2 + 1)),(by first | rfl | (simp; done) | (simp [*]; done)),H',⟨by have:=HK1.out; have:=HK2.out; have:=HK3.out; omega⟩,⟨by (with_reducible repeat (first | apply Kd.R_alloc | apply Kd.R_drewN | apply Kd.R_drew)); exact HO_3.out⟩,⟨by (with_reducible repeat (first | apply Kd.R_alloc | apply Kd.R_drewN | apply Kd.R_drew)); exact HO_5.out⟩,⟨by (with_reducible repeat (first | refine blk_drewN ?_ _ | refine blk_drew ?_ | refine blk_alloc ?_ _)); exact BK1022.out⟩,⟨by repeat (first | (with_reducible first | exact HB.out | apply below_alloc | apply pw_below_drewN | apply below_drew1 | refine below_set ?_ GE1022.out) | exact HB.out)⟩⟩
       rw [if_pos c13] at H;have c13b0 : decide (x7_3 < (l0_1.length : Int)) = true:=decide_eq_true c13;clear c13
       by_cases c14 : 0 ≤ x7_3
       case neg =>
        rw [if_neg c14] at H;exact absurd H (by simp)
       rw [if_pos c14] at H;have c14b0 : decide (0 ≤ x7_3) = true:=decide_eq_true c14;clear c14;replace H:=Option.bind_eq_some_iff.mp H;obtain ⟨t1033,A150,H⟩:=H;replace H : ((spec_l23Root.f k3 x3_3 ((rd_T58 l0_1 x7_3).f1)).bind fun t1035 => (if ((rd_T58 l0_1 x7_3).f2) = x6_2 then (spec_l23Tree.j3 k3 x3_3 x5_3 x6_2 x7_3 t1033 t1035 (t1033 == t1035) a0_0 l0_1) else (spec_l23Tree.j3 k3 x3_3 x5_3 x6_2 x7_3 t1033 t1035 true a0_0 l0_1))) = some r:=H;have A15:=I A150;clear A150;replace H:=Option.bind_eq_some_iff.mp H;obtain ⟨t1035,A160,H⟩:=H;replace H : (if ((rd_T58 l0_1 x7_3).f2) = x6_2 then (spec_l23Tree.j3 k3 x3_3 x5_3 x6_2 x7_3 t1033 t1035 (t1033 == t1035) a0_0 l0_1) else (spec_l23Tree.j3 k3 x3_3 x5_3 x6_2 x7_3 t1033 t1035 true a0_0 l0_1)) = some r:=H;have A16:=I A160;clear A160;have HC17:=I H;clear H;have hcz18_0 : wr.cell? ⟨gb1022,0,none⟩ = some (.int .i64 a0_0):=(blk_cell BK1022.out 0).trans rfl;have hcz18_1 : wr.cell? ⟨gb1022,1,none⟩ = some (.slice A0_1 l0_1.length c0_1):=(blk_cell BK1022.out 1).trans rfl;have hfz18_0:=blk_frozen BK1022.out 0;have hfz18_1:=blk_frozen BK1022.out 1;have p1032 : 0 ≤ (x7_3 : Int):=of_decide_eq_true (by first | (with_reducible assumption) | assumption);have q1032 : x7_3 < (l0_1.length : Int):=of_decide_eq_true (by first | (with_reducible assumption) | assumption);obtain ⟨ad1032,e1032,hx1032_0,hx1032_1,hx1032_2,hx1032_3,hx1032_4⟩:=at_T58 HR0_1.out x7_3 p1032 q1032;cases e1032;replace hx1032_0:=(HB.out.cell (World.block_lt_of_cell? w _ hx1032_0)).trans hx1032_0;replace hx1032_1:=(HB.out.cell (World.block_lt_of_cell? w _ hx1032_1)).trans hx1032_1;replace hx1032_2:=(HB.out.cell (World.block_lt_of_cell? w _ hx1032_2)).trans hx1032_2;replace hx1032_3:=(HB.out.cell (World.block_lt_of_cell? w _ hx1032_3)).trans hx1032_3;replace hx1032_4:=(HB.out.cell (World.block_lt_of_cell? w _ hx1032_4)).trans hx1032_4;replace p1032:=eq_true p1032;replace q1032:=eq_true q1032;obtain ⟨Ao19,co19,eo19⟩:=Kd.R_slice HO_3.out;subst eo19
       go_upto_region 15 with (first | ((with_reducible refine gate_callee (f:=136) rfl ?_); refine goesL_ (some 40) rfl rfl Try.func136 (by kernel_rfl) rfl #[.slice Ao19 x3_3.length co19,.int .i64 ((rd_T58 l0_1 x7_3).f0)] rfl (by (try simp only [List.map_toArray,List.map_cons,List.map_nil]); first | done | rfl | (simp only [List.length_drop,List.length_take]; rfl)) ?_; (with_reducible refine (spec_l23Root.calls k3 _ _ x3_3 ((rd_T58 l0_1 x7_3).f0) t1033 _ ?side1 ?side2 A15.out).mono ?_); (case side1 => repeat (first | exact (Kd.R_reads' HO_3.out).2.2 | (with_reducible refine Kd.C_alloc ?_ _) | (with_reducible refine Kd.C_drewN ?_ _) | (with_reducible refine Kd.C_drew ?_))); (case side2 => exact (Kd.R_reads' HO_3.out).2.1); rintro e w' ⟨rfl,⟨nd,rfl⟩⟩; refine ⟨_,rfl,?_⟩; have p1034 : 0 ≤ (x7_3 : Int):=of_decide_eq_true (by first | (with_reducible assumption) | assumption); have q1034 : x7_3 < (l0_1.length : Int):=of_decide_eq_true (by first | (with_reducible assumption) | assumption); obtain ⟨ad1034,e1034,hx1034_0,hx1034_1,hx1034_2,hx1034_3,hx1034_4⟩:=at_T58 HR0_1.out x7_3 p1034 q1034; obtain rfl : ad1032 = ad1034:=(by injection e1034); replace hx1034_0:=(HB.out.cell (World.block_lt_of_cell? w _ hx1034_0)).trans hx1034_0; replace hx1034_1:=(HB.out.cell (World.block_lt_of_cell? w _ hx1034_1)).trans hx1034_1; replace hx1034_2:=(HB.out.cell (World.block_lt_of_cell? w _ hx1034_2)).trans hx1034_2; replace hx1034_3:=(HB.out.cell (World.block_lt_of_cell? w _ hx1034_3)).trans hx1034_3; replace hx1034_4:=(HB.out.cell (World.block_lt_of_cell? w _ hx1034_4)).trans hx1034_4; replace p1034:=eq_true p1034; replace q1034:=eq_true q1034) | ((with_reducible refine gate_callee (f:=136) rfl ?_); refine goesL_ (some 48) rfl rfl Try.func136 (by kernel_rfl) rfl #[.slice Ao19 x3_3.length co19,.int .i64 ((rd_T58 l0_1 x7_3).f1)] rfl (by (try simp only [List.map_toArray,List.map_cons,List.map_nil]); first | done | rfl | (simp only [List.length_drop,List.length_take]; rfl)) ?_; (with_reducible refine (spec_l23Root.calls k3 _ _ x3_3 ((rd_T58 l0_1 x7_3).f1) t1035 _ ?side1 ?side2 A16.out).mono ?_); (case side1 => repeat (first | exact (Kd.R_reads' HO_3.out).2.2 | (with_reducible refine Kd.C_alloc ?_ _) | (with_reducible refine Kd.C_drewN ?_ _) | (with_reducible refine Kd.C_drew ?_))); (case side2 => exact (Kd.R_reads' HO_3.out).2.1); rintro e w' ⟨rfl,⟨nd,rfl⟩⟩; refine ⟨_,rfl,?_⟩))
       (try simp only [Act.put,J,U,O])
       go_cut [61] (fun v61 wc => ∃ (kq : Nat) (x61_16 : Bool),v61 = .bool x61_16 ∧ Aside0 (spec_l23Tree.j3 kq x3_3 x5_3 x6_2 x7_3 t1033 t1035 x61_16 a0_0 l0_1 = some r) ∧ Aside0 (kq ≤ k3) ∧ Aside0 (Kd.R (Kd.int .i64) 3 wc w.heap.size (fun k_ => some k_ ≠ (u5 : Value).ownBlock) (.slice Ao19 x3_3.length co19) x3_3) ∧ Aside0 (Kd.R (Kd.int .i64) 3 wc w.heap.size (fun k_ => some k_ ≠ ((.slice Ao19 x3_3.length co19) : Value).ownBlock) u5 x5_3) ∧ Aside0 (wc.heap[gb1022]? = some (.cells #[.int .i64 a0_0,(.slice (some ad1032) l0_1.length c0_1)] 34 (0,0))) ∧ Aside0 (Below w.heap.size w wc))
       case first =>
        have H:=HC17.out;clear HC17
        by_cases c20 : ((rd_T58 l0_1 x7_3).f2) = x6_2
        case neg =>
         rw [if_neg c20] at H;have c20b0 : (((rd_T58 l0_1 x7_3).f2) == x6_2) = false:=beq_eq_false_iff_ne.mpr c20;have c20b1 : (((rd_T58 l0_1 x7_3).f2) != x6_2) = true:=bne_iff_ne.mpr c20
         (first | rw [c20b0] | (simp only [i64_w,i32_w]; rw [c20b0]) | skip)
         have H':=I H;clear H;have hcz22_0 : wr.cell? ⟨gb1022,0,none⟩ = some (.int .i64 a0_0):=(blk_cell BK1022.out 0).trans rfl;have hcz22_1 : wr.cell? ⟨gb1022,1,none⟩ = some (.slice (some ad1032) l0_1.length c0_1):=(blk_cell BK1022.out 1).trans rfl;have hfz22_0:=blk_frozen BK1022.out 0;have hfz22_1:=blk_frozen BK1022.out 1;have p1036 : 0 ≤ (x7_3 : Int):=of_decide_eq_true (by first | (with_reducible assumption) | assumption);have q1036 : x7_3 < (l0_1.length : Int):=of_decide_eq_true (by first | (with_reducible assumption) | assumption);obtain ⟨ad1036,e1036,hx1036_0,hx1036_1,hx1036_2,hx1036_3,hx1036_4⟩:=at_T58 HR0_1.out x7_3 p1036 q1036;obtain rfl : ad1032 = ad1036:=(by injection e1036)
         replace hx1036_0:=(HB.out.cell (World.block_lt_of_cell? w _ hx1036_0)).trans hx1036_0;replace hx1036_1:=(HB.out.cell (World.block_lt_of_cell? w _ hx1036_1)).trans hx1036_1;replace hx1036_2:=(HB.out.cell (World.block_lt_of_cell? w _ hx1036_2)).trans hx1036_2;replace hx1036_3:=(HB.out.cell (World.block_lt_of_cell? w _ hx1036_3)).trans hx1036_3;replace hx1036_4:=(HB.out.cell (World.block_lt_of_cell? w _ hx1036_4)).trans hx1036_4;replace p1036:=eq_true p1036;replace q1036:=eq_true q1036
         go_wp2
         go_meet
         case rel => exact ⟨_,(true),(by first | rfl | (simp; done) | (simp [*]; done)),H',⟨by have:=HK1.out; have:=HK2.out; have:=HK3.out; first | omega | exact Nat.le_refl _⟩,⟨by (with_reducible repeat (first | apply Kd.R_alloc | apply Kd.R_drewN | apply Kd.R_drew)); exact HO_3.out⟩,⟨by (with_reducible repeat (first | apply Kd.R_alloc | apply Kd.R_drewN | apply Kd.R_drew)); exact HO_5.out⟩,⟨by (with_reducible repeat (first | refine blk_drewN ?_ _ | refine blk_drew ?_ | refine blk_alloc ?_ _)); exact BK1022.out⟩,⟨by repeat (first | (with_reducible first | exact HB.out | apply below_alloc | apply pw_below_drewN | apply below_drew1 | refine below_set ?_ GE1022.out) | exact HB.out)⟩⟩
        rw [if_pos c20] at H;have c20b0 : (((rd_T58 l0_1 x7_3).f2) == x6_2) = true:=beq_iff_eq.mpr c20;have c20b1 : (((rd_T58 l0_1 x7_3).f2) != x6_2) = false:=bne_eq_false_iff_eq.mpr c20;clear c20
        (first | rw [c20b0] | (simp only [i64_w,i32_w]; rw [c20b0]) | skip)
        have H':=I H;clear H;have hcz21_0 : wr.cell? ⟨gb1022,0,none⟩ = some (.int .i64 a0_0):=(blk_cell BK1022.out 0).trans rfl;have hcz21_1 : wr.cell? ⟨gb1022,1,none⟩ = some (.slice (some ad1032) l0_1.length c0_1):=(blk_cell BK1022.out 1).trans rfl;have hfz21_0:=blk_frozen BK1022.out 0;have hfz21_1:=blk_frozen BK1022.out 1;have p1036 : 0 ≤ (x7_3 : Int):=of_decide_eq_true (by first | (with_reducible assumption) | assumption);have q1036 : x7_3 < (l0_1.length : Int):=of_decide_eq_true (by first | (with_reducible assumption) | assumption);obtain ⟨ad1036,e1036,hx1036_0,hx1036_1,hx1036_2,hx1036_3,hx1036_4⟩:=at_T58 HR0_1.out x7_3 p1036 q1036;obtain rfl : ad1032 = ad1036:=(by injection e1036)
        replace hx1036_0:=(HB.out.cell (World.block_lt_of_cell? w _ hx1036_0)).trans hx1036_0;replace hx1036_1:=(HB.out.cell (World.block_lt_of_cell? w _ hx1036_1)).trans hx1036_1;replace hx1036_2:=(HB.out.cell (World.block_lt_of_cell? w _ hx1036_2)).trans hx1036_2;replace hx1036_3:=(HB.out.cell (World.block_lt_of_cell? w _ hx1036_3)).trans hx1036_3;replace hx1036_4:=(HB.out.cell (World.block_lt_of_cell? w _ hx1036_4)).trans hx1036_4;replace p1036:=eq_true p1036;replace q1036:=eq_true q1036
        go_wp2
        go_meet
        case rel => exact ⟨_,((t1033 == t1035)),(by first | rfl | (simp; done) | (simp [*]; done)),H',⟨by have:=HK1.out; have:=HK2.out; have:=HK3.out; first | omega | exact Nat.le_refl _⟩,⟨by (with_reducible repeat (first | apply Kd.R_alloc | apply Kd.R_drewN | apply Kd.R_drew)); exact HO_3.out⟩,⟨by (with_reducible repeat (first | apply Kd.R_alloc | apply Kd.R_drewN | apply Kd.R_drew)); exact HO_5.out⟩,⟨by (with_reducible repeat (first | refine blk_drewN ?_ _ | refine blk_drew ?_ | refine blk_alloc ?_ _)); exact BK1022.out⟩,⟨by repeat (first | (with_reducible first | exact HB.out | apply below_alloc | apply pw_below_drewN | apply below_drew1 | refine below_set ?_ GE1022.out) | exact HB.out)⟩⟩
       case rest =>
        clear HC17
        try clear c1
        try clear p1
        try clear q1
        try clear hx1
        try clear c2
        try clear p2
        try clear c5
        try clear c5b0
        try clear c6
        try clear p6
        try clear c10
        try clear p10
        try clear q10
        try clear hx10
        try clear c12
        try clear c12b0
        try clear c13
        try clear c13b0
        try clear c14
        try clear c14b0
        try clear c20
        try clear c20b0
        try clear c20b1
        try clear hcz18_0
        try clear hcz18_1
        try clear hcz21_0
        try clear hcz21_1
        try clear hcz22_0
        try clear hcz22_1
        try clear hcz7_0
        try clear hcz7_1
        try clear hcz9_0
        try clear hcz9_1
        try clear hfz18_0
        try clear hfz18_1
        try clear hfz21_0
        try clear hfz21_1
        try clear hfz22_0
        try clear hfz22_1
        try clear hfz7_0
        try clear hfz7_1
        try clear hfz9_0
        try clear hfz9_1
        try clear hx1032_0
        try clear hx1032_1
        try clear hx1032_2
        try clear hx1032_3
        try clear hx1032_4
        try clear hx1034_0
        try clear hx1034_1
        try clear hx1034_2
        try clear hx1034_3
        try clear hx1034_4
        try clear hx1036_0
        try clear hx1036_1
        try clear hx1036_2
        try clear hx1036_3
        try clear hx1036_4
        try clear p1032
        try clear p1034
        try clear p1036
        try clear p2
        try clear p6
        try clear q1032
        try clear q1034
        try clear q1036
        obtain ⟨kq,x61_16,rfl,HA,HJ16,HO_3,HO_5,BK1022,HB⟩:=hcut;cases kq with
        | zero => exact absurd HA.out (by simp [spec_l23Tree.j3])
        | succ kj16 =>
         have H:=HA.out;clear HA;simp only [spec_l23Tree.j3] at H
         by_cases c23 : x61_16 = true
         case pos =>
          subst c23;have H1 : (spec_l23Tree.l2 kj16 x3_3 x5_3 x6_2 (wrap64 (x7_3 + 1)) a0_0 l0_1) = some r:=by rw [if_pos rfl] at H; exact H
          clear H;have H:=H1;clear H1;have H':=I H;clear H
          go_wp2
          go_roundg kj16
          case measure => have:=HK1.out; have:=HK2.out; have:=HK3.out; have:=HJ16.out; omega
          case rel => exact ⟨(x3_3),(x5_3),(wrap64 (x7_3 + 1)),(by first | rfl | (simp; done) | (simp [*]; done)),H',⟨by have:=HK1.out; have:=HK2.out; have:=HK3.out; have:=HJ16.out; omega⟩,⟨by (with_reducible repeat (first | apply Kd.R_alloc | apply Kd.R_drewN | apply Kd.R_drew)); exact HO_3.out⟩,⟨by (with_reducible repeat (first | apply Kd.R_alloc | apply Kd.R_drewN | apply Kd.R_drew)); exact HO_5.out⟩,⟨by (with_reducible repeat (first | refine blk_drewN ?_ _ | refine blk_drew ?_ | refine blk_alloc ?_ _)); exact BK1022.out⟩,⟨by repeat (first | (with_reducible first | exact HB.out | apply below_alloc | apply pw_below_drewN | apply below_drew1 | refine below_set ?_ GE1022.out) | exact HB.out)⟩⟩
         replace c23:=Bool.eq_false_iff.mpr c23;subst c23;have H1 : (if t1033 < t1035 then (if 0 ≤ t1035 then (if t1035 < (x3_3.length : Int) then (if x5_3.length < 17592186044416 then (spec_l23Tree.l2 kj16 (x3_3.set (t1035 : Int).toNat t1033) (x5_3 ++ [x7_3]) x6_2 (wrap64 (x7_3 + 1)) a0_0 l0_1) else (none)) else (none)) else (none)) else (if 0 ≤ t1033 then (if t1033 < (x3_3.length : Int) then (if x5_3.length < 17592186044416 then (spec_l23Tree.l2 kj16 (x3_3.set (t1033 : Int).toNat t1035) (x5_3 ++ [x7_3]) x6_2 (wrap64 (x7_3 + 1)) a0_0 l0_1) else (none)) else (none)) else (none))) = some r:=by rw [if_neg (show ¬ (false = true) by decide)] at H; exact H
         clear H;have H:=H1;clear H1
         by_cases c24 : t1033 < t1035
         case pos =>
          rw [if_pos c24] at H;have c24b0 : decide (t1033 < t1035) = true:=decide_eq_true c24;clear c24
          by_cases c25 : 0 ≤ t1035
          case neg =>
           rw [if_neg c25] at H;exact absurd H (by simp)
          rw [if_pos c25] at H;have c25b0 : decide (0 ≤ t1035) = true:=decide_eq_true c25;clear c25
          by_cases c26 : t1035 < (x3_3.length : Int)
          case neg =>
           rw [if_neg c26] at H;exact absurd H (by simp)
          rw [if_pos c26] at H;have c26b0 : decide (t1035 < (x3_3.length : Int)) = true:=decide_eq_true c26;clear c26;obtain ⟨y1037,hy1037⟩ : ∃ y_ : List Int,y_ = (x3_3.set (t1035 : Int).toNat t1033):=⟨_,rfl⟩
          replace H : (if x5_3.length < 17592186044416 then (spec_l23Tree.l2 kj16 y1037 (x5_3 ++ [x7_3]) x6_2 (wrap64 (x7_3 + 1)) a0_0 l0_1) else (none)) = some r:=by first | (rw [hy1037]; with_reducible exact H) | (have H2_:=(Option.bind_some _ _).symm.trans H; rw [hy1037]; with_reducible exact H2_) | (have H2_:=(Option.bind_some _ _).symm.trans H; with_reducible exact H2_) | with_reducible exact H | (rw [hy1037]; exact H) | exact H
          have Ny1037:=I hy1037;clear hy1037
          by_cases c28 : x5_3.length < 17592186044416
          case neg =>
           rw [if_neg c28] at H;exact absurd H (by simp)
          rw [if_pos c28] at H;have LMc28:=I c28;clear c28;obtain ⟨y1038,hy1038⟩ : ∃ y_ : List Int,y_ = (x5_3 ++ [x7_3]):=⟨_,rfl⟩
          replace H : (spec_l23Tree.l2 kj16 y1037 y1038 x6_2 (wrap64 (x7_3 + 1)) a0_0 l0_1) = some r:=by first | (rw [hy1038]; with_reducible exact H) | (have H2_:=(Option.bind_some _ _).symm.trans H; rw [hy1038]; with_reducible exact H2_) | (have H2_:=(Option.bind_some _ _).symm.trans H; with_reducible exact H2_) | with_reducible exact H | (rw [hy1038]; exact H) | exact H
          have Ny1038:=I hy1038;clear hy1038;have H':=I H;clear H;have p27 : 0 ≤ (t1035 : Int):=of_decide_eq_true (by first | (with_reducible assumption) | assumption);have q27 : (t1035 : Int) < ((x3_3.length : Int) : Int):=of_decide_eq_true (by first | (with_reducible assumption) | assumption);obtain ⟨go27,co27,eo27,gb27,gl27,cl27,HG27⟩:=Kd.R_form HO_3.out (by omega)
          (first | cases eo27 | (injection eo27 with ea_ en_ ec_; (first | subst ea_ | (injection ea_ with ea_; subst ea_)); subst ec_; clear en_))
          have GB27:=I gb27;have GG27:=I HG27;clear gb27 gl27 HG27;obtain ⟨hx27_0,hf27_0⟩:=Kd.R_celln 0 HO_3.out (t1035 : Int) p27 q27;replace p27:=eq_true p27;replace q27:=eq_true q27;have HP29:=Kd.R_putg HO_3.out (t1035 : Int) t1033
          go_wp2_with (first | ((with_reducible refine gate_store (t:=3) (p:=68) rfl ?_); refine store_event (t:=3) (p:=68) (v:=?vo_w30) (w1:=(wc.setCell ⟨go27,(t1035 : Int).toNat,none⟩ (.int .i64 t1033))) ?hg ?ho ?hn ?hr ?_; (case ho => rfl); (case hg => rfl); (case hn => rfl); (case hr => first | (go_simp; done) | (go_simp; rfl)); intro w30 hw; have hg : wc.grownBy w30 (some go27):=(by rw [hw]; exact HP29.2); have hp_ : Kd.R (Kd.int .i64) 3 w30 w.heap.size (fun k_ => some k_ ≠ (u5 : Value).ownBlock) (.slice (some ⟨go27,0,none⟩) x3_3.length co19) y1037:=(by rw [hw,Ny1037.out]; exact HP29.1); clear HP29; have n0_:=I (hp_); have n1_:=I (Kd.R_after (v:=(.slice (some ⟨go27,0,none⟩) x3_3.length co19)) (v1:=(.slice (some ⟨go27,0,none⟩) x3_3.length co19)) (ok:=(fun _ => True)) (by (with_reducible repeat (first | apply Kd.R_alloc | apply Kd.R_drewN | apply Kd.R_drew)); exact Kd.R_mono HO_5.out (fun _ hk => ⟨trivial,hk⟩)) hg (.inl rfl)); have n2_:=I (blk_grown (g:=gb1022) (o:=.cells #[.int .i64 a0_0,.slice (some ad1032) l0_1.length c0_1] 34 (0,0)) (by (with_reducible repeat (first | refine blk_drewN ?_ _ | refine blk_drew ?_ | refine blk_alloc ?_ _)); exact BK1022.out) hg (Kd.R_ne HO_3.out BK1022.out (by decide))); have n3_:=I ((by rw [hw]; exact below_set (HB.out) GB27.out : Below w.heap.size w w30)); clear HO_3; clear HO_5; clear BK1022; clear HB; have HO_3:=n0_; have HO_5:=n1_; have BK1022:=n2_; have HB:=n3_; clear n0_ n1_ n2_ n3_; clear hg hw hp_) | ((with_reducible refine gate_builtin (b:=.append) (xs:=#[.tmp 73,.tmp 75]) rfl ?_); at_builtin; refine Kd.R_append (Kd.int .i64) (w0:=w) w.heap.size rfl (.tmp 73) (.tmp 75) 23 3 (.int .i64 0) 8 rfl Try.underlying23 info3 rfl (by decide) (by omega) u5 x5_3 x7_3 [.int .i64 x7_3] (fun k_ => some k_ ≠ (.slice (some ⟨go27,0,none⟩) x3_3.length co19 : Value).ownBlock) (fun _ => False) rfl rfl ?aP (fun _ hk => hk.elim) ?aF ?aO ?aB ?aS ?aL ?_; (case aP => exact rfl); (case aB => exact (by repeat (first | (with_reducible first | exact HB.out | apply below_alloc | apply pw_below_drewN | apply below_drew1 | refine below_set ?_ GE1022.out) | exact HB.out))); (case aF => exact (fun k_ hk => Kd.fresh' (Kd.R_lt (by (with_reducible repeat (first | apply Kd.R_alloc | apply Kd.R_drewN | apply Kd.R_drew)); exact HO_3.out)) k_ hk)); (case aO => exact (by (with_reducible repeat (first | apply Kd.R_alloc | apply Kd.R_drewN | apply Kd.R_drew)); exact Kd.R_mono HO_5.out (fun _ hk => hk.2))); (case aS => exact (below_size (by repeat (first | (with_reducible first | exact HB.out | apply below_alloc | apply pw_below_drewN | apply below_drew1 | refine below_set ?_ GE1022.out) | exact HB.out)))); (case aL => have:=LMc28.out; omega); intro v1039 w31 ho hb hg hat; rw [← Ny1038.out] at ho; have n0_:=I (Kd.R_after (ok:=(fun _ => True)) (by (with_reducible repeat (first | apply Kd.R_alloc | apply Kd.R_drewN | apply Kd.R_drew)); exact Kd.R_mono HO_3.out (fun _ hk => ⟨trivial,hk⟩)) hg hat); have n1_:=I (blk_grown (g:=gb1022) (o:=.cells #[.int .i64 a0_0,.slice (some ad1032) l0_1.length c0_1] 34 (0,0)) (by (with_reducible repeat (first | refine blk_drewN ?_ _ | refine blk_drew ?_ | refine blk_alloc ?_ _)); exact BK1022.out) hg (Kd.R_ne HO_5.out BK1022.out (by decide))); have n2_:=I (hb); have n3_:=I (ho); clear HO_3; clear BK1022; clear HB; clear HO_5; have HO_3:=n0_; have BK1022:=n1_; have HB:=n2_; have HO1040:=n3_; clear n0_ n1_ n2_ n3_; clear ho hb hg hat))
          go_roundg kj16
          case measure => have:=HK1.out; have:=HK2.out; have:=HK3.out; have:=HJ16.out; omega
          case rel => exact ⟨(y1037),(y1038),(wrap64 (x7_3 + 1)),(by first | rfl | (simp; done) | (simp [*]; done)),H',⟨by have:=HK1.out; have:=HK2.out; have:=HK3.out; have:=HJ16.out; omega⟩,⟨by (with_reducible repeat (first | apply Kd.R_alloc | apply Kd.R_drewN | apply Kd.R_drew)); exact Kd.R_mono HO_3.out (fun _ hk => hk.2)⟩,⟨by (with_reducible repeat (first | apply Kd.R_alloc | apply Kd.R_drewN | apply Kd.R_drew)); exact HO1040.out⟩,⟨by (with_reducible repeat (first | refine blk_drewN ?_ _ | refine blk_drew ?_ | refine blk_alloc ?_ _)); exact BK1022.out⟩,⟨by repeat (first | (with_reducible first | exact HB.out | apply below_alloc | apply pw_below_drewN | apply below_drew1 | refine below_set ?_ GE1022.out) | exact HB.out)⟩⟩
         rw [if_neg c24] at H;have c24b0 : decide (t1033 < t1035) = false:=decide_eq_false c24;clear c24
         by_cases c32 : 0 ≤ t1033
         case neg =>
          rw [if_neg c32] at H;exact absurd H (by simp)
         rw [if_pos c32] at H;have c32b0 : decide (0 ≤ t1033) = true:=decide_eq_true c32;clear c32
         by_cases c33 : t1033 < (x3_3.length : Int)
         case neg =>
          rw [if_neg c33] at H;exact absurd H (by simp)
         rw [if_pos c33] at H;have c33b0 : decide (t1033 < (x3_3.length : Int)) = true:=decide_eq_true c33;clear c33;obtain ⟨y1041,hy1041⟩ : ∃ y_ : List Int,y_ = (x3_3.set (t1033 : Int).toNat t1035):=⟨_,rfl⟩
         replace H : (if x5_3.length < 17592186044416 then (spec_l23Tree.l2 kj16 y1041 (x5_3 ++ [x7_3]) x6_2 (wrap64 (x7_3 + 1)) a0_0 l0_1) else (none)) = some r:=by first | (rw [hy1041]; with_reducible exact H) | (have H2_:=(Option.bind_some _ _).symm.trans H; rw [hy1041]; with_reducible exact H2_) | (have H2_:=(Option.bind_some _ _).symm.trans H; with_reducible exact H2_) | with_reducible exact H | (rw [hy1041]; exact H) | exact H
         have Ny1041:=I hy1041;clear hy1041
         by_cases c35 : x5_3.length < 17592186044416
         case neg =>
          rw [if_neg c35] at H;exact absurd H (by simp)
         rw [if_pos c35] at H;have LMc35:=I c35;clear c35;obtain ⟨y1042,hy1042⟩ : ∃ y_ : List Int,y_ = (x5_3 ++ [x7_3]):=⟨_,rfl⟩
         replace H : (spec_l23Tree.l2 kj16 y1041 y1042 x6_2 (wrap64 (x7_3 + 1)) a0_0 l0_1) = some r:=by first | (rw [hy1042]; with_reducible exact H) | (have H2_:=(Option.bind_some _ _).symm.trans H; rw [hy1042]; with_reducible exact H2_) | (have H2_:=(Option.bind_some _ _).symm.trans H; with_reducible exact H2_) | with_reducible exact H | (rw [hy1042]; exact H) | exact H
         have Ny1042:=I hy1042;clear hy1042;have H':=I H;clear H;have p34 : 0 ≤ (t1033 : Int):=of_decide_eq_true (by first | (with_reducible assumption) | assumption);have q34 : (t1033 : Int) < ((x3_3.length : Int) : Int):=of_decide_eq_true (by first | (with_reducible assumption) | assumption);obtain ⟨go34,co34,eo34,gb34,gl34,cl34,HG34⟩:=Kd.R_form HO_3.out (by omega)
         (first | cases eo34 | (injection eo34 with ea_ en_ ec_; (first | subst ea_ | (injection ea_ with ea_; subst ea_)); subst ec_; clear en_))
         have GB34:=I gb34;have GG34:=I HG34;clear gb34 gl34 HG34;obtain ⟨hx34_0,hf34_0⟩:=Kd.R_celln 0 HO_3.out (t1033 : Int) p34 q34;replace p34:=eq_true p34;replace q34:=eq_true q34;have HP36:=Kd.R_putg HO_3.out (t1033 : Int) t1035
         go_wp2_with (first | ((with_reducible refine gate_store (t:=3) (p:=72) rfl ?_); refine store_event (t:=3) (p:=72) (v:=?vo_w37) (w1:=(wc.setCell ⟨go34,(t1033 : Int).toNat,none⟩ (.int .i64 t1035))) ?hg ?ho ?hn ?hr ?_; (case ho => rfl); (case hg => rfl); (case hn => rfl); (case hr => first | (go_simp; done) | (go_simp; rfl)); intro w37 hw; have hg : wc.grownBy w37 (some go34):=(by rw [hw]; exact HP36.2); have hp_ : Kd.R (Kd.int .i64) 3 w37 w.heap.size (fun k_ => some k_ ≠ (u5 : Value).ownBlock) (.slice (some ⟨go34,0,none⟩) x3_3.length co19) y1041:=(by rw [hw,Ny1041.out]; exact HP36.1); clear HP36; have n0_:=I (hp_); have n1_:=I (Kd.R_after (v:=(.slice (some ⟨go34,0,none⟩) x3_3.length co19)) (v1:=(.slice (some ⟨go34,0,none⟩) x3_3.length co19)) (ok:=(fun _ => True)) (by (with_reducible repeat (first | apply Kd.R_alloc | apply Kd.R_drewN | apply Kd.R_drew)); exact Kd.R_mono HO_5.out (fun _ hk => ⟨trivial,hk⟩)) hg (.inl rfl)); have n2_:=I (blk_grown (g:=gb1022) (o:=.cells #[.int .i64 a0_0,.slice (some ad1032) l0_1.length c0_1] 34 (0,0)) (by (with_reducible repeat (first | refine blk_drewN ?_ _ | refine blk_drew ?_ | refine blk_alloc ?_ _)); exact BK1022.out) hg (Kd.R_ne HO_3.out BK1022.out (by decide))); have n3_:=I ((by rw [hw]; exact below_set (HB.out) GB34.out : Below w.heap.size w w37)); clear HO_3; clear HO_5; clear BK1022; clear HB; have HO_3:=n0_; have HO_5:=n1_; have BK1022:=n2_; have HB:=n3_; clear n0_ n1_ n2_ n3_; clear hg hw hp_) | ((with_reducible refine gate_builtin (b:=.append) (xs:=#[.tmp 73,.tmp 75]) rfl ?_); at_builtin; refine Kd.R_append (Kd.int .i64) (w0:=w) w.heap.size rfl (.tmp 73) (.tmp 75) 23 3 (.int .i64 0) 8 rfl Try.underlying23 info3 rfl (by decide) (by omega) u5 x5_3 x7_3 [.int .i64 x7_3] (fun k_ => some k_ ≠ (.slice (some ⟨go34,0,none⟩) x3_3.length co19 : Value).ownBlock) (fun _ => False) rfl rfl ?aP (fun _ hk => hk.elim) ?aF ?aO ?aB ?aS ?aL ?_; (case aP => exact rfl); (case aB => exact (by repeat (first | (with_reducible first | exact HB.out | apply below_alloc | apply pw_below_drewN | apply below_drew1 | refine below_set ?_ GE1022.out) | exact HB.out))); (case aF => exact (fun k_ hk => Kd.fresh' (Kd.R_lt (by (with_reducible repeat (first | apply Kd.R_alloc | apply Kd.R_drewN | apply Kd.R_drew)); exact HO_3.out)) k_ hk)); (case aO => exact (by (with_reducible repeat (first | apply Kd.R_alloc | apply Kd.R_drewN | apply Kd.R_drew)); exact Kd.R_mono HO_5.out (fun _ hk => hk.2))); (case aS => exact (below_size (by repeat (first | (with_reducible first | exact HB.out | apply below_alloc | apply pw_below_drewN | apply below_drew1 | refine below_set ?_ GE1022.out) | exact HB.out)))); (case aL => have:=LMc35.out; omega); intro v1043 w38 ho hb hg hat; rw [← Ny1042.out] at ho; have n0_:=I (Kd.R_after (ok:=(fun _ => True)) (by (with_reducible repeat (first | apply Kd.R_alloc | apply Kd.R_drewN | apply Kd.R_drew)); exact Kd.R_mono HO_3.out (fun _ hk => ⟨trivial,hk⟩)) hg hat); have n1_:=I (blk_grown (g:=gb1022) (o:=.cells #[.int .i64 a0_0,.slice (some ad1032) l0_1.length c0_1] 34 (0,0)) (by (with_reducible repeat (first | refine blk_drewN ?_ _ | refine blk_drew ?_ | refine blk_alloc ?_ _)); exact BK1022.out) hg (Kd.R_ne HO_5.out BK1022.out (by decide))); have n2_:=I (hb); have n3_:=I (ho); clear HO_3; clear BK1022; clear HB; clear HO_5; have HO_3:=n0_; have BK1022:=n1_; have HB:=n2_; have HO1044:=n3_; clear n0_ n1_ n2_ n3_; clear ho hb hg hat))
         go_roundg kj16
         case measure => have:=HK1.out; have:=HK2.out; have:=HK3.out; have:=HJ16.out; omega
         case rel => exact ⟨(y1041),(y1042),(wrap64 (x7_3 + 1)),(by first | rfl | (simp; done) | (simp [*]; done)),H',⟨by have:=HK1.out; have:=HK2.out; have:=HK3.out; have:=HJ16.out; omega⟩,⟨by (with_reducible repeat (first | apply Kd.R_alloc | apply Kd.R_drewN | apply Kd.R_drew)); exact Kd.R_mono HO_3.out (fun _ hk => hk.2)⟩,⟨by (with_reducible repeat (first | apply Kd.R_alloc | apply Kd.R_drewN | apply Kd.R_drew)); exact HO1044.out⟩,⟨by (with_reducible repeat (first | refine blk_drewN ?_ _ | refine blk_drew ?_ | refine blk_alloc ?_ _)); exact BK1022.out⟩,⟨by repeat (first | (with_reducible first | exact HB.out | apply below_alloc | apply pw_below_drewN | apply below_drew1 | refine below_set ?_ GE1022.out) | exact HB.out)⟩⟩
def spec_TreeBest.f (k : Nat) (a0_0 : Int) (l0_1 : List (S58)) : Option (List Int):=(spec_l1Ok.f k a0_0 l0_1).bind fun t1046 => (if t1046 = true then ((spec_l23Tree.f k a0_0 l0_1).bind fun t1047 => (some t1047)) else (some ([] : List Int)))
set_option maxHeartbeats 8000000 in
set_option maxRecDepth 100000 in
theorem spec_TreeBest.calls (k : Nat) (a0_0 : Int) (A0_1 : Option Addr) (c0_1 : Nat) (l0_1 : List (S58)) (r : List Int) (w : World) (hr0_1 : Kd.C k58 w A0_1 l0_1.length l0_1) (hc0_1 : l0_1.length ≤ c0_1) (h : spec_TreeBest.f k a0_0 l0_1 = some r) :
  Calls Try.prog 50 #[.agg #[.int .i64 a0_0,.slice A0_1 l0_1.length c0_1]] w fun e w' => ∃ v0_ : Value,e = .returned (v0_) ∧ Kd.R (Kd.int .i64) 3 w' w.heap.size (fun _ => True) v0_ r ∧ Below w.heap.size w w':=by
 have hu34:=Try.underlying34;have HR0_1:=I hr0_1;have HC0_1:=I hc0_1;clear hr0_1 hc0_1;have HB:=I (Below.refl w.heap.size w);have H : ((spec_l1Ok.f k a0_0 l0_1).bind fun t1046 => (if t1046 = true then ((spec_l23Tree.f k a0_0 l0_1).bind fun t1047 => (some t1047)) else (some ([] : List Int)))) = some r:=h;clear h;replace H:=Option.bind_eq_some_iff.mp H;obtain ⟨t1046,A20,H⟩:=H;replace H : (if t1046 = true then ((spec_l23Tree.f k a0_0 l0_1).bind fun t1047 => (some t1047)) else (some ([] : List Int))) = some r:=H;have A2:=I A20;clear A20
 by_cases c3 : t1046 = true
 case neg =>
  replace c3:=Bool.eq_false_iff.mpr c3;subst c3;have H1 : (some ([] : List Int)) = some r:=by rw [if_neg (show ¬ (false = true) by decide)] at H; exact H
  clear H;have H:=H1;clear H1;obtain rfl:=Option.some.inj H
  go_enter Try.func50,Try.ntmps50
  go_wp2_with (first | ((with_reducible refine gate_dst (N:=1) rfl ?_); refine box_event ?hg (N:=1) ?hd (cs:=#[.int .i64 a0_0,.slice A0_1 l0_1.length c0_1]) (t:=34) ?hr ?_; (case hd => rfl); (case hg => rfl); (case hr => first | (go_simp; done) | (go_simp; rfl)); intro gb1045 hg w10 hbox hb; have n0_:=I (below_step (by repeat (first | (with_reducible first | exact HB.out | apply below_alloc | apply pw_below_drewN | apply below_drew1) | exact HB.out)) hb); have n1_:=I (hbox); have n2_:=I ((by rw [hg]; exact (below_size (by repeat (first | (with_reducible first | exact HB.out | apply below_alloc | apply pw_below_drewN | apply below_drew1) | exact HB.out))) : w.heap.size ≤ gb1045)); have n3_:=I ((by rw [hg]; exact (below_size (by repeat (first | (with_reducible first | exact HB.out | apply below_alloc | apply pw_below_drewN | apply below_drew1) | exact HB.out))) : w.heap.size ≤ gb1045)); clear HB; have HB:=n0_; have BK1045:=n1_; have GW1045:=n2_; have GE1045:=n3_; clear n0_ n1_ n2_ n3_; clear hb hbox hg; have hcz11_0 : w10.cell? ⟨gb1045,0,none⟩ = some (.int .i64 a0_0):=(blk_cell BK1045.out 0).trans rfl; have hcz11_1 : w10.cell? ⟨gb1045,1,none⟩ = some (.slice A0_1 l0_1.length c0_1):=(blk_cell BK1045.out 1).trans rfl; have hfz11_0:=blk_frozen BK1045.out 0; have hfz11_1:=blk_frozen BK1045.out 1) | ((with_reducible refine gate_callee (f:=76) rfl ?_); refine goesL_ (some 4) rfl rfl Try.func76 (by kernel_rfl) rfl #[.agg #[.int .i64 a0_0,.slice A0_1 l0_1.length c0_1]] rfl (by (try simp only [List.map_toArray,List.map_cons,List.map_nil]); first | done | rfl | (simp only [List.length_drop,List.length_take]; rfl)) ?_; (with_reducible refine (spec_l1Ok.calls k a0_0 _ _ l0_1 false _ ?side1 ?side2 A2.out).mono ?_); (case side1 => repeat (first | exact (Kd.C_below HR0_1.out HB.out) | (with_reducible refine Kd.C_alloc ?_ _) | (with_reducible refine Kd.C_drewN ?_ _) | (with_reducible refine Kd.C_drew ?_))); (case side2 => exact HC0_1.out); rintro e w12 ⟨rfl,hb⟩; refine ⟨_,rfl,?_⟩; have n0_:=I (blk_below (g:=gb1045) (o:=.cells #[.int .i64 a0_0,.slice A0_1 l0_1.length c0_1] 34 (0,0)) (by (with_reducible repeat (first | refine blk_drewN ?_ _ | refine blk_drew ?_ | refine blk_alloc ?_ _)); exact BK1045.out) hb); have n1_:=I (below_step (by repeat (first | (with_reducible first | exact HB.out | apply below_alloc | apply pw_below_drewN | apply below_drew1 | refine below_set ?_ GE1045.out) | exact HB.out)) hb); clear BK1045; clear HB; have BK1045:=n0_; have HB:=n1_; clear n0_ n1_; (try clear hb); (try clear hb2); (try clear hk); (try clear hi)))
  go_ret;exact ⟨_,by first | rfl | (simp [errW_none,errW_some] <;> rfl) | (simp [*,errW_none,errW_some] <;> rfl),by first | exact Kd.R_nil _ _ _ _ _ | exact Kd.N_nil _ _ _ _ _ | exact Kd.V_nil _ _ _ _ _ | exact Kd.Q_nil _ _ _ _ _ | exact Kd.S_nil _ _ _ _ _,by repeat (first | (with_reducible first | exact HB.out | apply below_alloc | apply pw_below_drewN | apply below_drew1 | refine below_set ?_ GE1045.out) | exact HB.out)⟩
 subst c3;have H1 : ((spec_l23Tree.f k a0_0 l0_1).bind fun t1047 => (some t1047)) = some r:=by rw [if_pos rfl] at H; exact H
 clear H;have H:=H1;clear H1;replace H:=Option.bind_eq_some_iff.mp H;obtain ⟨t1047,A40,H⟩:=H;replace H : (some t1047) = some r:=H;have A4:=I A40;clear A40;obtain rfl:=Option.some.inj H
 go_enter Try.func50,Try.ntmps50
 go_wp2_with (first | ((with_reducible refine gate_dst (N:=1) rfl ?_); refine box_event ?hg (N:=1) ?hd (cs:=#[.int .i64 a0_0,.slice A0_1 l0_1.length c0_1]) (t:=34) ?hr ?_; (case hd => rfl); (case hg => rfl); (case hr => first | (go_simp; done) | (go_simp; rfl)); intro gb1045 hg w5 hbox hb; have n0_:=I (below_step (by repeat (first | (with_reducible first | exact HB.out | apply below_alloc | apply pw_below_drewN | apply below_drew1) | exact HB.out)) hb); have n1_:=I (hbox); have n2_:=I ((by rw [hg]; exact (below_size (by repeat (first | (with_reducible first | exact HB.out | apply below_alloc | apply pw_below_drewN | apply below_drew1) | exact HB.out))) : w.heap.size ≤ gb1045)); have n3_:=I ((by rw [hg]; exact (below_size (by repeat (first | (with_reducible first | exact HB.out | apply below_alloc | apply pw_below_drewN | apply below_drew1) | exact HB.out))) : w.heap.size ≤ gb1045)); clear HB; have HB:=n0_; have BK1045:=n1_; have GW1045:=n2_; have GE1045:=n3_; clear n0_ n1_ n2_ n3_; clear hb hbox hg; have hcz6_0 : w5.cell? ⟨gb1045,0,none⟩ = some (.int .i64 a0_0):=(blk_cell BK1045.out 0).trans rfl; have hcz6_1 : w5.cell? ⟨gb1045,1,none⟩ = some (.slice A0_1 l0_1.length c0_1):=(blk_cell BK1045.out 1).trans rfl; have hfz6_0:=blk_frozen BK1045.out 0; have hfz6_1:=blk_frozen BK1045.out 1) | ((with_reducible refine gate_callee (f:=76) rfl ?_); refine goesL_ (some 4) rfl rfl Try.func76 (by kernel_rfl) rfl #[.agg #[.int .i64 a0_0,.slice A0_1 l0_1.length c0_1]] rfl (by (try simp only [List.map_toArray,List.map_cons,List.map_nil]); first | done | rfl | (simp only [List.length_drop,List.length_take]; rfl)) ?_; (with_reducible refine (spec_l1Ok.calls k a0_0 _ _ l0_1 true _ ?side1 ?side2 A2.out).mono ?_); (case side1 => repeat (first | exact (Kd.C_below HR0_1.out HB.out) | (with_reducible refine Kd.C_alloc ?_ _) | (with_reducible refine Kd.C_drewN ?_ _) | (with_reducible refine Kd.C_drew ?_))); (case side2 => exact HC0_1.out); rintro e w7 ⟨rfl,hb⟩; refine ⟨_,rfl,?_⟩; have n0_:=I (blk_below (g:=gb1045) (o:=.cells #[.int .i64 a0_0,.slice A0_1 l0_1.length c0_1] 34 (0,0)) (by (with_reducible repeat (first | refine blk_drewN ?_ _ | refine blk_drew ?_ | refine blk_alloc ?_ _)); exact BK1045.out) hb); have n1_:=I (below_step (by repeat (first | (with_reducible first | exact HB.out | apply below_alloc | apply pw_below_drewN | apply below_drew1 | refine below_set ?_ GE1045.out) | exact HB.out)) hb); clear BK1045; clear HB; have BK1045:=n0_; have HB:=n1_; clear n0_ n1_; (try clear hb); (try clear hb2); (try clear hk); (try clear hi); have hcz8_0 : w7.cell? ⟨gb1045,0,none⟩ = some (.int .i64 a0_0):=(blk_cell BK1045.out 0).trans rfl; have hcz8_1 : w7.cell? ⟨gb1045,1,none⟩ = some (.slice A0_1 l0_1.length c0_1):=(blk_cell BK1045.out 1).trans rfl; have hfz8_0:=blk_frozen BK1045.out 0; have hfz8_1:=blk_frozen BK1045.out 1) | ((with_reducible refine gate_callee (f:=106) rfl ?_); refine goesL_ (some 7) rfl rfl Try.func106 (by kernel_rfl) rfl #[.agg #[.int .i64 a0_0,.slice A0_1 l0_1.length c0_1]] rfl (by (try simp only [List.map_toArray,List.map_cons,List.map_nil]); first | done | rfl | (simp only [List.length_drop,List.length_take]; rfl)) ?_; (with_reducible refine (spec_l23Tree.calls k a0_0 _ _ l0_1 t1047 _ ?side1 ?side2 A4.out).mono ?_); (case side1 => repeat (first | exact (Kd.C_below HR0_1.out HB.out) | (with_reducible refine Kd.C_alloc ?_ _) | (with_reducible refine Kd.C_drewN ?_ _) | (with_reducible refine Kd.C_drew ?_))); (case side2 => exact HC0_1.out); rintro e w9 ⟨v1048,rfl,ho0,hb⟩; refine ⟨_,rfl,?_⟩; have n0_:=I (Kd.R_lower ho0 (below_size (by repeat (first | (with_reducible first | exact HB.out | apply below_alloc | apply pw_below_drewN | apply below_drew1 | refine below_set ?_ GE1045.out) | exact HB.out)))); have n1_:=I (blk_below (g:=gb1045) (o:=.cells #[.int .i64 a0_0,.slice A0_1 l0_1.length c0_1] 34 (0,0)) (by (with_reducible repeat (first | refine blk_drewN ?_ _ | refine blk_drew ?_ | refine blk_alloc ?_ _)); exact BK1045.out) hb); have n2_:=I (below_step (by repeat (first | (with_reducible first | exact HB.out | apply below_alloc | apply pw_below_drewN | apply below_drew1 | refine below_set ?_ GE1045.out) | exact HB.out)) hb); clear BK1045; clear HB; have HO1049:=n0_; have BK1045:=n1_; have HB:=n2_; clear n0_ n1_ n2_; (try clear hb); (try clear hb2); (try clear hk); (try clear hi); (try clear ho0)))
 go_ret;exact ⟨_,by first | rfl | (simp [errW_none,errW_some] <;> rfl) | (simp [*,errW_none,errW_some] <;> rfl),by (with_reducible repeat (first | apply Kd.R_alloc | apply Kd.R_drewN | apply Kd.R_drew)); exact HO1049.out,by repeat (first | (with_reducible first | exact HB.out | apply below_alloc | apply pw_below_drewN | apply below_drew1 | refine below_set ?_ GE1045.out) | exact HB.out)⟩
end Go.Proofs.Ytlhmljngjdfbpaa.Pr
end
