/- For the statement FnExactFlowOf of this seat: it is proved here, with no further conditions (part 5 of its texts: words, walks of the functions, the plain law, the row). -/
import Derived.Deep.RegionLaw
import Derived.Maps.OwnSet
import Derived.Test.YtlhmljngjdfbpaaKFnExactFlowOf3
section
namespace Go.Proofs.Ytlhmljngjdfbpaa.Pr
open Go.RowKit Go.Proofs.YtlhmljngjdfbpaaW.PrintWords Go.Proofs.YtlhmljngjdfbpaaW.PrintLast Go.Proofs.YtlhmljngjdfbpaaW.PrintMore
attribute [local go_sem] max2_int min2_int max_two min_two max_three min_three max_four min_four
set_option linter.unusedVariables false
set_option linter.unusedSimpArgs false
open List renaming setIfInBounds_toArray → J,set_cons_zero → U,set_cons_succ → O
open Go.Proofs.YtlhmljngjdfbpaaW.PrintWords.Aside0 renaming mk → I
def idxI {α : Type} (p : α → Bool) (l : List α) : Int:=match l.findIdx? p with | some i => (i : Int) | none => -1
theorem idxI_hit {α : Type} {p : α → Bool} {l : List α} (k : Nat) (hk : k < l.length) (h : p l[k] = true) (hne : ∀ j (hj : j < k),p (l[j]'(by omega)) = false) : idxI p l = k:=by
 have : l.findIdx? p = some k:=by
  rw [List.findIdx?_eq_some_iff_getElem];exact ⟨hk,h,fun j hj => by rw [hne j hj]; simp⟩
 simp [idxI,this]
theorem idxI_miss {α : Type} {p : α → Bool} {l : List α} (h : ∀ x ∈ l,p x = false) : idxI p l = -1:=by
 have : l.findIdx? p = none:=by
  rw [List.findIdx?_eq_none_iff];exact h
 simp [idxI,this]
theorem idxI_any {α : Type} (p : α → Bool) (l : List α) : decide (idxI p l ≥ 0) = l.any p:=by
 cases h : l.findIdx? p with
 | none =>
  rw [List.findIdx?_eq_none_iff] at h;simp only [idxI,List.findIdx?_eq_none_iff.2 h];rw [eq_comm]
  simpa using h
 | some i =>
  have h':=h;rw [List.findIdx?_eq_some_iff_getElem] at h';obtain ⟨hi,hp,_⟩:=h';simp only [idxI,h];have : l.any p = true:=List.any_eq_true.2 ⟨_,List.getElem_mem hi,hp⟩;rw [this];simp
set_option maxHeartbeats 8000000 in
set_option maxRecDepth 100000 in
theorem slices_IndexFunc_int_int.calls (p : Int → Bool) (g : Nat) (lb : Array Value) (eg : ∀ args w,(callFunc g args).run Try.prog w = .ok (.enter g args) w) (A0 : Option Addr) (c0 : Nat) (l0 : List Int) (w : World) (hr0 : Kd.C (Kd.int .i64) w A0 l0.length l0) (_hc0 : l0.length ≤ c0)
  (hp : ∀ (W : World) (x : Int),x ∈ l0 → Below w.heap.size w W → Calls Try.prog g (#[.int .i64 x] ++ lb) W fun e w' => e = .returned (.bool (p x)) ∧ Below W.heap.size W w') :
  Calls Try.prog 145 #[.slice A0 l0.length c0,.func (.func g) #[] lb] w fun e w' => e = .returned (.int .i64 (idxI p l0)) ∧ Below w.heap.size w w':=by
 have HR0:=I hr0;have hlen:=hr0.2.1;clear hr0
 go_enter Try.func145,Try.ntmps145
 go_wp2
 go_loopg [5,8] l0.length (fun gg _ s8 wr => ∃ x : Int,s8 = .int .i64 x ∧ Aside0 (0 ≤ x) ∧ Aside0 (x ≤ (l0.length : Int)) ∧ Aside0 ((l0.length : Int) - x ≤ gg) ∧ Aside0 (Below w.heap.size w wr) ∧ Aside0 (∀ j (hl : j < l0.length),(j : Int) < x → p l0[j] = false))
 case atStart => exact ⟨0,rfl,⟨by omega⟩,⟨by omega⟩,⟨by omega⟩,⟨Below.refl _ w⟩,⟨fun j hj h => absurd h (by omega)⟩⟩
 case round =>
  obtain ⟨x,rfl,X0,X1,X2,BW,AA⟩:=hrel
  by_cases c2 : x < (l0.length : Int)
  case neg =>
   have c2b0 : decide (x < (l0.length : Int)) = false:=decide_eq_false c2;have E1:=I c2;clear c2 hp
   go_wp2
   go_ret;refine ⟨?_,BW.out⟩;rw [idxI_miss (fun y hy => by
    obtain ⟨j,hj,rfl⟩:=List.getElem_of_mem hy;have h1:=E1.out;exact AA.out j hj (by omega))]
   rfl
  have c2b0 : decide (x < (l0.length : Int)) = true:=decide_eq_true c2;have h0:=X0.out;have hg:=X2.out;have hlt : x.toNat < l0.length:=by omega
  obtain ⟨ad,e,hx⟩:=Kd.at_int (Kd.C_below HR0.out BW.out) x h0 c2;cases e;have hw : wrap64 (x + 1) = x + 1:=by unfold wrap64; omega
  have HW:=I hw;clear hw;have hcall:=hp wr l0[x.toNat] (List.getElem_mem hlt) BW.out;clear hp;have hrd : rd l0 x = l0[x.toNat]:=by simp [rd,hlt]
  rw [← hrd] at hcall;have B : Aside0 (∀ h : x.toNat < l0.length,rd l0 x = l0[x.toNat]):=⟨fun _ => hrd⟩
  clear hrd;generalize hy : rd l0 x = y at hx hcall B;clear hy;have p108:=eq_true h0;have q108:=eq_true c2;have E0:=I h0;have E1:=I c2;have E2:=I hg;have E3:=I hlt;clear h0 hg hlt c2;cases hq : p y with
  | true =>
   rw [hq] at hcall;have HQ:=I hq;clear hq
   go_wp2_with (go_at_fn g; refine hcall.mono ?_; rintro e w' ⟨rfl,hb'⟩)
   go_ret;refine ⟨?_,below_then BW.out BW.out.size hb'⟩;have h0:=E0.out;rw [idxI_hit x.toNat E3.out (by rw [← B.out E3.out]; exact HQ.out) (fun j hj => AA.out j _ (by omega))];rw [Int.toNat_of_nonneg h0];rfl
  | false =>
   rw [hq] at hcall;have HQ:=I hq;clear hq
   go_wp2_with (go_at_fn g; refine hcall.mono ?_; rintro e w' ⟨rfl,hb'⟩)
   have h0:=E0.out;have h1:=E1.out;have h2:=E2.out;go_roundg (l0.length - (x.toNat + 1))
   case measure => omega
   case rel =>
    refine ⟨x + 1,by first | rfl | rw [HW.out],⟨by omega⟩,⟨by omega⟩,⟨by omega⟩,⟨below_then BW.out BW.out.size hb'⟩,⟨fun j hj hl => ?_⟩⟩
    by_cases e : (j : Int) = x
    case neg => exact AA.out j hj (by omega)
    have e' : j = x.toNat:=by omega
    subst e';rw [← B.out E3.out]; exact HQ.out
set_option maxHeartbeats 8000000 in
theorem slices_ContainsFunc_int_int.calls (p : Int → Bool) (g : Nat) (lb : Array Value) (eg : ∀ args w,(callFunc g args).run Try.prog w = .ok (.enter g args) w) (A0 : Option Addr) (c0 : Nat) (l0 : List Int) (w : World) (hr0 : Kd.C (Kd.int .i64) w A0 l0.length l0) (hc0 : l0.length ≤ c0)
  (hp : ∀ (W : World) (x : Int),x ∈ l0 → Below w.heap.size w W → Calls Try.prog g (#[.int .i64 x] ++ lb) W fun e w' => e = .returned (.bool (p x)) ∧ Below W.heap.size W w') :
  Calls Try.prog 120 #[.slice A0 l0.length c0,.func (.func g) #[] lb] w fun e w' => e = .returned (.bool (l0.any p)) ∧ Below w.heap.size w w':=by
 rw [← idxI_any];have hcall:=slices_IndexFunc_int_int.calls p g lb eg A0 c0 l0 w hr0 hc0 hp;clear hp eg hr0
 go_enter Try.func120,Try.ntmps120
 go_wp2_with (go_at_call 145; refine hcall.mono ?_; rintro e w' ⟨rfl,hb'⟩)
 go_ret;exact ⟨rfl,hb'⟩
def okN (n v : Int) : Bool:=decide (0 ≤ v) && decide (v ≤ n - 1)
theorem okN_within (n x : Int) : impl_within.f x 0 (n - 1) = some (okN n x):=by
 unfold impl_within.f okN
 by_cases h : x ≥ 0
 case pos => rw [if_pos h]; simp [show (0 : Int) ≤ x from h]
 rw [if_neg h]; simp [show ¬ (0 : Int) ≤ x from h]
def impl_Net_has.f (a0_0 : Int) (_l0_1 : List S58) (l1 : List Int) : Option Bool:=if -9223372036854775807 ≤ a0_0 then if a0_0 ≤ 9223372036854775807 then some (l1.all (okN a0_0)) else none else none
set_option maxHeartbeats 8000000 in
set_option maxRecDepth 100000 in
theorem has_closure (x n : Int) (g : Nat) (v : Value) (w : World) (hn : -9223372036854775807 ≤ n) (hn2 : n ≤ 9223372036854775807) (hb : w.heap[g]? = some (.cells #[.int .i64 n,v] 34 (0,0))) :
  Calls Try.prog 138 #[.int .i64 x,.pointer (some ⟨g,0,none⟩)] w fun e w' => e = .returned (.bool (!okN n x)) ∧ Below w.heap.size w w':=by
 have hcell : w.cell? ⟨g,0,none⟩ = some (.int .i64 n):=(blk_cell hb 0).trans rfl;have hcall:=impl_within.calls x 0 (n - 1) (okN n x) w (okN_within n x);have hu:=Try.underlying34;generalize okN n x = b at hcall;clear hb
 go_enter Try.func138,Try.ntmps138
 go_wp2_with (go_at_call 82; refine hcall.mono ?_; rintro e w' ⟨rfl,⟨nd,rfl⟩⟩)
 go_ret;exact ⟨rfl,pw_below_drewN (Below.refl _ _) _⟩
set_option maxHeartbeats 8000000 in
set_option maxRecDepth 100000 in
theorem impl_Net_has.calls (a0_0 : Int) (A0_1 : Option Addr) (c0_1 : Nat) (l0_1 : List S58) (A1 : Option Addr) (c1 : Nat) (l1 : List Int) (r : Bool) (w : World) (_hr0_1 : Kd.C k58 w A0_1 l0_1.length l0_1) (_hc0_1 : l0_1.length ≤ c0_1) (hr1 : Kd.C (Kd.int .i64) w A1 l1.length l1) (hc1 : l1.length ≤ c1) (h : impl_Net_has.f a0_0 l0_1 l1 = some r) :
  Calls Try.prog 109 #[.agg #[.int .i64 a0_0,.slice A0_1 l0_1.length c0_1],.slice A1 l1.length c1] w fun e w' => e = .returned (.bool r) ∧ Below w.heap.size w w':=by
 have hn : -9223372036854775807 ≤ a0_0:=by
  apply Decidable.byContradiction
  intro c
  unfold impl_Net_has.f at h
  rw [if_neg c] at h;exact absurd h (by simp)
 have hn2 : a0_0 ≤ 9223372036854775807:=by
  apply Decidable.byContradiction
  intro c
  unfold impl_Net_has.f at h
  rw [if_pos hn,if_neg c] at h;exact absurd h (by simp)
 have hr : l1.all (okN a0_0) = r:=by
  unfold impl_Net_has.f at h
  rw [if_pos hn,if_pos hn2] at h;exact Option.some.inj h
 clear h;have hr' : (!(l1.any fun v => !okN a0_0 v)) = r:=by
  rw [← hr,List.not_any_eq_all_not]
  congr 1
  funext v
  simp
 have hcall:=slices_ContainsFunc_int_int.calls (fun v => !okN a0_0 v) 138 #[.pointer (some ⟨w.heap.size,0,none⟩)] (enters_of Try.func138 (by kernel_rfl) rfl) A1 c1 l1 (w.alloc (.cells #[.int .i64 a0_0,.slice A0_1 l0_1.length c0_1] 34)) (Kd.C_below hr1 (below_alloc (Below.refl _ _) _)) hc1
  (fun W x _ hB => has_closure x a0_0 w.heap.size (.slice A0_1 l0_1.length c0_1) W hn hn2 ((hB.block w.heap.size (by simp)).trans (heap_alloc_new w _)))
 have HN:=I hn;have HR:=I hr';clear hr1 hr hr' hn hn2;generalize l1.any (fun v => !okN a0_0 v) = b at hcall HR
 go_enter Try.func109,Try.ntmps109
 go_wp2_with (go_at_call 120; refine hcall.mono ?_; rintro e w' ⟨rfl,hb'⟩)
 go_ret;exact ⟨by rw [← HR.out]; rfl,below_then (below_alloc (Below.refl _ _) _) (by simp) hb'⟩
def impl_costOk.f (a0 : Int) : Option (Bool):=(impl_within.f a0 0 99).bind fun t182 => (some t182)
set_option maxHeartbeats 8000000 in
set_option maxRecDepth 100000 in
theorem impl_costOk.calls (a0 : Int) (r : Bool) (w : World) (h : impl_costOk.f a0 = some r) :
  Calls Try.prog 81 #[.int .i64 a0] w fun e w' => e = .returned (.bool r) ∧ Drawn0 w w':=by
 have H : ((impl_within.f a0 0 99).bind fun t182 => (some t182)) = some r:=h;clear h;replace H:=Option.bind_eq_some_iff.mp H;obtain ⟨t182,A20,H⟩:=H;replace H : (some t182) = some r:=H;have A2:=I A20;clear A20;obtain rfl:=Option.some.inj H
 go_enter Try.func81,Try.ntmps81
 go_wp2_with (first | ((with_reducible refine gate_callee (f:=82) rfl ?_); refine goesL_ (some 4) rfl rfl Try.func82 (by kernel_rfl) rfl #[.int .i64 a0,.int .i64 0,.int .i64 99] rfl (by (try simp only [List.map_toArray,List.map_cons,List.map_nil]); first | done | rfl | (simp only [List.length_drop,List.length_take]; rfl)) ?_; (with_reducible refine (impl_within.calls a0 0 99 t182 _ A2.out).mono ?_); rintro e w' ⟨rfl,⟨nd,rfl⟩⟩; refine ⟨_,rfl,?_⟩))
 go_ret;exact ⟨by first | rfl | (simp; done) | (simp [*]; done),by repeat (first | exact Drawn0.refl _ | apply Drawn0.step)⟩
def okC (c : Int) : Bool:=decide (0 ≤ c) && decide (c ≤ 99)
theorem okC_costOk (c : Int) : impl_costOk.f c = some (okC c):=by
 unfold impl_costOk.f impl_within.f okC
 by_cases h : c ≥ 0
 case pos => rw [if_pos h]; simp [show (0 : Int) ≤ c from h]
 rw [if_neg h]; simp [show ¬ (0 : Int) ≤ c from h]
theorem rd_at_T {l : List S58} {k : Int} (h : k.toNat < l.length) : rd_T58 l k = l[k.toNat]:=by
 simp [rd_T58,h]
def encA (x : S58) : Value:=.agg #[.int .i64 x.f0,.int .i64 x.f1,.int .i64 x.f2,.int .i64 x.f3,.int .i64 x.f4]
set_option maxHeartbeats 8000000 in
set_option maxRecDepth 100000 in
theorem slices_IndexFunc_Arc.calls (p : S58 → Bool) (g : Nat) (lb : Array Value) (eg : ∀ args w,(callFunc g args).run Try.prog w = .ok (.enter g args) w) (A0 : Option Addr) (c0 : Nat) (l0 : List S58) (w : World) (hr0 : Kd.C k58 w A0 l0.length l0) (_hc0 : l0.length ≤ c0)
  (hp : ∀ (W : World) (x : S58),x ∈ l0 → Below w.heap.size w W → Calls Try.prog g (#[encA x] ++ lb) W fun e w' => e = .returned (.bool (p x)) ∧ Below W.heap.size W w') :
  Calls Try.prog 137 #[.slice A0 l0.length c0,.func (.func g) #[] lb] w fun e w' => e = .returned (.int .i64 (idxI p l0)) ∧ Below w.heap.size w w':=by
 have HR0:=I hr0;have hlen:=hr0.2.1;clear hr0;have hu:=Try.underlying58
 go_enter Try.func137,Try.ntmps137
 go_wp2
 go_loopg [5,8] l0.length (fun gg _ s8 wr => ∃ x : Int,s8 = .int .i64 x ∧ Aside0 (0 ≤ x) ∧ Aside0 (x ≤ (l0.length : Int)) ∧ Aside0 ((l0.length : Int) - x ≤ gg) ∧ Aside0 (Below w.heap.size w wr) ∧ Aside0 (∀ j (hl : j < l0.length),(j : Int) < x → p l0[j] = false))
 case atStart => exact ⟨0,rfl,⟨by omega⟩,⟨by omega⟩,⟨by omega⟩,⟨Below.refl _ w⟩,⟨fun j hj h => absurd h (by omega)⟩⟩
 case round =>
  obtain ⟨x,rfl,X0,X1,X2,BW,AA⟩:=hrel
  by_cases c2 : x < (l0.length : Int)
  case neg =>
   have c2b0 : decide (x < (l0.length : Int)) = false:=decide_eq_false c2;have E1:=I c2;clear c2 hp
   go_wp2
   go_ret;refine ⟨?_,BW.out⟩;rw [idxI_miss (fun y hy => by
    obtain ⟨j,hj,rfl⟩:=List.getElem_of_mem hy;have h1:=E1.out;exact AA.out j hj (by omega))]
   rfl
  have c2b0 : decide (x < (l0.length : Int)) = true:=decide_eq_true c2;have h0:=X0.out;have hg:=X2.out;have hlt : x.toNat < l0.length:=by omega
  obtain ⟨ad,e,hx0,hx1,hx2,hx3,hx4⟩:=at_T58 (Kd.C_below HR0.out BW.out) x h0 c2;cases e;have hw : wrap64 (x + 1) = x + 1:=by unfold wrap64; omega
  have HW:=I hw;clear hw;have hcall:=hp wr l0[x.toNat] (List.getElem_mem hlt) BW.out;clear hp;have hrd : rd_T58 l0 x = l0[x.toNat]:=rd_at_T hlt;rw [← hrd] at hcall;have B : Aside0 (∀ h : x.toNat < l0.length,rd_T58 l0 x = l0[x.toNat]):=⟨fun _ => hrd⟩
  clear hrd;generalize hy : rd_T58 l0 x = y at hx0 hx1 hx2 hx3 hx4 hcall B;clear hy
  unfold encA at hcall
  have p108:=eq_true h0;have q108:=eq_true c2;have E0:=I h0;have E1:=I c2;have E2:=I hg;have E3:=I hlt;clear h0 hg hlt c2;cases hq : p y with
  | true =>
   rw [hq] at hcall;have HQ:=I hq;clear hq
   go_wp2_with (go_at_fn g; refine hcall.mono ?_; rintro e w' ⟨rfl,hb'⟩)
   go_ret;refine ⟨?_,below_then BW.out BW.out.size hb'⟩;have h0:=E0.out;rw [idxI_hit x.toNat E3.out (by rw [← B.out E3.out]; exact HQ.out) (fun j hj => AA.out j _ (by omega))];rw [Int.toNat_of_nonneg h0];rfl
  | false =>
   rw [hq] at hcall;have HQ:=I hq;clear hq
   go_wp2_with (go_at_fn g; refine hcall.mono ?_; rintro e w' ⟨rfl,hb'⟩)
   have h0:=E0.out;have h1:=E1.out;have h2:=E2.out;go_roundg (l0.length - (x.toNat + 1))
   case measure => omega
   case rel =>
    refine ⟨x + 1,by first | rfl | rw [HW.out],⟨by omega⟩,⟨by omega⟩,⟨by omega⟩,⟨below_then BW.out BW.out.size hb'⟩,⟨fun j hj hl => ?_⟩⟩
    by_cases e : (j : Int) = x
    case neg => exact AA.out j hj (by omega)
    have e' : j = x.toNat:=by omega
    subst e';rw [← B.out E3.out]; exact HQ.out
set_option maxHeartbeats 8000000 in
theorem slices_ContainsFunc_Arc.calls (p : S58 → Bool) (g : Nat) (lb : Array Value) (eg : ∀ args w,(callFunc g args).run Try.prog w = .ok (.enter g args) w) (A0 : Option Addr) (c0 : Nat) (l0 : List S58) (w : World) (hr0 : Kd.C k58 w A0 l0.length l0) (hc0 : l0.length ≤ c0)
  (hp : ∀ (W : World) (x : S58),x ∈ l0 → Below w.heap.size w W → Calls Try.prog g (#[encA x] ++ lb) W fun e w' => e = .returned (.bool (p x)) ∧ Below W.heap.size W w') :
  Calls Try.prog 107 #[.slice A0 l0.length c0,.func (.func g) #[] lb] w fun e w' => e = .returned (.bool (l0.any p)) ∧ Below w.heap.size w w':=by
 rw [← idxI_any];have hcall:=slices_IndexFunc_Arc.calls p g lb eg A0 c0 l0 w hr0 hc0 hp;clear hp eg hr0;have hu:=Try.underlying58
 go_enter Try.func107,Try.ntmps107
 go_wp2_with (go_at_call 137; refine hcall.mono ?_; rintro e w' ⟨rfl,hb'⟩)
 go_ret;exact ⟨rfl,hb'⟩
def okArc (n : Int) (a : S58) : Bool:=okN n a.f0 && okN n a.f1 && !(a.f0 == a.f1) && okC a.f2 && okC a.f3 && okN 10 a.f4
def netOkB (n : Int) (l : List S58) : Bool:=decide (1 ≤ n) && decide (n ≤ 8) && decide ((l.length : Int) ≤ 16) && l.all (okArc n)
def impl_NetOk.f (a0_0 : Int) (l0_1 : List S58) : Option Bool:=some (decide (1 ≤ a0_0) && decide (a0_0 ≤ 8) && decide ((l0_1.length : Int) ≤ 16) && l0_1.all (okArc a0_0))
theorem heap_alloc_at {W : World} {o : Obj} {k : Nat} (h : k = W.heap.size) : (W.alloc o).heap[k]? = some o:=by subst h; exact heap_alloc_new W o
theorem two_reads (W : World) (b : Nat) (x y : Int) (h : W.heap[b]? = some (.cells #[.int .i64 x,.int .i64 y] 3 (0,0))) : Kd.C (Kd.int .i64) W (some ⟨b,0,none⟩) [x,y].length [x,y] :=
 Kd.C_of_reads (d:=(0 : Int)) (h1:=fun _ => rfl) ⟨rfl,by simp,fun _ => ⟨_,rfl,fun j hj => by
  have h0 : W.cell? ⟨b,0,none⟩ = some (.int .i64 x):=(blk_cell h 0).trans rfl;have h1 : W.cell? ⟨b,1,none⟩ = some (.int .i64 y):=(blk_cell h 1).trans rfl
  match j,hj with
  | 0,_ => rw [add_plain]; exact h0
  | 1,_ => rw [add_plain]; exact h1⟩⟩
set_option maxHeartbeats 8000000 in
set_option maxRecDepth 100000 in
theorem NetOk_closure (x : S58) (n : Int) (g : Nat) (A : Option Addr) (c : Nat) (l : List S58) (w : World) (hn : 1 ≤ n) (hn2 : n ≤ 8) (hr : Kd.C k58 w A l.length l) (hc : l.length ≤ c) (hb : w.heap[g]? = some (.cells #[.int .i64 n,.slice A l.length c] 34 (0,0))) :
  Calls Try.prog 108 #[encA x,.pointer (some ⟨g,0,none⟩)] w fun e w' => e = .returned (.bool (!okArc n x)) ∧ Below w.heap.size w w':=by
 have hcell : w.cell? ⟨g,0,none⟩ = some (.int .i64 n):=(blk_cell hb 0).trans rfl;have hcell1 : w.cell? ⟨g,1,none⟩ = some (.slice A l.length c):=(blk_cell hb 1).trans rfl;have hhas:=fun (W : World) (a0 : Nat) (h1 : Below w.heap.size w W) (h2 : W.heap[a0]? = some (.cells #[.int .i64 x.f0,.int .i64 x.f1] 3 (0,0))) => impl_Net_has.calls n A c l (some ⟨a0,0,none⟩) 2 [x.f0,x.f1] ([x.f0,x.f1].all (okN n)) W (Kd.C_below hr h1) hc (two_reads W a0 x.f0 x.f1 h2) (by simp) (by unfold impl_Net_has.f; rw [if_pos (by omega),if_pos (by omega)])
 have hbl:=World.block_lt_of_cell? _ _ hcell;have hu:=Try.underlying34;have hu2:=Try.underlying58;have hc2:=fun (W : World) => impl_costOk.calls x.f2 (okC x.f2) W (okC_costOk x.f2)
 have hc3:=fun (W : World) => impl_costOk.calls x.f3 (okC x.f3) W (okC_costOk x.f3)
 have hload:=fun (W : World) => impl_within.calls x.f4 0 9 (okN 10 x.f4) W (okN_within 10 x.f4)
 clear hb hr
 unfold encA
 have hall : [x.f0,x.f1].all (okN n) = (okN n x.f0 && okN n x.f1):=by simp
 rw [hall] at hhas;clear hall
 unfold okArc
 generalize hA : (okN n x.f0 && okN n x.f1) = b1 at hhas;clear hA;generalize okN 10 x.f4 = b5 at hload;generalize okC x.f2 = b2 at hc2;generalize okC x.f3 = b3 at hc3;have HB:=I (Below.refl w.heap.size w);have HN:=I hn;have HC:=I hc;clear hn hn2 hc;have bcell : ∀ {W w1 : World},Below W.heap.size W w1 → (∀ b o,b < W.heap.size → w1.cell? ⟨b,o,none⟩ = W.cell? ⟨b,o,none⟩):=fun hb b o h => hb.cell (p:=⟨b,o,none⟩) h
 have HCELL:=I @bcell;clear bcell;have hcN:=hbl;cases b1 with
 | false =>
  go_enter Try.func108,Try.ntmps108
  go_wp2_with (go_at_call 109; refine (hhas _ _ ?h1 ?h2).mono ?_; (case h1 => repeat (first | exact Below.refl _ _ | apply below_alloc)); (case h2 => exact heap_alloc_at (by simp)); rintro e w1 ⟨rfl,hb'⟩)
  go_ret;exact ⟨rfl,below_then (below_alloc (below_alloc (Below.refl _ _) _) _) (by simp; omega) hb'⟩
 | true =>
  by_cases hft : x.f0 = x.f1
  case pos =>
   have e1 : (x.f0 == x.f1) = true:=by simpa using hft
   clear hft;rw [e1]
   go_enter Try.func108,Try.ntmps108
   go_wp2_with (go_at_call 109; refine (hhas _ _ ?h1 ?h2).mono ?_; (case h1 => repeat (first | exact Below.refl _ _ | apply below_alloc)); (case h2 => exact heap_alloc_at (by simp)); rintro e w1 ⟨rfl,hb'⟩; have hc1:=HCELL.out hb'; have HB1:=I hb'; clear hb')
   go_ret;exact ⟨rfl,by repeat (first | apply pw_below_drewN | exact below_then (below_alloc (below_alloc (Below.refl _ _) _) _) (by simp; omega) HB1.out)⟩
  have e1 : (x.f0 == x.f1) = false:=by simpa using hft
  clear hft;rw [e1];cases b2 with
  | false =>
   go_enter Try.func108,Try.ntmps108
   go_wp2_with (first | (go_at_call 109; refine (hhas _ _ ?h1 ?h2).mono ?_; (case h1 => repeat (first | exact Below.refl _ _ | apply below_alloc)); (case h2 => exact heap_alloc_at (by simp)); rintro e w1 ⟨rfl,hb'⟩; have hc1:=HCELL.out hb'; have HB1:=I hb'; clear hb') | (go_at_call 81; (with_reducible refine (hc2 _).mono ?_); rintro e w2 ⟨rfl,⟨nd2,rfl⟩⟩))
   go_ret;exact ⟨rfl,by repeat (first | apply pw_below_drewN | exact below_then (below_alloc (below_alloc (Below.refl _ _) _) _) (by simp; omega) HB1.out)⟩
  | true =>
   cases b3 with
   | false =>
    go_enter Try.func108,Try.ntmps108
    go_wp2_with (first | (go_at_call 109; refine (hhas _ _ ?h1 ?h2).mono ?_; (case h1 => repeat (first | exact Below.refl _ _ | apply below_alloc)); (case h2 => exact heap_alloc_at (by simp)); rintro e w1 ⟨rfl,hb'⟩; have hc1:=HCELL.out hb'; have HB1:=I hb'; clear hb') | (go_at_call 81; (with_reducible refine (hc2 _).mono ?_); rintro e w2 ⟨rfl,⟨nd2,rfl⟩⟩) | (go_at_call 81; (with_reducible refine (hc3 _).mono ?_); rintro e w3 ⟨rfl,⟨nd3,rfl⟩⟩))
    go_ret;exact ⟨rfl,by repeat (first | apply pw_below_drewN | exact below_then (below_alloc (below_alloc (Below.refl _ _) _) _) (by simp; omega) HB1.out)⟩
   | true =>
    go_enter Try.func108,Try.ntmps108
    go_wp2_with (first | (go_at_call 109; refine (hhas _ _ ?h1 ?h2).mono ?_; (case h1 => repeat (first | exact Below.refl _ _ | apply below_alloc)); (case h2 => exact heap_alloc_at (by simp)); rintro e w1 ⟨rfl,hb'⟩; have hc1:=HCELL.out hb'; have HB1:=I hb'; clear hb') | (go_at_call 81; (with_reducible refine (hc2 _).mono ?_); rintro e w2 ⟨rfl,⟨nd2,rfl⟩⟩) | (go_at_call 81; (with_reducible refine (hc3 _).mono ?_); rintro e w3 ⟨rfl,⟨nd3,rfl⟩⟩) | (go_at_call 82; refine (hload _).mono ?_; rintro e w4 ⟨rfl,⟨nd4,rfl⟩⟩))
    go_ret;exact ⟨by cases b5 <;> rfl,by repeat (first | apply pw_below_drewN | exact below_then (below_alloc (below_alloc (Below.refl _ _) _) _) (by simp; omega) HB1.out)⟩
set_option maxHeartbeats 8000000 in
set_option maxRecDepth 100000 in
theorem impl_NetOk.calls (a0_0 : Int) (A0_1 : Option Addr) (c0_1 : Nat) (l0_1 : List S58) (r : Bool) (w : World) (p0 : Kd.C k58 w A0_1 l0_1.length l0_1) (p1 : l0_1.length ≤ c0_1) (h : impl_NetOk.f a0_0 l0_1 = some r) :
  Calls Try.prog 51 #[.agg #[.int .i64 a0_0,.slice A0_1 l0_1.length c0_1]] w fun e w' => e = .returned (.bool r) ∧ Below w.heap.size w w':=by
 have hw1:=fun (W : World) => impl_within.calls a0_0 1 8 (decide (1 ≤ a0_0) && decide (a0_0 ≤ 8)) W (by
  unfold impl_within.f
  by_cases h : a0_0 ≥ 1
  case pos => rw [if_pos h]; simp [show (1 : Int) ≤ a0_0 from h]
  rw [if_neg h]; simp [show ¬ (1 : Int) ≤ a0_0 from h])
 obtain rfl:=Option.some.inj h;clear h;have hu:=Try.underlying34
 by_cases hn : 1 ≤ a0_0 ∧ a0_0 ≤ 8
 case neg =>
  have e0 : (decide (1 ≤ a0_0) && decide (a0_0 ≤ 8)) = false:=by
   rw [Bool.and_eq_false_iff]
   by_cases h1 : 1 ≤ a0_0
   case neg => exact .inl (decide_eq_false h1)
   exact .inr (decide_eq_false (fun h2 => hn ⟨h1,h2⟩))
  rw [e0] at hw1 ⊢;clear hn e0
  go_enter Try.func51,Try.ntmps51
  go_wp2_with (first | (go_at_call 82; refine (hw1 _).mono ?_; rintro e w1 ⟨rfl,⟨nd,rfl⟩⟩))
  go_ret;exact ⟨by simp,pw_below_drewN (below_alloc (Below.refl _ _) _) _⟩
 obtain ⟨hn1,hn2⟩:=hn;rw [decide_eq_true hn1,decide_eq_true hn2] at hw1;rw [decide_eq_true hn1,decide_eq_true hn2];have hbox:=fun (nd : Nat) => slices_ContainsFunc_Arc.calls (fun v => !okArc a0_0 v) 108 #[.pointer (some ⟨w.heap.size,0,none⟩)] (enters_of Try.func108 (by kernel_rfl) rfl) A0_1 c0_1 l0_1 ((w.alloc (.cells #[.int .i64 a0_0,.slice A0_1 l0_1.length c0_1] 34)).drewN nd) (Kd.C_below p0 (pw_below_drewN (below_alloc (Below.refl _ _) _) nd)) p1
  (fun W x _ hB => NetOk_closure x a0_0 w.heap.size A0_1 c0_1 l0_1 W hn1 hn2 (Kd.C_below p0 (below_then (pw_below_drewN (below_alloc (Below.refl _ _) _) nd) (by simp) hB)) p1 ((hB.block w.heap.size (by simp)).trans (heap_alloc_new w _)))
 have hall : (!(l0_1.any fun v => !okArc a0_0 v)) = l0_1.all (okArc a0_0):=by
  rw [List.not_any_eq_all_not]
  congr 1
  funext v
  simp
 rw [← hall];clear hall p0 p1 hn1 hn2;generalize (l0_1.any fun v => !okArc a0_0 v) = b at hbox
 by_cases hl : (l0_1.length : Int) ≤ 16
 case neg =>
  have e1 : decide ((l0_1.length : Int) ≤ 16) = false:=decide_eq_false hl;have e2 : decide (l0_1.length ≤ 16) = false:=decide_eq_false (by omega);rw [e1];clear hl
  go_enter Try.func51,Try.ntmps51
  go_wp2_with (first | (go_at_call 82; refine (hw1 _).mono ?_; rintro e w1 ⟨rfl,⟨nd,rfl⟩⟩))
  go_ret;exact ⟨rfl,pw_below_drewN (below_alloc (Below.refl _ _) _) _⟩
 have e1 : decide ((l0_1.length : Int) ≤ 16) = true:=decide_eq_true hl;have e2 : decide (l0_1.length ≤ 16) = true:=decide_eq_true (by omega);rw [e1];clear hl
 go_enter Try.func51,Try.ntmps51
 go_wp2_with (first | (go_at_call 82; refine (hw1 _).mono ?_; rintro e w1 ⟨rfl,⟨nd,rfl⟩⟩) | (go_at_call 107; refine (hbox _).mono ?_; rintro e w2 ⟨rfl,hb'⟩))
 go_ret;exact ⟨by cases b <;> rfl,below_then (pw_below_drewN (below_alloc (Below.refl _ _) _) _) (by simp) hb'⟩
def impl_nodesIn.f (a0_0 : Int) (l0_1 : List (S58)) (l1 : List Int) : Option (Bool):=(impl_NetOk.f a0_0 l0_1).bind fun t725 => (if t725 = true then ((impl_Net_has.f a0_0 l0_1 l1).bind fun t726 => (some t726)) else (some false))
set_option maxHeartbeats 8000000 in
set_option maxRecDepth 100000 in
theorem impl_nodesIn.calls (a0_0 : Int) (A0_1 : Option Addr) (c0_1 : Nat) (l0_1 : List (S58)) (A1 : Option Addr) (c1 : Nat) (l1 : List Int) (r : Bool) (w : World) (hr0_1 : Kd.C k58 w A0_1 l0_1.length l0_1) (hc0_1 : l0_1.length ≤ c0_1) (hr1 : Kd.C (Kd.int .i64) w A1 l1.length l1) (hc1 : l1.length ≤ c1) (h : impl_nodesIn.f a0_0 l0_1 l1 = some r) :
  Calls Try.prog 99 #[.agg #[.int .i64 a0_0,.slice A0_1 l0_1.length c0_1],.slice A1 l1.length c1] w fun e w' => e = .returned (.bool r) ∧ Below w.heap.size w w':=by
 have hu34:=Try.underlying34;have p2:=I hr0_1;have p3:=I hc0_1;clear hr0_1 hc0_1;have HR1:=I hr1;have HC1:=I hc1;clear hr1 hc1;have HB:=I (Below.refl w.heap.size w);have H : ((impl_NetOk.f a0_0 l0_1).bind fun t725 => (if t725 = true then ((impl_Net_has.f a0_0 l0_1 l1).bind fun t726 => (some t726)) else (some false))) = some r:=h;clear h;replace H:=Option.bind_eq_some_iff.mp H;obtain ⟨t725,A30,H⟩:=H;replace H : (if t725 = true then ((impl_Net_has.f a0_0 l0_1 l1).bind fun t726 => (some t726)) else (some false)) = some r:=H;have A3:=I A30;clear A30
 by_cases c4 : t725 = true
 case neg =>
  replace c4:=Bool.eq_false_iff.mpr c4;subst c4;have H1 : (some false) = some r:=by rw [if_neg (show ¬ (false = true) by decide)] at H; exact H
  clear H;have H:=H1;clear H1;obtain rfl:=Option.some.inj H
  go_enter Try.func99,Try.ntmps99
  go_wp2_with (first | ((with_reducible refine gate_dst (N:=2) rfl ?_); refine box_event ?hg (N:=2) ?hd (cs:=#[.int .i64 a0_0,.slice A0_1 l0_1.length c0_1]) (t:=34) ?hr ?_; (case hd => rfl); (case hg => rfl); (case hr => first | (go_simp; done) | (go_simp; rfl)); intro p1 hg w11 hbox hb; have n0_:=I (below_step HB.out hb); have n1_:=I (hbox); have n2_:=I ((by rw [hg]; exact (below_size HB.out) : w.heap.size ≤ p1)); have n3_:=I ((by rw [hg]; exact (below_size HB.out) : w.heap.size ≤ p1)); clear HB; have HB:=n0_; have p0:=n1_; have GW724:=n2_; have p4:=n3_; clear n0_ n1_ n2_ n3_; clear hb hbox hg; have hcz12_0 : w11.cell? ⟨p1,0,none⟩ = some (.int .i64 a0_0):=(blk_cell p0.out 0).trans rfl; have hcz12_1 : w11.cell? ⟨p1,1,none⟩ = some (.slice A0_1 l0_1.length c0_1):=(blk_cell p0.out 1).trans rfl; have hfz12_0:=blk_frozen p0.out 0; have hfz12_1:=blk_frozen p0.out 1) | ((with_reducible refine gate_callee (f:=51) rfl ?_); refine goesL_ (some 6) rfl rfl Try.func51 (by kernel_rfl) rfl #[.agg #[.int .i64 a0_0,.slice A0_1 l0_1.length c0_1]] rfl (by (try simp only [List.map_toArray,List.map_cons,List.map_nil]); first | done | rfl | (simp only [List.length_drop,List.length_take]; rfl)) ?_; (with_reducible refine (impl_NetOk.calls a0_0 _ _ l0_1 false _ ?side1 ?side2 A3.out).mono ?_); (case side1 => repeat (first | exact (Kd.C_below p2.out HB.out) | (with_reducible refine Kd.C_alloc ?_ _) | (with_reducible refine Kd.C_drewN ?_ _) | (with_reducible refine Kd.C_drew ?_))); (case side2 => exact p3.out); rintro e w13 ⟨rfl,hb⟩; refine ⟨_,rfl,?_⟩; have n0_:=I (blk_below (g:=p1) (o:=.cells #[.int .i64 a0_0,.slice A0_1 l0_1.length c0_1] 34 (0,0)) p0.out hb); have n1_:=I (below_step HB.out hb); clear p0; clear HB; have p0:=n0_; have HB:=n1_; clear n0_ n1_; (try clear hb); (try clear hb2); (try clear hk); (try clear hi)))
  go_ret;exact ⟨by first | rfl | (simp [errW_none,errW_some] <;> rfl) | (simp [*,errW_none,errW_some] <;> rfl),by repeat (first | (with_reducible first | exact HB.out | apply below_alloc | apply pw_below_drewN | apply below_drew1 | refine below_set ?_ p4.out) | exact HB.out)⟩
 subst c4;have H1 : ((impl_Net_has.f a0_0 l0_1 l1).bind fun t726 => (some t726)) = some r:=by rw [if_pos rfl] at H; exact H
 clear H;have H:=H1;clear H1;replace H:=Option.bind_eq_some_iff.mp H;obtain ⟨t726,A50,H⟩:=H;replace H : (some t726) = some r:=H;have A5:=I A50;clear A50;obtain rfl:=Option.some.inj H
 go_enter Try.func99,Try.ntmps99
 go_wp2_with (first | ((with_reducible refine gate_dst (N:=2) rfl ?_); refine box_event ?hg (N:=2) ?hd (cs:=#[.int .i64 a0_0,.slice A0_1 l0_1.length c0_1]) (t:=34) ?hr ?_; (case hd => rfl); (case hg => rfl); (case hr => first | (go_simp; done) | (go_simp; rfl)); intro p1 hg w6 hbox hb; have n0_:=I (below_step HB.out hb); have n1_:=I (hbox); have n2_:=I ((by rw [hg]; exact (below_size HB.out) : w.heap.size ≤ p1)); have n3_:=I ((by rw [hg]; exact (below_size HB.out) : w.heap.size ≤ p1)); clear HB; have HB:=n0_; have p0:=n1_; have GW724:=n2_; have p4:=n3_; clear n0_ n1_ n2_ n3_; clear hb hbox hg; have hcz7_0 : w6.cell? ⟨p1,0,none⟩ = some (.int .i64 a0_0):=(blk_cell p0.out 0).trans rfl; have hcz7_1 : w6.cell? ⟨p1,1,none⟩ = some (.slice A0_1 l0_1.length c0_1):=(blk_cell p0.out 1).trans rfl; have hfz7_0:=blk_frozen p0.out 0; have hfz7_1:=blk_frozen p0.out 1) | ((with_reducible refine gate_callee (f:=51) rfl ?_); refine goesL_ (some 6) rfl rfl Try.func51 (by kernel_rfl) rfl #[.agg #[.int .i64 a0_0,.slice A0_1 l0_1.length c0_1]] rfl (by (try simp only [List.map_toArray,List.map_cons,List.map_nil]); first | done | rfl | (simp only [List.length_drop,List.length_take]; rfl)) ?_; (with_reducible refine (impl_NetOk.calls a0_0 _ _ l0_1 true _ ?side1 ?side2 A3.out).mono ?_); (case side1 => repeat (first | exact (Kd.C_below p2.out HB.out) | (with_reducible refine Kd.C_alloc ?_ _) | (with_reducible refine Kd.C_drewN ?_ _) | (with_reducible refine Kd.C_drew ?_))); (case side2 => exact p3.out); rintro e w8 ⟨rfl,hb⟩; refine ⟨_,rfl,?_⟩; have n0_:=I (blk_below (g:=p1) (o:=.cells #[.int .i64 a0_0,.slice A0_1 l0_1.length c0_1] 34 (0,0)) p0.out hb); have n1_:=I (below_step HB.out hb); clear p0; clear HB; have p0:=n0_; have HB:=n1_; clear n0_ n1_; (try clear hb); (try clear hb2); (try clear hk); (try clear hi); have hcz9_0 : w8.cell? ⟨p1,0,none⟩ = some (.int .i64 a0_0):=(blk_cell p0.out 0).trans rfl; have hcz9_1 : w8.cell? ⟨p1,1,none⟩ = some (.slice A0_1 l0_1.length c0_1):=(blk_cell p0.out 1).trans rfl; have hfz9_0:=blk_frozen p0.out 0; have hfz9_1:=blk_frozen p0.out 1) | (go_at_call 109; (with_reducible refine (impl_Net_has.calls a0_0 _ _ l0_1 _ _ l1 t726 _ ?side1 ?side2 ?side3 ?side4 A5.out).mono ?_); (case side1 => repeat (first | exact (Kd.C_below p2.out HB.out) | (with_reducible refine Kd.C_alloc ?_ _) | (with_reducible refine Kd.C_drewN ?_ _) | (with_reducible refine Kd.C_drew ?_))); (case side2 => exact p3.out); (case side3 => repeat (first | exact (Kd.C_below HR1.out HB.out) | (with_reducible refine Kd.C_alloc ?_ _) | (with_reducible refine Kd.C_drewN ?_ _) | (with_reducible refine Kd.C_drew ?_))); (case side4 => exact HC1.out); rintro e w10 ⟨rfl,hb⟩; have n0_:=I (blk_below (g:=p1) (o:=.cells #[.int .i64 a0_0,.slice A0_1 l0_1.length c0_1] 34 (0,0)) p0.out hb); have n1_:=I (below_step HB.out hb); clear p0; clear HB; have p0:=n0_; have HB:=n1_; clear n0_ n1_; (try clear hb); (try clear hb2); (try clear hk); (try clear hi)))
 go_ret;exact ⟨by first | rfl | (simp [errW_none,errW_some] <;> rfl) | (simp [*,errW_none,errW_some] <;> rfl),by repeat (first | (with_reducible first | exact HB.out | apply below_alloc | apply pw_below_drewN | apply below_drew1 | refine below_set ?_ p4.out) | exact HB.out)⟩
def impl_apart.f (a0_0 : Int) (l0_1 : List (S58)) (a1 : Int) (a2 : Int) : Option (Bool):=(impl_nodesIn.f a0_0 l0_1 (([a1,a2] : List Int))).bind fun t731 => (if t731 = true then (some (a1 != a2)) else (some false))
set_option maxHeartbeats 8000000 in
set_option maxRecDepth 100000 in
theorem impl_apart.calls (a0_0 : Int) (A0_1 : Option Addr) (c0_1 : Nat) (l0_1 : List (S58)) (a1 : Int) (a2 : Int) (r : Bool) (w : World) (hr0_1 : Kd.C k58 w A0_1 l0_1.length l0_1) (hc0_1 : l0_1.length ≤ c0_1) (h : impl_apart.f a0_0 l0_1 a1 a2 = some r) :
  Calls Try.prog 89 #[.agg #[.int .i64 a0_0,.slice A0_1 l0_1.length c0_1],.int .i64 a1,.int .i64 a2] w fun e w' => e = .returned (.bool r) ∧ Below w.heap.size w w':=by
 have hu34:=Try.underlying34;have HR0_1:=I hr0_1;have HC0_1:=I hc0_1;clear hr0_1 hc0_1;have HB:=I (Below.refl w.heap.size w);have H : ((impl_nodesIn.f a0_0 l0_1 (([a1,a2] : List Int))).bind fun t731 => (if t731 = true then (some (a1 != a2)) else (some false))) = some r:=h;clear h;obtain ⟨y728,hy728⟩ : ∃ y_ : List Int,y_ = (([a1,a2] : List Int)):=⟨_,rfl⟩
 replace H : ((impl_nodesIn.f a0_0 l0_1 y728).bind fun t731 => (if t731 = true then (some (a1 != a2)) else (some false))) = some r:=by first | (rw [hy728]; with_reducible exact H) | (have H2_:=(Option.bind_some _ _).symm.trans H; rw [hy728]; with_reducible exact H2_) | (have H2_:=(Option.bind_some _ _).symm.trans H; with_reducible exact H2_) | with_reducible exact H | (rw [hy728]; exact H) | exact H
 have p2:=I hy728;clear hy728;replace H:=Option.bind_eq_some_iff.mp H;obtain ⟨t731,A40,H⟩:=H;replace H : (if t731 = true then (some (a1 != a2)) else (some false)) = some r:=H;have A4:=I A40;clear A40
 by_cases c5 : t731 = true
 case pos =>
  subst c5;have H1 : (some (a1 != a2)) = some r:=by rw [if_pos rfl] at H; exact H
  clear H;have H:=H1;clear H1;obtain rfl:=Option.some.inj H
  go_enter Try.func89,Try.ntmps89
  go_wp2_with (first | ((with_reducible refine gate_dst (N:=3) rfl ?_); refine box_event ?hg (N:=3) ?hd (cs:=#[.int .i64 a0_0,.slice A0_1 l0_1.length c0_1]) (t:=34) ?hr ?_; (case hd => rfl); (case hg => rfl); (case hr => first | (go_simp; done) | (go_simp; rfl)); intro p1 hg w6 hbox hb; have n0_:=I (below_step HB.out hb); have n1_:=I (hbox); have n2_:=I ((by rw [hg]; exact (below_size HB.out) : w.heap.size ≤ p1)); have n3_:=I ((by rw [hg]; exact (below_size HB.out) : w.heap.size ≤ p1)); clear HB; have HB:=n0_; have p0:=n1_; have GW727:=n2_; have p3:=n3_; clear n0_ n1_ n2_ n3_; clear hb hbox hg; have hcz7_0 : w6.cell? ⟨p1,0,none⟩ = some (.int .i64 a0_0):=(blk_cell p0.out 0).trans rfl; have hcz7_1 : w6.cell? ⟨p1,1,none⟩ = some (.slice A0_1 l0_1.length c0_1):=(blk_cell p0.out 1).trans rfl; have hfz7_0:=blk_frozen p0.out 0; have hfz7_1:=blk_frozen p0.out 1) | ((with_reducible refine gate_dst (N:=10) rfl ?_); refine Kd.R_lit (Kd.int .i64) _ 3 ?hg (N:=10) ?hd (xs:=([a1,a2] : List Int)) (inner:=[.int .i64 a1,.int .i64 a2]) (ok:=fun _ => True) (okp:=fun _ => True) ?hr ?hp (fun _ hk => hk) trivial (Below.refl _ _) (Nat.le_refl _) (by simp) ?_; (case hd => rfl); (case hg => rfl); (case hr => first | (go_simp; done) | (go_simp; rfl)); (case hp => exact (Reps.one (show Kd.M (Kd.int .i64) _ _ _ a1 [.int .i64 a1] from rfl) (Reps.one (show Kd.M (Kd.int .i64) _ _ _ a2 [.int .i64 a2] from rfl) (Reps.none _ _)))); intro v729 w8 ho9 hb hg_ hnew_; clear hg_ hnew_; (first | rw [← p2.out] at ho9 | (simp only [Int.reduceToNat] at ho9; rw [← p2.out] at ho9)); have n0_:=I (Kd.R_lower ho9 (below_size HB.out)); have n1_:=I (blk_below (g:=p1) (o:=.cells #[.int .i64 a0_0,.slice A0_1 l0_1.length c0_1] 34 (0,0)) p0.out hb); have n2_:=I (below_step HB.out hb); clear p0; clear HB; have HO730:=n0_; have p0:=n1_; have HB:=n2_; clear n0_ n1_ n2_; clear hb ho9; obtain ⟨Ao10,co10,eo10⟩:=Kd.R_slice HO730.out; subst eo10) | ((with_reducible refine gate_callee (f:=99) rfl ?_); refine goesL_ (some 11) rfl rfl Try.func99 (by kernel_rfl) rfl #[.agg #[.int .i64 a0_0,.slice A0_1 l0_1.length c0_1],.slice Ao10 y728.length co10] rfl (by (try simp only [List.map_toArray,List.map_cons,List.map_nil]); first | done | rfl | (simp only [List.length_drop,List.length_take]; rfl)) ?_; (with_reducible refine (impl_nodesIn.calls a0_0 _ _ l0_1 _ _ y728 true _ ?side1 ?side2 ?side3 ?side4 A4.out).mono ?_); (case side1 => repeat (first | exact (Kd.C_below HR0_1.out HB.out) | (with_reducible refine Kd.C_alloc ?_ _) | (with_reducible refine Kd.C_drewN ?_ _) | (with_reducible refine Kd.C_drew ?_))); (case side2 => exact HC0_1.out); (case side3 => repeat (first | exact (Kd.R_reads' HO730.out).2.2 | (with_reducible refine Kd.C_alloc ?_ _) | (with_reducible refine Kd.C_drewN ?_ _) | (with_reducible refine Kd.C_drew ?_))); (case side4 => exact (Kd.R_reads' HO730.out).2.1); rintro e w11 ⟨rfl,hb⟩; refine ⟨_,rfl,?_⟩; have n0_:=I (Kd.R_below HO730.out hb); have n1_:=I (blk_below (g:=p1) (o:=.cells #[.int .i64 a0_0,.slice A0_1 l0_1.length c0_1] 34 (0,0)) p0.out hb); have n2_:=I (below_step HB.out hb); clear HO730; clear p0; clear HB; have HO730:=n0_; have p0:=n1_; have HB:=n2_; clear n0_ n1_ n2_; (try clear hb); (try clear hb2); (try clear hk); (try clear hi)))
  go_ret;exact ⟨by first | rfl | (simp [errW_none,errW_some] <;> rfl) | (simp [*,errW_none,errW_some] <;> rfl),by repeat (first | (with_reducible first | exact HB.out | apply below_alloc | apply pw_below_drewN | apply below_drew1 | refine below_set ?_ p3.out) | exact HB.out)⟩
 replace c5:=Bool.eq_false_iff.mpr c5;subst c5;have H1 : (some false) = some r:=by rw [if_neg (show ¬ (false = true) by decide)] at H; exact H
 clear H;have H:=H1;clear H1;obtain rfl:=Option.some.inj H
 go_enter Try.func89,Try.ntmps89
 go_wp2_with (first | ((with_reducible refine gate_dst (N:=3) rfl ?_); refine box_event ?hg (N:=3) ?hd (cs:=#[.int .i64 a0_0,.slice A0_1 l0_1.length c0_1]) (t:=34) ?hr ?_; (case hd => rfl); (case hg => rfl); (case hr => first | (go_simp; done) | (go_simp; rfl)); intro p1 hg w12 hbox hb; have n0_:=I (below_step HB.out hb); have n1_:=I (hbox); have n2_:=I ((by rw [hg]; exact (below_size HB.out) : w.heap.size ≤ p1)); have n3_:=I ((by rw [hg]; exact (below_size HB.out) : w.heap.size ≤ p1)); clear HB; have HB:=n0_; have p0:=n1_; have GW727:=n2_; have p3:=n3_; clear n0_ n1_ n2_ n3_; clear hb hbox hg; have hcz13_0 : w12.cell? ⟨p1,0,none⟩ = some (.int .i64 a0_0):=(blk_cell p0.out 0).trans rfl; have hcz13_1 : w12.cell? ⟨p1,1,none⟩ = some (.slice A0_1 l0_1.length c0_1):=(blk_cell p0.out 1).trans rfl; have hfz13_0:=blk_frozen p0.out 0; have hfz13_1:=blk_frozen p0.out 1) | ((with_reducible refine gate_dst (N:=10) rfl ?_); refine Kd.R_lit (Kd.int .i64) _ 3 ?hg (N:=10) ?hd (xs:=([a1,a2] : List Int)) (inner:=[.int .i64 a1,.int .i64 a2]) (ok:=fun _ => True) (okp:=fun _ => True) ?hr ?hp (fun _ hk => hk) trivial (Below.refl _ _) (Nat.le_refl _) (by simp) ?_; (case hd => rfl); (case hg => rfl); (case hr => first | (go_simp; done) | (go_simp; rfl)); (case hp => exact (Reps.one (show Kd.M (Kd.int .i64) _ _ _ a1 [.int .i64 a1] from rfl) (Reps.one (show Kd.M (Kd.int .i64) _ _ _ a2 [.int .i64 a2] from rfl) (Reps.none _ _)))); intro v729 w14 ho15 hb hg_ hnew_; clear hg_ hnew_; (first | rw [← p2.out] at ho15 | (simp only [Int.reduceToNat] at ho15; rw [← p2.out] at ho15)); have n0_:=I (Kd.R_lower ho15 (below_size HB.out)); have n1_:=I (blk_below (g:=p1) (o:=.cells #[.int .i64 a0_0,.slice A0_1 l0_1.length c0_1] 34 (0,0)) p0.out hb); have n2_:=I (below_step HB.out hb); clear p0; clear HB; have HO730:=n0_; have p0:=n1_; have HB:=n2_; clear n0_ n1_ n2_; clear hb ho15; obtain ⟨Ao16,co16,eo16⟩:=Kd.R_slice HO730.out; subst eo16) | ((with_reducible refine gate_callee (f:=99) rfl ?_); refine goesL_ (some 11) rfl rfl Try.func99 (by kernel_rfl) rfl #[.agg #[.int .i64 a0_0,.slice A0_1 l0_1.length c0_1],.slice Ao16 y728.length co16] rfl (by (try simp only [List.map_toArray,List.map_cons,List.map_nil]); first | done | rfl | (simp only [List.length_drop,List.length_take]; rfl)) ?_; (with_reducible refine (impl_nodesIn.calls a0_0 _ _ l0_1 _ _ y728 false _ ?side1 ?side2 ?side3 ?side4 A4.out).mono ?_); (case side1 => repeat (first | exact (Kd.C_below HR0_1.out HB.out) | (with_reducible refine Kd.C_alloc ?_ _) | (with_reducible refine Kd.C_drewN ?_ _) | (with_reducible refine Kd.C_drew ?_))); (case side2 => exact HC0_1.out); (case side3 => repeat (first | exact (Kd.R_reads' HO730.out).2.2 | (with_reducible refine Kd.C_alloc ?_ _) | (with_reducible refine Kd.C_drewN ?_ _) | (with_reducible refine Kd.C_drew ?_))); (case side4 => exact (Kd.R_reads' HO730.out).2.1); rintro e w17 ⟨rfl,hb⟩; refine ⟨_,rfl,?_⟩; have n0_:=I (Kd.R_below HO730.out hb); have n1_:=I (blk_below (g:=p1) (o:=.cells #[.int .i64 a0_0,.slice A0_1 l0_1.length c0_1] 34 (0,0)) p0.out hb); have n2_:=I (below_step HB.out hb); clear HO730; clear p0; clear HB; have HO730:=n0_; have p0:=n1_; have HB:=n2_; clear n0_ n1_ n2_; (try clear hb); (try clear hb2); (try clear hk); (try clear hi)))
 go_ret;exact ⟨by first | rfl | (simp [errW_none,errW_some] <;> rfl) | (simp [*,errW_none,errW_some] <;> rfl),by repeat (first | (with_reducible first | exact HB.out | apply below_alloc | apply pw_below_drewN | apply below_drew1 | refine below_set ?_ p3.out) | exact HB.out)⟩
end Go.Proofs.Ytlhmljngjdfbpaa.Pr
end
section
set_option linter.unusedVariables false
set_option linter.unusedSimpArgs false
namespace Go.Proofs.YtlhmljngjdfbpaaW.PrintWords
open Go.RowKit
section
variable {P : Program} {ops : Array Oper} {rest : List Oper} {o : Oper} {a : Act} {Q : Exit → Act → World → Prop}
theorem put_event {W : World} (hgd : o.guard = none) (hN : o.dst = none) {t : TypeId} {p x : Operand} (ho : o.op = .store t p x) {g : Nat} {e : TypeId} {cur : Array Value} (hh : W.heap[g]? = some (.cells cur e (0,0))) (k : Nat) (cur' : Array Value) (u : Value) (seg : List Value)
  (haddr : a.eval p = .pointer (some ⟨g,k,none⟩)) (hx : a.eval x = u) (hu : u.cells.toList = seg) (ht : (P.info? t).map (·.size) = some seg.length) (hfit : k + seg.length ≤ cur.size) (h1 : ∀ q ∈ seg,q.oneCell' = true) (hc : cur'.toList = cur.toList.take k ++ seg ++ cur.toList.drop (k + seg.length))
  (h : ∀ w1,w1.heap[g]? = some (.cells cur' e (0,0)) → W.grownBy w1 (some g) → wpList P ops Q rest a w1) : wpList P ops Q (o :: rest) a W:=by
 obtain ⟨c2,hh2,hs2,hl2⟩:=setCells_row seg k W cur hh hfit;obtain ⟨s1,s2,s3,s4⟩:=setCells_same g seg k W;have e2 : c2 = cur':=by
  apply Array.toList_inj.1
  rw [hl2,hc]
 subst e2;have hrun:=run_store_run (P:=P) (w:=W) t u seg hh hu ht hfit h1;refine wpList_plain hgd fun K hK => ?_
 unfold Oper.wp execOp
 simp only [ho,haddr,hx,Sem.run_bind,Sem.run_pure,Result.andThen_ok,hrun]
 show K (a.put o.dst undef) _
 rw [hN];exact hK a _ (h _ hh2 ⟨s1,s2,s3,by rw [s4]; exact Nat.le_refl _,fun i _ hi => setCells_far seg k i (fun he => hi (by rw [he]))⟩)
end
end Go.Proofs.YtlhmljngjdfbpaaW.PrintWords
end
section
namespace Go.Proofs.Ytlhmljngjdfbpaa.Pr
open Go.RowKit Go.Proofs.YtlhmljngjdfbpaaW.PrintWords Go.Proofs.YtlhmljngjdfbpaaW.PrintLast Go.Proofs.YtlhmljngjdfbpaaW.PrintMore
attribute [local go_sem] max2_int min2_int max_two min_two max_three min_three max_four min_four
set_option linter.unusedVariables false
set_option linter.unusedSimpArgs false
open List renaming setIfInBounds_toArray → J,set_cons_zero → U,set_cons_succ → O
open Go.Proofs.YtlhmljngjdfbpaaW.PrintWords.Aside0 renaming mk → I
def slices_Index_int_int.l0 : Nat → List Int → Int → Int → Int → Option (Int)
 | 0,_,_,_,_ => none
 | k + 1,x0,x1,x7,x8 => if x8 < x7 then (if 0 ≤ x8 then (if x8 < (x0.length : Int) then (if x1 = (rd x0 x8) then (some x8) else (slices_Index_int_int.l0 k x0 x1 x7 (wrap64 (x8 + 1)))) else (none)) else (none)) else (some (-1))
def slices_Index_int_int.f (k : Nat) (l0 : List Int) (a1 : Int) : Option (Int):=slices_Index_int_int.l0 k l0 a1 (l0.length : Int) 0
set_option maxHeartbeats 8000000 in
set_option maxRecDepth 100000 in
theorem slices_Index_int_int.calls (k : Nat) (A0 : Option Addr) (c0 : Nat) (l0 : List Int) (a1 : Int) (r : Int) (w : World) (hr0 : Kd.C (Kd.int .i64) w A0 l0.length l0) (hc0 : l0.length ≤ c0) (h : slices_Index_int_int.f k l0 a1 = some r) :
  Calls Try.prog 146 #[.slice A0 l0.length c0,.int .i64 a1] w fun e w' => e = .returned (.int .i64 r) ∧ Drawn0 w w':=by
 have HR0:=I hr0;have HC0:=I hc0;clear hr0 hc0;have H : (slices_Index_int_int.l0 k l0 a1 (l0.length : Int) 0) = some r:=h;clear h;have H':=I H;clear H
 go_enter Try.func146,Try.ntmps146
 go_wp2
 go_loopg [8] k (fun kq v8 w' => ∃ (x8_1 : Int),v8 = .int .i64 x8_1 ∧ Aside0 (slices_Index_int_int.l0 kq l0 a1 (l0.length : Int) x8_1 = some r) ∧ Aside0 (kq ≤ k) ∧ Drawn0 w w')
 case atStart => exact ⟨(0),(by first | rfl | (simp; done) | (simp [*]; done)),H',⟨Nat.le_refl _⟩,by repeat (first | exact Drawn0.refl _ | apply Drawn0.step)⟩
 case round =>
  clear H'
  try clear c1
  try clear p2
  obtain ⟨x8_1,rfl,HA,HK1,⟨m1,rfl⟩⟩:=hrel;cases gk with
  | zero => exact absurd HA.out (by simp [slices_Index_int_int.l0])
  | succ k1 =>
   have H:=HA.out;clear HA;simp only [slices_Index_int_int.l0] at H
   by_cases c3 : x8_1 < (l0.length : Int)
   case neg =>
    rw [if_neg c3] at H;have c3b0 : decide (x8_1 < (l0.length : Int)) = false:=decide_eq_false c3;clear c3;obtain rfl:=Option.some.inj H
    go_wp2
    go_ret;exact ⟨by first | rfl | (simp; done) | (simp [*]; done),by repeat (first | exact Drawn0.refl _ | apply Drawn0.step)⟩
   rw [if_pos c3] at H;have c3b0 : decide (x8_1 < (l0.length : Int)) = true:=decide_eq_true c3;clear c3
   by_cases c4 : 0 ≤ x8_1
   case neg =>
    rw [if_neg c4] at H;exact absurd H (by simp)
   rw [if_pos c4] at H;have c4b0 : decide (0 ≤ x8_1) = true:=decide_eq_true c4;clear c4
   by_cases c5 : x8_1 < (l0.length : Int)
   case neg =>
    rw [if_neg c5] at H;exact absurd H (by simp)
   rw [if_pos c5] at H;have c5b0 : decide (x8_1 < (l0.length : Int)) = true:=decide_eq_true c5;clear c5
   by_cases c6 : a1 = (rd l0 x8_1)
   case pos =>
    rw [if_pos c6] at H;have c6b0 : (a1 == (rd l0 x8_1)) = true:=beq_iff_eq.mpr c6;have c6b1 : (a1 != (rd l0 x8_1)) = false:=bne_eq_false_iff_eq.mpr c6;clear c6;obtain rfl:=Option.some.inj H;have p824 : 0 ≤ (x8_1 : Int):=of_decide_eq_true (by first | (with_reducible assumption) | assumption);have q824 : x8_1 < (l0.length : Int):=of_decide_eq_true (by first | (with_reducible assumption) | assumption);obtain ⟨ad824,e824,hx824_0⟩:=Kd.at_int HR0.out x8_1 p824 q824;cases e824;replace p824:=eq_true p824;replace q824:=eq_true q824
    go_wp2
    go_ret;exact ⟨by first | rfl | (simp; done) | (simp [*]; done),by repeat (first | exact Drawn0.refl _ | apply Drawn0.step)⟩
   rw [if_neg c6] at H;have c6b0 : (a1 == (rd l0 x8_1)) = false:=beq_eq_false_iff_ne.mpr c6;have c6b1 : (a1 != (rd l0 x8_1)) = true:=bne_iff_ne.mpr c6;have H':=I H;clear H;have p824 : 0 ≤ (x8_1 : Int):=of_decide_eq_true (by first | (with_reducible assumption) | assumption);have q824 : x8_1 < (l0.length : Int):=of_decide_eq_true (by first | (with_reducible assumption) | assumption);obtain ⟨ad824,e824,hx824_0⟩:=Kd.at_int HR0.out x8_1 p824 q824;cases e824;replace p824:=eq_true p824;replace q824:=eq_true q824
   go_wp2
   go_roundg k1
   case measure => have:=HK1.out; omega
   case rel => exact ⟨(wrap64 (x8_1 + 1)),(by first | rfl | (simp; done) | (simp [*]; done)),H',⟨by have:=HK1.out; omega⟩,by repeat (first | exact Drawn0.refl _ | apply Drawn0.step)⟩
def slices_Contains_int_int.f (k : Nat) (l0 : List Int) (a1 : Int) : Option (Bool):=(slices_Index_int_int.f k l0 a1).bind fun t825 => (some (decide (t825 ≥ 0)))
set_option maxHeartbeats 8000000 in
set_option maxRecDepth 100000 in
theorem slices_Contains_int_int.calls (k : Nat) (A0 : Option Addr) (c0 : Nat) (l0 : List Int) (a1 : Int) (r : Bool) (w : World) (hr0 : Kd.C (Kd.int .i64) w A0 l0.length l0) (hc0 : l0.length ≤ c0) (h : slices_Contains_int_int.f k l0 a1 = some r) :
  Calls Try.prog 130 #[.slice A0 l0.length c0,.int .i64 a1] w fun e w' => e = .returned (.bool r) ∧ Drawn0 w w':=by
 have HR0:=I hr0;have HC0:=I hc0;clear hr0 hc0;have H : ((slices_Index_int_int.f k l0 a1).bind fun t825 => (some (decide (t825 ≥ 0)))) = some r:=h;clear h;replace H:=Option.bind_eq_some_iff.mp H;obtain ⟨t825,A30,H⟩:=H;replace H : (some (decide (t825 ≥ 0))) = some r:=H;have A3:=I A30;clear A30;obtain rfl:=Option.some.inj H
 go_enter Try.func130,Try.ntmps130
 go_wp2_with (first | ((with_reducible refine gate_callee (f:=146) rfl ?_); refine goesL_ (some 7) rfl rfl Try.func146 (by kernel_rfl) rfl #[.slice A0 l0.length c0,.int .i64 a1] rfl (by (try simp only [List.map_toArray,List.map_cons,List.map_nil]); first | done | rfl | (simp only [List.length_drop,List.length_take]; rfl)) ?_; (with_reducible refine (slices_Index_int_int.calls k _ _ l0 a1 t825 _ ?side1 ?side2 A3.out).mono ?_); (case side1 => repeat (first | exact HR0.out | (with_reducible refine Kd.C_alloc ?_ _) | (with_reducible refine Kd.C_drewN ?_ _) | (with_reducible refine Kd.C_drew ?_))); (case side2 => exact HC0.out); rintro e w' ⟨rfl,⟨nd,rfl⟩⟩; refine ⟨_,rfl,?_⟩))
 go_ret;exact ⟨by first | rfl | (simp; done) | (simp [*]; done),by repeat (first | exact Drawn0.refl _ | apply Drawn0.step)⟩
theorem index_at (x : List Int) (v : Int) (hm : x.length ≤ 100000) : ∀ d i : Nat,x.length - i = d → i ≤ x.length → ∃ r,slices_Index_int_int.l0 (d + 1) x v (x.length : Int) (i : Int) = some r ∧ decide (r ≥ 0) = decide (v ∈ x.drop i):=by
 intro d
 induction d with
 | zero =>
  intro i hd hi;refine ⟨-1,?_,?_⟩
  ·rw [slices_Index_int_int.l0,if_neg (by omega)]
  ·rw [List.drop_of_length_le (by omega)]; simp
 | succ d ih =>
  intro i hd hi;have hlt : i < x.length:=by omega
  have hr : rd x (i : Int) = x[i]:=by simp [rd,hlt]
  have hw : wrap64 ((i : Int) + 1) = ((i + 1 : Nat) : Int):=by unfold wrap64; omega
  by_cases c : v = x[i]
  case pos =>
   refine ⟨(i : Int),?_,?_⟩
   ·rw [slices_Index_int_int.l0,if_pos (by omega),if_pos (by omega),if_pos (by omega),if_pos (by rw [hr]; exact c)]
   ·rw [List.drop_eq_getElem_cons hlt,decide_eq_decide];exact ⟨fun _ => List.mem_cons.2 (.inl c),fun _ => by omega⟩
  obtain ⟨r,h1,h2⟩:=ih (i + 1) (by omega) (by omega);refine ⟨r,?_,?_⟩
  ·rw [slices_Index_int_int.l0,if_pos (by omega),if_pos (by omega),if_pos (by omega),if_neg (by rw [hr]; exact c),hw];exact h1
  ·rw [h2,List.drop_eq_getElem_cons hlt,decide_eq_decide];simp only [List.mem_cons];exact ⟨.inr,fun h => h.resolve_left c⟩
theorem contains_at (x : List Int) (v : Int) (hm : x.length ≤ 100000) : slices_Contains_int_int.f (x.length + 1) x v = some (decide (v ∈ x)):=by
 obtain ⟨r,h1,h2⟩:=index_at x v hm _ 0 rfl (Nat.zero_le _);rw [List.drop_zero] at h2
 unfold slices_Contains_int_int.f slices_Index_int_int.f
 rw [show x.length + 1 = x.length - 0 + 1 by omega];have h1 : slices_Index_int_int.l0 (x.length - 0 + 1) x v (x.length : Int) 0 = some r:=h1;rw [h1,Option.bind_some,h2]
abbrev StA:=(Int → Int × Bool) × List Int
def putA (st : StA) (v : Int) (s : Int × Bool) : Option StA:=if st.2.length ≤ 1000 then if v ∈ st.2 then some st else if 0 ≤ v ∧ v ≤ 1000 then some ((fun x => if x = v then s else st.1 x),st.2 ++ [v]) else none else none
def arcA (l : List S58) (f : List Int) (u : Int) (i : Nat) (st : StA) : Option StA :=
 (if (rd_T58 l (i : Int)).f0 = u then (if i < f.length then (if rd f (i : Int) < (rd_T58 l (i : Int)).f4 then putA st (rd_T58 l (i : Int)).f1 ((i : Int),true) else some st) else none) else some st).bind fun st1 =>
 (if (rd_T58 l (i : Int)).f1 = u then (if i < f.length then (if rd f (i : Int) > 0 then putA st1 (rd_T58 l (i : Int)).f0 ((i : Int),false) else some st1) else none) else some st1)
def rowA (l : List S58) (f : List Int) (u : Int) : Nat → StA → Option StA
 | 0,st => some st
 | d + 1,st => (arcA l f u (l.length - (d + 1)) st).bind fun st' => rowA l f u d st'
def bfsA (l : List S58) (f : List Int) : Nat → Nat → StA → Option StA
 | 0,_,_ => none
 | k + 1,h,st => if h < st.2.length then (rowA l f (rd st.2 (h : Int)) l.length st).bind fun st' => bfsA l f k (h + 1) st' else some st
def pathA (l : List S58) (b : Int → Int × Bool) (from_ : Int) : Nat → Int → List S103 → Option (List S103)
 | 0,_,_ => none
 | k + 1,v,out => if v = from_ then some out else if 0 ≤ v ∧ v ≤ 1000 then if out.length ≤ 1000 then if 0 ≤ (b v).1 ∧ (b v).1 < (l.length : Int) then pathA l b from_ k (if (b v).2 = true then (rd_T58 l (b v).1).f0 else (rd_T58 l (b v).1).f1) (out ++ [⟨(b v).1,(b v).2⟩]) else none else none else none
def impl_Net_augment.f (k : Nat) (a0_0 : Int) (l0_1 : List S58) (l1 : List Int) (a2 : Int) (a3 : Int) : Option (List S103 × Bool) :=
 (bfsA l0_1 l1 k 0 ((fun _ => (0,false)),[a2])).bind fun st => if a3 ∈ st.2 then (pathA l0_1 st.1 a2 k a3 []).bind fun p => some (p,true) else some ([],false)
def encD (s : Int × Bool) : DataW Unit:=.agg [.lit (.int .i64 s.1),.lit (.bool s.2)]
def stepR (v : Value) : Option (DataW Unit × List MemPlace):=match v with
 | .agg cs => match cs.toList with
  | [.int .i64 a,.bool b] => some (encD (a,b),[])
  | _ => none
 | _ => none
theorem stepR_mk (a : Int) (b : Bool) : stepR (.agg #[.int .i64 a,.bool b]) = some (encD (a,b),[]):=rfl
theorem stepR_inv {v : Value} {s : Int × Bool} {ps : List MemPlace} (h : stepR v = some (encD s,ps)) : v = .agg #[.int .i64 s.1,.bool s.2]:=by
 unfold stepR at h
 split at h
 ·rename_i cs
  split at h
  ·rename_i a b e;simp only [Option.some.injEq,Prod.mk.injEq,encD,DataW.agg.injEq,List.cons.injEq,DataW.lit.injEq,Lit.int.injEq,Lit.bool.injEq,and_true,true_and] at h;obtain ⟨⟨h1,h2⟩,_⟩:=h;have : cs = #[.int .i64 a,.bool b]:=by
    apply Array.toList_inj.1; rw [e]
   rw [this,h1,h2]
  ·cases h
 ·cases h
theorem key_lit {v : Int} (h : 0 ≤ v ∧ v ≤ 1000) : keyOf Try.prog 3 (.int .i64 v) = some (.int .i64 v):=Go.Maps.keyOf_int_mk Try.underlying3 (by
 simp only [Lit.wf,Bool.and_eq_true,decide_eq_true_eq];have h1 : IntKind.i64.min = -9223372036854775808:=rfl;have h2 : IntKind.i64.max = 9223372036854775807:=rfl;omega)
def AuS (w : World) (gF gB gM : Nat) (P : Nat → Prop) (st : StA) (W : World) : Prop :=
 Below w.heap.size w W ∧ (∃ A c,W.heap[gF]? = some (.cells #[.slice A st.2.length c] 23 (0,0)) ∧ Kd.R (Kd.int .i64) 3 W w.heap.size P (.slice A st.2.length c) st.2) ∧ W.heap[gB]? = some (.cells #[.map (some gM)] 129 (0,0)) ∧ ∃ n D,W.ownsMap Try.prog 3 stepR gM n D ∧ n ≤ st.2.length ∧ ∀ v,0 ≤ v → v ≤ 1000 → D.atKey (.int .i64 v) (encD (0,false)) = encD (st.1 v)
theorem map_below {w w1 : World} {g n : Nat} {D : DataW Unit} (h : w.ownsMap Try.prog 3 stepR g n D) (hb : Below w.heap.size w w1) : w1.ownsMap Try.prog 3 stepR g n D:=by
 obtain ⟨es,clock,h1,h2⟩:=h;exact ⟨es,clock,blk_below h1 hb,h2⟩
theorem AuS.below {w : World} {gF gB gM : Nat} {P : Nat → Prop} {st : StA} {W W1 : World} (h : AuS w gF gB gM P st W) (hb : Below W.heap.size W W1) : AuS w gF gB gM P st W1:=by
 obtain ⟨h1,⟨A,c,h2,h3⟩,h4,n,D,h5,h6⟩:=h;exact ⟨below_step h1 hb,⟨A,c,blk_below h2 hb,Kd.R_below h3 hb⟩,blk_below h4 hb,n,D,map_below h5 hb,h6⟩
theorem AuS.only {w : World} {gF gB gM : Nat} {P : Nat → Prop} {st : StA} {W : World} (h : AuS w gF gB gM P st W) {g : Nat} (hg : W.heap.size ≤ g) : AuS w gF gB gM (fun q => P q ∧ q ≠ g) st W:=by
 obtain ⟨h1,⟨A,c,h2,h3⟩,h4⟩:=h;exact ⟨h1,⟨A,c,h2,Kd.R_mono (Kd.R_bound h3) (fun q hq => ⟨hq.1,by have:=hq.2.2.1; omega⟩)⟩,h4⟩
theorem AuS.mono {w : World} {gF gB gM : Nat} {P P' : Nat → Prop} {st : StA} {W : World} (h : AuS w gF gB gM P st W) (hp : ∀ q,P q → P' q) : AuS w gF gB gM P' st W:=by
 obtain ⟨h1,⟨A,c,h2,h3⟩,h4⟩:=h;exact ⟨h1,⟨A,c,h2,Kd.R_mono h3 hp⟩,h4⟩
theorem AuS.grown {w : World} {gF gB gM : Nat} {P : Nat → Prop} {st : StA} {W W1 : World} (h : AuS w gF gB gM P st W) {g : Nat} (hg : W.grownBy W1 (some g)) (h1 : gF ≠ g) (h2 : gB ≠ g) (h3 : gM ≠ g) (hP : ∀ q,P q → q ≠ g) (hw : w.heap.size ≤ g) : AuS w gF gB gM P st W1:=by
 obtain ⟨a1,⟨A,c,a2,a3⟩,a4,n,D,a5,a6⟩:=h;exact ⟨pw_below_grown a1 _ (below_size a1) hg (fun q hq => by obtain rfl:=Option.some.inj hq; exact hw),⟨A,c,blk_grown a2 hg (fun e => h1 (Option.some.inj e)),Kd.R_grown a3 hg (fun q hq e => hP q hq (Option.some.inj e))⟩,blk_grown a4 hg (fun e => h2 (Option.some.inj e)),n,D,World.ownsMap.kept a5 hg (fun e => h3 (Option.some.inj e)),a6⟩
set_option maxHeartbeats 4000000 in
set_option maxRecDepth 100000 in
theorem put_closure (w : World) (gF gB gM : Nat) (P : Nat → Prop) (hPn : ∀ q,P q → q ≠ gF ∧ q ≠ gB ∧ q ≠ gM) (hFB : gF ≠ gB) (hFM : gF ≠ gM) (hBM : gB ≠ gM) (gw : w.heap.size ≤ gF ∧ w.heap.size ≤ gM) (st st' : StA) (v : Int) (s : Int × Bool) (W : World) (hPf : ∀ q,W.heap.size ≤ q → P q) (h : AuS w gF gB gM P st W) (hst : putA st v s = some st') :
  Calls Try.prog 129 #[.int .i64 v,.agg #[.int .i64 s.1,.bool s.2],.pointer (some ⟨gF,0,none⟩),.pointer (some ⟨gB,0,none⟩)] W fun e w' => e = .returned (.tuple #[]) ∧ AuS w gF gB gM P st' w' ∧ Kept W w' (fun q => q = gF ∨ q = gM ∨ P q):=by
 unfold putA at hst
 have hlen : st.2.length ≤ 1000:=by
  by_cases c : st.2.length ≤ 1000
  case pos => exact c
  rw [if_neg c] at hst; cases hst
 rw [if_pos hlen] at hst;have hct:=contains_at st.2 v (by omega);have h0:=h.only (Nat.le_refl W.heap.size);obtain ⟨I1,⟨A,c,I2,I3⟩,I4,n,D,I5,I6,I7⟩:=h0;have hc2:=(Kd.R_reads' I3).2.1;have HP:=I hPn;have HPF:=I hPf;have X1:=I hFB;have X2:=I hFM;have X3:=I hBM;have GW:=I gw;have HL:=I hlen;have J1:=I I1;have J2:=I I2;have J3:=I I3;have J4:=I I4;have J5:=I I5;have J6:=I I6;have J7:=I I7;have HC2:=I hc2;have H0:=I h;clear hPn hPf hFB hFM hBM gw hlen I1 I2 I3 I4 I5 I6 I7 hc2 h
 by_cases hin : v ∈ st.2
 case pos =>
  rw [if_pos hin] at hst;obtain rfl:=Option.some.inj hst;rw [decide_eq_true hin] at hct;have HCT:=I hct;clear hst hct hin
  go_enter Try.func129,Try.ntmps129
  go_wp2_with (first
   | ((with_reducible refine gate_dst (N:=5) rfl ?_); refine box_event ?hg (N:=5) ?hd (cs:=#[.int .i64 s.1,.bool s.2]) (t:=103) ?hr ?_; (case hd => rfl); (case hg => rfl); (case hr => first | (go_simp; done) | (go_simp; rfl)); intro g5 hg5 w1 hbox hb; have B1:=I hb; have q1 : w1.cell? ⟨gF,0,none⟩ = some (.slice A st.2.length c):=(blk_cell (blk_below J2.out hb) 0).trans rfl; clear hbox hb hg5)
   | (go_at_call 130; refine (slices_Contains_int_int.calls (st.2.length + 1) A c st.2 v true w1 (Kd.C_below (Kd.R_reads' J3.out).2.2 B1.out) HC2.out HCT.out).mono ?_; rintro e w2 ⟨rfl,⟨nd,rfl⟩⟩; clear q1))
  go_end0
  exact ⟨rfl,H0.out.below (by (with_reducible repeat (first | exact B1.out | apply pw_below_drewN | apply below_drew))),Kept.of_below (by (with_reducible repeat (first | exact B1.out | apply pw_below_drewN | apply below_drew))) _⟩
 rw [if_neg hin] at hst;have hv : 0 ≤ v ∧ v ≤ 1000:=by
  by_cases c : 0 ≤ v ∧ v ≤ 1000
  case pos => exact c
  rw [if_neg c] at hst; cases hst
 rw [if_pos hv] at hst;obtain rfl:=Option.some.inj hst;rw [decide_eq_false hin] at hct;have HCT:=I hct;have HV:=I hv;have HKEY:=I (key_lit hv);clear hst hct hin hv
 go_enter Try.func129,Try.ntmps129
 go_wp2_with (first
  | ((with_reducible refine gate_dst (N:=5) rfl ?_); refine box_event ?hg (N:=5) ?hd (cs:=#[.int .i64 s.1,.bool s.2]) (t:=103) ?hr ?_; (case hd => rfl); (case hg => rfl); (case hr => first | (go_simp; done) | (go_simp; rfl)); intro g5 hg5 w1 hbox hb; have M1:=I hbox; have B1:=I hb; have F1:=I (blk_below J2.out hb); have E1:=I (blk_below J4.out hb); have D1:=I (map_below J5.out hb); have R1:=I (show Kd.R (Kd.int .i64) 3 w1 w.heap.size (fun q => P q ∧ q ≠ g5) (.slice A st.2.length c) st.2 by rw [hg5]; exact Kd.R_below J3.out hb); have BL:=I (blk_lt J2.out); have N1:=I (show W.heap.size ≤ g5 by rw [hg5]; exact Nat.le_refl _); have q1 : w1.cell? ⟨gF,0,none⟩ = some (.slice A st.2.length c):=(blk_cell F1.out 0).trans rfl; clear hbox hb hg5 J2 J3 J4 J5)
  | (go_at_call 130; refine (slices_Contains_int_int.calls (st.2.length + 1) A c st.2 v false w1 (Kd.R_reads' R1.out).2.2 HC2.out HCT.out).mono ?_; rintro e w2_ ⟨rfl,⟨nd,rfl⟩⟩; have hbn : Below w1.heap.size w1 (w1.drewN nd):=pw_below_drewN (Below.refl _ _) nd; have F2:=I (blk_below F1.out hbn); have E2:=I (blk_below E1.out hbn); have M2:=I (blk_below M1.out hbn); have D2:=I (map_below D1.out hbn); have R2:=I (Kd.R_below R1.out hbn); have B2:=I (below_step B1.out hbn); have q2 : (w1.drewN nd).cell? ⟨gF,0,none⟩ = some (.slice A st.2.length c):=(blk_cell F2.out 0).trans rfl; clear hbn F1 E1 M1 D1 R1 B1 q1; generalize w1.drewN nd = w2 at F2 E2 M2 D2 R2 B2 q2 ⊢)
  | ((with_reducible refine gate_builtin (b:=.append) (xs:=#[.tmp 10,.tmp 12]) rfl ?_); at_builtin; refine Kd.R_append (Kd.int .i64) (w0:=w) w.heap.size rfl (.tmp 10) (.tmp 12) 23 3 (.int .i64 0) 8 rfl Try.underlying23 info3 rfl (by decide) (by omega) (.slice A st.2.length c) st.2 v [.int .i64 v] (fun q => P q ∧ q ≠ g5) (fun _ => False) rfl rfl ?aP (fun _ hk => hk.elim) ?aF ?aO ?aB ?aS ?aL ?_; (case aP => exact rfl); (case aB => exact (by (with_reducible repeat (first | exact below_step J1.out B2.out | apply below_alloc | apply pw_below_drewN | apply below_drew)))); (case aF => exact fun k_ hk => ⟨HPF.out k_ (Nat.le_trans (below_size B2.out) hk),by have h1:=blk_lt M2.out; (try simp at hk); omega⟩); (case aO => exact (by (with_reducible repeat (first | exact R2.out | apply Kd.R_alloc | apply Kd.R_drewN | apply Kd.R_drew)))); (case aS => exact below_size (by (with_reducible repeat (first | exact below_step J1.out B2.out | apply below_alloc | apply pw_below_drewN | apply below_drew)))); (case aL => have:=HL.out; omega); intro v4 w4 ho hb hg hat; obtain ⟨A4,c4,rfl⟩:=Kd.R_slice ho; have R4:=I ho; have B4:=I hb; have rb:=fun q (e : some q = (Value.slice A st.2.length c).ownBlock) => R2.out.1 q e.symm; have F4:=I (show w4.heap[gF]? = _ from blk_grown F2.out hg (fun e => (HP.out _ (rb _ e).1).1 rfl)); have E4:=I (show w4.heap[gB]? = _ from blk_grown E2.out hg (fun e => (HP.out _ (rb _ e).1).2.1 rfl)); have D4:=I (show w4.ownsMap Try.prog 3 stepR gM n D from World.ownsMap.kept D2.out hg (fun e => (HP.out _ (rb _ e).1).2.2 rfl)); have M4:=I (show w4.heap[g5]? = _ from blk_grown M2.out hg (fun e => (rb _ e).2 rfl)); have K4:=I (show Kept W w4 (fun q => q = gF ∨ q = gM ∨ P q) from Kept.of_grown hg (Kept.of_below B2.out _) (fun k e => .inl (.inr (.inr (R2.out.1 k e).1)))); clear rb ho hb hg hat q2 F2 E2 D2 R2 M2)
  | ((with_reducible refine gate_store (t:=23) (p:=2) (v:=.tmp 13) rfl ?_); refine put_event rfl rfl rfl F4.out 0 #[.slice A4 (st.2 ++ [v]).length c4] (.slice A4 (st.2 ++ [v]).length c4) [.slice A4 (st.2 ++ [v]).length c4] (by first | rfl | (go_simp; done) | (go_simp; rfl)) (by first | rfl | (go_simp; done) | (go_simp; rfl)) rfl (by kernel_rfl) (by simp) (by simp [Value.oneCell']) rfl ?_; intro w5 hc5 hg5; have F5:=I hc5; have E5:=I (show w5.heap[gB]? = _ from blk_grown E4.out hg5 (fun e => X1.out (Option.some.inj e).symm)); have D5:=I (show w5.ownsMap Try.prog 3 stepR gM n D from World.ownsMap.kept D4.out hg5 (fun e => X2.out (Option.some.inj e).symm)); have M5:=I (show w5.heap[g5]? = _ from blk_grown M4.out hg5 (fun e => by have h1:=N1.out; have h2:=blk_lt F4.out; have h3:=Option.some.inj e; have h4:=BL.out; omega)); have G5:=I hg5; have q5 : w5.cell? ⟨gB,0,none⟩ = some (.map (some gM)):=(blk_cell E5.out 0).trans rfl; have q6 : w5.cell? ⟨g5,0,none⟩ = some (.int .i64 s.1):=(blk_cell M5.out 0).trans rfl; have q7 : w5.cell? ⟨g5,1,none⟩ = some (.bool s.2):=(blk_cell M5.out 1).trans rfl; clear hc5 hg5)
  | (at_mapUpdate; refine wpList_mapUpdate_own _ rfl _ _ _ 129 rfl 3 103 (Go.Maps.int_keyed Try.underlying3) Try.underlying129 stepR gM n D rfl D5.out (by have h1:=J6.out; have h2:=HL.out; unfold maxLen; omega) _ _ _ rfl rfl HKEY.out _ [] (stepR_mk s.1 s.2) ?_; intro w6 hown6 hg6; have D6:=I hown6; have G6:=I hg6; clear hown6 hg6))
 go_end0
 refine ⟨rfl,⟨?_,⟨A4,c4,?_,?_⟩,?_,n + 1,_,D6.out,?_,fun u h1 h2 => ?_⟩,?_⟩
 ·exact pw_below_grown (pw_below_grown B4.out _ (below_size B4.out) G5.out (fun q hq => by obtain rfl:=Option.some.inj hq; exact GW.out.1)) _ (Nat.le_trans (below_size B4.out) G5.out.size) G6.out (fun q hq => by obtain rfl:=Option.some.inj hq; exact GW.out.2)
 ·exact blk_grown F5.out G6.out (fun e => X2.out (Option.some.inj e))
 ·exact Kd.R_mono (Kd.R_grown (Kd.R_grown R4.out G5.out (fun q hq e => (HP.out q hq.1).1 (Option.some.inj e))) G6.out (fun q hq e => (HP.out q hq.1).2.2 (Option.some.inj e))) (fun q hq => hq.1)
 ·exact blk_grown E5.out G6.out (fun e => X3.out (Option.some.inj e))
 ·rw [List.length_append,List.length_singleton]; have:=J6.out; omega
 ·have hm:=World.ownsMap.isMap D5.out
  by_cases e : u = v
  case neg =>
   rw [Go.Maps.atKey_put_other (fun h => e (by injection h))]
   show _ = encD (if u = v then s else st.1 u)
   rw [if_neg e];exact J7.out u h1 h2
  subst e;rw [Go.Maps.atKey_put_same hm (show WideAt.IsKeyLit (.int .i64 u) from trivial)]
  show encD (s.1,s.2) = encD (if u = u then s else st.1 u)
  rw [if_pos rfl]
 ·exact Kept.of_grown G6.out (Kept.of_grown G5.out K4.out (fun q hq => by obtain rfl:=Option.some.inj hq; exact .inl (.inl rfl))) (fun q hq => by obtain rfl:=Option.some.inj hq; exact .inl (.inr (.inl rfl)))
theorem map_born {P : Program} {ops : Array Oper} {rest : List Oper} {o : Oper} {a : Act} {Q : Exit → Act → World → Prop} {W : World} (kt : TypeId) (R : Value → Option (DataW Unit × List MemPlace)) (hgd : o.guard = none) (hrun : (execOp a.eval o).run P W = .ok (.value (.map (some W.heap.size))) (W.alloc (.map #[] 0)))
  (h : ∀ g,g = W.heap.size → ∀ w1,w1.ownsMap P kt R g 0 (.map []) → Below W.heap.size W w1 → wpList P ops Q rest (a.put o.dst (.map (some g))) w1) : wpList P ops Q (o :: rest) a W :=
 Kd.event_run hgd hrun (h _ rfl _ (World.ownsMap_made W P kt R) (below_alloc (Below.refl _ _) _))
theorem putA_keep {st st' : StA} {v : Int} {s : Int × Bool} (h : putA st v s = some st') {i : Nat} (hi : i < st.2.length) : rd st'.2 (i : Int) = rd st.2 (i : Int) ∧ i < st'.2.length ∧ (st.2.length ≤ 1001 → st'.2.length ≤ 1001):=by
 unfold putA at h
 by_cases c : st.2.length ≤ 1000
 case neg => rw [if_neg c] at h; cases h
 rw [if_pos c] at h
 by_cases hin : v ∈ st.2
 case pos =>
  rw [if_pos hin] at h;obtain rfl:=Option.some.inj h;exact ⟨rfl,hi,id⟩
 rw [if_neg hin] at h
 by_cases hv : 0 ≤ v ∧ v ≤ 1000
 case neg => rw [if_neg hv] at h; cases h
 rw [if_pos hv] at h;obtain rfl:=Option.some.inj h;refine ⟨?_,by simp; omega,fun _ => by simp; omega⟩;simp [rd,List.getElem?_append_left hi,hi,List.getD_eq_getElem?_getD]
theorem zero_step (w : World) : (zeroValue 103).run Try.prog w = .ok (.agg #[.int .i64 0,.bool false]) w:=by kernel_rfl
set_option maxHeartbeats 40000000 in
set_option maxRecDepth 100000 in
theorem impl_Net_augment.calls (k : Nat) (a0_0 : Int) (A0_1 : Option Addr) (c0_1 : Nat) (l0_1 : List S58) (A1 : Option Addr) (c1 : Nat) (l1 : List Int) (a2 : Int) (a3 : Int) (r1 : List S103) (r2 : Bool) (w : World) (p8 : Kd.C k58 w A0_1 l0_1.length l0_1) (hc0_1 : l0_1.length ≤ c0_1) (hr1 : Kd.C (Kd.int .i64) w A1 l1.length l1) (hc1 : l1.length ≤ c1) (h : impl_Net_augment.f k a0_0 l0_1 l1 a2 a3 = some (r1,r2)) :
  Calls Try.prog 94 #[.agg #[.int .i64 a0_0,.slice A0_1 l0_1.length c0_1],.slice A1 l1.length c1,.int .i64 a2,.int .i64 a3] w fun e w' => ∃ v0_ : Value,e = .returned (.tuple #[v0_,.bool r2]) ∧ Kd.R k103 103 w' w.heap.size (fun _ => True) v0_ r1 ∧ Below w.heap.size w w':=by
 have hu:=Try.underlying34;have hu2:=Try.underlying58;have hu3:=Try.underlying103;have hmm:=@run_makeMap Try.prog
 unfold impl_Net_augment.f at h
 obtain ⟨stE,hbf,hrest⟩:=Option.bind_eq_some_iff.1 h;have hm0:=Kd.C_max p8;have HR0:=I p8;have HC0:=I hc0_1;have HR1:=I hr1;have HC1:=I hc1;have HBF:=I hbf;have HRE:=I hrest;have HM0:=I hm0;clear p8 hc0_1 hr1 hc1 h hbf hrest hm0
 go_enter Try.func94,Try.ntmps94
 go_wp2_with (first
  | ((with_reducible refine gate_dst (N:=4) rfl ?_); refine box_event ?hg (N:=4) ?hd (cs:=#[.int .i64 a0_0,.slice A0_1 l0_1.length c0_1]) (t:=34) ?hr ?_; (case hd => rfl); (case hg => rfl); (case hr => first | (go_simp; done) | (go_simp; rfl)); intro gN hgN w1 hbox hb; have M1:=I hbox; have B1:=I hb; have G1:=I (show w.heap.size ≤ gN by rw [hgN]; exact Nat.le_refl _); clear hbox hb hgN)
  | ((with_reducible refine gate_dst (N:=18) rfl ?_); refine map_born 3 stepR ?hg ?hr ?_; (case hg => rfl); (case hr => first | (go_simp; done) | (go_simp; rfl)); intro gM hgM w2 hmap hb; have M2:=I (blk_below M1.out hb); have B2:=I (below_step B1.out hb); have D2:=I hmap; have G2:=I (show w.heap.size ≤ gM by rw [hgM]; exact below_size B1.out); have L2:=I (show gN < gM by rw [hgM]; exact blk_lt M1.out); clear hmap hb hgM M1 B1)
  | ((with_reducible refine gate_dst (N:=10) rfl ?_); refine box_event ?hg (N:=10) ?hd (cs:=#[.map none]) (t:=129) ?hr ?_; (case hd => rfl); (case hg => rfl); (case hr => first | (go_simp; done) | (go_simp; rfl)); intro gB hgB w3 hbox hb; have M3:=I (blk_below M2.out hb); have B3:=I (below_step B2.out hb); have D3:=I (map_below D2.out hb); have E3:=I hbox; have G3:=I (show w.heap.size ≤ gB by rw [hgB]; exact below_size B2.out); have L3:=I (show gM < gB by rw [hgB]; exact World.ownsMap.lt D2.out); clear hbox hb hgB M2 B2 D2)
  | ((with_reducible refine gate_store (t:=129) (p:=10) (v:=.tmp 18) rfl ?_); refine put_event rfl rfl rfl E3.out 0 #[.map (some gM)] (.map (some gM)) [.map (some gM)] (by first | rfl | (go_simp; done) | (go_simp; rfl)) (by first | rfl | (go_simp; done) | (go_simp; rfl)) rfl (by kernel_rfl) (by simp) (by simp [Value.oneCell']) rfl ?_; intro w4 hc4 hg4; have E4:=I hc4; have M4:=I (show w4.heap[gN]? = _ from blk_grown M3.out hg4 (fun e => by have h1:=Option.some.inj e; have h2:=L2.out; have h3:=L3.out; omega)); have D4:=I (show w4.ownsMap Try.prog 3 stepR gM 0 (.map []) from World.ownsMap.kept D3.out hg4 (fun e => by have h1:=Option.some.inj e; have h3:=L3.out; omega)); have B4:=I (pw_below_grown B3.out _ (below_size B3.out) hg4 (fun q hq => by obtain rfl:=Option.some.inj hq; exact G3.out)); clear hc4 hg4 E3 M3 D3 B3)
  | ((with_reducible refine gate_dst (N:=20) rfl ?_); refine Kd.R_lit (Kd.int .i64) _ 3 ?hg (N:=20) ?hd (xs:=([a2] : List Int)) (inner:=[.int .i64 a2]) (ok:=fun _ => True) (okp:=fun _ => True) ?hr ?hp (fun _ hk => hk) trivial (Below.refl _ _) (Nat.le_refl _) (by simp) ?_; (case hd => rfl); (case hg => rfl); (case hr => first | (go_simp; done) | (go_simp; rfl)); (case hp => exact (Reps.one (show Kd.M (Kd.int .i64) _ _ _ a2 [.int .i64 a2] from rfl) (Reps.none _ _))); intro v20 w5 ho hb hg_ hnew_; clear hg_ hnew_; obtain ⟨A20,c20,rfl⟩:=Kd.R_slice ho; have R5:=I (show Kd.R (Kd.int .i64) 3 w5 w.heap.size (fun q => w4.heap.size ≤ q) (.slice A20 ([a2] : List Int).length c20) [a2] from Kd.R_lower (Kd.R_mono (Kd.R_bound ho) (fun q hq => hq.2.1)) (below_size B4.out)); have B5:=I (below_step B4.out hb); have M5:=I (blk_below M4.out hb); have E5:=I (blk_below E4.out hb); have D5:=I (map_below D4.out hb); have L5:=I (show gB < w4.heap.size from blk_lt E4.out); clear ho hb M4 E4 D4 B4)
  | ((with_reducible refine gate_dst (N:=11) rfl ?_); refine box_event ?hg (N:=11) ?hd (cs:=#[.slice none 0 0]) (t:=23) ?hr ?_; (case hd => rfl); (case hg => rfl); (case hr => first | (go_simp; done) | (go_simp; rfl)); intro gF hgF w6 hbox hb; have F6:=I hbox; have B6:=I (below_step B5.out hb); have M6:=I (blk_below M5.out hb); have E6:=I (blk_below E5.out hb); have D6:=I (map_below D5.out hb); have R6:=I (show Kd.R (Kd.int .i64) 3 w6 w.heap.size (fun q => q ≠ gN ∧ q ≠ gF ∧ q ≠ gB ∧ q ≠ gM) (.slice A20 ([a2] : List Int).length c20) [a2] from Kd.R_mono (Kd.R_below (Kd.R_bound R5.out) hb) (fun q hq => by have h1:=hq.1; have h2:=L2.out; have h3:=L3.out; have h4:=L5.out; have h5:=hq.2.2.1; refine ⟨?_,?_,?_,?_⟩ <;> omega)); have L6:=I (show gB < gF by have h1:=blk_lt E5.out; omega); have G6:=I (show w.heap.size ≤ gF by have h1:=below_size B5.out; omega); clear hbox hb hgF R5 B5 M5 E5 D5)
  | ((with_reducible refine gate_store (t:=23) (p:=11) (v:=.tmp 20) rfl ?_); refine put_event rfl rfl rfl F6.out 0 #[.slice A20 ([a2] : List Int).length c20] (.slice A20 ([a2] : List Int).length c20) [.slice A20 ([a2] : List Int).length c20] (by first | rfl | (go_simp; done) | (go_simp; rfl)) (by first | rfl | (go_simp; done) | (go_simp; rfl)) rfl (by kernel_rfl) (by simp) (by simp [Value.oneCell']) rfl ?_; intro w7 hc7 hg7; have A7:=I (show AuS w gF gB gM (fun q => q ≠ gN ∧ q ≠ gF ∧ q ≠ gB ∧ q ≠ gM) ((fun _ => (0,false)),[a2]) w7 from ⟨pw_below_grown B6.out _ (below_size B6.out) hg7 (fun q hq => by obtain rfl:=Option.some.inj hq; exact G6.out),⟨A20,c20,hc7,Kd.R_grown R6.out hg7 (fun q hq e => hq.2.1 (Option.some.inj e))⟩,blk_grown E6.out hg7 (fun e => by have h1:=Option.some.inj e; have h2:=L6.out; omega),0,_,World.ownsMap.kept D6.out hg7 (fun e => by have h1:=Option.some.inj e; have h2:=L6.out; have h3:=L3.out; omega),by simp,fun u _ _ => rfl⟩); have M7:=I (show w7.heap[gN]? = _ from blk_grown M6.out hg7 (fun e => by have h1:=Option.some.inj e; have h2:=L6.out; have h3:=L3.out; have h4:=L2.out; omega)); clear hc7 hg7 F6 B6 M6 E6 D6 R6))
 have HPn : ∀ q,(fun q => q ≠ gN ∧ q ≠ gF ∧ q ≠ gB ∧ q ≠ gM) q → q ≠ gF ∧ q ≠ gB ∧ q ≠ gM:=fun q h => h.2
 go_loopg [12] k (fun gg s12 wr => ∃ (hh kk : Nat) (st : StA),s12 = .int .i64 (hh : Int) ∧ Aside0 (kk ≤ gg) ∧ Aside0 (bfsA l0_1 l1 kk hh st = some stE) ∧ Aside0 (AuS w gF gB gM (fun q => q ≠ gN ∧ q ≠ gF ∧ q ≠ gB ∧ q ≠ gM) st wr) ∧ Aside0 (wr.heap[gN]? = some (.cells #[.int .i64 a0_0,.slice A0_1 l0_1.length c0_1] 34 (0,0))) ∧ Aside0 (st.2.length ≤ 1001) ∧ Aside0 (hh ≤ 1001))
 case atStart => exact ⟨0,k,_,rfl,⟨Nat.le_refl _⟩,HBF,A7,M7,⟨by simp⟩,⟨by omega⟩⟩
 case round =>
  clear A7 M7 HBF;obtain ⟨hh,kk,st,rfl,J0,J1,J2,J3,J4,J5⟩:=hrel;obtain ⟨kq,rfl⟩ : ∃ q,kk = q + 1:=by
   cases kk with
   | zero => have:=J1.out; simp [bfsA] at this
   | succ q => exact ⟨q,rfl⟩
  obtain ⟨hJB,⟨Af,cf,F0,R0⟩,E0,nD,D,D0,D1,D2⟩:=J2.out;have JB:=I hJB;have JE:=I E0;have JD:=I D0;have JV:=I D2;clear hJB D0 D1 D2;have q1 : wr.cell? ⟨gF,0,none⟩ = some (.slice Af st.2.length cf):=(blk_cell F0 0).trans rfl;have q2 : wr.cell? ⟨gN,1,none⟩ = some (.slice A0_1 l0_1.length c0_1):=(blk_cell J3.out 1).trans rfl;have h5:=J1.out
  unfold bfsA at h5
  by_cases hlt : hh < st.2.length
  case neg =>
   rw [if_neg hlt] at h5;obtain rfl : st = stE:=Option.some.inj h5;have c1 : decide ((hh : Int) < (st.2.length : Int)) = false:=decide_eq_false (by omega);have c2 : decide (hh < st.2.length) = false:=decide_eq_false hlt;have hct:=contains_at st.2 a3 (by have:=J4.out; omega);have hcf:=(Kd.R_reads' R0).2.1;have HCF:=I hcf;clear h5 hlt F0 E0 hcf
   by_cases hin : a3 ∈ st.2
   case neg =>
    have hre:=HRE.out;rw [if_neg hin] at hre;simp only [Option.some.injEq,Prod.mk.injEq] at hre;obtain ⟨rfl,rfl⟩:=hre;rw [decide_eq_false hin] at hct;have HCT:=I hct;clear hct hin HRE J1
    go_wp2_with (first
     | (go_at_call 130; refine (slices_Contains_int_int.calls (st.2.length + 1) Af cf st.2 a3 false _ (by (with_reducible repeat (first | exact (Kd.R_reads' R0).2.2 | apply Kd.C_drewN | apply Kd.C_drew))) HCF.out HCT.out).mono ?_; rintro e w2 ⟨rfl,⟨nd,rfl⟩⟩))
    go_ret2;exact ⟨_,rfl,Kd.R_nil _ _ _ _ _,by (with_reducible repeat (first | exact JB.out | apply pw_below_drewN | apply below_drew))⟩
   have hre:=HRE.out;rw [if_pos hin] at hre;obtain ⟨p,hp,hre⟩:=Option.bind_eq_some_iff.1 hre;simp only [Option.some.injEq,Prod.mk.injEq] at hre;obtain ⟨rfl,rfl⟩:=hre;rw [decide_eq_true hin] at hct;have HCT:=I hct;have HP:=I hp;clear hct hin hp HRE J1
   go_wp2_with (first
    | (go_at_call 130; refine (slices_Contains_int_int.calls (st.2.length + 1) Af cf st.2 a3 true _ (by (with_reducible repeat (first | exact (Kd.R_reads' R0).2.2 | apply Kd.C_drewN | apply Kd.C_drew))) HCF.out HCT.out).mono ?_; rintro e w2 ⟨rfl,⟨nd,rfl⟩⟩)
    | ((with_reducible refine gate_dst (N:=83) rfl ?_); refine Kd.R_lit k103 _ 103 ?hg (N:=83) ?hd (xs:=([] : List S103)) (inner:=[]) (ok:=fun _ => True) (okp:=fun _ => True) ?hr ?hp (fun _ hk => hk) trivial (Below.refl _ _) (Nat.le_refl _) (by simp) ?_; (case hd => rfl); (case hg => rfl); (case hr => first | (go_simp; done) | (go_simp; rfl)); (case hp => exact (Reps.none _ _)); intro v83 w3 ho hb hg_ hnew_; clear hg_ hnew_; obtain ⟨A83,c83,rfl⟩:=Kd.R_slice ho; have hbr : Below wr.heap.size wr w3:=below_step (by (with_reducible repeat (first | exact Below.refl _ _ | apply pw_below_drewN | apply below_drew))) hb; have B3:=I (below_step JB.out hbr); have M3:=I (blk_below J3.out hbr); have E3:=I (blk_below JE.out hbr); have D3:=I (map_below JD.out hbr); have R3:=I (show Kd.R k103 103 w3 w.heap.size (fun q => q ≠ gN ∧ q ≠ gB ∧ q ≠ gM) (.slice A83 ([] : List S103).length c83) [] from Kd.R_lower (Kd.R_mono (Kd.R_bound ho) (fun q hq => by have h1:=hq.2.1; have h2:=blk_lt J3.out; have h3:=blk_lt JE.out; have h4:=World.ownsMap.lt JD.out; (try simp at h1); refine ⟨?_,?_,?_⟩ <;> omega)) (by exact (below_size JB.out : w.heap.size ≤ wr.heap.size))); clear ho hb hbr))
   clear J2 J3 JE JD R0 q1 q2 c1 c2
   go_loopg [3,16] k (fun gg s3 s16 wr => ∃ (kk : Nat) (v : Int) (out : List S103) (A : Option Addr) (c : Nat),s3 = .int .i64 v ∧ s16 = .slice A out.length c ∧ Aside0 (kk ≤ gg) ∧ Aside0 (pathA l0_1 st.1 a2 kk v out = some p) ∧ Aside0 (Kd.R k103 103 wr w.heap.size (fun q => q ≠ gN ∧ q ≠ gB ∧ q ≠ gM) (.slice A out.length c) out) ∧ Aside0 (Below w.heap.size w wr) ∧ Aside0 (wr.heap[gN]? = some (.cells #[.int .i64 a0_0,.slice A0_1 l0_1.length c0_1] 34 (0,0))) ∧ Aside0 (wr.heap[gB]? = some (.cells #[.map (some gM)] 129 (0,0))) ∧ Aside0 (wr.ownsMap Try.prog 3 stepR gM nD D))
   case atStart => exact ⟨k,a3,[],A83,c83,rfl,rfl,⟨Nat.le_refl _⟩,HP,R3,B3,M3,E3,D3⟩
   case round =>
    clear HP R3 B3 M3 E3 D3;obtain ⟨kk,v,out,A,c,rfl,rfl,K0,K1,K2,K3,K4,K5,K6⟩:=hrel;obtain ⟨kq,rfl⟩ : ∃ q,kk = q + 1:=by
     cases kk with
     | zero => have:=K1.out; simp [pathA] at this
     | succ q => exact ⟨q,rfl⟩
    have h6:=K1.out
    unfold pathA at h6
    by_cases hv : v = a2
    case pos =>
     rw [if_pos hv] at h6;obtain rfl : out = p:=Option.some.inj h6;subst hv;clear h6 K1
     go_wp2
     go_ret2;exact ⟨_,rfl,Kd.R_mono K2.out (fun _ _ => trivial),K3.out⟩
    rw [if_neg hv] at h6;have hv2 : 0 ≤ v ∧ v ≤ 1000:=by
     by_cases c : 0 ≤ v ∧ v ≤ 1000
     case pos => exact c
     rw [if_neg c] at h6; cases h6
    rw [if_pos hv2] at h6;have hol : out.length ≤ 1000:=by
     by_cases c : out.length ≤ 1000
     case pos => exact c
     rw [if_neg c] at h6; cases h6
    rw [if_pos hol] at h6;have hsl : 0 ≤ (st.1 v).1 ∧ (st.1 v).1 < (l0_1.length : Int):=by
     by_cases c : 0 ≤ (st.1 v).1 ∧ (st.1 v).1 < (l0_1.length : Int)
     case pos => exact c
     rw [if_neg c] at h6; cases h6
    rw [if_pos hsl] at h6;obtain ⟨vv,ps,hrun,hvv⟩:=World.ownsMap.lookup K6.out (Go.Maps.int_keyed Try.underlying3) Try.underlying129 (zero_step wr) (zd:=encD (0,false)) (zp:=[]) rfl (key_lit hv2);rw [JV.out v hv2.1 hv2.2] at hvv;obtain rfl:=stepR_inv hvv;generalize st.1 v = sv at h6 hsl hrun;obtain ⟨sa,sb⟩:=sv;dsimp only at h6 hsl hrun;have e1 : (v == a2) = false:=beq_eq_false_iff_ne.2 hv;have e2 : (v != a2) = true:=bne_iff_ne.2 hv;have q1 : wr.cell? ⟨gB,0,none⟩ = some (.map (some gM)):=(blk_cell K5.out 0).trans rfl;have H6:=I h6;have HOL:=I hol;have HSL:=I hsl;obtain ⟨ad,e,_⟩:=at_T58 (Kd.C_below HR0.out K3.out) sa hsl.1 hsl.2;cases e;have p0 : ((0 : Int) ≤ sa) = True:=eq_true hsl.1;have p1 : (sa < (l0_1.length : Int)) = True:=eq_true hsl.2;clear h6 hol hsl hv hv2 hvv K1;cases sb with
    | false =>
     go_wp2_with (first
      | ((with_reducible refine gate_dst (N:=17) rfl ?_); refine box_event ?hg (N:=17) ?hd (cs:=#[.int .i64 0,.bool false]) (t:=103) ?hr ?_; (case hd => rfl); (case hg => rfl); (case hr => first | (go_simp; done) | (go_simp; rfl)); intro gs hgs w2 hbox hb; have X2:=I hbox; have B2:=I (below_step K3.out hb); have M2:=I (blk_below K4.out hb); have E2:=I (blk_below K5.out hb); have D2:=I (map_below K6.out hb); have R2:=I (show Kd.R k103 103 w2 w.heap.size (fun q => (q ≠ gN ∧ q ≠ gB ∧ q ≠ gM) ∧ q ≠ gs) (.slice A out.length c) out from Kd.R_mono (Kd.R_below (Kd.R_bound K2.out) hb) (fun q hq => ⟨hq.1,by have:=hq.2.2.1; omega⟩)); have L2s:=I (show w.heap.size ≤ gs ∧ gN ≠ gs ∧ gB ≠ gs ∧ gM ≠ gs by have h1:=below_size K3.out; have h2:=blk_lt K4.out; have h3:=blk_lt K5.out; have h4:=World.ownsMap.lt K6.out; refine ⟨?_,?_,?_,?_⟩ <;> omega); clear hbox hb hgs q1 K2 K3 K4 K5 K6)
      | ((with_reducible refine gate_store (t:=103) (p:=17) (v:=.tmp 89) rfl ?_); refine put_event rfl rfl rfl X2.out 0 #[.int .i64 sa,.bool false] (.agg #[.int .i64 sa,.bool false]) [.int .i64 sa,.bool false] (by first | rfl | (go_simp; done) | (go_simp; rfl)) (by first | rfl | (go_simp; done) | (go_simp; rfl)) rfl (by kernel_rfl) (by simp) (by simp [Value.oneCell']) rfl ?_; intro w3 hc3 hg3; have X3:=I hc3; have B3:=I (pw_below_grown B2.out _ (below_size B2.out) hg3 (fun q hq => by obtain rfl:=Option.some.inj hq; exact L2s.out.1)); have M3:=I (show w3.heap[gN]? = _ from blk_grown M2.out hg3 (fun e => L2s.out.2.1 (Option.some.inj e))); have E3:=I (show w3.heap[gB]? = _ from blk_grown E2.out hg3 (fun e => L2s.out.2.2.1 (Option.some.inj e))); have D3:=I (show w3.ownsMap Try.prog 3 stepR gM nD D from World.ownsMap.kept D2.out hg3 (fun e => L2s.out.2.2.2 (Option.some.inj e))); have R3:=I (Kd.R_grown R2.out hg3 (fun q hq e => hq.2 (Option.some.inj e))); have z0 : w3.cell? ⟨gs,0,none⟩ = some (.int .i64 sa):=(blk_cell X3.out 0).trans rfl; have z1 : w3.cell? ⟨gs,1,none⟩ = some (.bool false):=(blk_cell X3.out 1).trans rfl; clear hc3 hg3 X2 B2 M2 E2 D2 R2)
      | ((with_reducible refine gate_builtin (b:=.append) (xs:=#[.tmp 90,.tmp 92]) rfl ?_); at_builtin; refine Kd.R_append k103 (w0:=w) w.heap.size rfl (.tmp 90) (.tmp 92) 99 103 (.agg #[.int .i64 0,.bool false]) 16 rfl Try.underlying99 (by kernel_rfl) rfl (by decide) (by omega) (.slice A out.length c) out (⟨sa,false⟩ : S103) [.int .i64 sa,.bool false] (fun q => (q ≠ gN ∧ q ≠ gB ∧ q ≠ gM) ∧ q ≠ gs) (fun _ => False) rfl (by first | (go_simp; done) | (go_simp; rfl)) ?aP (fun _ hk => hk.elim) ?aF ?aO ?aB ?aS ?aL ?_; (case aP => exact k103_mkM _ _ _ (⟨sa,false⟩ : S103)); (case aB => exact B3.out); (case aF => exact fun q hq => by have h1:=blk_lt X3.out; have h2:=blk_lt M3.out; have h3:=blk_lt E3.out; have h4:=World.ownsMap.lt D3.out; refine ⟨⟨?_,?_,?_⟩,?_⟩ <;> omega); (case aO => exact R3.out); (case aS => exact below_size B3.out); (case aL => have:=HOL.out; omega); intro v4 w4 ho hb hg hat; obtain ⟨A4,c4,rfl⟩:=Kd.R_slice ho; have R4:=I ho; have B4:=I hb; have rb:=fun q (e : some q = (Value.slice A out.length c).ownBlock) => R3.out.1 q e.symm; have M4:=I (show w4.heap[gN]? = _ from blk_grown M3.out hg (fun e => (rb _ e).1.1 rfl)); have E4:=I (show w4.heap[gB]? = _ from blk_grown E3.out hg (fun e => (rb _ e).1.2.1 rfl)); have D4:=I (show w4.ownsMap Try.prog 3 stepR gM nD D from World.ownsMap.kept D3.out hg (fun e => (rb _ e).1.2.2 rfl)); have X4:=I (show w4.heap[gs]? = _ from blk_grown X3.out hg (fun e => (rb _ e).2 rfl)); clear rb ho hb hg hat z0 z1 X3 B3 M3 E3 D3 R3; have z0 : w4.cell? ⟨gs,0,none⟩ = some (.int .i64 sa):=(blk_cell X4.out 0).trans rfl; have z1 : w4.cell? ⟨gs,1,none⟩ = some (.bool false):=(blk_cell X4.out 1).trans rfl; have z2 : w4.cell? ⟨gN,1,none⟩ = some (.slice (some ad) l0_1.length c0_1):=(blk_cell M4.out 1).trans rfl; obtain ⟨ad',e',y0,y1,_,_,_⟩:=at_T58 (Kd.C_below HR0.out B4.out) sa HSL.out.1 HSL.out.2; obtain rfl : ad = ad':=by injection e'))
     go_roundg kq
     case measure => have:=K0.out; omega
     case rel => exact ⟨kq,_,out ++ [⟨sa,false⟩],A4,c4,rfl,by first | rfl | simp,⟨Nat.le_refl _⟩,⟨by have h:=H6.out; first | exact h | simpa using h⟩,⟨Kd.R_mono R4.out (fun q hq => hq.1)⟩,B4,M4,E4,D4⟩
    | true =>
     go_wp2_with (first
      | ((with_reducible refine gate_dst (N:=17) rfl ?_); refine box_event ?hg (N:=17) ?hd (cs:=#[.int .i64 0,.bool false]) (t:=103) ?hr ?_; (case hd => rfl); (case hg => rfl); (case hr => first | (go_simp; done) | (go_simp; rfl)); intro gs hgs w2 hbox hb; have X2:=I hbox; have B2:=I (below_step K3.out hb); have M2:=I (blk_below K4.out hb); have E2:=I (blk_below K5.out hb); have D2:=I (map_below K6.out hb); have R2:=I (show Kd.R k103 103 w2 w.heap.size (fun q => (q ≠ gN ∧ q ≠ gB ∧ q ≠ gM) ∧ q ≠ gs) (.slice A out.length c) out from Kd.R_mono (Kd.R_below (Kd.R_bound K2.out) hb) (fun q hq => ⟨hq.1,by have:=hq.2.2.1; omega⟩)); have L2s:=I (show w.heap.size ≤ gs ∧ gN ≠ gs ∧ gB ≠ gs ∧ gM ≠ gs by have h1:=below_size K3.out; have h2:=blk_lt K4.out; have h3:=blk_lt K5.out; have h4:=World.ownsMap.lt K6.out; refine ⟨?_,?_,?_,?_⟩ <;> omega); clear hbox hb hgs q1 K2 K3 K4 K5 K6)
      | ((with_reducible refine gate_store (t:=103) (p:=17) (v:=.tmp 89) rfl ?_); refine put_event rfl rfl rfl X2.out 0 #[.int .i64 sa,.bool true] (.agg #[.int .i64 sa,.bool true]) [.int .i64 sa,.bool true] (by first | rfl | (go_simp; done) | (go_simp; rfl)) (by first | rfl | (go_simp; done) | (go_simp; rfl)) rfl (by kernel_rfl) (by simp) (by simp [Value.oneCell']) rfl ?_; intro w3 hc3 hg3; have X3:=I hc3; have B3:=I (pw_below_grown B2.out _ (below_size B2.out) hg3 (fun q hq => by obtain rfl:=Option.some.inj hq; exact L2s.out.1)); have M3:=I (show w3.heap[gN]? = _ from blk_grown M2.out hg3 (fun e => L2s.out.2.1 (Option.some.inj e))); have E3:=I (show w3.heap[gB]? = _ from blk_grown E2.out hg3 (fun e => L2s.out.2.2.1 (Option.some.inj e))); have D3:=I (show w3.ownsMap Try.prog 3 stepR gM nD D from World.ownsMap.kept D2.out hg3 (fun e => L2s.out.2.2.2 (Option.some.inj e))); have R3:=I (Kd.R_grown R2.out hg3 (fun q hq e => hq.2 (Option.some.inj e))); have z0 : w3.cell? ⟨gs,0,none⟩ = some (.int .i64 sa):=(blk_cell X3.out 0).trans rfl; have z1 : w3.cell? ⟨gs,1,none⟩ = some (.bool true):=(blk_cell X3.out 1).trans rfl; clear hc3 hg3 X2 B2 M2 E2 D2 R2)
      | ((with_reducible refine gate_builtin (b:=.append) (xs:=#[.tmp 90,.tmp 92]) rfl ?_); at_builtin; refine Kd.R_append k103 (w0:=w) w.heap.size rfl (.tmp 90) (.tmp 92) 99 103 (.agg #[.int .i64 0,.bool false]) 16 rfl Try.underlying99 (by kernel_rfl) rfl (by decide) (by omega) (.slice A out.length c) out (⟨sa,true⟩ : S103) [.int .i64 sa,.bool true] (fun q => (q ≠ gN ∧ q ≠ gB ∧ q ≠ gM) ∧ q ≠ gs) (fun _ => False) rfl (by first | (go_simp; done) | (go_simp; rfl)) ?aP (fun _ hk => hk.elim) ?aF ?aO ?aB ?aS ?aL ?_; (case aP => exact k103_mkM _ _ _ (⟨sa,true⟩ : S103)); (case aB => exact B3.out); (case aF => exact fun q hq => by have h1:=blk_lt X3.out; have h2:=blk_lt M3.out; have h3:=blk_lt E3.out; have h4:=World.ownsMap.lt D3.out; refine ⟨⟨?_,?_,?_⟩,?_⟩ <;> omega); (case aO => exact R3.out); (case aS => exact below_size B3.out); (case aL => have:=HOL.out; omega); intro v4 w4 ho hb hg hat; obtain ⟨A4,c4,rfl⟩:=Kd.R_slice ho; have R4:=I ho; have B4:=I hb; have rb:=fun q (e : some q = (Value.slice A out.length c).ownBlock) => R3.out.1 q e.symm; have M4:=I (show w4.heap[gN]? = _ from blk_grown M3.out hg (fun e => (rb _ e).1.1 rfl)); have E4:=I (show w4.heap[gB]? = _ from blk_grown E3.out hg (fun e => (rb _ e).1.2.1 rfl)); have D4:=I (show w4.ownsMap Try.prog 3 stepR gM nD D from World.ownsMap.kept D3.out hg (fun e => (rb _ e).1.2.2 rfl)); have X4:=I (show w4.heap[gs]? = _ from blk_grown X3.out hg (fun e => (rb _ e).2 rfl)); clear rb ho hb hg hat z0 z1 X3 B3 M3 E3 D3 R3; have z0 : w4.cell? ⟨gs,0,none⟩ = some (.int .i64 sa):=(blk_cell X4.out 0).trans rfl; have z1 : w4.cell? ⟨gs,1,none⟩ = some (.bool true):=(blk_cell X4.out 1).trans rfl; have z2 : w4.cell? ⟨gN,1,none⟩ = some (.slice (some ad) l0_1.length c0_1):=(blk_cell M4.out 1).trans rfl; obtain ⟨ad',e',y0,y1,_,_,_⟩:=at_T58 (Kd.C_below HR0.out B4.out) sa HSL.out.1 HSL.out.2; obtain rfl : ad = ad':=by injection e'))
     go_roundg kq
     case measure => have:=K0.out; omega
     case rel => exact ⟨kq,_,out ++ [⟨sa,true⟩],A4,c4,rfl,by first | rfl | simp,⟨Nat.le_refl _⟩,⟨by have h:=H6.out; first | exact h | simpa using h⟩,⟨Kd.R_mono R4.out (fun q hq => hq.1)⟩,B4,M4,E4,D4⟩
  rw [if_pos hlt] at h5;obtain ⟨st2,hrow,hnext⟩:=Option.bind_eq_some_iff.1 h5;have c1 : decide ((hh : Int) < (st.2.length : Int)) = true:=decide_eq_true (by omega);have c2 : decide (hh < st.2.length) = true:=decide_eq_true hlt;have HROW:=I hrow;have HNX:=I hnext;have HLT:=I hlt;obtain ⟨u,hu0⟩ : ∃ u,rd st.2 (hh : Int) = u:=⟨_,rfl⟩
  rw [hu0] at HROW;have HU0:=I hu0;clear h5 hrow hnext hlt hu0 J1
  go_wp2
  clear q1 q2 c1 c2
  go_loopg [31] l0_1.length (fun gg s31 wr => ∃ (j : Nat) (st1 : StA),s31 = .int .i64 (j : Int) ∧ Aside0 (j ≤ l0_1.length ∧ l0_1.length - j ≤ gg) ∧ Aside0 (rowA l0_1 l1 u (l0_1.length - j) st1 = some st2) ∧ Aside0 (AuS w gF gB gM (fun q => q ≠ gN ∧ q ≠ gF ∧ q ≠ gB ∧ q ≠ gM) st1 wr) ∧ Aside0 (wr.heap[gN]? = some (.cells #[.int .i64 a0_0,.slice A0_1 l0_1.length c0_1] 34 (0,0))) ∧ Aside0 (st1.2.length ≤ 1001) ∧ Aside0 (rd st1.2 (hh : Int) = u ∧ hh < st1.2.length))
  case atStart => exact ⟨0,st,rfl,⟨by omega⟩,HROW,J2,J3,J4,⟨HU0.out,HLT.out⟩⟩
  case round =>
   clear J2 J3 J4 HROW HU0 HLT;obtain ⟨j,st1,rfl,K0,K1,K2,K3,K4,K5⟩:=hrel
   by_cases hj : j < l0_1.length
   case neg =>
    have c1 : decide ((j : Int) < (l0_1.length : Int)) = false:=decide_eq_false (by omega);have c2 : decide (j < l0_1.length) = false:=decide_eq_false hj;have h6:=K1.out;rw [show l0_1.length - j = 0 by omega] at h6;obtain rfl : st1 = st2:=Option.some.inj h6;have hw : wrap64 ((hh : Int) + 1) = ((hh + 1 : Nat) : Int):=by have h1:=J5.out; unfold wrap64; omega
    have HW:=I hw;clear h6 hj hw
    go_wp2
    go_roundg kq
    case measure => have:=J0.out; omega
    case rel => exact ⟨hh + 1,kq,st1,by first | rfl | (rw [HW.out]; done) | (simp [HW.out]; done),⟨Nat.le_refl _⟩,HNX,K2,K3,K4,⟨by have h1:=K5.out.2; have h2:=K4.out; omega⟩⟩
   have c1 : decide ((j : Int) < (l0_1.length : Int)) = true:=decide_eq_true (by omega);have c2 : decide (j < l0_1.length) = true:=decide_eq_true hj;obtain ⟨m,hm⟩ : ∃ m,l0_1.length - j = m + 1:=⟨l0_1.length - j - 1,by omega⟩
   have h6:=K1.out;rw [hm] at h6
   unfold rowA at h6
   rw [show l0_1.length - (m + 1) = j by omega] at h6;obtain ⟨st3,harc,hrow⟩:=Option.bind_eq_some_iff.1 h6
   unfold arcA at harc
   obtain ⟨stM,hM,hS⟩:=Option.bind_eq_some_iff.1 harc;obtain ⟨ad,e,x0,x1,x2,x3,x4⟩:=at_T58 (Kd.C_below HR0.out K2.out.1) (j : Int) (by omega) (by omega);cases e;rw [Int.toNat_natCast] at x0 x1 x2 x3 x4;have p2 : ((0 : Int) ≤ (j : Int)) = True:=eq_true (by omega);have p3 : ((j : Int) < (l0_1.length : Int)) = True:=eq_true (by omega);have hw : wrap64 ((j : Int) + 1) = ((j + 1 : Nat) : Int):=by have h1:=HM0.out; unfold wrap64; omega
   have HMM:=I hM;have HSS:=I hS;have HRR:=I hrow;have HW:=I hw;have HJ:=I hj;have HMQ:=I hm;generalize hfa : rd_T58 l0_1 (j : Int) = fa at x0 x1 x2 x3 x4 HMM HSS;clear h6 harc hM hS hrow hw hj hm hfa K1
   go_wp2_with (first
    | ((with_reducible refine gate_dst (N:=15) rfl ?_); refine box_event ?hg (N:=15) ?hd (cs:=#[.int .i64 0,.int .i64 0,.int .i64 0,.int .i64 0,.int .i64 0]) (t:=58) ?hr ?_; (case hd => rfl); (case hg => rfl); (case hr => first | (go_simp; done) | (go_simp; rfl)); intro ga hga w2 hbox hb; have B2:=I hb; have S2:=I (show AuS w gF gB gM (fun q => (fun q => q ≠ gN ∧ q ≠ gF ∧ q ≠ gB ∧ q ≠ gM) q ∧ q ≠ ga) st1 w2 from (K2.out.only (by rw [hga]; exact Nat.le_refl _)).below hb); have M2:=I (blk_below K3.out hb); have X2:=I hbox; have L2a:=I (show gN < ga by rw [hga]; exact blk_lt K3.out); have L2b:=I (show gF < ga by rw [hga]; obtain ⟨_,⟨_,_,hz,_⟩,_⟩:=K2.out; exact blk_lt hz); clear hbox hb hga)
    | ((with_reducible refine gate_store (t:=58) (p:=15) (v:=.tmp 35) rfl ?_); refine put_event rfl rfl rfl X2.out 0 #[.int .i64 fa.f0,.int .i64 fa.f1,.int .i64 fa.f2,.int .i64 fa.f3,.int .i64 fa.f4] (.agg #[.int .i64 fa.f0,.int .i64 fa.f1,.int .i64 fa.f2,.int .i64 fa.f3,.int .i64 fa.f4]) [.int .i64 fa.f0,.int .i64 fa.f1,.int .i64 fa.f2,.int .i64 fa.f3,.int .i64 fa.f4] (by first | rfl | (go_simp; done) | (go_simp; rfl)) (by first | rfl | (go_simp; done) | (go_simp; rfl)) rfl (by kernel_rfl) (by simp) (by simp [Value.oneCell']) rfl ?_; intro w3 hc3 hg3; have X3:=I hc3; have M3:=I (show w3.heap[gN]? = _ from blk_grown M2.out hg3 (fun e => by have h1:=Option.some.inj e; have h2:=L2a.out; omega)); have S3:=I (S2.out.grown hg3 (by have h1:=L2b.out; omega) (by have h1:=L2b.out; have h2:=L6.out; omega) (by have h1:=L2b.out; have h2:=L6.out; have h3:=L3.out; omega) (fun q hq => hq.2) (by have h1:=L2b.out; have h2:=G6.out; omega)); clear hc3 hg3 S2 M2 X2 B2))
   clear x0 x1 x2 x3 x4 p2 p3 c1 c2 K2 K3;obtain ⟨_,⟨Ab,cb,Fb,Rb⟩,_⟩:=S3.out;have y1 : w3.cell? ⟨gF,0,none⟩ = some (.slice Ab st1.2.length cb):=(blk_cell Fb 0).trans rfl;obtain ⟨adb,e,y2⟩:=Kd.at_int (Kd.R_reads' Rb).2.2 (hh : Int) (by omega) (by have:=K5.out.2; omega);cases e;rw [K5.out.1,Int.toNat_natCast] at y2;have z0 : w3.cell? ⟨ga,0,none⟩ = some (.int .i64 fa.f0):=(blk_cell X3.out 0).trans rfl;have z1 : w3.cell? ⟨ga,1,none⟩ = some (.int .i64 fa.f1):=(blk_cell X3.out 1).trans rfl;have z4 : w3.cell? ⟨ga,4,none⟩ = some (.int .i64 fa.f4):=(blk_cell X3.out 4).trans rfl;have p2 : ((0 : Int) ≤ (hh : Int)) = True:=eq_true (by omega);have p3 : ((hh : Int) < (st1.2.length : Int)) = True:=eq_true (by have:=K5.out.2; omega);have p4 : ((0 : Int) ≤ (j : Int)) = True:=eq_true (by omega);have hMM:=HMM.out;clear HMM Fb Rb;have key : (fa.f0 = u ∧ j < l1.length ∧ rd l1 (j : Int) < fa.f4 ∧ putA st1 fa.f1 ((j : Int),true) = some stM) ∨ (fa.f0 = u ∧ j < l1.length ∧ ¬ rd l1 (j : Int) < fa.f4 ∧ st1 = stM) ∨ (¬ fa.f0 = u ∧ st1 = stM):=by
    by_cases d1 : fa.f0 = u
    case neg => rw [if_neg d1] at hMM; exact .inr (.inr ⟨d1,Option.some.inj hMM⟩)
    rw [if_pos d1] at hMM
    by_cases d2 : j < l1.length
    case neg => rw [if_neg d2] at hMM; cases hMM
    rw [if_pos d2] at hMM
    by_cases d3 : rd l1 (j : Int) < fa.f4
    case pos => rw [if_pos d3] at hMM; exact .inl ⟨d1,d2,d3,hMM⟩
    rw [if_neg d3] at hMM; exact .inr (.inl ⟨d1,d2,d3,Option.some.inj hMM⟩)
   clear hMM
   rcases key with ⟨d1,d2,d3,hMM⟩ | ⟨d1,d2,d3,hMM⟩ | ⟨d1,hMM⟩
   focus
    obtain ⟨adf,e,y3⟩:=Kd.at_int (Kd.C_below HR1.out S3.out.1) (j : Int) (by omega) (by omega);cases e;rw [Int.toNat_natCast] at y3;have p5 : ((j : Int) < (l1.length : Int)) = True:=eq_true (by omega);have e1 : (fa.f0 == u) = true:=beq_iff_eq.2 d1;have e2 : decide (rd l1 (j : Int) < fa.f4) = true:=decide_eq_true d3;have HMM:=I hMM;clear hMM d1 d2 d3
    go_quiet (first | done)
    generalize hq_ : World.drewN w3 _ = w4;have hbq : Below w3.heap.size w3 w4:=hq_ ▸ pw_below_drewN (Below.refl _ _) _;have S4:=I (AuS.below S3.out hbq);have M4:=I (blk_below M3.out hbq);have X4:=I (blk_below X3.out hbq);have H5:=I HMM.out;have z5 : w4.cell? ⟨ga,1,none⟩ = some (.int .i64 fa.f1):=(blk_cell X4.out 1).trans rfl;clear hq_ hbq y1 y2 y3 z0 z1 z4 S3 M3 X3 e1 e2 HMM
    go_wp2_with (first
     | (go_at_call 129; refine (put_closure w gF gB gM (fun q => (q ≠ gN ∧ q ≠ gF ∧ q ≠ gB ∧ q ≠ gM) ∧ q ≠ ga) (fun q h => h.1.2) (by have:=L6.out; omega) (by have h1:=L6.out; have h2:=L3.out; omega) (by have h2:=L3.out; omega) ⟨G6.out,G2.out⟩ st1 stM fa.f1 ((j : Int),true) w4 (fun q hq => by have h1:=blk_lt X4.out; have h2:=L2a.out; have h3:=L2b.out; have h4:=L6.out; have h5:=L3.out; refine ⟨⟨?_,?_,?_,?_⟩,?_⟩ <;> omega) S4.out H5.out).mono ?_; rintro e w5 ⟨rfl,hA,hK⟩; have S5:=I hA; have M5:=I (show w5.heap[gN]? = _ from blk_kept M4.out hK (fun h => by have h1:=L2.out; have h2:=L3.out; have h3:=L6.out; rcases h with h | h | h; omega; omega; exact h.1.1 rfl)); have X5:=I (show w5.heap[ga]? = _ from blk_kept X4.out hK (fun h => by have h1:=L2b.out; have h2:=L6.out; have h3:=L3.out; rcases h with h | h | h; omega; omega; exact h.2 rfl)); clear hA hK))
    have KU : Aside0 (rd stM.2 (hh : Int) = u ∧ hh < stM.2.length ∧ stM.2.length ≤ 1001):=⟨by obtain ⟨k1,k2,k3⟩:=putA_keep H5.out K5.out.2; exact ⟨k1.trans K5.out.1,k2,k3 K4.out⟩⟩
    clear z5 H5 S4 M4 X4 K4 K5
   rotate_left
   focus
    obtain ⟨adf,e,y3⟩:=Kd.at_int (Kd.C_below HR1.out S3.out.1) (j : Int) (by omega) (by omega);cases e;rw [Int.toNat_natCast] at y3;have p5 : ((j : Int) < (l1.length : Int)) = True:=eq_true (by omega);have e1 : (fa.f0 == u) = true:=beq_iff_eq.2 d1;have e2 : decide (rd l1 (j : Int) < fa.f4) = false:=decide_eq_false d3;have hMM2:=hMM.symm;subst hMM2;clear d1 d2 d3
    go_quiet (first | done)
    generalize hq_ : World.drewN w3 _ = w5;have hbq : Below w3.heap.size w3 w5:=hq_ ▸ pw_below_drewN (Below.refl _ _) _;have S5:=I (AuS.below S3.out hbq);have M5:=I (blk_below M3.out hbq);have X5:=I (blk_below X3.out hbq);have KU : Aside0 (rd stM.2 (hh : Int) = u ∧ hh < stM.2.length ∧ stM.2.length ≤ 1001):=⟨⟨K5.out.1,K5.out.2,K4.out⟩⟩
    clear hq_ hbq y1 y2 z0 z1 z4 S3 M3 X3 K4 K5
    go_wp2
    clear y3 e1 e2 p5
   rotate_left
   focus
    have e1 : (fa.f0 == u) = false:=beq_eq_false_iff_ne.2 d1;have hMM2:=hMM.symm;subst hMM2;clear d1
    go_quiet (first | done)
    generalize hq_ : World.drewN w3 _ = w5;have hbq : Below w3.heap.size w3 w5:=hq_ ▸ pw_below_drewN (Below.refl _ _) _;have S5:=I (AuS.below S3.out hbq);have M5:=I (blk_below M3.out hbq);have X5:=I (blk_below X3.out hbq);have KU : Aside0 (rd stM.2 (hh : Int) = u ∧ hh < stM.2.length ∧ stM.2.length ≤ 1001):=⟨⟨K5.out.1,K5.out.2,K4.out⟩⟩
    clear hq_ hbq y1 y2 z0 z1 z4 S3 M3 X3 K4 K5
    go_wp2
    clear e1
   rotate_left
   all_goals
    obtain ⟨_,⟨Ab2,cb2,Fb2,Rb2⟩,_⟩:=S5.out;have y1 : w5.cell? ⟨gF,0,none⟩ = some (.slice Ab2 stM.2.length cb2):=(blk_cell Fb2 0).trans rfl;obtain ⟨adc,e,y2⟩:=Kd.at_int (Kd.R_reads' Rb2).2.2 (hh : Int) (by omega) (by have:=KU.out.2.1; omega);cases e;rw [KU.out.1,Int.toNat_natCast] at y2;have z0 : w5.cell? ⟨ga,0,none⟩ = some (.int .i64 fa.f0):=(blk_cell X5.out 0).trans rfl;have z1 : w5.cell? ⟨ga,1,none⟩ = some (.int .i64 fa.f1):=(blk_cell X5.out 1).trans rfl;have p6 : ((hh : Int) < (stM.2.length : Int)) = True:=eq_true (by have:=KU.out.2.1; omega);have hSS:=HSS.out;have key : (fa.f1 = u ∧ j < l1.length ∧ rd l1 (j : Int) > 0 ∧ putA stM fa.f0 ((j : Int),false) = some st3) ∨ (fa.f1 = u ∧ j < l1.length ∧ ¬ rd l1 (j : Int) > 0 ∧ stM = st3) ∨ (¬ fa.f1 = u ∧ stM = st3):=by
     by_cases d1 : fa.f1 = u
     case neg => rw [if_neg d1] at hSS; exact .inr (.inr ⟨d1,Option.some.inj hSS⟩)
     rw [if_pos d1] at hSS
     by_cases d2 : j < l1.length
     case neg => rw [if_neg d2] at hSS; cases hSS
     rw [if_pos d2] at hSS
     by_cases d3 : rd l1 (j : Int) > 0
     case pos => rw [if_pos d3] at hSS; exact .inl ⟨d1,d2,d3,hSS⟩
     rw [if_neg d3] at hSS; exact .inr (.inl ⟨d1,d2,d3,Option.some.inj hSS⟩)
    clear hSS HSS Fb2 Rb2
    rcases key with ⟨d1,d2,d3,hSS⟩ | ⟨d1,d2,d3,hSS⟩ | ⟨d1,hSS⟩
    ·obtain ⟨adg,e,y3⟩:=Kd.at_int (Kd.C_below HR1.out S5.out.1) (j : Int) (by omega) (by omega);cases e;rw [Int.toNat_natCast] at y3;have p7 : ((j : Int) < (l1.length : Int)) = True:=eq_true (by omega);have e1 : (fa.f1 == u) = true:=beq_iff_eq.2 d1;have e2 : decide (rd l1 (j : Int) > 0) = true:=decide_eq_true d3;have e3 : decide (0 < rd l1 (j : Int)) = true:=decide_eq_true d3;have H6:=I hSS;clear hSS d1 d2 d3
     go_quiet (first | done)
     generalize hq_ : World.drewN w5 _ = w6;have hbq : Below w5.heap.size w5 w6:=hq_ ▸ pw_below_drewN (Below.refl _ _) _;have S6:=I (AuS.below S5.out hbq);have M6:=I (blk_below M5.out hbq);have X6:=I (blk_below X5.out hbq);have z6 : w6.cell? ⟨ga,0,none⟩ = some (.int .i64 fa.f0):=(blk_cell X6.out 0).trans rfl;clear hq_ hbq y1 y2 y3 z0 z1 S5 M5 X5 e1 e2 e3
     go_wp2_with (first
      | (go_at_call 129; refine (put_closure w gF gB gM (fun q => (q ≠ gN ∧ q ≠ gF ∧ q ≠ gB ∧ q ≠ gM) ∧ q ≠ ga) (fun q h => h.1.2) (by have:=L6.out; omega) (by have h1:=L6.out; have h2:=L3.out; omega) (by have h2:=L3.out; omega) ⟨G6.out,G2.out⟩ stM st3 fa.f0 ((j : Int),false) w6 (fun q hq => by have h1:=blk_lt X6.out; have h2:=L2a.out; have h3:=L2b.out; have h4:=L6.out; have h5:=L3.out; refine ⟨⟨?_,?_,?_,?_⟩,?_⟩ <;> omega) S6.out H6.out).mono ?_; rintro e w7 ⟨rfl,hA,hK⟩; have S7:=I hA; have M7:=I (show w7.heap[gN]? = _ from blk_kept M6.out hK (fun h => by have h1:=L2.out; have h2:=L3.out; have h3:=L6.out; rcases h with h | h | h; omega; omega; exact h.1.1 rfl)); clear hA hK))
     have KV : Aside0 (rd st3.2 (hh : Int) = u ∧ hh < st3.2.length ∧ st3.2.length ≤ 1001):=⟨by obtain ⟨k1,k2,k3⟩:=putA_keep H6.out KU.out.2.1; exact ⟨k1.trans KU.out.1,k2,k3 KU.out.2.2⟩⟩
     clear z6 H6 S6 M6 X6;go_roundg (l0_1.length - (j + 1))
     case measure => have:=K0.out; have:=HJ.out; omega
     case rel => exact ⟨j + 1,st3,by first | rfl | (rw [HW.out]; done) | (simp [HW.out]; done),⟨by have:=HJ.out; omega⟩,⟨by have h1:=HMQ.out; rw [show l0_1.length - (j + 1) = m by omega]; exact HRR.out⟩,⟨S7.out.mono (fun q hq => hq.1)⟩,M7,⟨KV.out.2.2⟩,⟨KV.out.1,KV.out.2.1⟩⟩
    ·obtain ⟨adg,e,y3⟩:=Kd.at_int (Kd.C_below HR1.out S5.out.1) (j : Int) (by omega) (by omega);cases e;rw [Int.toNat_natCast] at y3;have p7 : ((j : Int) < (l1.length : Int)) = True:=eq_true (by omega);have e1 : (fa.f1 == u) = true:=beq_iff_eq.2 d1;have e2 : decide (rd l1 (j : Int) > 0) = false:=decide_eq_false d3;have e3 : decide (0 < rd l1 (j : Int)) = false:=decide_eq_false d3;have hSS2:=hSS;subst hSS2;have KV:=KU;clear d1 d2 d3
     go_quiet (first | done)
     generalize hq_ : World.drewN w5 _ = w6;have hbq : Below w5.heap.size w5 w6:=hq_ ▸ pw_below_drewN (Below.refl _ _) _;have S6:=I (AuS.below S5.out hbq);have M6:=I (blk_below M5.out hbq);have X6:=I (blk_below X5.out hbq);clear hq_ hbq y1 y2 z0 z1 S5 M5 X5 y3 e1 e2 e3 p7
     go_wp2
     go_roundg (l0_1.length - (j + 1))
     case measure => have:=K0.out; have:=HJ.out; omega
     case rel => exact ⟨j + 1,stM,by first | rfl | (rw [HW.out]; done) | (simp [HW.out]; done),⟨by have:=HJ.out; omega⟩,⟨by have h1:=HMQ.out; rw [show l0_1.length - (j + 1) = m by omega]; exact HRR.out⟩,⟨S6.out.mono (fun q hq => hq.1)⟩,M6,⟨KV.out.2.2⟩,⟨KV.out.1,KV.out.2.1⟩⟩
    ·have e1 : (fa.f1 == u) = false:=beq_eq_false_iff_ne.2 d1;have hSS2:=hSS;subst hSS2;have KV:=KU;clear d1
     go_quiet (first | done)
     generalize hq_ : World.drewN w5 _ = w6;have hbq : Below w5.heap.size w5 w6:=hq_ ▸ pw_below_drewN (Below.refl _ _) _;have S6:=I (AuS.below S5.out hbq);have M6:=I (blk_below M5.out hbq);have X6:=I (blk_below X5.out hbq);clear hq_ hbq y1 y2 z0 z1 S5 M5 X5 e1
     go_wp2
     go_roundg (l0_1.length - (j + 1))
     case measure => have:=K0.out; have:=HJ.out; omega
     case rel => exact ⟨j + 1,stM,by first | rfl | (rw [HW.out]; done) | (simp [HW.out]; done),⟨by have:=HJ.out; omega⟩,⟨by have h1:=HMQ.out; rw [show l0_1.length - (j + 1) = m by omega]; exact HRR.out⟩,⟨S6.out.mono (fun q hq => hq.1)⟩,M6,⟨KV.out.2.2⟩,⟨KV.out.1,KV.out.2.1⟩⟩
mutual
def impl_FlowOf.l0 : Nat → Int → Int → List Int → Int → List (S58) → Option (List Int)
 | 0,_,_,_,_,_ => none
 | k + 1,x1,x2,x7,p7,p8 => (impl_Net_augment.f k p7 p8 x7 x1 x2).bind fun bt831 => (if bt831.2 = true then (impl_FlowOf.l1 k x1 x2 x7 bt831.1 (bt831.1.length : Int) 0 p7 p8) else (some x7))
def impl_FlowOf.l1 : Nat → Int → Int → List Int → List (S103) → Int → Int → Int → List (S58) → Option (List Int)
 | 0,_,_,_,_,_,_,_,_ => none
 | k + 1,x1,x2,x7,x8,x33,x34,p7,p8 => if x34 < x33 then (if 0 ≤ x34 then (if x34 < (x8.length : Int) then (if (rd_T103 x8 x34).f1 = true then (if 0 ≤ ((rd_T103 x8 x34).f0) then (if ((rd_T103 x8 x34).f0) < (x7.length : Int) then (impl_FlowOf.l1 k x1 x2 (x7.set (((rd_T103 x8 x34).f0) : Int).toNat (wrap64 ((rd x7 ((rd_T103 x8 x34).f0)) + 1))) x8 x33 (wrap64 (x34 + 1)) p7 p8) else (none)) else (none)) else (if 0 ≤ ((rd_T103 x8 x34).f0) then (if ((rd_T103 x8 x34).f0) < (x7.length : Int) then (impl_FlowOf.l1 k x1 x2 (x7.set (((rd_T103 x8 x34).f0) : Int).toNat (wrap64 ((rd x7 ((rd_T103 x8 x34).f0)) - 1))) x8 x33 (wrap64 (x34 + 1)) p7 p8) else (none)) else (none))) else (none)) else (none)) else (impl_FlowOf.l0 k x1 x2 x7 p7 p8)
end
def impl_FlowOf.f (k : Nat) (a0_0 : Int) (l0_1 : List (S58)) (a1 : Int) (a2 : Int) : Option (List Int):=(impl_apart.f a0_0 l0_1 a1 a2).bind fun t827 => (if t827 = true then (if 0 ≤ (l0_1.length : Int) then (if ((l0_1.length : Int) : Int).toNat ≤ 35184372088832 then (impl_FlowOf.l0 k a1 a2 (List.replicate ((l0_1.length : Int) : Int).toNat 0) a0_0 l0_1) else (none)) else (none)) else (some ([] : List Int)))
set_option maxHeartbeats 8000000 in
set_option maxRecDepth 100000 in
theorem impl_FlowOf.calls (k : Nat) (a0_0 : Int) (A0_1 : Option Addr) (c0_1 : Nat) (l0_1 : List (S58)) (a1 : Int) (a2 : Int) (r : List Int) (w : World) (hr0_1 : Kd.C k58 w A0_1 l0_1.length l0_1) (hc0_1 : l0_1.length ≤ c0_1) (h : impl_FlowOf.f k a0_0 l0_1 a1 a2 = some r) :
  Calls Try.prog 38 #[.agg #[.int .i64 a0_0,.slice A0_1 l0_1.length c0_1],.int .i64 a1,.int .i64 a2] w fun e w' => ∃ v0_ : Value,e = .returned (v0_) ∧ Kd.R (Kd.int .i64) 3 w' w.heap.size (fun _ => True) v0_ r ∧ Below w.heap.size w w':=by
 have hu34:=Try.underlying34;have hu103:=Try.underlying103;have q3:=I hr0_1;have q4:=I hc0_1;clear hr0_1 hc0_1;have HB:=I (Below.refl w.heap.size w);have H : ((impl_apart.f a0_0 l0_1 a1 a2).bind fun t827 => (if t827 = true then (if 0 ≤ (l0_1.length : Int) then (if ((l0_1.length : Int) : Int).toNat ≤ 35184372088832 then (impl_FlowOf.l0 k a1 a2 (List.replicate ((l0_1.length : Int) : Int).toNat 0) a0_0 l0_1) else (none)) else (none)) else (some ([] : List Int)))) = some r:=h;clear h;replace H:=Option.bind_eq_some_iff.mp H;obtain ⟨t827,A40,H⟩:=H;replace H : (if t827 = true then (if 0 ≤ (l0_1.length : Int) then (if ((l0_1.length : Int) : Int).toNat ≤ 35184372088832 then (impl_FlowOf.l0 k a1 a2 (List.replicate ((l0_1.length : Int) : Int).toNat 0) a0_0 l0_1) else (none)) else (none)) else (some ([] : List Int))) = some r:=H;have A4:=I A40;clear A40
 by_cases c5 : t827 = true
 case neg =>
  replace c5:=Bool.eq_false_iff.mpr c5;subst c5;have H1 : (some ([] : List Int)) = some r:=by rw [if_neg (show ¬ (false = true) by decide)] at H; exact H
  clear H;have H:=H1;clear H1;obtain rfl:=Option.some.inj H
  go_enter Try.func38,Try.ntmps38
  go_wp2_with (first | ((with_reducible refine gate_dst (N:=3) rfl ?_); refine box_event ?hg (N:=3) ?hd (cs:=#[.int .i64 a0_0,.slice A0_1 l0_1.length c0_1]) (t:=34) ?hr ?_; (case hd => rfl); (case hg => rfl); (case hr => first | (go_simp; done) | (go_simp; rfl)); intro p4 hg w48 hbox hb; have n0_:=I (below_step HB.out hb); have n1_:=I (hbox); have n2_:=I ((by rw [hg]; exact (below_size HB.out) : w.heap.size ≤ p4)); have n3_:=I ((by rw [hg]; exact (below_size HB.out) : w.heap.size ≤ p4)); clear HB; have HB:=n0_; have p1:=n1_; have GW826:=n2_; have p9:=n3_; clear n0_ n1_ n2_ n3_; clear hb hbox hg; have hcz49_0 : w48.cell? ⟨p4,0,none⟩ = some (.int .i64 a0_0):=(blk_cell p1.out 0).trans rfl; have hcz49_1 : w48.cell? ⟨p4,1,none⟩ = some (.slice A0_1 l0_1.length c0_1):=(blk_cell p1.out 1).trans rfl; have hfz49_0:=blk_frozen p1.out 0; have hfz49_1:=blk_frozen p1.out 1) | ((with_reducible refine gate_callee (f:=89) rfl ?_); refine goesL_ (some 15) rfl rfl Try.func89 (by kernel_rfl) rfl #[.agg #[.int .i64 a0_0,.slice A0_1 l0_1.length c0_1],.int .i64 a1,.int .i64 a2] rfl (by (try simp only [List.map_toArray,List.map_cons,List.map_nil]); first | done | rfl | (simp only [List.length_drop,List.length_take]; rfl)) ?_; (with_reducible refine (impl_apart.calls a0_0 _ _ l0_1 a1 a2 false _ ?side1 ?side2 A4.out).mono ?_); (case side1 => repeat (first | exact (Kd.C_below q3.out HB.out) | (with_reducible refine Kd.C_alloc ?_ _) | (with_reducible refine Kd.C_drewN ?_ _) | (with_reducible refine Kd.C_drew ?_))); (case side2 => exact q4.out); rintro e w50 ⟨rfl,hb⟩; refine ⟨_,rfl,?_⟩; have n0_:=I (blk_below (g:=p4) (o:=.cells #[.int .i64 a0_0,.slice A0_1 l0_1.length c0_1] 34 (0,0)) p1.out hb); have n1_:=I (below_step HB.out hb); clear p1; clear HB; have p1:=n0_; have HB:=n1_; clear n0_ n1_; (try clear hb); (try clear hb2); (try clear hk); (try clear hi)))
  go_ret;exact ⟨_,by first | rfl | (simp [errW_none,errW_some] <;> rfl) | (simp [*,errW_none,errW_some] <;> rfl),by first | exact Kd.R_nil _ _ _ _ _ | exact Kd.N_nil _ _ _ _ _ | exact Kd.V_nil _ _ _ _ _ | exact Kd.Q_nil _ _ _ _ _ | exact Kd.S_nil _ _ _ _ _,by repeat (first | (with_reducible first | exact HB.out | apply below_alloc | apply pw_below_drewN | apply below_drew1 | refine below_set ?_ p9.out) | exact HB.out)⟩
 subst c5;have H1 : (if 0 ≤ (l0_1.length : Int) then (if ((l0_1.length : Int) : Int).toNat ≤ 35184372088832 then (impl_FlowOf.l0 k a1 a2 (List.replicate ((l0_1.length : Int) : Int).toNat 0) a0_0 l0_1) else (none)) else (none)) = some r:=by rw [if_pos rfl] at H; exact H
 clear H;have H:=H1;clear H1
 by_cases c6 : 0 ≤ (l0_1.length : Int)
 case neg =>
  rw [if_neg c6] at H;exact absurd H (by simp)
 rw [if_pos c6] at H;have c6b0:=eq_true c6;have c6b1 : decide (0 ≤ (l0_1.length : Int)) = true:=decide_eq_true c6;clear c6
 by_cases c7 : ((l0_1.length : Int) : Int).toNat ≤ 35184372088832
 case neg =>
  rw [if_neg c7] at H;exact absurd H (by simp)
 rw [if_pos c7] at H;have c7b0:=eq_true c7;have c7b1 : decide (((l0_1.length : Int) : Int).toNat ≤ 35184372088832) = true:=decide_eq_true c7;clear c7;obtain ⟨y828,hy828⟩ : ∃ y_ : List Int,y_ = (List.replicate ((l0_1.length : Int) : Int).toNat 0):=⟨_,rfl⟩
 replace H : (impl_FlowOf.l0 k a1 a2 y828 a0_0 l0_1) = some r:=by first | (rw [hy828]; with_reducible exact H) | (have H2_:=(Option.bind_some _ _).symm.trans H; rw [hy828]; with_reducible exact H2_) | (have H2_:=(Option.bind_some _ _).symm.trans H; with_reducible exact H2_) | with_reducible exact H | (rw [hy828]; exact H) | exact H
 have Ny828:=I hy828;clear hy828;have H':=I H;clear H
 go_enter Try.func38,Try.ntmps38
 go_wp2_with (first | ((with_reducible refine gate_dst (N:=3) rfl ?_); refine box_event ?hg (N:=3) ?hd (cs:=#[.int .i64 a0_0,.slice A0_1 l0_1.length c0_1]) (t:=34) ?hr ?_; (case hd => rfl); (case hg => rfl); (case hr => first | (go_simp; done) | (go_simp; rfl)); intro p4 hg w8 hbox hb; have n0_:=I (below_step HB.out hb); have n1_:=I (hbox); have n2_:=I ((by rw [hg]; exact (below_size HB.out) : w.heap.size ≤ p4)); have n3_:=I ((by rw [hg]; exact (below_size HB.out) : w.heap.size ≤ p4)); clear HB; have HB:=n0_; have p1:=n1_; have GW826:=n2_; have p9:=n3_; clear n0_ n1_ n2_ n3_; clear hb hbox hg; have q9 : w8.cell? ⟨p4,0,none⟩ = some (.int .i64 a0_0):=(blk_cell p1.out 0).trans rfl; have r0 : w8.cell? ⟨p4,1,none⟩ = some (.slice A0_1 l0_1.length c0_1):=(blk_cell p1.out 1).trans rfl; have r1:=blk_frozen p1.out 0; have r2:=blk_frozen p1.out 1) | ((with_reducible refine gate_callee (f:=89) rfl ?_); refine goesL_ (some 15) rfl rfl Try.func89 (by kernel_rfl) rfl #[.agg #[.int .i64 a0_0,.slice A0_1 l0_1.length c0_1],.int .i64 a1,.int .i64 a2] rfl (by (try simp only [List.map_toArray,List.map_cons,List.map_nil]); first | done | rfl | (simp only [List.length_drop,List.length_take]; rfl)) ?_; (with_reducible refine (impl_apart.calls a0_0 _ _ l0_1 a1 a2 true _ ?side1 ?side2 A4.out).mono ?_); (case side1 => repeat (first | exact (Kd.C_below q3.out HB.out) | (with_reducible refine Kd.C_alloc ?_ _) | (with_reducible refine Kd.C_drewN ?_ _) | (with_reducible refine Kd.C_drew ?_))); (case side2 => exact q4.out); rintro e w10 ⟨rfl,hb⟩; refine ⟨_,rfl,?_⟩; have n0_:=I (blk_below (g:=p4) (o:=.cells #[.int .i64 a0_0,.slice A0_1 l0_1.length c0_1] 34 (0,0)) p1.out hb); have n1_:=I (below_step HB.out hb); clear p1; clear HB; have p1:=n0_; have HB:=n1_; clear n0_ n1_; (try clear hb); (try clear hb2); (try clear hk); (try clear hi); have q5 : w10.cell? ⟨p4,0,none⟩ = some (.int .i64 a0_0):=(blk_cell p1.out 0).trans rfl; have q6 : w10.cell? ⟨p4,1,none⟩ = some (.slice A0_1 l0_1.length c0_1):=(blk_cell p1.out 1).trans rfl; have q7:=blk_frozen p1.out 0; have q8:=blk_frozen p1.out 1) | ((with_reducible refine gate_dst (N:=20) rfl ?_); refine Kd.R_make (Kd.int .i64) _ 3 rfl (N:=20) rfl 23 _ _ rfl (l0_1.length : Int) (by first | rfl | (go_simp; done) | (go_simp; rfl)) (by first | rfl | (go_simp; done) | (go_simp; rfl)) Try.underlying23 (.int .i64 0) 8 info3 rfl (by decide) (by omega) 0 (ok:=fun _ => True) (okp:=fun _ => True) rfl (fun _ hk => hk) trivial (of_decide_eq_true (by first | (with_reducible assumption) | assumption)) (Nat.le_trans (Nat.mul_le_mul_right _ (of_decide_eq_true (by first | (with_reducible assumption) | assumption) : (l0_1.length : Int).toNat ≤ 35184372088832)) (by omega)) (Below.refl _ _) (Nat.le_refl _) ?_; intro v829 w12 ho13 hb hg_ hnew_; clear hg_ hnew_; (first | rw [← Ny828.out] at ho13 | (simp only [Int.reduceToNat] at ho13; rw [← Ny828.out] at ho13)); have n0_:=I (Kd.R_lower ho13 (below_size HB.out)); have n1_:=I (blk_below (g:=p4) (o:=.cells #[.int .i64 a0_0,.slice A0_1 l0_1.length c0_1] 34 (0,0)) p1.out hb); have n2_:=I (below_step HB.out hb); clear p1; clear HB; have HO830:=n0_; have p1:=n1_; have HB:=n2_; clear n0_ n1_ n2_; clear hb ho13))
 go_loopg [] k (fun kq w' => ∃ (x7_1 : List Int),Aside0 (impl_FlowOf.l0 kq a1 a2 x7_1 a0_0 l0_1 = some r) ∧ Aside0 (kq ≤ k) ∧ Aside0 (Kd.R (Kd.int .i64) 3 w' w.heap.size (fun _ => True) v829 x7_1) ∧ Aside0 (w'.heap[p4]? = some (.cells #[.int .i64 a0_0,(.slice A0_1 l0_1.length c0_1)] 34 (0,0))) ∧ Aside0 (Below w.heap.size w w'))
 case atStart => exact ⟨(y828),H',⟨Nat.le_refl _⟩,⟨by (with_reducible repeat (first | apply Kd.R_alloc | apply Kd.R_drewN | apply Kd.R_drew)); exact HO830.out⟩,⟨by (with_reducible repeat (first | refine blk_drewN ?_ _ | refine blk_drew ?_ | refine blk_alloc ?_ _)); exact p1.out⟩,⟨by repeat (first | (with_reducible first | exact HB.out | apply below_alloc | apply pw_below_drewN | apply below_drew1 | refine below_set ?_ p9.out) | exact HB.out)⟩⟩
 case round =>
  clear H'
  try clear p2
  try clear c3
  try clear c5
  try clear c6
  try clear c6b0
  try clear c6b1
  try clear c7
  try clear c7b0
  try clear c7b1
  try clear c8
  try clear q5
  try clear q6
  try clear q9
  try clear r0
  try clear q7
  try clear q8
  try clear r1
  try clear r2
  obtain ⟨x7_1,HA,HK1,HO_7,p1,HB⟩:=hrel;cases gk with
  | zero => exact absurd HA.out (by simp [impl_FlowOf.l0])
  | succ k1 =>
   have H:=HA.out;clear HA;simp only [impl_FlowOf.l0] at H;replace H:=Option.bind_eq_some_iff.mp H;obtain ⟨⟨t831,t834⟩,A140,H⟩:=H;replace H : (if t834 = true then (impl_FlowOf.l1 k1 a1 a2 x7_1 t831 (t831.length : Int) 0 a0_0 l0_1) else (some x7_1)) = some r:=H;have A14:=I A140;clear A140
   by_cases c15 : t834 = true
   case neg =>
    replace c15:=Bool.eq_false_iff.mpr c15;subst c15;have H1 : (some x7_1) = some r:=by rw [if_neg (show ¬ (false = true) by decide)] at H; exact H
    clear H;have H:=H1;clear H1;obtain rfl:=Option.some.inj H;have hcz45_0 : wr.cell? ⟨p4,0,none⟩ = some (.int .i64 a0_0):=(blk_cell p1.out 0).trans rfl;have hcz45_1 : wr.cell? ⟨p4,1,none⟩ = some (.slice A0_1 l0_1.length c0_1):=(blk_cell p1.out 1).trans rfl;have hfz45_0:=blk_frozen p1.out 0;have hfz45_1:=blk_frozen p1.out 1;obtain ⟨Ao46,co46,eo46⟩:=Kd.R_slice HO_7.out;subst eo46
    go_wp2_with (first | ((with_reducible refine gate_callee (f:=94) rfl ?_); refine goesL_ (some 26) rfl rfl Try.func94 (by kernel_rfl) rfl #[.agg #[.int .i64 a0_0,.slice A0_1 l0_1.length c0_1],.slice Ao46 x7_1.length co46,.int .i64 a1,.int .i64 a2] rfl (by (try simp only [List.map_toArray,List.map_cons,List.map_nil]); first | done | rfl | (simp only [List.length_drop,List.length_take]; rfl)) ?_; (with_reducible refine (impl_Net_augment.calls k1 a0_0 _ _ l0_1 _ _ x7_1 a1 a2 t831 false _ ?side1 ?side2 ?side3 ?side4 A14.out).mono ?_); (case side1 => repeat (first | exact (Kd.C_below q3.out HB.out) | (with_reducible refine Kd.C_alloc ?_ _) | (with_reducible refine Kd.C_drewN ?_ _) | (with_reducible refine Kd.C_drew ?_))); (case side2 => exact q4.out); (case side3 => repeat (first | exact (Kd.R_reads' HO_7.out).2.2 | (with_reducible refine Kd.C_alloc ?_ _) | (with_reducible refine Kd.C_drewN ?_ _) | (with_reducible refine Kd.C_drew ?_))); (case side4 => exact (Kd.R_reads' HO_7.out).2.1); rintro e w47 ⟨v832,rfl,ho0,hb⟩; refine ⟨_,rfl,?_⟩; have n0_:=I (Kd.R_below HO_7.out hb); have n1_:=I (Kd.R_lower ho0 (below_size HB.out)); have n2_:=I (blk_below (g:=p4) (o:=.cells #[.int .i64 a0_0,.slice A0_1 l0_1.length c0_1] 34 (0,0)) p1.out hb); have n3_:=I (below_step HB.out hb); clear HO_7; clear p1; clear HB; have HO_7:=n0_; have HO833:=n1_; have p1:=n2_; have HB:=n3_; clear n0_ n1_ n2_ n3_; (try clear hb); (try clear hb2); (try clear hk); (try clear hi); (try clear ho0)))
    go_ret;exact ⟨_,by first | rfl | (simp [errW_none,errW_some] <;> rfl) | (simp [*,errW_none,errW_some] <;> rfl),by (with_reducible repeat (first | apply Kd.R_alloc | apply Kd.R_drewN | apply Kd.R_drew)); exact HO_7.out,by repeat (first | (with_reducible first | exact HB.out | apply below_alloc | apply pw_below_drewN | apply below_drew1 | refine below_set ?_ p9.out) | exact HB.out)⟩
   subst c15;have H1 : (impl_FlowOf.l1 k1 a1 a2 x7_1 t831 (t831.length : Int) 0 a0_0 l0_1) = some r:=by rw [if_pos rfl] at H; exact H
   clear H;have H:=H1;clear H1;have H':=I H;clear H;have r4 : wr.cell? ⟨p4,0,none⟩ = some (.int .i64 a0_0):=(blk_cell p1.out 0).trans rfl;have r5 : wr.cell? ⟨p4,1,none⟩ = some (.slice A0_1 l0_1.length c0_1):=(blk_cell p1.out 1).trans rfl;have r6:=blk_frozen p1.out 0;have r7:=blk_frozen p1.out 1;obtain ⟨Ao17,co17,eo17⟩:=Kd.R_slice HO_7.out;subst eo17
   go_wp2_with (first | ((with_reducible refine gate_callee (f:=94) rfl ?_); refine goesL_ (some 26) rfl rfl Try.func94 (by kernel_rfl) rfl #[.agg #[.int .i64 a0_0,.slice A0_1 l0_1.length c0_1],.slice Ao17 x7_1.length co17,.int .i64 a1,.int .i64 a2] rfl (by (try simp only [List.map_toArray,List.map_cons,List.map_nil]); first | done | rfl | (simp only [List.length_drop,List.length_take]; rfl)) ?_; (with_reducible refine (impl_Net_augment.calls k1 a0_0 _ _ l0_1 _ _ x7_1 a1 a2 t831 true _ ?side1 ?side2 ?side3 ?side4 A14.out).mono ?_); (case side1 => repeat (first | exact (Kd.C_below q3.out HB.out) | (with_reducible refine Kd.C_alloc ?_ _) | (with_reducible refine Kd.C_drewN ?_ _) | (with_reducible refine Kd.C_drew ?_))); (case side2 => exact q4.out); (case side3 => repeat (first | exact (Kd.R_reads' HO_7.out).2.2 | (with_reducible refine Kd.C_alloc ?_ _) | (with_reducible refine Kd.C_drewN ?_ _) | (with_reducible refine Kd.C_drew ?_))); (case side4 => exact (Kd.R_reads' HO_7.out).2.1); rintro e w18 ⟨v832,rfl,ho0,hb⟩; refine ⟨_,rfl,?_⟩; have n0_:=I (Kd.R_below HO_7.out hb); have n1_:=I (Kd.R_lower ho0 (below_size HB.out)); have n2_:=I (blk_below (g:=p4) (o:=.cells #[.int .i64 a0_0,.slice A0_1 l0_1.length c0_1] 34 (0,0)) p1.out hb); have n3_:=I (below_step HB.out hb); clear HO_7; clear p1; clear HB; have HO_7:=n0_; have HO833:=n1_; have p1:=n2_; have HB:=n3_; clear n0_ n1_ n2_ n3_; (try clear hb); (try clear hb2); (try clear hk); (try clear hi); (try clear ho0); obtain ⟨Ao19,co19,eo19⟩:=Kd.R_slice HO833.out; subst eo19))
   go_loopg [34] k1 (fun kq v34 w' => ∃ (x7_2 : List Int) (p0 : Int),v34 = .int .i64 p0 ∧ Aside0 (impl_FlowOf.l1 kq a1 a2 x7_2 t831 (t831.length : Int) p0 a0_0 l0_1 = some r) ∧ Aside0 (kq ≤ k1) ∧ Aside0 (Kd.R (Kd.int .i64) 3 w' w.heap.size (fun _ => True) (.slice Ao17 x7_1.length co17) x7_2) ∧ Aside0 (Kd.R k103 103 w' w.heap.size (fun _ => True) (.slice Ao19 t831.length co19) t831) ∧ Aside0 (w'.heap[p4]? = some (.cells #[.int .i64 a0_0,(.slice A0_1 l0_1.length c0_1)] 34 (0,0))) ∧ Aside0 (Below w.heap.size w w'))
   case atStart => exact ⟨(x7_1),(0),(by first | rfl | (simp; done) | (simp [*]; done)),H',⟨Nat.le_refl _⟩,⟨by (with_reducible repeat (first | apply Kd.R_alloc | apply Kd.R_drewN | apply Kd.R_drew)); exact HO_7.out⟩,⟨by (with_reducible repeat (first | apply Kd.R_alloc | apply Kd.R_drewN | apply Kd.R_drew)); exact HO833.out⟩,⟨by (with_reducible repeat (first | refine blk_drewN ?_ _ | refine blk_drew ?_ | refine blk_alloc ?_ _)); exact p1.out⟩,⟨by repeat (first | (with_reducible first | exact HB.out | apply below_alloc | apply pw_below_drewN | apply below_drew1 | refine below_set ?_ p9.out) | exact HB.out)⟩⟩
   case round =>
    clear H'
    try clear c1
    try clear p2
    try clear c3
    try clear c5
    try clear c6
    try clear c6b0
    try clear c6b1
    try clear c7
    try clear c7b0
    try clear c7b1
    try clear c8
    try clear c9
    try clear c15
    try clear q5
    try clear q6
    try clear r4
    try clear r5
    try clear q9
    try clear r0
    try clear q7
    try clear q8
    try clear r6
    try clear r7
    try clear r1
    try clear r2
    try clear p2
    obtain ⟨x7_2,p0,rfl,HA,HK2,HO_7,HO_8,p1,HB⟩:=hrel;have hl7_2:=(Kd.R_reads' HO_7.out).1;rw [hl7_2] at HO_7
    (try simp only [hl7_2])
    (try simp only [hl7_2] at p1)
    (try simp only [hl7_2] at HO_8)
    cases gk with
    | zero => exact absurd HA.out (by simp [impl_FlowOf.l1])
    | succ k2 =>
     have H:=HA.out;clear HA;simp only [impl_FlowOf.l1] at H
     by_cases c20 : p0 < (t831.length : Int)
     case neg =>
      rw [if_neg c20] at H;have c20b0 : decide (p0 < (t831.length : Int)) = false:=decide_eq_false c20;clear c20;have H':=I H;clear H
      go_wp2
      (try simp only [← hl7_2])
      go_roundg k2
      case measure => have:=HK1.out; have:=HK2.out; omega
      case rel => exact ⟨(x7_2),H',⟨by have:=HK1.out; have:=HK2.out; omega⟩,⟨by (try simp only [hl7_2]); (with_reducible repeat (first | apply Kd.R_alloc | apply Kd.R_drewN | apply Kd.R_drew)); exact HO_7.out⟩,⟨by (try simp only [hl7_2]); (with_reducible repeat (first | refine blk_drewN ?_ _ | refine blk_drew ?_ | refine blk_alloc ?_ _)); exact p1.out⟩,⟨by repeat (first | (with_reducible first | exact HB.out | apply below_alloc | apply pw_below_drewN | apply below_drew1 | refine below_set ?_ p9.out) | exact HB.out)⟩⟩
     rw [if_pos c20] at H;have c20b0 : decide (p0 < (t831.length : Int)) = true:=decide_eq_true c20;clear c20
     by_cases c21 : 0 ≤ p0
     case neg =>
      rw [if_neg c21] at H;exact absurd H (by simp)
     rw [if_pos c21] at H;have c21b0 : decide (0 ≤ p0) = true:=decide_eq_true c21;clear c21
     by_cases c22 : p0 < (t831.length : Int)
     case neg =>
      rw [if_neg c22] at H;exact absurd H (by simp)
     rw [if_pos c22] at H;have c22b0 : decide (p0 < (t831.length : Int)) = true:=decide_eq_true c22;clear c22;obtain ⟨bq23,hbq23⟩ : ∃ b_ : Bool,b_ = ((rd_T103 t831 p0).f1):=⟨_,rfl⟩
     replace H : (if bq23 = true then (if 0 ≤ ((rd_T103 t831 p0).f0) then (if ((rd_T103 t831 p0).f0) < (x7_2.length : Int) then (impl_FlowOf.l1 k2 a1 a2 (x7_2.set (((rd_T103 t831 p0).f0) : Int).toNat (wrap64 ((rd x7_2 ((rd_T103 t831 p0).f0)) + 1))) t831 (t831.length : Int) (wrap64 (p0 + 1)) a0_0 l0_1) else (none)) else (none)) else (if 0 ≤ ((rd_T103 t831 p0).f0) then (if ((rd_T103 t831 p0).f0) < (x7_2.length : Int) then (impl_FlowOf.l1 k2 a1 a2 (x7_2.set (((rd_T103 t831 p0).f0) : Int).toNat (wrap64 ((rd x7_2 ((rd_T103 t831 p0).f0)) - 1))) t831 (t831.length : Int) (wrap64 (p0 + 1)) a0_0 l0_1) else (none)) else (none))) = some r:=by rw [← hbq23] at H; exact H
     have Nbq23:=I hbq23;clear hbq23
     by_cases c24 : bq23 = true
     case pos =>
      subst c24;have H1 : (if 0 ≤ ((rd_T103 t831 p0).f0) then (if ((rd_T103 t831 p0).f0) < (x7_2.length : Int) then (impl_FlowOf.l1 k2 a1 a2 (x7_2.set (((rd_T103 t831 p0).f0) : Int).toNat (wrap64 ((rd x7_2 ((rd_T103 t831 p0).f0)) + 1))) t831 (t831.length : Int) (wrap64 (p0 + 1)) a0_0 l0_1) else (none)) else (none)) = some r:=by rw [if_pos rfl] at H; exact H
      clear H;have H:=H1;clear H1
      by_cases c25 : 0 ≤ ((rd_T103 t831 p0).f0)
      case neg =>
       rw [if_neg c25] at H;exact absurd H (by simp)
      rw [if_pos c25] at H;have c25b0 : decide (0 ≤ ((rd_T103 t831 p0).f0)) = true:=decide_eq_true c25;clear c25
      by_cases c26 : ((rd_T103 t831 p0).f0) < (x7_2.length : Int)
      case neg =>
       rw [if_neg c26] at H;exact absurd H (by simp)
      rw [if_pos c26] at H;have c26b0 : decide (((rd_T103 t831 p0).f0) < (x7_2.length : Int)) = true:=decide_eq_true c26;clear c26;obtain ⟨y838,hy838⟩ : ∃ y_ : List Int,y_ = (x7_2.set (((rd_T103 t831 p0).f0) : Int).toNat (wrap64 ((rd x7_2 ((rd_T103 t831 p0).f0)) + 1))):=⟨_,rfl⟩
      replace H : (impl_FlowOf.l1 k2 a1 a2 y838 t831 (t831.length : Int) (wrap64 (p0 + 1)) a0_0 l0_1) = some r:=by first | (rw [hy838]; with_reducible exact H) | (have H2_:=(Option.bind_some _ _).symm.trans H; rw [hy838]; with_reducible exact H2_) | (have H2_:=(Option.bind_some _ _).symm.trans H; with_reducible exact H2_) | with_reducible exact H | (rw [hy838]; exact H) | exact H
      have Ny838:=I hy838;clear hy838;have H':=I H;clear H;have p835 : 0 ≤ (p0 : Int):=of_decide_eq_true (by first | (with_reducible assumption) | assumption);have q835 : p0 < (t831.length : Int):=of_decide_eq_true (by first | (with_reducible assumption) | assumption);obtain ⟨r3,e835,r8,q1⟩:=at_T103 (Kd.R_reads' HO_8.out).2.2 p0 p835 q835
      (try rw [← Nbq23.out] at q1)
      cases e835;replace p835:=eq_true p835;replace q835:=eq_true q835
      go_wp2_with (first | ((with_reducible refine gate_dst (N:=11) rfl ?_); refine box_event ?hg (N:=11) ?hd (cs:=#[.int .i64 0,.bool false]) (t:=103) ?hr ?_; (case hd => rfl); (case hg => rfl); (case hr => first | (go_simp; done) | (go_simp; rfl)); intro p3 hg w28 hbox hb; have n0_:=I (Kd.R_below HO_7.out hb); have n1_:=I (Kd.R_below (Kd.R_elderB HO_8.out p3 (Nat.le_of_eq hg.symm)) hb); have n2_:=I (blk_below (g:=p4) (o:=.cells #[.int .i64 a0_0,.slice A0_1 l0_1.length c0_1] 34 (0,0)) p1.out hb); have n3_:=I (below_step HB.out hb); have n4_:=I (hbox); have n5_:=I ((by rw [hg]; exact (below_size HB.out) : w.heap.size ≤ p3)); have n6_:=I ((by rw [hg]; exact (below_size HB.out) : w.heap.size ≤ p3)); have n7_:=I ((by rw [hg]; exact Nat.ne_of_lt (blk_lt (g:=p4) (o:=.cells #[.int .i64 a0_0,.slice A0_1 l0_1.length c0_1] 34 (0,0)) p1.out) : p4 ≠ p3)); have n8_:=I ((by rw [hg]; exact Nat.ne_of_gt (blk_lt (g:=p4) (o:=.cells #[.int .i64 a0_0,.slice A0_1 l0_1.length c0_1] 34 (0,0)) p1.out) : p3 ≠ p4)); clear HO_7; clear HO_8; clear p1; clear HB; have HO_7:=n0_; have HO_8:=n1_; have p1:=n2_; have HB:=n3_; have p5:=n4_; have GW836:=n5_; have q2:=n6_; have p6:=n7_; have q0:=n8_; clear n0_ n1_ n2_ n3_ n4_ n5_ n6_ n7_ n8_; clear hb hbox hg; have hnb29:=q0.out; have hnc29:=p6.out; have hcz30_0 : w28.cell? ⟨p3,0,none⟩ = some (.int .i64 0):=(blk_cell p5.out 0).trans rfl; have hcz30_1 : w28.cell? ⟨p3,1,none⟩ = some (.bool false):=(blk_cell p5.out 1).trans rfl; have hfz30_0:=blk_frozen p5.out 0; have hfz30_1:=blk_frozen p5.out 1) | ((with_reducible refine gate_store (t:=103) (p:=11) rfl ?_); refine store_event (t:=103) (p:=11) (v:=?vo_w31) (w1:=((w28.setCell ⟨p3,0,none⟩ (.int .i64 ((rd_T103 t831 p0).f0))).setCell ⟨p3,1,none⟩ (.bool true))) ?hg ?ho ?hn ?hr ?_; (case ho => rfl); (case hg => rfl); (case hn => rfl); (case hr => first | (go_simp; done) | (go_simp; rfl)); intro w31 hw; have n0_ : Aside0 (Kd.R (Kd.int .i64) 3 w31 w.heap.size (fun _ => True) (.slice Ao17 x7_2.length co17) x7_2):=⟨(by rw [hw]; exact (Kd.R_mono (Kd.R_far (p:=⟨p3,1,none⟩) (Kd.R_far (p:=⟨p3,0,none⟩) (Kd.R_types HO_7.out p5.out (by decide)) (fun _ hk => hk.2) (.int .i64 ((rd_T103 t831 p0).f0))) (fun _ hk => hk.2) (.bool true)) (fun _ hk => trivial)))⟩; have n1_ : Aside0 (Kd.R k103 103 w31 w.heap.size (fun k_ => k_ ≠ p3) (.slice (some r3) t831.length co19) t831):=⟨(by rw [hw]; exact (Kd.R_mono (Kd.R_far (p:=⟨p3,1,none⟩) (Kd.R_far (p:=⟨p3,0,none⟩) (Kd.R_mono HO_8.out (fun k_ hk => (⟨hk,hk.2⟩ : _ ∧ k_ ≠ p3))) (fun _ hk => hk.2) (.int .i64 ((rd_T103 t831 p0).f0))) (fun _ hk => hk.2) (.bool true)) (fun _ hk => hk.1.2)))⟩; have n2_ : Aside0 (w31.heap[p4]? = some (.cells #[.int .i64 a0_0,.slice A0_1 l0_1.length c0_1] 34 (0,0))):=⟨(by rw [hw]; exact (by (with_reducible repeat (first | refine blk_drewN ?_ _ | refine blk_drew ?_ | refine blk_alloc ?_ _)); refine blk_far ?_ p6.out _; (with_reducible repeat (first | refine blk_drewN ?_ _ | refine blk_drew ?_ | refine blk_alloc ?_ _)); refine blk_far ?_ p6.out _; (with_reducible repeat (first | refine blk_drewN ?_ _ | refine blk_drew ?_ | refine blk_alloc ?_ _)); exact p1.out))⟩; have n3_ : Aside0 (w31.heap[p3]? = some (.cells #[.int .i64 ((rd_T103 t831 p0).f0),.bool true] 103 (0,0))):=⟨(by rw [hw]; exact (by (with_reducible repeat (first | refine blk_drewN ?_ _ | refine blk_drew ?_ | refine blk_alloc ?_ _)); refine blk_put (cs:=#[.int .i64 ((rd_T103 t831 p0).f0),.bool false]) ?_ 1 _ rfl; (with_reducible repeat (first | refine blk_drewN ?_ _ | refine blk_drew ?_ | refine blk_alloc ?_ _)); refine blk_put (cs:=#[.int .i64 0,.bool false]) ?_ 0 _ rfl; (with_reducible repeat (first | refine blk_drewN ?_ _ | refine blk_drew ?_ | refine blk_alloc ?_ _)); exact p5.out))⟩; have n4_ : Aside0 (Below w.heap.size w w31):=⟨(by rw [hw]; exact (by repeat (first | (with_reducible first | exact HB.out | apply below_alloc | apply pw_below_drewN | apply below_drew1 | refine below_set ?_ p9.out | refine below_set ?_ q2.out) | exact HB.out)))⟩; clear hw; clear HO_7; clear HO_8; clear p1; clear p5; clear HB; have HO_7:=n0_; have HO_8:=n1_; have p1:=n2_; have p5:=n3_; have HB:=n4_; clear n0_ n1_ n2_ n3_ n4_; have hcz32_0 : w31.cell? ⟨p3,0,none⟩ = some (.int .i64 ((rd_T103 t831 p0).f0)):=(blk_cell p5.out 0).trans rfl; have hcz32_1 : w31.cell? ⟨p3,1,none⟩ = some (.bool true):=(blk_cell p5.out 1).trans rfl; have hfz32_0:=blk_frozen p5.out 0; have hfz32_1:=blk_frozen p5.out 1; have p837 : 0 ≤ (((rd_T103 t831 p0).f0) : Int):=of_decide_eq_true (by first | (with_reducible assumption) | assumption); have q837 : ((rd_T103 t831 p0).f0) < (x7_2.length : Int):=of_decide_eq_true (by first | (with_reducible assumption) | assumption); obtain ⟨ad837,e837,r9⟩:=Kd.at_int (Kd.R_reads' HO_7.out).2.2 ((rd_T103 t831 p0).f0) p837 q837; cases e837; replace p837:=eq_true p837; replace q837:=eq_true q837; have p27 : 0 ≤ (((rd_T103 t831 p0).f0) : Int):=of_decide_eq_true (by first | (with_reducible assumption) | assumption); have q27 : (((rd_T103 t831 p0).f0) : Int) < ((x7_2.length : Int) : Int):=of_decide_eq_true (by first | (with_reducible assumption) | assumption); obtain ⟨go27,co27,eo27,gb27,gl27,cl27,HG27⟩:=Kd.R_form HO_7.out (by omega); (first | cases eo27 | (injection eo27 with ea_ en_ ec_; (first | subst ea_ | (injection ea_ with ea_; subst ea_)); subst ec_; clear en_)); have GB27:=I gb27; have GG27:=I HG27; clear gb27 gl27 HG27; (first | simp only [add_plain] at r9 | skip); obtain ⟨hx27_0,hf27_0⟩:=Kd.R_celln 0 HO_7.out (((rd_T103 t831 p0).f0) : Int) p27 q27; replace p27:=eq_true p27; replace q27:=eq_true q27; obtain ⟨hy33_,hz33_⟩:=Kd.R_celln 0 HO_7.out (((rd_T103 t831 p0).f0) : Int) (of_decide_eq_true (by first | (with_reducible assumption) | assumption)) (of_decide_eq_true (by first | (with_reducible assumption) | assumption)); have HP33:=Kd.R_putg HO_7.out (((rd_T103 t831 p0).f0) : Int) (wrap64 ((rd x7_2 ((rd_T103 t831 p0).f0)) + 1))) | ((with_reducible refine gate_store (t:=3) (p:=46) rfl ?_); refine store_event (t:=3) (p:=46) (v:=?vo_w34) (w1:=(w31.setCell ⟨go27,(((rd_T103 t831 p0).f0) : Int).toNat,none⟩ (.int .i64 (wrap64 ((rd x7_2 ((rd_T103 t831 p0).f0)) + 1))))) ?hg ?ho ?hn ?hr ?_; (case ho => rfl); (case hg => rfl); (case hn => rfl); (case hr => first | (go_simp; done) | (go_simp; rfl)); intro w34 hw; have hg : w31.grownBy w34 (some go27):=(by rw [hw]; exact HP33.2); have hp_ : Kd.R (Kd.int .i64) 3 w34 w.heap.size (fun _ => True) (.slice (some ⟨go27,0,none⟩) x7_2.length co17) y838:=(by rw [hw,Ny838.out]; exact HP33.1); clear HP33; have n0_:=I (hp_); have n1_:=I (Kd.R_over' (v:=(.slice (some ⟨go27,0,none⟩) x7_2.length co17)) HO_8.out (Kd.R_typed HO_7.out) (by decide) hg); have n2_:=I (blk_grown (g:=p4) (o:=.cells #[.int .i64 a0_0,.slice A0_1 l0_1.length c0_1] 34 (0,0)) p1.out hg (Kd.R_ne HO_7.out p1.out (by decide))); have n3_:=I (blk_grown (g:=p3) (o:=.cells #[.int .i64 ((rd_T103 t831 p0).f0),.bool true] 103 (0,0)) p5.out hg (Kd.R_ne HO_7.out p5.out (by decide))); have n4_:=I ((by rw [hw]; exact below_set (HB.out) GB27.out : Below w.heap.size w w34)); clear HO_7; clear HO_8; clear p1; clear p5; clear HB; have HO_7:=n0_; have HO_8:=n1_; have p1:=n2_; have p5:=n3_; have HB:=n4_; clear n0_ n1_ n2_ n3_ n4_; clear hg hw hp_))
      (try simp only [← hl7_2])
      go_roundg k2
      case measure => have:=HK1.out; have:=HK2.out; omega
      case rel => exact ⟨(y838),(wrap64 (p0 + 1)),(by first | rfl | (simp; done) | (simp [*]; done)),H',⟨by have:=HK1.out; have:=HK2.out; omega⟩,⟨by (try simp only [hl7_2]); (with_reducible repeat (first | apply Kd.R_alloc | apply Kd.R_drewN | apply Kd.R_drew)); exact HO_7.out⟩,⟨by (try simp only [hl7_2]); (with_reducible repeat (first | apply Kd.R_alloc | apply Kd.R_drewN | apply Kd.R_drew)); exact Kd.R_mono HO_8.out (fun _ hk => trivial)⟩,⟨by (try simp only [hl7_2]); (with_reducible repeat (first | refine blk_drewN ?_ _ | refine blk_drew ?_ | refine blk_alloc ?_ _)); exact p1.out⟩,⟨by repeat (first | (with_reducible first | exact HB.out | apply below_alloc | apply pw_below_drewN | apply below_drew1 | refine below_set ?_ p9.out | refine below_set ?_ q2.out) | exact HB.out)⟩⟩
     replace c24:=Bool.eq_false_iff.mpr c24;subst c24;have H1 : (if 0 ≤ ((rd_T103 t831 p0).f0) then (if ((rd_T103 t831 p0).f0) < (x7_2.length : Int) then (impl_FlowOf.l1 k2 a1 a2 (x7_2.set (((rd_T103 t831 p0).f0) : Int).toNat (wrap64 ((rd x7_2 ((rd_T103 t831 p0).f0)) - 1))) t831 (t831.length : Int) (wrap64 (p0 + 1)) a0_0 l0_1) else (none)) else (none)) = some r:=by rw [if_neg (show ¬ (false = true) by decide)] at H; exact H
     clear H;have H:=H1;clear H1
     by_cases c35 : 0 ≤ ((rd_T103 t831 p0).f0)
     case neg =>
      rw [if_neg c35] at H;exact absurd H (by simp)
     rw [if_pos c35] at H;have c35b0 : decide (0 ≤ ((rd_T103 t831 p0).f0)) = true:=decide_eq_true c35;clear c35
     by_cases c36 : ((rd_T103 t831 p0).f0) < (x7_2.length : Int)
     case neg =>
      rw [if_neg c36] at H;exact absurd H (by simp)
     rw [if_pos c36] at H;have c36b0 : decide (((rd_T103 t831 p0).f0) < (x7_2.length : Int)) = true:=decide_eq_true c36;clear c36;obtain ⟨y840,hy840⟩ : ∃ y_ : List Int,y_ = (x7_2.set (((rd_T103 t831 p0).f0) : Int).toNat (wrap64 ((rd x7_2 ((rd_T103 t831 p0).f0)) - 1))):=⟨_,rfl⟩
     replace H : (impl_FlowOf.l1 k2 a1 a2 y840 t831 (t831.length : Int) (wrap64 (p0 + 1)) a0_0 l0_1) = some r:=by first | (rw [hy840]; with_reducible exact H) | (have H2_:=(Option.bind_some _ _).symm.trans H; rw [hy840]; with_reducible exact H2_) | (have H2_:=(Option.bind_some _ _).symm.trans H; with_reducible exact H2_) | with_reducible exact H | (rw [hy840]; exact H) | exact H
     have Ny840:=I hy840;clear hy840;have H':=I H;clear H;have p835 : 0 ≤ (p0 : Int):=of_decide_eq_true (by first | (with_reducible assumption) | assumption);have q835 : p0 < (t831.length : Int):=of_decide_eq_true (by first | (with_reducible assumption) | assumption);obtain ⟨r3,e835,r8,q1⟩:=at_T103 (Kd.R_reads' HO_8.out).2.2 p0 p835 q835
     (try rw [← Nbq23.out] at q1)
     cases e835;replace p835:=eq_true p835;replace q835:=eq_true q835
     go_wp2_with (first | ((with_reducible refine gate_dst (N:=11) rfl ?_); refine box_event ?hg (N:=11) ?hd (cs:=#[.int .i64 0,.bool false]) (t:=103) ?hr ?_; (case hd => rfl); (case hg => rfl); (case hr => first | (go_simp; done) | (go_simp; rfl)); intro p3 hg w38 hbox hb; have n0_:=I (Kd.R_below HO_7.out hb); have n1_:=I (Kd.R_below (Kd.R_elderB HO_8.out p3 (Nat.le_of_eq hg.symm)) hb); have n2_:=I (blk_below (g:=p4) (o:=.cells #[.int .i64 a0_0,.slice A0_1 l0_1.length c0_1] 34 (0,0)) p1.out hb); have n3_:=I (below_step HB.out hb); have n4_:=I (hbox); have n5_:=I ((by rw [hg]; exact (below_size HB.out) : w.heap.size ≤ p3)); have n6_:=I ((by rw [hg]; exact (below_size HB.out) : w.heap.size ≤ p3)); have n7_:=I ((by rw [hg]; exact Nat.ne_of_lt (blk_lt (g:=p4) (o:=.cells #[.int .i64 a0_0,.slice A0_1 l0_1.length c0_1] 34 (0,0)) p1.out) : p4 ≠ p3)); have n8_:=I ((by rw [hg]; exact Nat.ne_of_gt (blk_lt (g:=p4) (o:=.cells #[.int .i64 a0_0,.slice A0_1 l0_1.length c0_1] 34 (0,0)) p1.out) : p3 ≠ p4)); clear HO_7; clear HO_8; clear p1; clear HB; have HO_7:=n0_; have HO_8:=n1_; have p1:=n2_; have HB:=n3_; have p5:=n4_; have GW836:=n5_; have q2:=n6_; have p6:=n7_; have q0:=n8_; clear n0_ n1_ n2_ n3_ n4_ n5_ n6_ n7_ n8_; clear hb hbox hg; have hnb39:=q0.out; have hnc39:=p6.out; have hcz40_0 : w38.cell? ⟨p3,0,none⟩ = some (.int .i64 0):=(blk_cell p5.out 0).trans rfl; have hcz40_1 : w38.cell? ⟨p3,1,none⟩ = some (.bool false):=(blk_cell p5.out 1).trans rfl; have hfz40_0:=blk_frozen p5.out 0; have hfz40_1:=blk_frozen p5.out 1) | ((with_reducible refine gate_store (t:=103) (p:=11) rfl ?_); refine store_event (t:=103) (p:=11) (v:=?vo_w41) (w1:=((w38.setCell ⟨p3,0,none⟩ (.int .i64 ((rd_T103 t831 p0).f0))).setCell ⟨p3,1,none⟩ (.bool false))) ?hg ?ho ?hn ?hr ?_; (case ho => rfl); (case hg => rfl); (case hn => rfl); (case hr => first | (go_simp; done) | (go_simp; rfl)); intro w41 hw; have n0_ : Aside0 (Kd.R (Kd.int .i64) 3 w41 w.heap.size (fun _ => True) (.slice Ao17 x7_2.length co17) x7_2):=⟨(by rw [hw]; exact (Kd.R_mono (Kd.R_far (p:=⟨p3,1,none⟩) (Kd.R_far (p:=⟨p3,0,none⟩) (Kd.R_types HO_7.out p5.out (by decide)) (fun _ hk => hk.2) (.int .i64 ((rd_T103 t831 p0).f0))) (fun _ hk => hk.2) (.bool false)) (fun _ hk => trivial)))⟩; have n1_ : Aside0 (Kd.R k103 103 w41 w.heap.size (fun k_ => k_ ≠ p3) (.slice (some r3) t831.length co19) t831):=⟨(by rw [hw]; exact (Kd.R_mono (Kd.R_far (p:=⟨p3,1,none⟩) (Kd.R_far (p:=⟨p3,0,none⟩) (Kd.R_mono HO_8.out (fun k_ hk => (⟨hk,hk.2⟩ : _ ∧ k_ ≠ p3))) (fun _ hk => hk.2) (.int .i64 ((rd_T103 t831 p0).f0))) (fun _ hk => hk.2) (.bool false)) (fun _ hk => hk.1.2)))⟩; have n2_ : Aside0 (w41.heap[p4]? = some (.cells #[.int .i64 a0_0,.slice A0_1 l0_1.length c0_1] 34 (0,0))):=⟨(by rw [hw]; exact (by (with_reducible repeat (first | refine blk_drewN ?_ _ | refine blk_drew ?_ | refine blk_alloc ?_ _)); refine blk_far ?_ p6.out _; (with_reducible repeat (first | refine blk_drewN ?_ _ | refine blk_drew ?_ | refine blk_alloc ?_ _)); refine blk_far ?_ p6.out _; (with_reducible repeat (first | refine blk_drewN ?_ _ | refine blk_drew ?_ | refine blk_alloc ?_ _)); exact p1.out))⟩; have n3_ : Aside0 (w41.heap[p3]? = some (.cells #[.int .i64 ((rd_T103 t831 p0).f0),.bool false] 103 (0,0))):=⟨(by rw [hw]; exact (by (with_reducible repeat (first | refine blk_drewN ?_ _ | refine blk_drew ?_ | refine blk_alloc ?_ _)); refine blk_put (cs:=#[.int .i64 ((rd_T103 t831 p0).f0),.bool false]) ?_ 1 _ rfl; (with_reducible repeat (first | refine blk_drewN ?_ _ | refine blk_drew ?_ | refine blk_alloc ?_ _)); refine blk_put (cs:=#[.int .i64 0,.bool false]) ?_ 0 _ rfl; (with_reducible repeat (first | refine blk_drewN ?_ _ | refine blk_drew ?_ | refine blk_alloc ?_ _)); exact p5.out))⟩; have n4_ : Aside0 (Below w.heap.size w w41):=⟨(by rw [hw]; exact (by repeat (first | (with_reducible first | exact HB.out | apply below_alloc | apply pw_below_drewN | apply below_drew1 | refine below_set ?_ p9.out | refine below_set ?_ q2.out) | exact HB.out)))⟩; clear hw; clear HO_7; clear HO_8; clear p1; clear p5; clear HB; have HO_7:=n0_; have HO_8:=n1_; have p1:=n2_; have p5:=n3_; have HB:=n4_; clear n0_ n1_ n2_ n3_ n4_; have hcz42_0 : w41.cell? ⟨p3,0,none⟩ = some (.int .i64 ((rd_T103 t831 p0).f0)):=(blk_cell p5.out 0).trans rfl; have hcz42_1 : w41.cell? ⟨p3,1,none⟩ = some (.bool false):=(blk_cell p5.out 1).trans rfl; have hfz42_0:=blk_frozen p5.out 0; have hfz42_1:=blk_frozen p5.out 1; have p839 : 0 ≤ (((rd_T103 t831 p0).f0) : Int):=of_decide_eq_true (by first | (with_reducible assumption) | assumption); have q839 : ((rd_T103 t831 p0).f0) < (x7_2.length : Int):=of_decide_eq_true (by first | (with_reducible assumption) | assumption); obtain ⟨ad839,e839,s0⟩:=Kd.at_int (Kd.R_reads' HO_7.out).2.2 ((rd_T103 t831 p0).f0) p839 q839; cases e839; replace p839:=eq_true p839; replace q839:=eq_true q839; have p37 : 0 ≤ (((rd_T103 t831 p0).f0) : Int):=of_decide_eq_true (by first | (with_reducible assumption) | assumption); have q37 : (((rd_T103 t831 p0).f0) : Int) < ((x7_2.length : Int) : Int):=of_decide_eq_true (by first | (with_reducible assumption) | assumption); obtain ⟨go37,co37,eo37,gb37,gl37,cl37,HG37⟩:=Kd.R_form HO_7.out (by omega); (first | cases eo37 | (injection eo37 with ea_ en_ ec_; (first | subst ea_ | (injection ea_ with ea_; subst ea_)); subst ec_; clear en_)); have GB37:=I gb37; have GG37:=I HG37; clear gb37 gl37 HG37; (first | simp only [add_plain] at s0 | skip); obtain ⟨hx37_0,hf37_0⟩:=Kd.R_celln 0 HO_7.out (((rd_T103 t831 p0).f0) : Int) p37 q37; replace p37:=eq_true p37; replace q37:=eq_true q37; obtain ⟨hy43_,hz43_⟩:=Kd.R_celln 0 HO_7.out (((rd_T103 t831 p0).f0) : Int) (of_decide_eq_true (by first | (with_reducible assumption) | assumption)) (of_decide_eq_true (by first | (with_reducible assumption) | assumption)); have HP43:=Kd.R_putg HO_7.out (((rd_T103 t831 p0).f0) : Int) (wrap64 ((rd x7_2 ((rd_T103 t831 p0).f0)) - 1))) | ((with_reducible refine gate_store (t:=3) (p:=53) rfl ?_); refine store_event (t:=3) (p:=53) (v:=?vo_w44) (w1:=(w41.setCell ⟨go37,(((rd_T103 t831 p0).f0) : Int).toNat,none⟩ (.int .i64 (wrap64 ((rd x7_2 ((rd_T103 t831 p0).f0)) - 1))))) ?hg ?ho ?hn ?hr ?_; (case ho => rfl); (case hg => rfl); (case hn => rfl); (case hr => first | (go_simp; done) | (go_simp; rfl)); intro w44 hw; have hg : w41.grownBy w44 (some go37):=(by rw [hw]; exact HP43.2); have hp_ : Kd.R (Kd.int .i64) 3 w44 w.heap.size (fun _ => True) (.slice (some ⟨go37,0,none⟩) x7_2.length co17) y840:=(by rw [hw,Ny840.out]; exact HP43.1); clear HP43; have n0_:=I (hp_); have n1_:=I (Kd.R_over' (v:=(.slice (some ⟨go37,0,none⟩) x7_2.length co17)) HO_8.out (Kd.R_typed HO_7.out) (by decide) hg); have n2_:=I (blk_grown (g:=p4) (o:=.cells #[.int .i64 a0_0,.slice A0_1 l0_1.length c0_1] 34 (0,0)) p1.out hg (Kd.R_ne HO_7.out p1.out (by decide))); have n3_:=I (blk_grown (g:=p3) (o:=.cells #[.int .i64 ((rd_T103 t831 p0).f0),.bool false] 103 (0,0)) p5.out hg (Kd.R_ne HO_7.out p5.out (by decide))); have n4_:=I ((by rw [hw]; exact below_set (HB.out) GB37.out : Below w.heap.size w w44)); clear HO_7; clear HO_8; clear p1; clear p5; clear HB; have HO_7:=n0_; have HO_8:=n1_; have p1:=n2_; have p5:=n3_; have HB:=n4_; clear n0_ n1_ n2_ n3_ n4_; clear hg hw hp_))
     (try simp only [← hl7_2])
     go_roundg k2
     case measure => have:=HK1.out; have:=HK2.out; omega
     case rel => exact ⟨(y840),(wrap64 (p0 + 1)),(by first | rfl | (simp; done) | (simp [*]; done)),H',⟨by have:=HK1.out; have:=HK2.out; omega⟩,⟨by (try simp only [hl7_2]); (with_reducible repeat (first | apply Kd.R_alloc | apply Kd.R_drewN | apply Kd.R_drew)); exact HO_7.out⟩,⟨by (try simp only [hl7_2]); (with_reducible repeat (first | apply Kd.R_alloc | apply Kd.R_drewN | apply Kd.R_drew)); exact Kd.R_mono HO_8.out (fun _ hk => trivial)⟩,⟨by (try simp only [hl7_2]); (with_reducible repeat (first | refine blk_drewN ?_ _ | refine blk_drew ?_ | refine blk_alloc ?_ _)); exact p1.out⟩,⟨by repeat (first | (with_reducible first | exact HB.out | apply below_alloc | apply pw_below_drewN | apply below_drew1 | refine below_set ?_ p9.out | refine below_set ?_ q2.out) | exact HB.out)⟩⟩
def laws_markArcS.l0 : Nat → List (S58) → Int → Int → Option (Int × (List (S58)))
 | 0,_,_,_ => none
 | k + 1,x0,x1,x5 => if x5 < (x0.length : Int) then (if 0 ≤ x5 then ((some (x0.set (x5 : Int).toNat (⟨x1,(rd_T58 x0 x5).f1,(rd_T58 x0 x5).f2,(rd_T58 x0 x5).f3,(rd_T58 x0 x5).f4⟩ : S58) : List (S58))).bind fun y867 => ((some (y867.set (x5 : Int).toNat (⟨(rd_T58 y867 x5).f0,wrap64 (x1 + 1),(rd_T58 y867 x5).f2,(rd_T58 y867 x5).f3,(rd_T58 y867 x5).f4⟩ : S58) : List (S58))).bind fun y868 => ((some (y868.set (x5 : Int).toNat (⟨(rd_T58 y868 x5).f0,(rd_T58 y868 x5).f1,wrap64 ((wrap64 (x1 + 1)) + 1),(rd_T58 y868 x5).f3,(rd_T58 y868 x5).f4⟩ : S58) : List (S58))).bind fun y869 => ((some (y869.set (x5 : Int).toNat (⟨(rd_T58 y869 x5).f0,(rd_T58 y869 x5).f1,(rd_T58 y869 x5).f2,wrap64 ((wrap64 ((wrap64 (x1 + 1)) + 1)) + 1),(rd_T58 y869 x5).f4⟩ : S58) : List (S58))).bind fun y870 => (laws_markArcS.l0 k (y870.set (x5 : Int).toNat (⟨(rd_T58 y870 x5).f0,(rd_T58 y870 x5).f1,(rd_T58 y870 x5).f2,(rd_T58 y870 x5).f3,wrap64 ((wrap64 ((wrap64 ((wrap64 (x1 + 1)) + 1)) + 1)) + 1)⟩ : S58)) (wrap64 ((wrap64 ((wrap64 ((wrap64 ((wrap64 (x1 + 1)) + 1)) + 1)) + 1)) + 1)) (wrap64 (x5 + 1))))))) else (none)) else (some (x1,x0))
def laws_markArcS.f (k : Nat) (l0 : List (S58)) (a1 : Int) : Option (Int × (List (S58))):=laws_markArcS.l0 k l0 a1 0
set_option maxHeartbeats 8000000 in
set_option maxRecDepth 100000 in
theorem laws_markArcS.calls (k : Nat) (P0_ : Nat → Prop) (u9000_ : Value) (l0 : List (S58)) (a1 : Int) (r1 : Int) (r2 : List (S58)) (w0 w : World) (hB : Below w0.heap.size w0 w) (ho0 : Kd.R k58 58 w w0.heap.size P0_ u9000_ l0) (h : laws_markArcS.f k l0 a1 = some (r1,r2)) :
  Calls Try.prog 96 #[u9000_,.int .i64 a1] w fun e w' => e = .returned (.int .i64 r1) ∧ Kd.R k58 58 w' w0.heap.size (fun k_ => (P0_ k_ ∨ w.heap.size ≤ k_)) u9000_ r2 ∧ Below w0.heap.size w0 w' ∧ Kept w w' (fun k_ => P0_ k_):=by
 have HO0:=I (show Kd.R k58 58 w w0.heap.size (fun k_ => (P0_ k_ ∨ w.heap.size ≤ k_)) u9000_ l0 from Kd.R_mono ho0 (fun k_ hk => (.inl hk)));have HK:=I (Kept.refl w (fun k_ => P0_ k_));have HW0:=I hB.size;have HB:=I hB;clear hB;have H : (laws_markArcS.l0 k l0 a1 0) = some (r1,r2):=h;clear h;have H':=I H;clear H
 go_enter Try.func96,Try.ntmps96
 go_wp2
 go_loopg [1,5] k (fun kq v1 v5 w' => ∃ (x0_1 : List (S58)) (x1_1 : Int) (x5_1 : Int),v1 = .int .i64 x1_1 ∧ v5 = .int .i64 x5_1 ∧ Aside0 (laws_markArcS.l0 kq x0_1 x1_1 x5_1 = some (r1,r2)) ∧ Aside0 (kq ≤ k) ∧ Aside0 (Kd.R k58 58 w' w0.heap.size (fun k_ => (P0_ k_ ∨ w.heap.size ≤ k_)) u9000_ x0_1) ∧ Aside0 (Kept w w' (fun k_ => P0_ k_)) ∧ Aside0 (Below w0.heap.size w0 w'))
 case atStart => exact ⟨(l0),(a1),(0),(by first | rfl | (simp; done) | (simp [*]; done)),(by first | rfl | (simp; done) | (simp [*]; done)),H',⟨Nat.le_refl _⟩,⟨by (with_reducible repeat (first | apply Kd.R_alloc | apply Kd.R_drewN | apply Kd.R_drew)); exact HO0.out⟩,⟨by repeat (first | (with_reducible first | exact HK.out | apply Kept.alloc | apply Kept.drewN | apply Kept.drew) | exact HK.out)⟩,⟨by repeat (first | (with_reducible first | exact HB.out | apply below_alloc | apply pw_below_drewN | apply below_drew1) | exact HB.out)⟩⟩
 case round =>
  clear H'
  try clear p2
  obtain ⟨x0_1,x1_1,x5_1,rfl,rfl,HA,HK1,HO_0,HK,HB⟩:=hrel;cases gk with
  | zero => exact absurd HA.out (by simp [laws_markArcS.l0])
  | succ k1 =>
   have H:=HA.out;clear HA;simp only [laws_markArcS.l0] at H
   by_cases c3 : x5_1 < (x0_1.length : Int)
   case neg =>
    rw [if_neg c3] at H;have c3b0 : decide (x5_1 < (x0_1.length : Int)) = false:=decide_eq_false c3;clear c3;simp only [Option.some.injEq,Prod.mk.injEq] at H;obtain ⟨rfl,rfl⟩:=H;obtain ⟨Ao21,co21,eo21⟩:=Kd.R_slice HO_0.out;subst eo21
    go_wp2
    go_ret;exact ⟨by first | rfl | (simp [errW_none,errW_some] <;> rfl) | (simp [*,errW_none,errW_some] <;> rfl),by (with_reducible repeat (first | apply Kd.R_alloc | apply Kd.R_drewN | apply Kd.R_drew)); exact HO_0.out,by repeat (first | (with_reducible first | exact HB.out | apply below_alloc | apply pw_below_drewN | apply below_drew1) | exact HB.out),by repeat (first | (with_reducible first | exact HK.out | apply Kept.alloc | apply Kept.drewN | apply Kept.drew) | exact HK.out)⟩
   rw [if_pos c3] at H;have c3b0 : decide (x5_1 < (x0_1.length : Int)) = true:=decide_eq_true c3;clear c3
   by_cases c4 : 0 ≤ x5_1
   case neg =>
    rw [if_neg c4] at H;exact absurd H (by simp)
   rw [if_pos c4] at H;have c4b0 : decide (0 ≤ x5_1) = true:=decide_eq_true c4;clear c4;obtain ⟨y867,hy867⟩ : ∃ y_ : List (S58),y_ = (x0_1.set (x5_1 : Int).toNat (⟨x1_1,(rd_T58 x0_1 x5_1).f1,(rd_T58 x0_1 x5_1).f2,(rd_T58 x0_1 x5_1).f3,(rd_T58 x0_1 x5_1).f4⟩ : S58)):=⟨_,rfl⟩
   replace H : ((some (y867.set (x5_1 : Int).toNat (⟨(rd_T58 y867 x5_1).f0,wrap64 (x1_1 + 1),(rd_T58 y867 x5_1).f2,(rd_T58 y867 x5_1).f3,(rd_T58 y867 x5_1).f4⟩ : S58) : List (S58))).bind fun y868 => ((some (y868.set (x5_1 : Int).toNat (⟨(rd_T58 y868 x5_1).f0,(rd_T58 y868 x5_1).f1,wrap64 ((wrap64 (x1_1 + 1)) + 1),(rd_T58 y868 x5_1).f3,(rd_T58 y868 x5_1).f4⟩ : S58) : List (S58))).bind fun y869 => ((some (y869.set (x5_1 : Int).toNat (⟨(rd_T58 y869 x5_1).f0,(rd_T58 y869 x5_1).f1,(rd_T58 y869 x5_1).f2,wrap64 ((wrap64 ((wrap64 (x1_1 + 1)) + 1)) + 1),(rd_T58 y869 x5_1).f4⟩ : S58) : List (S58))).bind fun y870 => (laws_markArcS.l0 k1 (y870.set (x5_1 : Int).toNat (⟨(rd_T58 y870 x5_1).f0,(rd_T58 y870 x5_1).f1,(rd_T58 y870 x5_1).f2,(rd_T58 y870 x5_1).f3,wrap64 ((wrap64 ((wrap64 ((wrap64 (x1_1 + 1)) + 1)) + 1)) + 1)⟩ : S58)) (wrap64 ((wrap64 ((wrap64 ((wrap64 ((wrap64 (x1_1 + 1)) + 1)) + 1)) + 1)) + 1)) (wrap64 (x5_1 + 1)))))) = some (r1,r2):=by first | (rw [hy867]; with_reducible exact H) | (have H2_:=(Option.bind_some _ _).symm.trans H; rw [hy867]; with_reducible exact H2_) | (have H2_:=(Option.bind_some _ _).symm.trans H; with_reducible exact H2_) | with_reducible exact H | (rw [hy867]; exact H) | exact H
   have Ny867:=I hy867;clear hy867;obtain ⟨y868,hy868⟩ : ∃ y_ : List (S58),y_ = (y867.set (x5_1 : Int).toNat (⟨(rd_T58 y867 x5_1).f0,wrap64 (x1_1 + 1),(rd_T58 y867 x5_1).f2,(rd_T58 y867 x5_1).f3,(rd_T58 y867 x5_1).f4⟩ : S58)):=⟨_,rfl⟩
   replace H : ((some (y868.set (x5_1 : Int).toNat (⟨(rd_T58 y868 x5_1).f0,(rd_T58 y868 x5_1).f1,wrap64 ((wrap64 (x1_1 + 1)) + 1),(rd_T58 y868 x5_1).f3,(rd_T58 y868 x5_1).f4⟩ : S58) : List (S58))).bind fun y869 => ((some (y869.set (x5_1 : Int).toNat (⟨(rd_T58 y869 x5_1).f0,(rd_T58 y869 x5_1).f1,(rd_T58 y869 x5_1).f2,wrap64 ((wrap64 ((wrap64 (x1_1 + 1)) + 1)) + 1),(rd_T58 y869 x5_1).f4⟩ : S58) : List (S58))).bind fun y870 => (laws_markArcS.l0 k1 (y870.set (x5_1 : Int).toNat (⟨(rd_T58 y870 x5_1).f0,(rd_T58 y870 x5_1).f1,(rd_T58 y870 x5_1).f2,(rd_T58 y870 x5_1).f3,wrap64 ((wrap64 ((wrap64 ((wrap64 (x1_1 + 1)) + 1)) + 1)) + 1)⟩ : S58)) (wrap64 ((wrap64 ((wrap64 ((wrap64 ((wrap64 (x1_1 + 1)) + 1)) + 1)) + 1)) + 1)) (wrap64 (x5_1 + 1))))) = some (r1,r2):=by first | (rw [hy868]; with_reducible exact H) | (have H2_:=(Option.bind_some _ _).symm.trans H; rw [hy868]; with_reducible exact H2_) | (have H2_:=(Option.bind_some _ _).symm.trans H; with_reducible exact H2_) | with_reducible exact H | (rw [hy868]; exact H) | exact H
   have Ny868:=I hy868;clear hy868;obtain ⟨y869,hy869⟩ : ∃ y_ : List (S58),y_ = (y868.set (x5_1 : Int).toNat (⟨(rd_T58 y868 x5_1).f0,(rd_T58 y868 x5_1).f1,wrap64 ((wrap64 (x1_1 + 1)) + 1),(rd_T58 y868 x5_1).f3,(rd_T58 y868 x5_1).f4⟩ : S58)):=⟨_,rfl⟩
   replace H : ((some (y869.set (x5_1 : Int).toNat (⟨(rd_T58 y869 x5_1).f0,(rd_T58 y869 x5_1).f1,(rd_T58 y869 x5_1).f2,wrap64 ((wrap64 ((wrap64 (x1_1 + 1)) + 1)) + 1),(rd_T58 y869 x5_1).f4⟩ : S58) : List (S58))).bind fun y870 => (laws_markArcS.l0 k1 (y870.set (x5_1 : Int).toNat (⟨(rd_T58 y870 x5_1).f0,(rd_T58 y870 x5_1).f1,(rd_T58 y870 x5_1).f2,(rd_T58 y870 x5_1).f3,wrap64 ((wrap64 ((wrap64 ((wrap64 (x1_1 + 1)) + 1)) + 1)) + 1)⟩ : S58)) (wrap64 ((wrap64 ((wrap64 ((wrap64 ((wrap64 (x1_1 + 1)) + 1)) + 1)) + 1)) + 1)) (wrap64 (x5_1 + 1)))) = some (r1,r2):=by first | (rw [hy869]; with_reducible exact H) | (have H2_:=(Option.bind_some _ _).symm.trans H; rw [hy869]; with_reducible exact H2_) | (have H2_:=(Option.bind_some _ _).symm.trans H; with_reducible exact H2_) | with_reducible exact H | (rw [hy869]; exact H) | exact H
   have Ny869:=I hy869;clear hy869;obtain ⟨y870,hy870⟩ : ∃ y_ : List (S58),y_ = (y869.set (x5_1 : Int).toNat (⟨(rd_T58 y869 x5_1).f0,(rd_T58 y869 x5_1).f1,(rd_T58 y869 x5_1).f2,wrap64 ((wrap64 ((wrap64 (x1_1 + 1)) + 1)) + 1),(rd_T58 y869 x5_1).f4⟩ : S58)):=⟨_,rfl⟩
   replace H : (laws_markArcS.l0 k1 (y870.set (x5_1 : Int).toNat (⟨(rd_T58 y870 x5_1).f0,(rd_T58 y870 x5_1).f1,(rd_T58 y870 x5_1).f2,(rd_T58 y870 x5_1).f3,wrap64 ((wrap64 ((wrap64 ((wrap64 (x1_1 + 1)) + 1)) + 1)) + 1)⟩ : S58)) (wrap64 ((wrap64 ((wrap64 ((wrap64 ((wrap64 (x1_1 + 1)) + 1)) + 1)) + 1)) + 1)) (wrap64 (x5_1 + 1))) = some (r1,r2):=by first | (rw [hy870]; with_reducible exact H) | (have H2_:=(Option.bind_some _ _).symm.trans H; rw [hy870]; with_reducible exact H2_) | (have H2_:=(Option.bind_some _ _).symm.trans H; with_reducible exact H2_) | with_reducible exact H | (rw [hy870]; exact H) | exact H
   have Ny870:=I hy870;clear hy870;obtain ⟨y871,hy871⟩ : ∃ y_ : List (S58),y_ = (y870.set (x5_1 : Int).toNat (⟨(rd_T58 y870 x5_1).f0,(rd_T58 y870 x5_1).f1,(rd_T58 y870 x5_1).f2,(rd_T58 y870 x5_1).f3,wrap64 ((wrap64 ((wrap64 ((wrap64 (x1_1 + 1)) + 1)) + 1)) + 1)⟩ : S58)):=⟨_,rfl⟩
   replace H : (laws_markArcS.l0 k1 y871 (wrap64 ((wrap64 ((wrap64 ((wrap64 ((wrap64 (x1_1 + 1)) + 1)) + 1)) + 1)) + 1)) (wrap64 (x5_1 + 1))) = some (r1,r2):=by first | (rw [hy871]; with_reducible exact H) | (have H2_:=(Option.bind_some _ _).symm.trans H; rw [hy871]; with_reducible exact H2_) | (have H2_:=(Option.bind_some _ _).symm.trans H; with_reducible exact H2_) | with_reducible exact H | (rw [hy871]; exact H) | exact H
   have Ny871:=I hy871;clear hy871;have H':=I H;clear H;obtain ⟨Ao10,co10,eo10⟩:=Kd.R_slice HO_0.out;subst eo10;have p5 : 0 ≤ (x5_1 : Int):=of_decide_eq_true (by first | (with_reducible assumption) | assumption);have q5 : (x5_1 : Int) < ((x0_1.length : Int) : Int):=of_decide_eq_true (by first | (with_reducible assumption) | assumption);obtain ⟨go5,co5,eo5,gb5,gl5,cl5,HG5⟩:=Kd.R_form HO_0.out (by omega)
   (first | cases eo5 | (injection eo5 with ea_ en_ ec_; (first | subst ea_ | (injection ea_ with ea_; subst ea_)); subst ec_; clear en_))
   have GB5:=I gb5;have GG5:=I HG5;clear gb5 gl5 HG5;have HMgo5:=I (show (P0_ go5 ∨ w.heap.size ≤ go5) from (HO_0.out.1 _ rfl));obtain ⟨ce5,hcl5,hM5,hcc5,hfr5⟩:=Kd.R_elem HO_0.out z58 (x5_1 : Int) p5 q5;obtain rfl:=k58_openM hM5;have hx5_0 : wr.cell? ⟨go5,(x5_1 : Int).toNat * 5,none⟩ = some (.int .i64 ((rd_T58 x0_1 x5_1).f0)):=hcc5 0 _ rfl;have hx5_1 : wr.cell? ⟨go5,(x5_1 : Int).toNat * 5 + 1,none⟩ = some (.int .i64 ((rd_T58 x0_1 x5_1).f1)):=hcc5 1 _ rfl;have hx5_2 : wr.cell? ⟨go5,(x5_1 : Int).toNat * 5 + 2,none⟩ = some (.int .i64 ((rd_T58 x0_1 x5_1).f2)):=hcc5 2 _ rfl;have hx5_3 : wr.cell? ⟨go5,(x5_1 : Int).toNat * 5 + 3,none⟩ = some (.int .i64 ((rd_T58 x0_1 x5_1).f3)):=hcc5 3 _ rfl;have hx5_4 : wr.cell? ⟨go5,(x5_1 : Int).toNat * 5 + 4,none⟩ = some (.int .i64 ((rd_T58 x0_1 x5_1).f4)):=hcc5 4 _ rfl;have hf5_0 : wr.frozen? ⟨go5,(x5_1 : Int).toNat * 5,none⟩ = false:=hfr5 0;have hf5_1 : wr.frozen? ⟨go5,(x5_1 : Int).toNat * 5 + 1,none⟩ = false:=hfr5 1;have hf5_2 : wr.frozen? ⟨go5,(x5_1 : Int).toNat * 5 + 2,none⟩ = false:=hfr5 2;have hf5_3 : wr.frozen? ⟨go5,(x5_1 : Int).toNat * 5 + 3,none⟩ = false:=hfr5 3;have hf5_4 : wr.frozen? ⟨go5,(x5_1 : Int).toNat * 5 + 4,none⟩ = false:=hfr5 4;clear hcl5 hcc5 hfr5; (try clear hM5);replace p5:=eq_true p5;replace q5:=eq_true q5;have HX11:=I (show Kd.R k58 58 wr w0.heap.size (fun k_ => (P0_ k_ ∨ w.heap.size ≤ k_)) (.slice (some ⟨go5,0,none⟩) x0_1.length co10) x0_1 from (by (with_reducible repeat (first | apply Kd.R_alloc | apply Kd.R_drewN | apply Kd.R_drew)); exact HO_0.out));obtain ⟨ce11,hcl11,hM11,hcc11,hfr11⟩:=Kd.R_elem HX11.out z58 (x5_1 : Int) (of_decide_eq_true (by first | (with_reducible assumption) | assumption)) (by have h_ : (x5_1 : Int) < ((x0_1.length : Int) : Int):=of_decide_eq_true (by first | (with_reducible assumption) | assumption); first | exact h_ | (have e_:=(Kd.R_reads' HO_0.out).1; omega) | simpa using h_);obtain rfl:=k58_openM hM11;have HP11:=Kd.R_seg HX11.out (x5_1 : Int) (of_decide_eq_true (by first | (with_reducible assumption) | assumption)) (by have h_ : (x5_1 : Int) < ((x0_1.length : Int) : Int):=of_decide_eq_true (by first | (with_reducible assumption) | assumption); first | exact h_ | (have e_:=(Kd.R_reads' HO_0.out).1; omega) | simpa using h_) (seg:=[.int .i64 x1_1]) (j:=0) hcl11 hcc11 (show 1 ≤ 5 from by decide) (x':=(⟨x1_1,(rd_T58 x0_1 x5_1).f1,(rd_T58 x0_1 x5_1).f2,(rd_T58 x0_1 x5_1).f3,(rd_T58 x0_1 x5_1).f4⟩ : S58)) (k58_mkM _ _ _ (⟨x1_1,(rd_T58 x0_1 x5_1).f1,(rd_T58 x0_1 x5_1).f2,(rd_T58 x0_1 x5_1).f3,(rd_T58 x0_1 x5_1).f4⟩ : S58) ) (fun _ hk => hk);have hx11_0:=hcc11 0 _ rfl
   (try simp only [show (k58).sz = 5 from rfl,Nat.mul_one,Nat.add_zero] at hx11_0)
   have hf11_0:=hfr11 0
   (try simp only [show (k58).sz = 5 from rfl,Nat.mul_one,Nat.add_zero] at hf11_0)
   clear hcl11 hcc11 hfr11; (try clear hM11)
   go_wp2_with (first | ((with_reducible refine gate_store (t:=3) (p:=16) rfl ?_); refine store_event (t:=3) (p:=16) (v:=?vo_w12) (w1:=(wr.setCell ⟨go5,(x5_1 : Int).toNat * 5,none⟩ (.int .i64 x1_1))) ?hg ?ho ?hn ?hr ?_; (case ho => rfl); (case hg => rfl); (case hn => rfl); (case hr => first | (go_simp; done) | (go_simp; rfl)); intro w12 hw; have hg : wr.grownBy w12 (some go5):=(by rw [hw]; exact HP11.2); have hp_ : Kd.R k58 58 w12 w0.heap.size (fun k_ => (P0_ k_ ∨ w.heap.size ≤ k_)) (.slice (some ⟨go5,0,none⟩) x0_1.length co10) y867:=(by rw [hw,Ny867.out]; exact HP11.1); clear HP11; have n0_:=I (hp_); have n1_:=I ((by rw [hw]; exact below_set (HB.out) GB5.out : Below w0.heap.size w0 w12)); have n2_:=I (Kept.of_grown (S:=(fun k_ => P0_ k_)) hg (by repeat (first | (with_reducible first | exact HK.out | apply Kept.alloc | apply Kept.drewN | apply Kept.drew) | exact HK.out)) (fun k_ e_ => (HO_0.out.1 k_ e_))); clear HO_0; clear HB; clear HK; have HO_0:=n0_; have HB:=n1_; have HK:=n2_; clear n0_ n1_ n2_; clear hg hw hp_; have p6 : 0 ≤ (x5_1 : Int):=of_decide_eq_true (by first | (with_reducible assumption) | assumption); have q6 : (x5_1 : Int) < ((x0_1.length : Int) : Int):=of_decide_eq_true (by first | (with_reducible assumption) | assumption); obtain ⟨ce6,hcl6,hM6,hcc6,hfr6⟩:=Kd.R_elem HO_0.out z58 (x5_1 : Int) p6 q6; obtain rfl:=k58_openM hM6; have hx6_0 : w12.cell? ⟨go5,(x5_1 : Int).toNat * 5,none⟩ = some (.int .i64 ((rd_T58 y867 x5_1).f0)):=hcc6 0 _ rfl; have hx6_1 : w12.cell? ⟨go5,(x5_1 : Int).toNat * 5 + 1,none⟩ = some (.int .i64 ((rd_T58 y867 x5_1).f1)):=hcc6 1 _ rfl; have hx6_2 : w12.cell? ⟨go5,(x5_1 : Int).toNat * 5 + 2,none⟩ = some (.int .i64 ((rd_T58 y867 x5_1).f2)):=hcc6 2 _ rfl; have hx6_3 : w12.cell? ⟨go5,(x5_1 : Int).toNat * 5 + 3,none⟩ = some (.int .i64 ((rd_T58 y867 x5_1).f3)):=hcc6 3 _ rfl; have hx6_4 : w12.cell? ⟨go5,(x5_1 : Int).toNat * 5 + 4,none⟩ = some (.int .i64 ((rd_T58 y867 x5_1).f4)):=hcc6 4 _ rfl; have hf6_0 : w12.frozen? ⟨go5,(x5_1 : Int).toNat * 5,none⟩ = false:=hfr6 0; have hf6_1 : w12.frozen? ⟨go5,(x5_1 : Int).toNat * 5 + 1,none⟩ = false:=hfr6 1; have hf6_2 : w12.frozen? ⟨go5,(x5_1 : Int).toNat * 5 + 2,none⟩ = false:=hfr6 2; have hf6_3 : w12.frozen? ⟨go5,(x5_1 : Int).toNat * 5 + 3,none⟩ = false:=hfr6 3; have hf6_4 : w12.frozen? ⟨go5,(x5_1 : Int).toNat * 5 + 4,none⟩ = false:=hfr6 4; clear hcl6 hcc6 hfr6; (try clear hM6); replace p6:=eq_true p6; replace q6:=eq_true q6; have HX13:=I (show Kd.R k58 58 w12 w0.heap.size (fun k_ => (P0_ k_ ∨ w.heap.size ≤ k_)) (.slice (some ⟨go5,0,none⟩) x0_1.length co10) y867 from (by (with_reducible repeat (first | apply Kd.R_alloc | apply Kd.R_drewN | apply Kd.R_drew)); exact HO_0.out)); obtain ⟨ce13,hcl13,hM13,hcc13,hfr13⟩:=Kd.R_elem HX13.out z58 (x5_1 : Int) (of_decide_eq_true (by first | (with_reducible assumption) | assumption)) (by have h_ : (x5_1 : Int) < ((x0_1.length : Int) : Int):=of_decide_eq_true (by first | (with_reducible assumption) | assumption); first | exact h_ | (have e_:=(Kd.R_reads' HO_0.out).1; omega) | simpa using h_); obtain rfl:=k58_openM hM13; have HP13:=Kd.R_seg HX13.out (x5_1 : Int) (of_decide_eq_true (by first | (with_reducible assumption) | assumption)) (by have h_ : (x5_1 : Int) < ((x0_1.length : Int) : Int):=of_decide_eq_true (by first | (with_reducible assumption) | assumption); first | exact h_ | (have e_:=(Kd.R_reads' HO_0.out).1; omega) | simpa using h_) (seg:=[.int .i64 (wrap64 (x1_1 + 1))]) (j:=1) hcl13 hcc13 (show 2 ≤ 5 from by decide) (x':=(⟨(rd_T58 y867 x5_1).f0,wrap64 (x1_1 + 1),(rd_T58 y867 x5_1).f2,(rd_T58 y867 x5_1).f3,(rd_T58 y867 x5_1).f4⟩ : S58)) (k58_mkM _ _ _ (⟨(rd_T58 y867 x5_1).f0,wrap64 (x1_1 + 1),(rd_T58 y867 x5_1).f2,(rd_T58 y867 x5_1).f3,(rd_T58 y867 x5_1).f4⟩ : S58) ) (fun _ hk => hk); have hx13_1:=hcc13 1 _ rfl; (try simp only [show (k58).sz = 5 from rfl,Nat.mul_one,Nat.add_zero] at hx13_1); have hf13_1:=hfr13 1; (try simp only [show (k58).sz = 5 from rfl,Nat.mul_one,Nat.add_zero] at hf13_1); clear hcl13 hcc13 hfr13; (try clear hM13)) | ((with_reducible refine gate_store (t:=3) (p:=23) rfl ?_); refine store_event (t:=3) (p:=23) (v:=?vo_w14) (w1:=(w12.setCell ⟨go5,(x5_1 : Int).toNat * 5 + 1,none⟩ (.int .i64 (wrap64 (x1_1 + 1))))) ?hg ?ho ?hn ?hr ?_; (case ho => rfl); (case hg => rfl); (case hn => rfl); (case hr => first | (go_simp; done) | (go_simp; rfl)); intro w14 hw; have hg : w12.grownBy w14 (some go5):=(by rw [hw]; exact HP13.2); have hp_ : Kd.R k58 58 w14 w0.heap.size (fun k_ => (P0_ k_ ∨ w.heap.size ≤ k_)) (.slice (some ⟨go5,0,none⟩) x0_1.length co10) y868:=(by rw [hw,Ny868.out]; exact HP13.1); clear HP13; have n0_:=I (hp_); have n1_:=I ((by rw [hw]; exact below_set (HB.out) GB5.out : Below w0.heap.size w0 w14)); have n2_:=I (Kept.of_grown (S:=(fun k_ => P0_ k_)) hg (by repeat (first | (with_reducible first | exact HK.out | apply Kept.alloc | apply Kept.drewN | apply Kept.drew) | exact HK.out)) (fun k_ e_ => (HO_0.out.1 k_ e_))); clear HO_0; clear HB; clear HK; have HO_0:=n0_; have HB:=n1_; have HK:=n2_; clear n0_ n1_ n2_; clear hg hw hp_; have p7 : 0 ≤ (x5_1 : Int):=of_decide_eq_true (by first | (with_reducible assumption) | assumption); have q7 : (x5_1 : Int) < ((x0_1.length : Int) : Int):=of_decide_eq_true (by first | (with_reducible assumption) | assumption); obtain ⟨ce7,hcl7,hM7,hcc7,hfr7⟩:=Kd.R_elem HO_0.out z58 (x5_1 : Int) p7 q7; obtain rfl:=k58_openM hM7; have hx7_0 : w14.cell? ⟨go5,(x5_1 : Int).toNat * 5,none⟩ = some (.int .i64 ((rd_T58 y868 x5_1).f0)):=hcc7 0 _ rfl; have hx7_1 : w14.cell? ⟨go5,(x5_1 : Int).toNat * 5 + 1,none⟩ = some (.int .i64 ((rd_T58 y868 x5_1).f1)):=hcc7 1 _ rfl; have hx7_2 : w14.cell? ⟨go5,(x5_1 : Int).toNat * 5 + 2,none⟩ = some (.int .i64 ((rd_T58 y868 x5_1).f2)):=hcc7 2 _ rfl; have hx7_3 : w14.cell? ⟨go5,(x5_1 : Int).toNat * 5 + 3,none⟩ = some (.int .i64 ((rd_T58 y868 x5_1).f3)):=hcc7 3 _ rfl; have hx7_4 : w14.cell? ⟨go5,(x5_1 : Int).toNat * 5 + 4,none⟩ = some (.int .i64 ((rd_T58 y868 x5_1).f4)):=hcc7 4 _ rfl; have hf7_0 : w14.frozen? ⟨go5,(x5_1 : Int).toNat * 5,none⟩ = false:=hfr7 0; have hf7_1 : w14.frozen? ⟨go5,(x5_1 : Int).toNat * 5 + 1,none⟩ = false:=hfr7 1; have hf7_2 : w14.frozen? ⟨go5,(x5_1 : Int).toNat * 5 + 2,none⟩ = false:=hfr7 2; have hf7_3 : w14.frozen? ⟨go5,(x5_1 : Int).toNat * 5 + 3,none⟩ = false:=hfr7 3; have hf7_4 : w14.frozen? ⟨go5,(x5_1 : Int).toNat * 5 + 4,none⟩ = false:=hfr7 4; clear hcl7 hcc7 hfr7; (try clear hM7); replace p7:=eq_true p7; replace q7:=eq_true q7; have HX15:=I (show Kd.R k58 58 w14 w0.heap.size (fun k_ => (P0_ k_ ∨ w.heap.size ≤ k_)) (.slice (some ⟨go5,0,none⟩) x0_1.length co10) y868 from (by (with_reducible repeat (first | apply Kd.R_alloc | apply Kd.R_drewN | apply Kd.R_drew)); exact HO_0.out)); obtain ⟨ce15,hcl15,hM15,hcc15,hfr15⟩:=Kd.R_elem HX15.out z58 (x5_1 : Int) (of_decide_eq_true (by first | (with_reducible assumption) | assumption)) (by have h_ : (x5_1 : Int) < ((x0_1.length : Int) : Int):=of_decide_eq_true (by first | (with_reducible assumption) | assumption); first | exact h_ | (have e_:=(Kd.R_reads' HO_0.out).1; omega) | simpa using h_); obtain rfl:=k58_openM hM15; have HP15:=Kd.R_seg HX15.out (x5_1 : Int) (of_decide_eq_true (by first | (with_reducible assumption) | assumption)) (by have h_ : (x5_1 : Int) < ((x0_1.length : Int) : Int):=of_decide_eq_true (by first | (with_reducible assumption) | assumption); first | exact h_ | (have e_:=(Kd.R_reads' HO_0.out).1; omega) | simpa using h_) (seg:=[.int .i64 (wrap64 ((wrap64 (x1_1 + 1)) + 1))]) (j:=2) hcl15 hcc15 (show 3 ≤ 5 from by decide) (x':=(⟨(rd_T58 y868 x5_1).f0,(rd_T58 y868 x5_1).f1,wrap64 ((wrap64 (x1_1 + 1)) + 1),(rd_T58 y868 x5_1).f3,(rd_T58 y868 x5_1).f4⟩ : S58)) (k58_mkM _ _ _ (⟨(rd_T58 y868 x5_1).f0,(rd_T58 y868 x5_1).f1,wrap64 ((wrap64 (x1_1 + 1)) + 1),(rd_T58 y868 x5_1).f3,(rd_T58 y868 x5_1).f4⟩ : S58) ) (fun _ hk => hk); have hx15_2:=hcc15 2 _ rfl; (try simp only [show (k58).sz = 5 from rfl,Nat.mul_one,Nat.add_zero] at hx15_2); have hf15_2:=hfr15 2; (try simp only [show (k58).sz = 5 from rfl,Nat.mul_one,Nat.add_zero] at hf15_2); clear hcl15 hcc15 hfr15; (try clear hM15)) | ((with_reducible refine gate_store (t:=3) (p:=30) rfl ?_); refine store_event (t:=3) (p:=30) (v:=?vo_w16) (w1:=(w14.setCell ⟨go5,(x5_1 : Int).toNat * 5 + 2,none⟩ (.int .i64 (wrap64 ((wrap64 (x1_1 + 1)) + 1))))) ?hg ?ho ?hn ?hr ?_; (case ho => rfl); (case hg => rfl); (case hn => rfl); (case hr => first | (go_simp; done) | (go_simp; rfl)); intro w16 hw; have hg : w14.grownBy w16 (some go5):=(by rw [hw]; exact HP15.2); have hp_ : Kd.R k58 58 w16 w0.heap.size (fun k_ => (P0_ k_ ∨ w.heap.size ≤ k_)) (.slice (some ⟨go5,0,none⟩) x0_1.length co10) y869:=(by rw [hw,Ny869.out]; exact HP15.1); clear HP15; have n0_:=I (hp_); have n1_:=I ((by rw [hw]; exact below_set (HB.out) GB5.out : Below w0.heap.size w0 w16)); have n2_:=I (Kept.of_grown (S:=(fun k_ => P0_ k_)) hg (by repeat (first | (with_reducible first | exact HK.out | apply Kept.alloc | apply Kept.drewN | apply Kept.drew) | exact HK.out)) (fun k_ e_ => (HO_0.out.1 k_ e_))); clear HO_0; clear HB; clear HK; have HO_0:=n0_; have HB:=n1_; have HK:=n2_; clear n0_ n1_ n2_; clear hg hw hp_; have p8 : 0 ≤ (x5_1 : Int):=of_decide_eq_true (by first | (with_reducible assumption) | assumption); have q8 : (x5_1 : Int) < ((x0_1.length : Int) : Int):=of_decide_eq_true (by first | (with_reducible assumption) | assumption); obtain ⟨ce8,hcl8,hM8,hcc8,hfr8⟩:=Kd.R_elem HO_0.out z58 (x5_1 : Int) p8 q8; obtain rfl:=k58_openM hM8; have hx8_0 : w16.cell? ⟨go5,(x5_1 : Int).toNat * 5,none⟩ = some (.int .i64 ((rd_T58 y869 x5_1).f0)):=hcc8 0 _ rfl; have hx8_1 : w16.cell? ⟨go5,(x5_1 : Int).toNat * 5 + 1,none⟩ = some (.int .i64 ((rd_T58 y869 x5_1).f1)):=hcc8 1 _ rfl; have hx8_2 : w16.cell? ⟨go5,(x5_1 : Int).toNat * 5 + 2,none⟩ = some (.int .i64 ((rd_T58 y869 x5_1).f2)):=hcc8 2 _ rfl; have hx8_3 : w16.cell? ⟨go5,(x5_1 : Int).toNat * 5 + 3,none⟩ = some (.int .i64 ((rd_T58 y869 x5_1).f3)):=hcc8 3 _ rfl; have hx8_4 : w16.cell? ⟨go5,(x5_1 : Int).toNat * 5 + 4,none⟩ = some (.int .i64 ((rd_T58 y869 x5_1).f4)):=hcc8 4 _ rfl; have hf8_0 : w16.frozen? ⟨go5,(x5_1 : Int).toNat * 5,none⟩ = false:=hfr8 0; have hf8_1 : w16.frozen? ⟨go5,(x5_1 : Int).toNat * 5 + 1,none⟩ = false:=hfr8 1; have hf8_2 : w16.frozen? ⟨go5,(x5_1 : Int).toNat * 5 + 2,none⟩ = false:=hfr8 2; have hf8_3 : w16.frozen? ⟨go5,(x5_1 : Int).toNat * 5 + 3,none⟩ = false:=hfr8 3; have hf8_4 : w16.frozen? ⟨go5,(x5_1 : Int).toNat * 5 + 4,none⟩ = false:=hfr8 4; clear hcl8 hcc8 hfr8; (try clear hM8); replace p8:=eq_true p8; replace q8:=eq_true q8; have HX17:=I (show Kd.R k58 58 w16 w0.heap.size (fun k_ => (P0_ k_ ∨ w.heap.size ≤ k_)) (.slice (some ⟨go5,0,none⟩) x0_1.length co10) y869 from (by (with_reducible repeat (first | apply Kd.R_alloc | apply Kd.R_drewN | apply Kd.R_drew)); exact HO_0.out)); obtain ⟨ce17,hcl17,hM17,hcc17,hfr17⟩:=Kd.R_elem HX17.out z58 (x5_1 : Int) (of_decide_eq_true (by first | (with_reducible assumption) | assumption)) (by have h_ : (x5_1 : Int) < ((x0_1.length : Int) : Int):=of_decide_eq_true (by first | (with_reducible assumption) | assumption); first | exact h_ | (have e_:=(Kd.R_reads' HO_0.out).1; omega) | simpa using h_); obtain rfl:=k58_openM hM17; have HP17:=Kd.R_seg HX17.out (x5_1 : Int) (of_decide_eq_true (by first | (with_reducible assumption) | assumption)) (by have h_ : (x5_1 : Int) < ((x0_1.length : Int) : Int):=of_decide_eq_true (by first | (with_reducible assumption) | assumption); first | exact h_ | (have e_:=(Kd.R_reads' HO_0.out).1; omega) | simpa using h_) (seg:=[.int .i64 (wrap64 ((wrap64 ((wrap64 (x1_1 + 1)) + 1)) + 1))]) (j:=3) hcl17 hcc17 (show 4 ≤ 5 from by decide) (x':=(⟨(rd_T58 y869 x5_1).f0,(rd_T58 y869 x5_1).f1,(rd_T58 y869 x5_1).f2,wrap64 ((wrap64 ((wrap64 (x1_1 + 1)) + 1)) + 1),(rd_T58 y869 x5_1).f4⟩ : S58)) (k58_mkM _ _ _ (⟨(rd_T58 y869 x5_1).f0,(rd_T58 y869 x5_1).f1,(rd_T58 y869 x5_1).f2,wrap64 ((wrap64 ((wrap64 (x1_1 + 1)) + 1)) + 1),(rd_T58 y869 x5_1).f4⟩ : S58) ) (fun _ hk => hk); have hx17_3:=hcc17 3 _ rfl; (try simp only [show (k58).sz = 5 from rfl,Nat.mul_one,Nat.add_zero] at hx17_3); have hf17_3:=hfr17 3; (try simp only [show (k58).sz = 5 from rfl,Nat.mul_one,Nat.add_zero] at hf17_3); clear hcl17 hcc17 hfr17; (try clear hM17)) | ((with_reducible refine gate_store (t:=3) (p:=37) rfl ?_); refine store_event (t:=3) (p:=37) (v:=?vo_w18) (w1:=(w16.setCell ⟨go5,(x5_1 : Int).toNat * 5 + 3,none⟩ (.int .i64 (wrap64 ((wrap64 ((wrap64 (x1_1 + 1)) + 1)) + 1))))) ?hg ?ho ?hn ?hr ?_; (case ho => rfl); (case hg => rfl); (case hn => rfl); (case hr => first | (go_simp; done) | (go_simp; rfl)); intro w18 hw; have hg : w16.grownBy w18 (some go5):=(by rw [hw]; exact HP17.2); have hp_ : Kd.R k58 58 w18 w0.heap.size (fun k_ => (P0_ k_ ∨ w.heap.size ≤ k_)) (.slice (some ⟨go5,0,none⟩) x0_1.length co10) y870:=(by rw [hw,Ny870.out]; exact HP17.1); clear HP17; have n0_:=I (hp_); have n1_:=I ((by rw [hw]; exact below_set (HB.out) GB5.out : Below w0.heap.size w0 w18)); have n2_:=I (Kept.of_grown (S:=(fun k_ => P0_ k_)) hg (by repeat (first | (with_reducible first | exact HK.out | apply Kept.alloc | apply Kept.drewN | apply Kept.drew) | exact HK.out)) (fun k_ e_ => (HO_0.out.1 k_ e_))); clear HO_0; clear HB; clear HK; have HO_0:=n0_; have HB:=n1_; have HK:=n2_; clear n0_ n1_ n2_; clear hg hw hp_; have p9 : 0 ≤ (x5_1 : Int):=of_decide_eq_true (by first | (with_reducible assumption) | assumption); have q9 : (x5_1 : Int) < ((x0_1.length : Int) : Int):=of_decide_eq_true (by first | (with_reducible assumption) | assumption); obtain ⟨ce9,hcl9,hM9,hcc9,hfr9⟩:=Kd.R_elem HO_0.out z58 (x5_1 : Int) p9 q9; obtain rfl:=k58_openM hM9; have hx9_0 : w18.cell? ⟨go5,(x5_1 : Int).toNat * 5,none⟩ = some (.int .i64 ((rd_T58 y870 x5_1).f0)):=hcc9 0 _ rfl; have hx9_1 : w18.cell? ⟨go5,(x5_1 : Int).toNat * 5 + 1,none⟩ = some (.int .i64 ((rd_T58 y870 x5_1).f1)):=hcc9 1 _ rfl; have hx9_2 : w18.cell? ⟨go5,(x5_1 : Int).toNat * 5 + 2,none⟩ = some (.int .i64 ((rd_T58 y870 x5_1).f2)):=hcc9 2 _ rfl; have hx9_3 : w18.cell? ⟨go5,(x5_1 : Int).toNat * 5 + 3,none⟩ = some (.int .i64 ((rd_T58 y870 x5_1).f3)):=hcc9 3 _ rfl; have hx9_4 : w18.cell? ⟨go5,(x5_1 : Int).toNat * 5 + 4,none⟩ = some (.int .i64 ((rd_T58 y870 x5_1).f4)):=hcc9 4 _ rfl; have hf9_0 : w18.frozen? ⟨go5,(x5_1 : Int).toNat * 5,none⟩ = false:=hfr9 0; have hf9_1 : w18.frozen? ⟨go5,(x5_1 : Int).toNat * 5 + 1,none⟩ = false:=hfr9 1; have hf9_2 : w18.frozen? ⟨go5,(x5_1 : Int).toNat * 5 + 2,none⟩ = false:=hfr9 2; have hf9_3 : w18.frozen? ⟨go5,(x5_1 : Int).toNat * 5 + 3,none⟩ = false:=hfr9 3; have hf9_4 : w18.frozen? ⟨go5,(x5_1 : Int).toNat * 5 + 4,none⟩ = false:=hfr9 4; clear hcl9 hcc9 hfr9; (try clear hM9); replace p9:=eq_true p9; replace q9:=eq_true q9; have HX19:=I (show Kd.R k58 58 w18 w0.heap.size (fun k_ => (P0_ k_ ∨ w.heap.size ≤ k_)) (.slice (some ⟨go5,0,none⟩) x0_1.length co10) y870 from (by (with_reducible repeat (first | apply Kd.R_alloc | apply Kd.R_drewN | apply Kd.R_drew)); exact HO_0.out)); obtain ⟨ce19,hcl19,hM19,hcc19,hfr19⟩:=Kd.R_elem HX19.out z58 (x5_1 : Int) (of_decide_eq_true (by first | (with_reducible assumption) | assumption)) (by have h_ : (x5_1 : Int) < ((x0_1.length : Int) : Int):=of_decide_eq_true (by first | (with_reducible assumption) | assumption); first | exact h_ | (have e_:=(Kd.R_reads' HO_0.out).1; omega) | simpa using h_); obtain rfl:=k58_openM hM19; have HP19:=Kd.R_seg HX19.out (x5_1 : Int) (of_decide_eq_true (by first | (with_reducible assumption) | assumption)) (by have h_ : (x5_1 : Int) < ((x0_1.length : Int) : Int):=of_decide_eq_true (by first | (with_reducible assumption) | assumption); first | exact h_ | (have e_:=(Kd.R_reads' HO_0.out).1; omega) | simpa using h_) (seg:=[.int .i64 (wrap64 ((wrap64 ((wrap64 ((wrap64 (x1_1 + 1)) + 1)) + 1)) + 1))]) (j:=4) hcl19 hcc19 (show 5 ≤ 5 from by decide) (x':=(⟨(rd_T58 y870 x5_1).f0,(rd_T58 y870 x5_1).f1,(rd_T58 y870 x5_1).f2,(rd_T58 y870 x5_1).f3,wrap64 ((wrap64 ((wrap64 ((wrap64 (x1_1 + 1)) + 1)) + 1)) + 1)⟩ : S58)) (k58_mkM _ _ _ (⟨(rd_T58 y870 x5_1).f0,(rd_T58 y870 x5_1).f1,(rd_T58 y870 x5_1).f2,(rd_T58 y870 x5_1).f3,wrap64 ((wrap64 ((wrap64 ((wrap64 (x1_1 + 1)) + 1)) + 1)) + 1)⟩ : S58) ) (fun _ hk => hk); have hx19_4:=hcc19 4 _ rfl; (try simp only [show (k58).sz = 5 from rfl,Nat.mul_one,Nat.add_zero] at hx19_4); have hf19_4:=hfr19 4; (try simp only [show (k58).sz = 5 from rfl,Nat.mul_one,Nat.add_zero] at hf19_4); clear hcl19 hcc19 hfr19; (try clear hM19)) | ((with_reducible refine gate_store (t:=3) (p:=44) rfl ?_); refine store_event (t:=3) (p:=44) (v:=?vo_w20) (w1:=(w18.setCell ⟨go5,(x5_1 : Int).toNat * 5 + 4,none⟩ (.int .i64 (wrap64 ((wrap64 ((wrap64 ((wrap64 (x1_1 + 1)) + 1)) + 1)) + 1))))) ?hg ?ho ?hn ?hr ?_; (case ho => rfl); (case hg => rfl); (case hn => rfl); (case hr => first | (go_simp; done) | (go_simp; rfl)); intro w20 hw; have hg : w18.grownBy w20 (some go5):=(by rw [hw]; exact HP19.2); have hp_ : Kd.R k58 58 w20 w0.heap.size (fun k_ => (P0_ k_ ∨ w.heap.size ≤ k_)) (.slice (some ⟨go5,0,none⟩) x0_1.length co10) y871:=(by rw [hw,Ny871.out]; exact HP19.1); clear HP19; have n0_:=I (hp_); have n1_:=I ((by rw [hw]; exact below_set (HB.out) GB5.out : Below w0.heap.size w0 w20)); have n2_:=I (Kept.of_grown (S:=(fun k_ => P0_ k_)) hg (by repeat (first | (with_reducible first | exact HK.out | apply Kept.alloc | apply Kept.drewN | apply Kept.drew) | exact HK.out)) (fun k_ e_ => (HO_0.out.1 k_ e_))); clear HO_0; clear HB; clear HK; have HO_0:=n0_; have HB:=n1_; have HK:=n2_; clear n0_ n1_ n2_; clear hg hw hp_))
   go_roundg k1
   case measure => have:=HK1.out; omega
   case rel => exact ⟨(y871),(wrap64 ((wrap64 ((wrap64 ((wrap64 ((wrap64 (x1_1 + 1)) + 1)) + 1)) + 1)) + 1)),(wrap64 (x5_1 + 1)),(by first | rfl | (simp; done) | (simp [*]; done)),(by first | rfl | (simp; done) | (simp [*]; done)),H',⟨by have:=HK1.out; omega⟩,⟨by (with_reducible repeat (first | apply Kd.R_alloc | apply Kd.R_drewN | apply Kd.R_drew)); exact HO_0.out⟩,⟨by repeat (first | (with_reducible first | exact HK.out | apply Kept.alloc | apply Kept.drewN | apply Kept.drew) | exact HK.out)⟩,⟨by repeat (first | (with_reducible first | exact HB.out | apply below_alloc | apply pw_below_drewN | apply below_drew1) | exact HB.out)⟩⟩
def laws_markNet.f (k : Nat) (a0_0 : Int) (l0_1 : List (S58)) (a1 : Int) : Option (Int × (List (S58))):=(laws_markArcS.f k l0_1 a1).bind fun bt873 => (some (bt873.1,bt873.2))
set_option maxHeartbeats 8000000 in
set_option maxRecDepth 100000 in
theorem laws_markNet.calls (k : Nat) (a0_0 : Int) (P0_1_ : Nat → Prop) (u9000_ : Value) (l0_1 : List (S58)) (a1 : Int) (r1 : Int) (r2 : List (S58)) (w0 w : World) (hB : Below w0.heap.size w0 w) (ho0_1 : Kd.R k58 58 w w0.heap.size P0_1_ u9000_ l0_1) (h : laws_markNet.f k a0_0 l0_1 a1 = some (r1,r2)) :
  Calls Try.prog 41 #[.agg #[.int .i64 a0_0,u9000_],.int .i64 a1] w fun e w' => e = .returned (.int .i64 r1) ∧ Kd.R k58 58 w' w0.heap.size (fun k_ => (P0_1_ k_ ∨ w.heap.size ≤ k_)) u9000_ r2 ∧ Below w0.heap.size w0 w' ∧ Kept w w' (fun k_ => P0_1_ k_):=by
 have hu34:=Try.underlying34;have HO0_1:=I (show Kd.R k58 58 w w0.heap.size (fun k_ => (P0_1_ k_ ∨ w.heap.size ≤ k_)) u9000_ l0_1 from Kd.R_mono ho0_1 (fun k_ hk => (.inl hk)));have HK:=I (Kept.refl w (fun k_ => P0_1_ k_));have HW0:=I hB.size;have HB:=I hB;clear hB;have H : ((laws_markArcS.f k l0_1 a1).bind fun bt873 => (some (bt873.1,bt873.2))) = some (r1,r2):=h;clear h;replace H:=Option.bind_eq_some_iff.mp H;obtain ⟨⟨t873,t874⟩,A30,H⟩:=H;replace H : (some (t873,t874)) = some (r1,r2):=H;have A3:=I A30;clear A30;simp only [Option.some.injEq,Prod.mk.injEq] at H;obtain ⟨rfl,rfl⟩:=H;obtain ⟨Ao4,co4,eo4⟩:=Kd.R_slice HO0_1.out;subst eo4
 go_enter Try.func41,Try.ntmps41
 go_wp2_with (first | ((with_reducible refine gate_dst (N:=2) rfl ?_); refine box_event ?hg (N:=2) ?hd (cs:=#[.int .i64 a0_0,.slice Ao4 l0_1.length co4]) (t:=34) ?hr ?_; (case hd => rfl); (case hg => rfl); (case hr => first | (go_simp; done) | (go_simp; rfl)); intro gb872 hg w5 hbox hb; have n0_:=I (Kd.R_below (by (with_reducible repeat (first | apply Kd.R_alloc | apply Kd.R_drewN | apply Kd.R_drew)); exact HO0_1.out) hb); have n1_:=I (Kept.below (S:=(fun k_ => P0_1_ k_)) (by repeat (first | (with_reducible first | exact HK.out | apply Kept.alloc | apply Kept.drewN | apply Kept.drew) | exact HK.out)) hb); have n2_:=I (below_step (by repeat (first | (with_reducible first | exact HB.out | apply below_alloc | apply pw_below_drewN | apply below_drew1) | exact HB.out)) hb); have n3_:=I (hbox); have n4_:=I ((by rw [hg]; exact (by first | exact HK.out.1 | exact (show Kept w _ (fun k_ => P0_1_ k_) from by repeat (first | (with_reducible first | exact HK.out | apply Kept.alloc | apply Kept.drewN | apply Kept.drew) | exact HK.out)).1) : w.heap.size ≤ gb872)); have n5_:=I ((by rw [hg]; exact (below_size (by repeat (first | (with_reducible first | exact HB.out | apply below_alloc | apply pw_below_drewN | apply below_drew1) | exact HB.out))) : w0.heap.size ≤ gb872)); clear HO0_1; clear HK; clear HB; have HO0_1:=n0_; have HK:=n1_; have HB:=n2_; have BK872:=n3_; have GW872:=n4_; have GE872:=n5_; clear n0_ n1_ n2_ n3_ n4_ n5_; clear hb hbox hg; have hcz6_0 : w5.cell? ⟨gb872,0,none⟩ = some (.int .i64 a0_0):=(blk_cell BK872.out 0).trans rfl; have hcz6_1 : w5.cell? ⟨gb872,1,none⟩ = some (.slice Ao4 l0_1.length co4):=(blk_cell BK872.out 1).trans rfl; have hfz6_0:=blk_frozen BK872.out 0; have hfz6_1:=blk_frozen BK872.out 1) | ((with_reducible refine gate_callee (f:=96) rfl ?_); refine goesL_ (some 8) rfl rfl Try.func96 (by kernel_rfl) rfl #[.slice Ao4 l0_1.length co4,.int .i64 a1] rfl (by (try simp only [List.map_toArray,List.map_cons,List.map_nil]); first | done | rfl | (simp only [List.length_drop,List.length_take]; rfl)) ?_; (with_reducible refine (laws_markArcS.calls k (fun k_ => some k_ = (.slice Ao4 l0_1.length co4 : Value).ownBlock) (.slice Ao4 l0_1.length co4) l0_1 a1 t873 t874 w0 _ ?side1 ?side2 A3.out).mono ?_); (case side1 => repeat (first | (with_reducible first | exact HB.out | apply below_alloc | apply pw_below_drewN | apply below_drew1 | refine below_set ?_ GE872.out) | exact HB.out)); (case side2 => exact Kd.R_tight rfl HO0_1.out); rintro e w7 ⟨rfl,hy0,hb,hkp⟩; refine ⟨_,rfl,?_⟩; have n0_:=I (Kd.R_reok rfl hy0 (fun k_ e_ => HO0_1.out.1 k_ e_)); have n1_:=I (blk_kept (by (with_reducible repeat (first | refine blk_drewN ?_ _ | refine blk_drew ?_ | refine blk_alloc ?_ _)); exact BK872.out) hkp (fun hs_ => (fun e_ => (Kd.R_ne HO0_1.out BK872.out (by decide)) e_) hs_)); have n2_:=I (Kept.then_ (S:=(fun k_ => P0_1_ k_)) (by repeat (first | (with_reducible first | exact HK.out | apply Kept.alloc | apply Kept.drewN | apply Kept.drew | refine Kept.setCell ?_ (.inr GW872.out) _) | exact HK.out)) hkp (fun k_ hs_ => (fun e_ => (HO0_1.out.1 k_ e_.symm)) hs_)); have n3_:=I (hb); clear HO0_1; clear BK872; clear HK; clear HB; have HO0_1:=n0_; have BK872:=n1_; have HK:=n2_; have HB:=n3_; clear n0_ n1_ n2_ n3_; (try clear hb); (try clear hkp); (try clear hy0)))
 go_ret;exact ⟨by first | rfl | (simp [errW_none,errW_some] <;> rfl) | (simp [*,errW_none,errW_some] <;> rfl),by (with_reducible repeat (first | apply Kd.R_alloc | apply Kd.R_drewN | apply Kd.R_drew)); exact HO0_1.out,by repeat (first | (with_reducible first | exact HB.out | apply below_alloc | apply pw_below_drewN | apply below_drew1 | refine below_set ?_ GE872.out) | exact HB.out),by repeat (first | (with_reducible first | exact HK.out | apply Kept.alloc | apply Kept.drewN | apply Kept.drew | refine Kept.setCell ?_ (.inr GW872.out) _) | exact HK.out)⟩
def laws_markIntS.l0 : Nat → List Int → Int → Int → Option (Int × List Int)
 | 0,_,_,_ => none
 | k + 1,x0,x1,x5 => if x5 < (x0.length : Int) then (if 0 ≤ x5 then (laws_markIntS.l0 k (x0.set (x5 : Int).toNat x1) (wrap64 (x1 + 1)) (wrap64 (x5 + 1))) else (none)) else (some (x1,x0))
def laws_markIntS.f (k : Nat) (l0 : List Int) (a1 : Int) : Option (Int × List Int):=laws_markIntS.l0 k l0 a1 0
set_option maxHeartbeats 8000000 in
set_option maxRecDepth 100000 in
theorem laws_markIntS.calls (k : Nat) (P0_ : Nat → Prop) (u9000_ : Value) (l0 : List Int) (a1 : Int) (r1 : Int) (r2 : List Int) (w0 w : World) (hB : Below w0.heap.size w0 w) (ho0 : Kd.R (Kd.int .i64) 3 w w0.heap.size P0_ u9000_ l0) (h : laws_markIntS.f k l0 a1 = some (r1,r2)) :
  Calls Try.prog 42 #[u9000_,.int .i64 a1] w fun e w' => e = .returned (.int .i64 r1) ∧ Kd.R (Kd.int .i64) 3 w' w0.heap.size (fun k_ => (P0_ k_ ∨ w.heap.size ≤ k_)) u9000_ r2 ∧ Below w0.heap.size w0 w' ∧ Kept w w' (fun k_ => P0_ k_):=by
 have HO0:=I (show Kd.R (Kd.int .i64) 3 w w0.heap.size (fun k_ => (P0_ k_ ∨ w.heap.size ≤ k_)) u9000_ l0 from Kd.R_mono ho0 (fun k_ hk => (.inl hk)));have HK:=I (Kept.refl w (fun k_ => P0_ k_));have HW0:=I hB.size;have HB:=I hB;clear hB;have H : (laws_markIntS.l0 k l0 a1 0) = some (r1,r2):=h;clear h;have H':=I H;clear H
 go_enter Try.func42,Try.ntmps42
 go_wp2
 go_loopg [1,5] k (fun kq v1 v5 w' => ∃ (x0_1 : List Int) (x1_1 : Int) (x5_1 : Int),v1 = .int .i64 x1_1 ∧ v5 = .int .i64 x5_1 ∧ Aside0 (laws_markIntS.l0 kq x0_1 x1_1 x5_1 = some (r1,r2)) ∧ Aside0 (kq ≤ k) ∧ Aside0 (Kd.R (Kd.int .i64) 3 w' w0.heap.size (fun k_ => (P0_ k_ ∨ w.heap.size ≤ k_)) u9000_ x0_1) ∧ Aside0 (Kept w w' (fun k_ => P0_ k_)) ∧ Aside0 (Below w0.heap.size w0 w'))
 case atStart => exact ⟨(l0),(a1),(0),(by first | rfl | (simp; done) | (simp [*]; done)),(by first | rfl | (simp; done) | (simp [*]; done)),H',⟨Nat.le_refl _⟩,⟨by (with_reducible repeat (first | apply Kd.R_alloc | apply Kd.R_drewN | apply Kd.R_drew)); exact HO0.out⟩,⟨by repeat (first | (with_reducible first | exact HK.out | apply Kept.alloc | apply Kept.drewN | apply Kept.drew) | exact HK.out)⟩,⟨by repeat (first | (with_reducible first | exact HB.out | apply below_alloc | apply pw_below_drewN | apply below_drew1) | exact HB.out)⟩⟩
 case round =>
  clear H'
  try clear p2
  obtain ⟨x0_1,x1_1,x5_1,rfl,rfl,HA,HK1,HO_0,HK,HB⟩:=hrel;cases gk with
  | zero => exact absurd HA.out (by simp [laws_markIntS.l0])
  | succ k1 =>
   have H:=HA.out;clear HA;simp only [laws_markIntS.l0] at H
   by_cases c3 : x5_1 < (x0_1.length : Int)
   case neg =>
    rw [if_neg c3] at H;have c3b0 : decide (x5_1 < (x0_1.length : Int)) = false:=decide_eq_false c3;clear c3;simp only [Option.some.injEq,Prod.mk.injEq] at H;obtain ⟨rfl,rfl⟩:=H;obtain ⟨Ao9,co9,eo9⟩:=Kd.R_slice HO_0.out;subst eo9
    go_wp2
    go_ret;exact ⟨by first | rfl | (simp [errW_none,errW_some] <;> rfl) | (simp [*,errW_none,errW_some] <;> rfl),by (with_reducible repeat (first | apply Kd.R_alloc | apply Kd.R_drewN | apply Kd.R_drew)); exact HO_0.out,by repeat (first | (with_reducible first | exact HB.out | apply below_alloc | apply pw_below_drewN | apply below_drew1) | exact HB.out),by repeat (first | (with_reducible first | exact HK.out | apply Kept.alloc | apply Kept.drewN | apply Kept.drew) | exact HK.out)⟩
   rw [if_pos c3] at H;have c3b0 : decide (x5_1 < (x0_1.length : Int)) = true:=decide_eq_true c3;clear c3
   by_cases c4 : 0 ≤ x5_1
   case neg =>
    rw [if_neg c4] at H;exact absurd H (by simp)
   rw [if_pos c4] at H;have c4b0 : decide (0 ≤ x5_1) = true:=decide_eq_true c4;clear c4;obtain ⟨y875,hy875⟩ : ∃ y_ : List Int,y_ = (x0_1.set (x5_1 : Int).toNat x1_1):=⟨_,rfl⟩
   replace H : (laws_markIntS.l0 k1 y875 (wrap64 (x1_1 + 1)) (wrap64 (x5_1 + 1))) = some (r1,r2):=by first | (rw [hy875]; with_reducible exact H) | (have H2_:=(Option.bind_some _ _).symm.trans H; rw [hy875]; with_reducible exact H2_) | (have H2_:=(Option.bind_some _ _).symm.trans H; with_reducible exact H2_) | with_reducible exact H | (rw [hy875]; exact H) | exact H
   have Ny875:=I hy875;clear hy875;have H':=I H;clear H;obtain ⟨Ao6,co6,eo6⟩:=Kd.R_slice HO_0.out;subst eo6;have p5 : 0 ≤ (x5_1 : Int):=of_decide_eq_true (by first | (with_reducible assumption) | assumption);have q5 : (x5_1 : Int) < ((x0_1.length : Int) : Int):=of_decide_eq_true (by first | (with_reducible assumption) | assumption);obtain ⟨go5,co5,eo5,gb5,gl5,cl5,HG5⟩:=Kd.R_form HO_0.out (by omega)
   (first | cases eo5 | (injection eo5 with ea_ en_ ec_; (first | subst ea_ | (injection ea_ with ea_; subst ea_)); subst ec_; clear en_))
   have GB5:=I gb5;have GG5:=I HG5;clear gb5 gl5 HG5;have HMgo5:=I (show (P0_ go5 ∨ w.heap.size ≤ go5) from (HO_0.out.1 _ rfl));obtain ⟨hx5_0,hf5_0⟩:=Kd.R_celln 0 HO_0.out (x5_1 : Int) p5 q5;replace p5:=eq_true p5;replace q5:=eq_true q5;have HP7:=Kd.R_putg HO_0.out (x5_1 : Int) x1_1
   go_wp2_with (first | ((with_reducible refine gate_store (t:=3) (p:=15) rfl ?_); refine store_event (t:=3) (p:=15) (v:=?vo_w8) (w1:=(wr.setCell ⟨go5,(x5_1 : Int).toNat,none⟩ (.int .i64 x1_1))) ?hg ?ho ?hn ?hr ?_; (case ho => rfl); (case hg => rfl); (case hn => rfl); (case hr => first | (go_simp; done) | (go_simp; rfl)); intro w8 hw; have hg : wr.grownBy w8 (some go5):=(by rw [hw]; exact HP7.2); have hp_ : Kd.R (Kd.int .i64) 3 w8 w0.heap.size (fun k_ => (P0_ k_ ∨ w.heap.size ≤ k_)) (.slice (some ⟨go5,0,none⟩) x0_1.length co6) y875:=(by rw [hw,Ny875.out]; exact HP7.1); clear HP7; have n0_:=I (hp_); have n1_:=I ((by rw [hw]; exact below_set (HB.out) GB5.out : Below w0.heap.size w0 w8)); have n2_:=I (Kept.of_grown (S:=(fun k_ => P0_ k_)) hg (by repeat (first | (with_reducible first | exact HK.out | apply Kept.alloc | apply Kept.drewN | apply Kept.drew) | exact HK.out)) (fun k_ e_ => (HO_0.out.1 k_ e_))); clear HO_0; clear HB; clear HK; have HO_0:=n0_; have HB:=n1_; have HK:=n2_; clear n0_ n1_ n2_; clear hg hw hp_))
   go_roundg k1
   case measure => have:=HK1.out; omega
   case rel => exact ⟨(y875),(wrap64 (x1_1 + 1)),(wrap64 (x5_1 + 1)),(by first | rfl | (simp; done) | (simp [*]; done)),(by first | rfl | (simp; done) | (simp [*]; done)),H',⟨by have:=HK1.out; omega⟩,⟨by (with_reducible repeat (first | apply Kd.R_alloc | apply Kd.R_drewN | apply Kd.R_drew)); exact HO_0.out⟩,⟨by repeat (first | (with_reducible first | exact HK.out | apply Kept.alloc | apply Kept.drewN | apply Kept.drew) | exact HK.out)⟩,⟨by repeat (first | (with_reducible first | exact HB.out | apply below_alloc | apply pw_below_drewN | apply below_drew1) | exact HB.out)⟩⟩
def laws_heldIntS.l0 : Nat → List Int → Int → Int → Option (Int)
 | 0,_,_,_ => none
 | k + 1,x0,x1,x5 => if x5 < (x0.length : Int) then (if 0 ≤ x5 then (if (rd x0 x5) = x1 then (laws_heldIntS.l0 k x0 (wrap64 (x1 + 1)) (wrap64 (x5 + 1))) else (some (-1))) else (none)) else (some x1)
def laws_heldIntS.f (k : Nat) (l0 : List Int) (a1 : Int) : Option (Int):=laws_heldIntS.l0 k l0 a1 0
set_option maxHeartbeats 8000000 in
set_option maxRecDepth 100000 in
theorem laws_heldIntS.calls (k : Nat) (A0 : Option Addr) (c0 : Nat) (l0 : List Int) (a1 : Int) (r : Int) (w : World) (hr0 : Kd.C (Kd.int .i64) w A0 l0.length l0) (hc0 : l0.length ≤ c0) (h : laws_heldIntS.f k l0 a1 = some r) :
  Calls Try.prog 43 #[.slice A0 l0.length c0,.int .i64 a1] w fun e w' => e = .returned (.int .i64 r) ∧ Drawn0 w w':=by
 have HR0:=I hr0;have HC0:=I hc0;clear hr0 hc0;have H : (laws_heldIntS.l0 k l0 a1 0) = some r:=h;clear h;have H':=I H;clear H
 go_enter Try.func43,Try.ntmps43
 go_wp2
 go_loopg [1,5] k (fun kq v1 v5 w' => ∃ (x1_1 : Int) (x5_1 : Int),v1 = .int .i64 x1_1 ∧ v5 = .int .i64 x5_1 ∧ Aside0 (laws_heldIntS.l0 kq l0 x1_1 x5_1 = some r) ∧ Aside0 (kq ≤ k) ∧ Drawn0 w w')
 case atStart => exact ⟨(a1),(0),(by first | rfl | (simp; done) | (simp [*]; done)),(by first | rfl | (simp; done) | (simp [*]; done)),H',⟨Nat.le_refl _⟩,by repeat (first | exact Drawn0.refl _ | apply Drawn0.step)⟩
 case round =>
  clear H'
  try clear p2
  obtain ⟨x1_1,x5_1,rfl,rfl,HA,HK1,⟨m1,rfl⟩⟩:=hrel;cases gk with
  | zero => exact absurd HA.out (by simp [laws_heldIntS.l0])
  | succ k1 =>
   have H:=HA.out;clear HA;simp only [laws_heldIntS.l0] at H
   by_cases c3 : x5_1 < (l0.length : Int)
   case neg =>
    rw [if_neg c3] at H;have c3b0 : decide (x5_1 < (l0.length : Int)) = false:=decide_eq_false c3;clear c3;obtain rfl:=Option.some.inj H
    go_wp2
    go_ret;exact ⟨by first | rfl | (simp; done) | (simp [*]; done),by repeat (first | exact Drawn0.refl _ | apply Drawn0.step)⟩
   rw [if_pos c3] at H;have c3b0 : decide (x5_1 < (l0.length : Int)) = true:=decide_eq_true c3;clear c3
   by_cases c4 : 0 ≤ x5_1
   case neg =>
    rw [if_neg c4] at H;exact absurd H (by simp)
   rw [if_pos c4] at H;have c4b0 : decide (0 ≤ x5_1) = true:=decide_eq_true c4;clear c4
   by_cases c5 : (rd l0 x5_1) = x1_1
   case neg =>
    rw [if_neg c5] at H;have c5b0 : ((rd l0 x5_1) == x1_1) = false:=beq_eq_false_iff_ne.mpr c5;have c5b1 : ((rd l0 x5_1) != x1_1) = true:=bne_iff_ne.mpr c5;obtain rfl:=Option.some.inj H;have p876 : 0 ≤ (x5_1 : Int):=of_decide_eq_true (by first | (with_reducible assumption) | assumption);have q876 : x5_1 < (l0.length : Int):=of_decide_eq_true (by first | (with_reducible assumption) | assumption);obtain ⟨ad876,e876,hx876_0⟩:=Kd.at_int HR0.out x5_1 p876 q876;cases e876;replace p876:=eq_true p876;replace q876:=eq_true q876
    go_wp2
    go_ret;exact ⟨by first | rfl | (simp; done) | (simp [*]; done),by repeat (first | exact Drawn0.refl _ | apply Drawn0.step)⟩
   rw [if_pos c5] at H;have c5b0 : ((rd l0 x5_1) == x1_1) = true:=beq_iff_eq.mpr c5;have c5b1 : ((rd l0 x5_1) != x1_1) = false:=bne_eq_false_iff_eq.mpr c5;clear c5;have H':=I H;clear H;have p876 : 0 ≤ (x5_1 : Int):=of_decide_eq_true (by first | (with_reducible assumption) | assumption);have q876 : x5_1 < (l0.length : Int):=of_decide_eq_true (by first | (with_reducible assumption) | assumption);obtain ⟨ad876,e876,hx876_0⟩:=Kd.at_int HR0.out x5_1 p876 q876;cases e876;replace p876:=eq_true p876;replace q876:=eq_true q876
   go_wp2
   go_roundg k1
   case measure => have:=HK1.out; omega
   case rel => exact ⟨(wrap64 (x1_1 + 1)),(wrap64 (x5_1 + 1)),(by first | rfl | (simp; done) | (simp [*]; done)),(by first | rfl | (simp; done) | (simp [*]; done)),H',⟨by have:=HK1.out; omega⟩,by repeat (first | exact Drawn0.refl _ | apply Drawn0.step)⟩
end Go.Proofs.Ytlhmljngjdfbpaa.Pr
end
