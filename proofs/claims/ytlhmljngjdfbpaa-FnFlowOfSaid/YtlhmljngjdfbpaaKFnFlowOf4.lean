/- For the statement FnFlowOf of this seat: it is proved here, with no further conditions (part 5 of its texts: words, walks of the functions, the plain law, the row). -/
import Derived.Test.YtlhmljngjdfbpaaKFnFlowOf3
section
namespace Go.Proofs.Ytlhmljngjdfbpaa.Pr
open Go.RowKit Go.Proofs.YtlhmljngjdfbpaaW.PrintWords Go.Proofs.YtlhmljngjdfbpaaW.PrintLast Go.Proofs.YtlhmljngjdfbpaaW.PrintMore
attribute [local go_sem] max2_int min2_int max_two min_two max_three min_three max_four min_four
set_option linter.unusedVariables false
set_option linter.unusedSimpArgs false
open List renaming setIfInBounds_toArray → U,set_cons_zero → V,set_cons_succ → Z
open Go.Proofs.YtlhmljngjdfbpaaW.PrintWords.Aside0 renaming mk → zx
def idxI {α : Type} (p : α → Bool) (l : List α) : Int:=match l.findIdx? p with | some i => (i : Int) | none => -1
theorem idxI_hit {α : Type} {p : α → Bool} {l : List α} (k : Nat) (hk : k < l.length) (h : p l[k] = true) (hne : ∀ j (hj : j < k),p (l[j]'(by omega)) = false) : idxI p l = k:=by
 have : l.findIdx? p = some k:=by
  rw [List.findIdx?_eq_some_iff_getElem];exact ⟨hk,h,fun j hj => by rw [hne j hj]; simp⟩
 simp [idxI,this]
theorem idxI_miss {α : Type} {p : α → Bool} {l : List α} (h : ∀ x ∈ l,p x = false) : idxI p l = -1:=by
 have : l.findIdx? p = none:=by
  rw [List.findIdx?_eq_none_iff];exact h
 simp [idxI,this]
theorem idxI_any {α : Type} (p : α → Bool) (l : List α) : decide (idxI p l ≥ 0) = l.any p:=by
 cases h : l.findIdx? p with
 | none =>
  rw [List.findIdx?_eq_none_iff] at h;simp only [idxI,List.findIdx?_eq_none_iff.2 h];rw [eq_comm]
  simpa using h
 | some i =>
  have h':=h;rw [List.findIdx?_eq_some_iff_getElem] at h';obtain ⟨hi,hp,_⟩:=h';simp only [idxI,h];have : l.any p = true:=List.any_eq_true.2 ⟨_,List.getElem_mem hi,hp⟩;rw [this];simp
set_option maxHeartbeats 8000000 in
set_option maxRecDepth 100000 in
theorem slices_IndexFunc_int_int.calls (p : Int → Bool) (g : Nat) (lb : Array Value) (eg : ∀ args w,(callFunc g args).run Try.prog w = .ok (.enter g args) w) (A0 : Option Addr) (c0 : Nat) (l0 : List Int) (w : World) (hr0 : Kd.C (Kd.int .i64) w A0 l0.length l0) (_hc0 : l0.length ≤ c0)
  (hp : ∀ (W : World) (x : Int),x ∈ l0 → Below w.heap.size w W → Calls Try.prog g (#[.int .i64 x] ++ lb) W fun e w' => e = .returned (.bool (p x)) ∧ Below W.heap.size W w') :
  Calls Try.prog 145 #[.slice A0 l0.length c0,.func (.func g) #[] lb] w fun e w' => e = .returned (.int .i64 (idxI p l0)) ∧ Below w.heap.size w w':=by
 have HR0:=zx hr0;have hlen:=hr0.2.1;clear hr0
 go_enter Try.func145,Try.ntmps145
 go_wp2
 go_loopg [5,8] l0.length (fun gg _ s8 wr => ∃ x : Int,s8 = .int .i64 x ∧ Aside0 (0 ≤ x) ∧ Aside0 (x ≤ (l0.length : Int)) ∧ Aside0 ((l0.length : Int) - x ≤ gg) ∧ Aside0 (Below w.heap.size w wr) ∧ Aside0 (∀ j (hl : j < l0.length),(j : Int) < x → p l0[j] = false))
 case atStart => exact ⟨0,rfl,⟨by omega⟩,⟨by omega⟩,⟨by omega⟩,⟨Below.refl _ w⟩,⟨fun j hj h => absurd h (by omega)⟩⟩
 case round =>
  obtain ⟨x,rfl,X0,X1,X2,BW,AA⟩:=hrel
  by_cases c2 : x < (l0.length : Int)
  case neg =>
   have c2b0 : decide (x < (l0.length : Int)) = false:=decide_eq_false c2;have E1:=zx c2;clear c2 hp
   go_wp2
   go_ret;refine ⟨?_,BW.out⟩;rw [idxI_miss (fun y hy => by
    obtain ⟨j,hj,rfl⟩:=List.getElem_of_mem hy;have h1:=E1.out;exact AA.out j hj (by omega))]
   rfl
  have c2b0 : decide (x < (l0.length : Int)) = true:=decide_eq_true c2;have h0:=X0.out;have hg:=X2.out;have hlt : x.toNat < l0.length:=by omega
  obtain ⟨ad,e,hx⟩:=Kd.at_int (Kd.C_below HR0.out BW.out) x h0 c2;cases e;have hw : wrap64 (x + 1) = x + 1:=by unfold wrap64; omega
  have HW:=zx hw;clear hw;have hcall:=hp wr l0[x.toNat] (List.getElem_mem hlt) BW.out;clear hp;have hrd : rd l0 x = l0[x.toNat]:=by simp [rd,hlt]
  rw [← hrd] at hcall;have B : Aside0 (∀ h : x.toNat < l0.length,rd l0 x = l0[x.toNat]):=⟨fun _ => hrd⟩
  clear hrd;generalize hy : rd l0 x = y at hx hcall B;clear hy;have p108:=eq_true h0;have q108:=eq_true c2;have E0:=zx h0;have E1:=zx c2;have E2:=zx hg;have E3:=zx hlt;clear h0 hg hlt c2;cases hq : p y with
  | true =>
   rw [hq] at hcall;have HQ:=zx hq;clear hq
   go_wp2_with (go_at_fn g; refine hcall.mono ?_; rintro e w' ⟨rfl,hb'⟩)
   go_ret;refine ⟨?_,below_then BW.out BW.out.size hb'⟩;have h0:=E0.out;rw [idxI_hit x.toNat E3.out (by rw [← B.out E3.out]; exact HQ.out) (fun j hj => AA.out j _ (by omega))];rw [Int.toNat_of_nonneg h0];rfl
  | false =>
   rw [hq] at hcall;have HQ:=zx hq;clear hq
   go_wp2_with (go_at_fn g; refine hcall.mono ?_; rintro e w' ⟨rfl,hb'⟩)
   have h0:=E0.out;have h1:=E1.out;have h2:=E2.out;go_roundg (l0.length - (x.toNat + 1))
   case measure => omega
   case rel =>
    refine ⟨x + 1,by first | rfl | rw [HW.out],⟨by omega⟩,⟨by omega⟩,⟨by omega⟩,⟨below_then BW.out BW.out.size hb'⟩,⟨fun j hj hl => ?_⟩⟩
    by_cases e : (j : Int) = x
    case neg => exact AA.out j hj (by omega)
    have e' : j = x.toNat:=by omega
    subst e';rw [← B.out E3.out]; exact HQ.out
set_option maxHeartbeats 8000000 in
theorem slices_ContainsFunc_int_int.calls (p : Int → Bool) (g : Nat) (lb : Array Value) (eg : ∀ args w,(callFunc g args).run Try.prog w = .ok (.enter g args) w) (A0 : Option Addr) (c0 : Nat) (l0 : List Int) (w : World) (hr0 : Kd.C (Kd.int .i64) w A0 l0.length l0) (hc0 : l0.length ≤ c0)
  (hp : ∀ (W : World) (x : Int),x ∈ l0 → Below w.heap.size w W → Calls Try.prog g (#[.int .i64 x] ++ lb) W fun e w' => e = .returned (.bool (p x)) ∧ Below W.heap.size W w') :
  Calls Try.prog 120 #[.slice A0 l0.length c0,.func (.func g) #[] lb] w fun e w' => e = .returned (.bool (l0.any p)) ∧ Below w.heap.size w w':=by
 rw [← idxI_any];have hcall:=slices_IndexFunc_int_int.calls p g lb eg A0 c0 l0 w hr0 hc0 hp;clear hp eg hr0
 go_enter Try.func120,Try.ntmps120
 go_wp2_with (go_at_call 145; refine hcall.mono ?_; rintro e w' ⟨rfl,hb'⟩)
 go_ret;exact ⟨rfl,hb'⟩
def okN (n v : Int) : Bool:=decide (0 ≤ v) && decide (v ≤ n - 1)
theorem okN_within (n x : Int) : impl_within.f x 0 (n - 1) = some (okN n x):=by
 unfold impl_within.f okN
 by_cases h : x ≥ 0
 case pos => rw [if_pos h]; simp [show (0 : Int) ≤ x from h]
 rw [if_neg h]; simp [show ¬ (0 : Int) ≤ x from h]
def impl_Net_has.f (a0_0 : Int) (_l0_1 : List S58) (l1 : List Int) : Option Bool:=if -9223372036854775807 ≤ a0_0 then if a0_0 ≤ 9223372036854775807 then some (l1.all (okN a0_0)) else none else none
set_option maxHeartbeats 8000000 in
set_option maxRecDepth 100000 in
theorem has_closure (x n : Int) (g : Nat) (v : Value) (w : World) (hn : -9223372036854775807 ≤ n) (hn2 : n ≤ 9223372036854775807) (hb : w.heap[g]? = some (.cells #[.int .i64 n,v] 34 (0,0))) :
  Calls Try.prog 138 #[.int .i64 x,.pointer (some ⟨g,0,none⟩)] w fun e w' => e = .returned (.bool (!okN n x)) ∧ Below w.heap.size w w':=by
 have hcell : w.cell? ⟨g,0,none⟩ = some (.int .i64 n):=(blk_cell hb 0).trans rfl;have hcall:=impl_within.calls x 0 (n - 1) (okN n x) w (okN_within n x);have hu:=Try.underlying34;generalize okN n x = b at hcall;clear hb
 go_enter Try.func138,Try.ntmps138
 go_wp2_with (go_at_call 82; refine hcall.mono ?_; rintro e w' ⟨rfl,⟨nd,rfl⟩⟩)
 go_ret;exact ⟨rfl,pw_below_drewN (Below.refl _ _) _⟩
set_option maxHeartbeats 8000000 in
set_option maxRecDepth 100000 in
theorem impl_Net_has.calls (a0_0 : Int) (A0_1 : Option Addr) (c0_1 : Nat) (l0_1 : List S58) (A1 : Option Addr) (c1 : Nat) (l1 : List Int) (r : Bool) (w : World) (_hr0_1 : Kd.C k58 w A0_1 l0_1.length l0_1) (_hc0_1 : l0_1.length ≤ c0_1) (hr1 : Kd.C (Kd.int .i64) w A1 l1.length l1) (hc1 : l1.length ≤ c1) (h : impl_Net_has.f a0_0 l0_1 l1 = some r) :
  Calls Try.prog 109 #[.agg #[.int .i64 a0_0,.slice A0_1 l0_1.length c0_1],.slice A1 l1.length c1] w fun e w' => e = .returned (.bool r) ∧ Below w.heap.size w w':=by
 have hn : -9223372036854775807 ≤ a0_0:=by
  apply Decidable.byContradiction
  intro c
  unfold impl_Net_has.f at h
  rw [if_neg c] at h;exact absurd h (by simp)
 have hn2 : a0_0 ≤ 9223372036854775807:=by
  apply Decidable.byContradiction
  intro c
  unfold impl_Net_has.f at h
  rw [if_pos hn,if_neg c] at h;exact absurd h (by simp)
 have hr : l1.all (okN a0_0) = r:=by
  unfold impl_Net_has.f at h
  rw [if_pos hn,if_pos hn2] at h;exact Option.some.inj h
 clear h;have hr' : (!(l1.any fun v => !okN a0_0 v)) = r:=by
  rw [← hr,List.not_any_eq_all_not]
  congr 1
  funext v
  simp
 have hcall:=slices_ContainsFunc_int_int.calls (fun v => !okN a0_0 v) 138 #[.pointer (some ⟨w.heap.size,0,none⟩)] (enters_of Try.func138 (by kernel_rfl) rfl) A1 c1 l1 (w.alloc (.cells #[.int .i64 a0_0,.slice A0_1 l0_1.length c0_1] 34)) (Kd.C_below hr1 (below_alloc (Below.refl _ _) _)) hc1
  (fun W x _ hB => has_closure x a0_0 w.heap.size (.slice A0_1 l0_1.length c0_1) W hn hn2 ((hB.block w.heap.size (by simp)).trans (heap_alloc_new w _)))
 have HN:=zx hn;have HR:=zx hr';clear hr1 hr hr' hn hn2;generalize l1.any (fun v => !okN a0_0 v) = b at hcall HR
 go_enter Try.func109,Try.ntmps109
 go_wp2_with (go_at_call 120; refine hcall.mono ?_; rintro e w' ⟨rfl,hb'⟩)
 go_ret;exact ⟨by rw [← HR.out]; rfl,below_then (below_alloc (Below.refl _ _) _) (by simp) hb'⟩
def impl_costOk.f (a0 : Int) : Option (Bool):=(impl_within.f a0 0 99).bind fun t182 => (some t182)
set_option maxHeartbeats 8000000 in
set_option maxRecDepth 100000 in
theorem impl_costOk.calls (a0 : Int) (r : Bool) (w : World) (h : impl_costOk.f a0 = some r) :
  Calls Try.prog 81 #[.int .i64 a0] w fun e w' => e = .returned (.bool r) ∧ Drawn0 w w':=by
 have H : ((impl_within.f a0 0 99).bind fun t182 => (some t182)) = some r:=h;clear h;replace H:=Option.bind_eq_some_iff.mp H;obtain ⟨t182,A20,H⟩:=H;replace H : (some t182) = some r:=H;have A2:=zx A20;clear A20;obtain rfl:=Option.some.inj H
 go_enter Try.func81,Try.ntmps81
 go_wp2_with (first | ((with_reducible refine gate_callee (f:=82) rfl ?_); refine goesL_ (some 4) rfl rfl Try.func82 (by kernel_rfl) rfl #[.int .i64 a0,.int .i64 0,.int .i64 99] rfl (by (try simp only [List.map_toArray,List.map_cons,List.map_nil]); first | done | rfl | (simp only [List.length_drop,List.length_take]; rfl)) ?_; (with_reducible refine (impl_within.calls a0 0 99 t182 _ A2.out).mono ?_); rintro e w' ⟨rfl,⟨nd,rfl⟩⟩; refine ⟨_,rfl,?_⟩))
 go_ret;exact ⟨by first | rfl | (simp; done) | (simp [*]; done),by repeat (first | exact Drawn0.refl _ | apply Drawn0.step)⟩
def okC (c : Int) : Bool:=decide (0 ≤ c) && decide (c ≤ 99)
theorem okC_costOk (c : Int) : impl_costOk.f c = some (okC c):=by
 unfold impl_costOk.f impl_within.f okC
 by_cases h : c ≥ 0
 case pos => rw [if_pos h]; simp [show (0 : Int) ≤ c from h]
 rw [if_neg h]; simp [show ¬ (0 : Int) ≤ c from h]
theorem rd_at_T {l : List S58} {k : Int} (h : k.toNat < l.length) : rd_T58 l k = l[k.toNat]:=by
 simp [rd_T58,h]
def encA (x : S58) : Value:=.agg #[.int .i64 x.f0,.int .i64 x.f1,.int .i64 x.f2,.int .i64 x.f3,.int .i64 x.f4]
set_option maxHeartbeats 8000000 in
set_option maxRecDepth 100000 in
theorem slices_IndexFunc_Arc.calls (p : S58 → Bool) (g : Nat) (lb : Array Value) (eg : ∀ args w,(callFunc g args).run Try.prog w = .ok (.enter g args) w) (A0 : Option Addr) (c0 : Nat) (l0 : List S58) (w : World) (hr0 : Kd.C k58 w A0 l0.length l0) (_hc0 : l0.length ≤ c0)
  (hp : ∀ (W : World) (x : S58),x ∈ l0 → Below w.heap.size w W → Calls Try.prog g (#[encA x] ++ lb) W fun e w' => e = .returned (.bool (p x)) ∧ Below W.heap.size W w') :
  Calls Try.prog 137 #[.slice A0 l0.length c0,.func (.func g) #[] lb] w fun e w' => e = .returned (.int .i64 (idxI p l0)) ∧ Below w.heap.size w w':=by
 have HR0:=zx hr0;have hlen:=hr0.2.1;clear hr0;have hu:=Try.underlying58
 go_enter Try.func137,Try.ntmps137
 go_wp2
 go_loopg [5,8] l0.length (fun gg _ s8 wr => ∃ x : Int,s8 = .int .i64 x ∧ Aside0 (0 ≤ x) ∧ Aside0 (x ≤ (l0.length : Int)) ∧ Aside0 ((l0.length : Int) - x ≤ gg) ∧ Aside0 (Below w.heap.size w wr) ∧ Aside0 (∀ j (hl : j < l0.length),(j : Int) < x → p l0[j] = false))
 case atStart => exact ⟨0,rfl,⟨by omega⟩,⟨by omega⟩,⟨by omega⟩,⟨Below.refl _ w⟩,⟨fun j hj h => absurd h (by omega)⟩⟩
 case round =>
  obtain ⟨x,rfl,X0,X1,X2,BW,AA⟩:=hrel
  by_cases c2 : x < (l0.length : Int)
  case neg =>
   have c2b0 : decide (x < (l0.length : Int)) = false:=decide_eq_false c2;have E1:=zx c2;clear c2 hp
   go_wp2
   go_ret;refine ⟨?_,BW.out⟩;rw [idxI_miss (fun y hy => by
    obtain ⟨j,hj,rfl⟩:=List.getElem_of_mem hy;have h1:=E1.out;exact AA.out j hj (by omega))]
   rfl
  have c2b0 : decide (x < (l0.length : Int)) = true:=decide_eq_true c2;have h0:=X0.out;have hg:=X2.out;have hlt : x.toNat < l0.length:=by omega
  obtain ⟨ad,e,hx0,hx1,hx2,hx3,hx4⟩:=at_T58 (Kd.C_below HR0.out BW.out) x h0 c2;cases e;have hw : wrap64 (x + 1) = x + 1:=by unfold wrap64; omega
  have HW:=zx hw;clear hw;have hcall:=hp wr l0[x.toNat] (List.getElem_mem hlt) BW.out;clear hp;have hrd : rd_T58 l0 x = l0[x.toNat]:=rd_at_T hlt;rw [← hrd] at hcall;have B : Aside0 (∀ h : x.toNat < l0.length,rd_T58 l0 x = l0[x.toNat]):=⟨fun _ => hrd⟩
  clear hrd;generalize hy : rd_T58 l0 x = y at hx0 hx1 hx2 hx3 hx4 hcall B;clear hy
  unfold encA at hcall
  have p108:=eq_true h0;have q108:=eq_true c2;have E0:=zx h0;have E1:=zx c2;have E2:=zx hg;have E3:=zx hlt;clear h0 hg hlt c2;cases hq : p y with
  | true =>
   rw [hq] at hcall;have HQ:=zx hq;clear hq
   go_wp2_with (go_at_fn g; refine hcall.mono ?_; rintro e w' ⟨rfl,hb'⟩)
   go_ret;refine ⟨?_,below_then BW.out BW.out.size hb'⟩;have h0:=E0.out;rw [idxI_hit x.toNat E3.out (by rw [← B.out E3.out]; exact HQ.out) (fun j hj => AA.out j _ (by omega))];rw [Int.toNat_of_nonneg h0];rfl
  | false =>
   rw [hq] at hcall;have HQ:=zx hq;clear hq
   go_wp2_with (go_at_fn g; refine hcall.mono ?_; rintro e w' ⟨rfl,hb'⟩)
   have h0:=E0.out;have h1:=E1.out;have h2:=E2.out;go_roundg (l0.length - (x.toNat + 1))
   case measure => omega
   case rel =>
    refine ⟨x + 1,by first | rfl | rw [HW.out],⟨by omega⟩,⟨by omega⟩,⟨by omega⟩,⟨below_then BW.out BW.out.size hb'⟩,⟨fun j hj hl => ?_⟩⟩
    by_cases e : (j : Int) = x
    case neg => exact AA.out j hj (by omega)
    have e' : j = x.toNat:=by omega
    subst e';rw [← B.out E3.out]; exact HQ.out
set_option maxHeartbeats 8000000 in
theorem slices_ContainsFunc_Arc.calls (p : S58 → Bool) (g : Nat) (lb : Array Value) (eg : ∀ args w,(callFunc g args).run Try.prog w = .ok (.enter g args) w) (A0 : Option Addr) (c0 : Nat) (l0 : List S58) (w : World) (hr0 : Kd.C k58 w A0 l0.length l0) (hc0 : l0.length ≤ c0)
  (hp : ∀ (W : World) (x : S58),x ∈ l0 → Below w.heap.size w W → Calls Try.prog g (#[encA x] ++ lb) W fun e w' => e = .returned (.bool (p x)) ∧ Below W.heap.size W w') :
  Calls Try.prog 107 #[.slice A0 l0.length c0,.func (.func g) #[] lb] w fun e w' => e = .returned (.bool (l0.any p)) ∧ Below w.heap.size w w':=by
 rw [← idxI_any];have hcall:=slices_IndexFunc_Arc.calls p g lb eg A0 c0 l0 w hr0 hc0 hp;clear hp eg hr0;have hu:=Try.underlying58
 go_enter Try.func107,Try.ntmps107
 go_wp2_with (go_at_call 137; refine hcall.mono ?_; rintro e w' ⟨rfl,hb'⟩)
 go_ret;exact ⟨rfl,hb'⟩
def okArc (n : Int) (a : S58) : Bool:=okN n a.f0 && okN n a.f1 && !(a.f0 == a.f1) && okC a.f2 && okC a.f3 && okN 10 a.f4
def netOkB (n : Int) (l : List S58) : Bool:=decide (1 ≤ n) && decide (n ≤ 8) && decide ((l.length : Int) ≤ 16) && l.all (okArc n)
def impl_NetOk.f (a0_0 : Int) (l0_1 : List S58) : Option Bool:=some (decide (1 ≤ a0_0) && decide (a0_0 ≤ 8) && decide ((l0_1.length : Int) ≤ 16) && l0_1.all (okArc a0_0))
theorem heap_alloc_at {W : World} {o : Obj} {k : Nat} (h : k = W.heap.size) : (W.alloc o).heap[k]? = some o:=by subst h; exact heap_alloc_new W o
theorem two_reads (W : World) (b : Nat) (x y : Int) (h : W.heap[b]? = some (.cells #[.int .i64 x,.int .i64 y] 3 (0,0))) : Kd.C (Kd.int .i64) W (some ⟨b,0,none⟩) [x,y].length [x,y] :=
 Kd.C_of_reads (d:=(0 : Int)) (h1:=fun _ => rfl) ⟨rfl,by simp,fun _ => ⟨_,rfl,fun j hj => by
  have h0 : W.cell? ⟨b,0,none⟩ = some (.int .i64 x):=(blk_cell h 0).trans rfl;have h1 : W.cell? ⟨b,1,none⟩ = some (.int .i64 y):=(blk_cell h 1).trans rfl
  match j,hj with
  | 0,_ => rw [add_plain]; exact h0
  | 1,_ => rw [add_plain]; exact h1⟩⟩
set_option maxHeartbeats 8000000 in
set_option maxRecDepth 100000 in
theorem NetOk_closure (x : S58) (n : Int) (g : Nat) (A : Option Addr) (c : Nat) (l : List S58) (w : World) (hn : 1 ≤ n) (hn2 : n ≤ 8) (hr : Kd.C k58 w A l.length l) (hc : l.length ≤ c) (hb : w.heap[g]? = some (.cells #[.int .i64 n,.slice A l.length c] 34 (0,0))) :
  Calls Try.prog 108 #[encA x,.pointer (some ⟨g,0,none⟩)] w fun e w' => e = .returned (.bool (!okArc n x)) ∧ Below w.heap.size w w':=by
 have hcell : w.cell? ⟨g,0,none⟩ = some (.int .i64 n):=(blk_cell hb 0).trans rfl;have hcell1 : w.cell? ⟨g,1,none⟩ = some (.slice A l.length c):=(blk_cell hb 1).trans rfl;have hhas:=fun (W : World) (a0 : Nat) (h1 : Below w.heap.size w W) (h2 : W.heap[a0]? = some (.cells #[.int .i64 x.f0,.int .i64 x.f1] 3 (0,0))) => impl_Net_has.calls n A c l (some ⟨a0,0,none⟩) 2 [x.f0,x.f1] ([x.f0,x.f1].all (okN n)) W (Kd.C_below hr h1) hc (two_reads W a0 x.f0 x.f1 h2) (by simp) (by unfold impl_Net_has.f; rw [if_pos (by omega),if_pos (by omega)])
 have hbl:=World.block_lt_of_cell? _ _ hcell;have hu:=Try.underlying34;have hu2:=Try.underlying58;have hc2:=fun (W : World) => impl_costOk.calls x.f2 (okC x.f2) W (okC_costOk x.f2)
 have hc3:=fun (W : World) => impl_costOk.calls x.f3 (okC x.f3) W (okC_costOk x.f3)
 have hload:=fun (W : World) => impl_within.calls x.f4 0 9 (okN 10 x.f4) W (okN_within 10 x.f4)
 clear hb hr
 unfold encA
 have hall : [x.f0,x.f1].all (okN n) = (okN n x.f0 && okN n x.f1):=by simp
 rw [hall] at hhas;clear hall
 unfold okArc
 generalize hA : (okN n x.f0 && okN n x.f1) = b1 at hhas;clear hA;generalize okN 10 x.f4 = b5 at hload;generalize okC x.f2 = b2 at hc2;generalize okC x.f3 = b3 at hc3;have HB:=zx (Below.refl w.heap.size w);have HN:=zx hn;have HC:=zx hc;clear hn hn2 hc;have bcell : ∀ {W w1 : World},Below W.heap.size W w1 → (∀ b o,b < W.heap.size → w1.cell? ⟨b,o,none⟩ = W.cell? ⟨b,o,none⟩):=fun hb b o h => hb.cell (p:=⟨b,o,none⟩) h
 have HCELL:=zx @bcell;clear bcell;have hcN:=hbl;cases b1 with
 | false =>
  go_enter Try.func108,Try.ntmps108
  go_wp2_with (go_at_call 109; refine (hhas _ _ ?h1 ?h2).mono ?_; (case h1 => repeat (first | exact Below.refl _ _ | apply below_alloc)); (case h2 => exact heap_alloc_at (by simp)); rintro e w1 ⟨rfl,hb'⟩)
  go_ret;exact ⟨rfl,below_then (below_alloc (below_alloc (Below.refl _ _) _) _) (by simp; omega) hb'⟩
 | true =>
  by_cases hft : x.f0 = x.f1
  case pos =>
   have e1 : (x.f0 == x.f1) = true:=by simpa using hft
   clear hft;rw [e1]
   go_enter Try.func108,Try.ntmps108
   go_wp2_with (go_at_call 109; refine (hhas _ _ ?h1 ?h2).mono ?_; (case h1 => repeat (first | exact Below.refl _ _ | apply below_alloc)); (case h2 => exact heap_alloc_at (by simp)); rintro e w1 ⟨rfl,hb'⟩; have hc1:=HCELL.out hb'; have HB1:=zx hb'; clear hb')
   go_ret;exact ⟨rfl,by repeat (first | apply pw_below_drewN | exact below_then (below_alloc (below_alloc (Below.refl _ _) _) _) (by simp; omega) HB1.out)⟩
  have e1 : (x.f0 == x.f1) = false:=by simpa using hft
  clear hft;rw [e1];cases b2 with
  | false =>
   go_enter Try.func108,Try.ntmps108
   go_wp2_with (first | (go_at_call 109; refine (hhas _ _ ?h1 ?h2).mono ?_; (case h1 => repeat (first | exact Below.refl _ _ | apply below_alloc)); (case h2 => exact heap_alloc_at (by simp)); rintro e w1 ⟨rfl,hb'⟩; have hc1:=HCELL.out hb'; have HB1:=zx hb'; clear hb') | (go_at_call 81; (with_reducible refine (hc2 _).mono ?_); rintro e w2 ⟨rfl,⟨nd2,rfl⟩⟩))
   go_ret;exact ⟨rfl,by repeat (first | apply pw_below_drewN | exact below_then (below_alloc (below_alloc (Below.refl _ _) _) _) (by simp; omega) HB1.out)⟩
  | true =>
   cases b3 with
   | false =>
    go_enter Try.func108,Try.ntmps108
    go_wp2_with (first | (go_at_call 109; refine (hhas _ _ ?h1 ?h2).mono ?_; (case h1 => repeat (first | exact Below.refl _ _ | apply below_alloc)); (case h2 => exact heap_alloc_at (by simp)); rintro e w1 ⟨rfl,hb'⟩; have hc1:=HCELL.out hb'; have HB1:=zx hb'; clear hb') | (go_at_call 81; (with_reducible refine (hc2 _).mono ?_); rintro e w2 ⟨rfl,⟨nd2,rfl⟩⟩) | (go_at_call 81; (with_reducible refine (hc3 _).mono ?_); rintro e w3 ⟨rfl,⟨nd3,rfl⟩⟩))
    go_ret;exact ⟨rfl,by repeat (first | apply pw_below_drewN | exact below_then (below_alloc (below_alloc (Below.refl _ _) _) _) (by simp; omega) HB1.out)⟩
   | true =>
    go_enter Try.func108,Try.ntmps108
    go_wp2_with (first | (go_at_call 109; refine (hhas _ _ ?h1 ?h2).mono ?_; (case h1 => repeat (first | exact Below.refl _ _ | apply below_alloc)); (case h2 => exact heap_alloc_at (by simp)); rintro e w1 ⟨rfl,hb'⟩; have hc1:=HCELL.out hb'; have HB1:=zx hb'; clear hb') | (go_at_call 81; (with_reducible refine (hc2 _).mono ?_); rintro e w2 ⟨rfl,⟨nd2,rfl⟩⟩) | (go_at_call 81; (with_reducible refine (hc3 _).mono ?_); rintro e w3 ⟨rfl,⟨nd3,rfl⟩⟩) | (go_at_call 82; refine (hload _).mono ?_; rintro e w4 ⟨rfl,⟨nd4,rfl⟩⟩))
    go_ret;exact ⟨by cases b5 <;> rfl,by repeat (first | apply pw_below_drewN | exact below_then (below_alloc (below_alloc (Below.refl _ _) _) _) (by simp; omega) HB1.out)⟩
set_option maxHeartbeats 8000000 in
set_option maxRecDepth 100000 in
theorem impl_NetOk.calls (a0_0 : Int) (A0_1 : Option Addr) (c0_1 : Nat) (l0_1 : List S58) (r : Bool) (w : World) (p0 : Kd.C k58 w A0_1 l0_1.length l0_1) (p1 : l0_1.length ≤ c0_1) (h : impl_NetOk.f a0_0 l0_1 = some r) :
  Calls Try.prog 51 #[.agg #[.int .i64 a0_0,.slice A0_1 l0_1.length c0_1]] w fun e w' => e = .returned (.bool r) ∧ Below w.heap.size w w':=by
 have hw1:=fun (W : World) => impl_within.calls a0_0 1 8 (decide (1 ≤ a0_0) && decide (a0_0 ≤ 8)) W (by
  unfold impl_within.f
  by_cases h : a0_0 ≥ 1
  case pos => rw [if_pos h]; simp [show (1 : Int) ≤ a0_0 from h]
  rw [if_neg h]; simp [show ¬ (1 : Int) ≤ a0_0 from h])
 obtain rfl:=Option.some.inj h;clear h;have hu:=Try.underlying34
 by_cases hn : 1 ≤ a0_0 ∧ a0_0 ≤ 8
 case neg =>
  have e0 : (decide (1 ≤ a0_0) && decide (a0_0 ≤ 8)) = false:=by
   rw [Bool.and_eq_false_iff]
   by_cases h1 : 1 ≤ a0_0
   case neg => exact .inl (decide_eq_false h1)
   exact .inr (decide_eq_false (fun h2 => hn ⟨h1,h2⟩))
  rw [e0] at hw1 ⊢;clear hn e0
  go_enter Try.func51,Try.ntmps51
  go_wp2_with (first | (go_at_call 82; refine (hw1 _).mono ?_; rintro e w1 ⟨rfl,⟨nd,rfl⟩⟩))
  go_ret;exact ⟨by simp,pw_below_drewN (below_alloc (Below.refl _ _) _) _⟩
 obtain ⟨hn1,hn2⟩:=hn;rw [decide_eq_true hn1,decide_eq_true hn2] at hw1;rw [decide_eq_true hn1,decide_eq_true hn2];have hbox:=fun (nd : Nat) => slices_ContainsFunc_Arc.calls (fun v => !okArc a0_0 v) 108 #[.pointer (some ⟨w.heap.size,0,none⟩)] (enters_of Try.func108 (by kernel_rfl) rfl) A0_1 c0_1 l0_1 ((w.alloc (.cells #[.int .i64 a0_0,.slice A0_1 l0_1.length c0_1] 34)).drewN nd) (Kd.C_below p0 (pw_below_drewN (below_alloc (Below.refl _ _) _) nd)) p1
  (fun W x _ hB => NetOk_closure x a0_0 w.heap.size A0_1 c0_1 l0_1 W hn1 hn2 (Kd.C_below p0 (below_then (pw_below_drewN (below_alloc (Below.refl _ _) _) nd) (by simp) hB)) p1 ((hB.block w.heap.size (by simp)).trans (heap_alloc_new w _)))
 have hall : (!(l0_1.any fun v => !okArc a0_0 v)) = l0_1.all (okArc a0_0):=by
  rw [List.not_any_eq_all_not]
  congr 1
  funext v
  simp
 rw [← hall];clear hall p0 p1 hn1 hn2;generalize (l0_1.any fun v => !okArc a0_0 v) = b at hbox
 by_cases hl : (l0_1.length : Int) ≤ 16
 case neg =>
  have e1 : decide ((l0_1.length : Int) ≤ 16) = false:=decide_eq_false hl;have e2 : decide (l0_1.length ≤ 16) = false:=decide_eq_false (by omega);rw [e1];clear hl
  go_enter Try.func51,Try.ntmps51
  go_wp2_with (first | (go_at_call 82; refine (hw1 _).mono ?_; rintro e w1 ⟨rfl,⟨nd,rfl⟩⟩))
  go_ret;exact ⟨rfl,pw_below_drewN (below_alloc (Below.refl _ _) _) _⟩
 have e1 : decide ((l0_1.length : Int) ≤ 16) = true:=decide_eq_true hl;have e2 : decide (l0_1.length ≤ 16) = true:=decide_eq_true (by omega);rw [e1];clear hl
 go_enter Try.func51,Try.ntmps51
 go_wp2_with (first | (go_at_call 82; refine (hw1 _).mono ?_; rintro e w1 ⟨rfl,⟨nd,rfl⟩⟩) | (go_at_call 107; refine (hbox _).mono ?_; rintro e w2 ⟨rfl,hb'⟩))
 go_ret;exact ⟨by cases b <;> rfl,below_then (pw_below_drewN (below_alloc (Below.refl _ _) _) _) (by simp) hb'⟩
def impl_nodesIn.f (a0_0 : Int) (l0_1 : List (S58)) (l1 : List Int) : Option (Bool):=(impl_NetOk.f a0_0 l0_1).bind fun t725 => (if t725 = true then ((impl_Net_has.f a0_0 l0_1 l1).bind fun t726 => (some t726)) else (some false))
set_option maxHeartbeats 8000000 in
set_option maxRecDepth 100000 in
theorem impl_nodesIn.calls (a0_0 : Int) (A0_1 : Option Addr) (c0_1 : Nat) (l0_1 : List (S58)) (A1 : Option Addr) (c1 : Nat) (l1 : List Int) (r : Bool) (w : World) (hr0_1 : Kd.C k58 w A0_1 l0_1.length l0_1) (hc0_1 : l0_1.length ≤ c0_1) (hr1 : Kd.C (Kd.int .i64) w A1 l1.length l1) (hc1 : l1.length ≤ c1) (h : impl_nodesIn.f a0_0 l0_1 l1 = some r) :
  Calls Try.prog 99 #[.agg #[.int .i64 a0_0,.slice A0_1 l0_1.length c0_1],.slice A1 l1.length c1] w fun e w' => e = .returned (.bool r) ∧ Below w.heap.size w w':=by
 have hu34:=Try.underlying34;have p2:=zx hr0_1;have p3:=zx hc0_1;clear hr0_1 hc0_1;have HR1:=zx hr1;have HC1:=zx hc1;clear hr1 hc1;have HB:=zx (Below.refl w.heap.size w);have H : ((impl_NetOk.f a0_0 l0_1).bind fun t725 => (if t725 = true then ((impl_Net_has.f a0_0 l0_1 l1).bind fun t726 => (some t726)) else (some false))) = some r:=h;clear h;replace H:=Option.bind_eq_some_iff.mp H;obtain ⟨t725,A30,H⟩:=H;replace H : (if t725 = true then ((impl_Net_has.f a0_0 l0_1 l1).bind fun t726 => (some t726)) else (some false)) = some r:=H;have A3:=zx A30;clear A30
 by_cases c4 : t725 = true
 case neg =>
  replace c4:=Bool.eq_false_iff.mpr c4;subst c4;have H1 : (some false) = some r:=by rw [if_neg (show ¬ (false = true) by decide)] at H; exact H
  clear H;have H:=H1;clear H1;obtain rfl:=Option.some.inj H
  go_enter Try.func99,Try.ntmps99
  go_wp2_with (first | ((with_reducible refine gate_dst (N:=2) rfl ?_); refine box_event ?hg (N:=2) ?hd (cs:=#[.int .i64 a0_0,.slice A0_1 l0_1.length c0_1]) (t:=34) ?hr ?_; (case hd => rfl); (case hg => rfl); (case hr => first | (go_simp; done) | (go_simp; rfl)); intro p1 hg w11 hbox hb; have n0_:=zx (below_step HB.out hb); have n1_:=zx (hbox); have n2_:=zx ((by rw [hg]; exact (below_size HB.out) : w.heap.size ≤ p1)); have n3_:=zx ((by rw [hg]; exact (below_size HB.out) : w.heap.size ≤ p1)); clear HB; have HB:=n0_; have p0:=n1_; have GW724:=n2_; have p4:=n3_; clear n0_ n1_ n2_ n3_; clear hb hbox hg; have hcz12_0 : w11.cell? ⟨p1,0,none⟩ = some (.int .i64 a0_0):=(blk_cell p0.out 0).trans rfl; have hcz12_1 : w11.cell? ⟨p1,1,none⟩ = some (.slice A0_1 l0_1.length c0_1):=(blk_cell p0.out 1).trans rfl; have hfz12_0:=blk_frozen p0.out 0; have hfz12_1:=blk_frozen p0.out 1) | ((with_reducible refine gate_callee (f:=51) rfl ?_); refine goesL_ (some 6) rfl rfl Try.func51 (by kernel_rfl) rfl #[.agg #[.int .i64 a0_0,.slice A0_1 l0_1.length c0_1]] rfl (by (try simp only [List.map_toArray,List.map_cons,List.map_nil]); first | done | rfl | (simp only [List.length_drop,List.length_take]; rfl)) ?_; (with_reducible refine (impl_NetOk.calls a0_0 _ _ l0_1 false _ ?side1 ?side2 A3.out).mono ?_); (case side1 => repeat (first | exact (Kd.C_below p2.out HB.out) | (with_reducible refine Kd.C_alloc ?_ _) | (with_reducible refine Kd.C_drewN ?_ _) | (with_reducible refine Kd.C_drew ?_))); (case side2 => exact p3.out); rintro e w13 ⟨rfl,hb⟩; refine ⟨_,rfl,?_⟩; have n0_:=zx (blk_below (g:=p1) (o:=.cells #[.int .i64 a0_0,.slice A0_1 l0_1.length c0_1] 34 (0,0)) p0.out hb); have n1_:=zx (below_step HB.out hb); clear p0; clear HB; have p0:=n0_; have HB:=n1_; clear n0_ n1_; (try clear hb); (try clear hb2); (try clear hk); (try clear hi)))
  go_ret;exact ⟨by first | rfl | (simp [errW_none,errW_some] <;> rfl) | (simp [*,errW_none,errW_some] <;> rfl),by repeat (first | (with_reducible first | exact HB.out | apply below_alloc | apply pw_below_drewN | apply below_drew1 | refine below_set ?_ p4.out) | exact HB.out)⟩
 subst c4;have H1 : ((impl_Net_has.f a0_0 l0_1 l1).bind fun t726 => (some t726)) = some r:=by rw [if_pos rfl] at H; exact H
 clear H;have H:=H1;clear H1;replace H:=Option.bind_eq_some_iff.mp H;obtain ⟨t726,A50,H⟩:=H;replace H : (some t726) = some r:=H;have A5:=zx A50;clear A50;obtain rfl:=Option.some.inj H
 go_enter Try.func99,Try.ntmps99
 go_wp2_with (first | ((with_reducible refine gate_dst (N:=2) rfl ?_); refine box_event ?hg (N:=2) ?hd (cs:=#[.int .i64 a0_0,.slice A0_1 l0_1.length c0_1]) (t:=34) ?hr ?_; (case hd => rfl); (case hg => rfl); (case hr => first | (go_simp; done) | (go_simp; rfl)); intro p1 hg w6 hbox hb; have n0_:=zx (below_step HB.out hb); have n1_:=zx (hbox); have n2_:=zx ((by rw [hg]; exact (below_size HB.out) : w.heap.size ≤ p1)); have n3_:=zx ((by rw [hg]; exact (below_size HB.out) : w.heap.size ≤ p1)); clear HB; have HB:=n0_; have p0:=n1_; have GW724:=n2_; have p4:=n3_; clear n0_ n1_ n2_ n3_; clear hb hbox hg; have hcz7_0 : w6.cell? ⟨p1,0,none⟩ = some (.int .i64 a0_0):=(blk_cell p0.out 0).trans rfl; have hcz7_1 : w6.cell? ⟨p1,1,none⟩ = some (.slice A0_1 l0_1.length c0_1):=(blk_cell p0.out 1).trans rfl; have hfz7_0:=blk_frozen p0.out 0; have hfz7_1:=blk_frozen p0.out 1) | ((with_reducible refine gate_callee (f:=51) rfl ?_); refine goesL_ (some 6) rfl rfl Try.func51 (by kernel_rfl) rfl #[.agg #[.int .i64 a0_0,.slice A0_1 l0_1.length c0_1]] rfl (by (try simp only [List.map_toArray,List.map_cons,List.map_nil]); first | done | rfl | (simp only [List.length_drop,List.length_take]; rfl)) ?_; (with_reducible refine (impl_NetOk.calls a0_0 _ _ l0_1 true _ ?side1 ?side2 A3.out).mono ?_); (case side1 => repeat (first | exact (Kd.C_below p2.out HB.out) | (with_reducible refine Kd.C_alloc ?_ _) | (with_reducible refine Kd.C_drewN ?_ _) | (with_reducible refine Kd.C_drew ?_))); (case side2 => exact p3.out); rintro e w8 ⟨rfl,hb⟩; refine ⟨_,rfl,?_⟩; have n0_:=zx (blk_below (g:=p1) (o:=.cells #[.int .i64 a0_0,.slice A0_1 l0_1.length c0_1] 34 (0,0)) p0.out hb); have n1_:=zx (below_step HB.out hb); clear p0; clear HB; have p0:=n0_; have HB:=n1_; clear n0_ n1_; (try clear hb); (try clear hb2); (try clear hk); (try clear hi); have hcz9_0 : w8.cell? ⟨p1,0,none⟩ = some (.int .i64 a0_0):=(blk_cell p0.out 0).trans rfl; have hcz9_1 : w8.cell? ⟨p1,1,none⟩ = some (.slice A0_1 l0_1.length c0_1):=(blk_cell p0.out 1).trans rfl; have hfz9_0:=blk_frozen p0.out 0; have hfz9_1:=blk_frozen p0.out 1) | (go_at_call 109; (with_reducible refine (impl_Net_has.calls a0_0 _ _ l0_1 _ _ l1 t726 _ ?side1 ?side2 ?side3 ?side4 A5.out).mono ?_); (case side1 => repeat (first | exact (Kd.C_below p2.out HB.out) | (with_reducible refine Kd.C_alloc ?_ _) | (with_reducible refine Kd.C_drewN ?_ _) | (with_reducible refine Kd.C_drew ?_))); (case side2 => exact p3.out); (case side3 => repeat (first | exact (Kd.C_below HR1.out HB.out) | (with_reducible refine Kd.C_alloc ?_ _) | (with_reducible refine Kd.C_drewN ?_ _) | (with_reducible refine Kd.C_drew ?_))); (case side4 => exact HC1.out); rintro e w10 ⟨rfl,hb⟩; have n0_:=zx (blk_below (g:=p1) (o:=.cells #[.int .i64 a0_0,.slice A0_1 l0_1.length c0_1] 34 (0,0)) p0.out hb); have n1_:=zx (below_step HB.out hb); clear p0; clear HB; have p0:=n0_; have HB:=n1_; clear n0_ n1_; (try clear hb); (try clear hb2); (try clear hk); (try clear hi)))
 go_ret;exact ⟨by first | rfl | (simp [errW_none,errW_some] <;> rfl) | (simp [*,errW_none,errW_some] <;> rfl),by repeat (first | (with_reducible first | exact HB.out | apply below_alloc | apply pw_below_drewN | apply below_drew1 | refine below_set ?_ p4.out) | exact HB.out)⟩
def impl_apart.f (a0_0 : Int) (l0_1 : List (S58)) (a1 : Int) (a2 : Int) : Option (Bool):=(impl_nodesIn.f a0_0 l0_1 (([a1,a2] : List Int))).bind fun t731 => (if t731 = true then (some (a1 != a2)) else (some false))
set_option maxHeartbeats 8000000 in
set_option maxRecDepth 100000 in
theorem impl_apart.calls (a0_0 : Int) (A0_1 : Option Addr) (c0_1 : Nat) (l0_1 : List (S58)) (a1 : Int) (a2 : Int) (r : Bool) (w : World) (hr0_1 : Kd.C k58 w A0_1 l0_1.length l0_1) (hc0_1 : l0_1.length ≤ c0_1) (h : impl_apart.f a0_0 l0_1 a1 a2 = some r) :
  Calls Try.prog 89 #[.agg #[.int .i64 a0_0,.slice A0_1 l0_1.length c0_1],.int .i64 a1,.int .i64 a2] w fun e w' => e = .returned (.bool r) ∧ Below w.heap.size w w':=by
 have hu34:=Try.underlying34;have HR0_1:=zx hr0_1;have HC0_1:=zx hc0_1;clear hr0_1 hc0_1;have HB:=zx (Below.refl w.heap.size w);have H : ((impl_nodesIn.f a0_0 l0_1 (([a1,a2] : List Int))).bind fun t731 => (if t731 = true then (some (a1 != a2)) else (some false))) = some r:=h;clear h;obtain ⟨y728,hy728⟩ : ∃ y_ : List Int,y_ = (([a1,a2] : List Int)):=⟨_,rfl⟩
 replace H : ((impl_nodesIn.f a0_0 l0_1 y728).bind fun t731 => (if t731 = true then (some (a1 != a2)) else (some false))) = some r:=by first | (rw [hy728]; with_reducible exact H) | (have H2_:=(Option.bind_some _ _).symm.trans H; rw [hy728]; with_reducible exact H2_) | (have H2_:=(Option.bind_some _ _).symm.trans H; with_reducible exact H2_) | with_reducible exact H | (rw [hy728]; exact H) | exact H
 have p2:=zx hy728;clear hy728;replace H:=Option.bind_eq_some_iff.mp H;obtain ⟨t731,A40,H⟩:=H;replace H : (if t731 = true then (some (a1 != a2)) else (some false)) = some r:=H;have A4:=zx A40;clear A40
 by_cases c5 : t731 = true
 case pos =>
  subst c5;have H1 : (some (a1 != a2)) = some r:=by rw [if_pos rfl] at H; exact H
  clear H;have H:=H1;clear H1;obtain rfl:=Option.some.inj H
  go_enter Try.func89,Try.ntmps89
  go_wp2_with (first | ((with_reducible refine gate_dst (N:=3) rfl ?_); refine box_event ?hg (N:=3) ?hd (cs:=#[.int .i64 a0_0,.slice A0_1 l0_1.length c0_1]) (t:=34) ?hr ?_; (case hd => rfl); (case hg => rfl); (case hr => first | (go_simp; done) | (go_simp; rfl)); intro p1 hg w6 hbox hb; have n0_:=zx (below_step HB.out hb); have n1_:=zx (hbox); have n2_:=zx ((by rw [hg]; exact (below_size HB.out) : w.heap.size ≤ p1)); have n3_:=zx ((by rw [hg]; exact (below_size HB.out) : w.heap.size ≤ p1)); clear HB; have HB:=n0_; have p0:=n1_; have GW727:=n2_; have p3:=n3_; clear n0_ n1_ n2_ n3_; clear hb hbox hg; have hcz7_0 : w6.cell? ⟨p1,0,none⟩ = some (.int .i64 a0_0):=(blk_cell p0.out 0).trans rfl; have hcz7_1 : w6.cell? ⟨p1,1,none⟩ = some (.slice A0_1 l0_1.length c0_1):=(blk_cell p0.out 1).trans rfl; have hfz7_0:=blk_frozen p0.out 0; have hfz7_1:=blk_frozen p0.out 1) | ((with_reducible refine gate_dst (N:=10) rfl ?_); refine Kd.R_lit (Kd.int .i64) _ 3 ?hg (N:=10) ?hd (xs:=([a1,a2] : List Int)) (inner:=[.int .i64 a1,.int .i64 a2]) (ok:=fun _ => True) (okp:=fun _ => True) ?hr ?hp (fun _ hk => hk) trivial (Below.refl _ _) (Nat.le_refl _) (by simp) ?_; (case hd => rfl); (case hg => rfl); (case hr => first | (go_simp; done) | (go_simp; rfl)); (case hp => exact (Reps.one (show Kd.M (Kd.int .i64) _ _ _ a1 [.int .i64 a1] from rfl) (Reps.one (show Kd.M (Kd.int .i64) _ _ _ a2 [.int .i64 a2] from rfl) (Reps.none _ _)))); intro v729 w8 ho9 hb hg_ hnew_; clear hg_ hnew_; (first | rw [← p2.out] at ho9 | (simp only [Int.reduceToNat] at ho9; rw [← p2.out] at ho9)); have n0_:=zx (Kd.R_lower ho9 (below_size HB.out)); have n1_:=zx (blk_below (g:=p1) (o:=.cells #[.int .i64 a0_0,.slice A0_1 l0_1.length c0_1] 34 (0,0)) p0.out hb); have n2_:=zx (below_step HB.out hb); clear p0; clear HB; have HO730:=n0_; have p0:=n1_; have HB:=n2_; clear n0_ n1_ n2_; clear hb ho9; obtain ⟨Ao10,co10,eo10⟩:=Kd.R_slice HO730.out; subst eo10) | ((with_reducible refine gate_callee (f:=99) rfl ?_); refine goesL_ (some 11) rfl rfl Try.func99 (by kernel_rfl) rfl #[.agg #[.int .i64 a0_0,.slice A0_1 l0_1.length c0_1],.slice Ao10 y728.length co10] rfl (by (try simp only [List.map_toArray,List.map_cons,List.map_nil]); first | done | rfl | (simp only [List.length_drop,List.length_take]; rfl)) ?_; (with_reducible refine (impl_nodesIn.calls a0_0 _ _ l0_1 _ _ y728 true _ ?side1 ?side2 ?side3 ?side4 A4.out).mono ?_); (case side1 => repeat (first | exact (Kd.C_below HR0_1.out HB.out) | (with_reducible refine Kd.C_alloc ?_ _) | (with_reducible refine Kd.C_drewN ?_ _) | (with_reducible refine Kd.C_drew ?_))); (case side2 => exact HC0_1.out); (case side3 => repeat (first | exact (Kd.R_reads' HO730.out).2.2 | (with_reducible refine Kd.C_alloc ?_ _) | (with_reducible refine Kd.C_drewN ?_ _) | (with_reducible refine Kd.C_drew ?_))); (case side4 => exact (Kd.R_reads' HO730.out).2.1); rintro e w11 ⟨rfl,hb⟩; refine ⟨_,rfl,?_⟩; have n0_:=zx (Kd.R_below HO730.out hb); have n1_:=zx (blk_below (g:=p1) (o:=.cells #[.int .i64 a0_0,.slice A0_1 l0_1.length c0_1] 34 (0,0)) p0.out hb); have n2_:=zx (below_step HB.out hb); clear HO730; clear p0; clear HB; have HO730:=n0_; have p0:=n1_; have HB:=n2_; clear n0_ n1_ n2_; (try clear hb); (try clear hb2); (try clear hk); (try clear hi)))
  go_ret;exact ⟨by first | rfl | (simp [errW_none,errW_some] <;> rfl) | (simp [*,errW_none,errW_some] <;> rfl),by repeat (first | (with_reducible first | exact HB.out | apply below_alloc | apply pw_below_drewN | apply below_drew1 | refine below_set ?_ p3.out) | exact HB.out)⟩
 replace c5:=Bool.eq_false_iff.mpr c5;subst c5;have H1 : (some false) = some r:=by rw [if_neg (show ¬ (false = true) by decide)] at H; exact H
 clear H;have H:=H1;clear H1;obtain rfl:=Option.some.inj H
 go_enter Try.func89,Try.ntmps89
 go_wp2_with (first | ((with_reducible refine gate_dst (N:=3) rfl ?_); refine box_event ?hg (N:=3) ?hd (cs:=#[.int .i64 a0_0,.slice A0_1 l0_1.length c0_1]) (t:=34) ?hr ?_; (case hd => rfl); (case hg => rfl); (case hr => first | (go_simp; done) | (go_simp; rfl)); intro p1 hg w12 hbox hb; have n0_:=zx (below_step HB.out hb); have n1_:=zx (hbox); have n2_:=zx ((by rw [hg]; exact (below_size HB.out) : w.heap.size ≤ p1)); have n3_:=zx ((by rw [hg]; exact (below_size HB.out) : w.heap.size ≤ p1)); clear HB; have HB:=n0_; have p0:=n1_; have GW727:=n2_; have p3:=n3_; clear n0_ n1_ n2_ n3_; clear hb hbox hg; have hcz13_0 : w12.cell? ⟨p1,0,none⟩ = some (.int .i64 a0_0):=(blk_cell p0.out 0).trans rfl; have hcz13_1 : w12.cell? ⟨p1,1,none⟩ = some (.slice A0_1 l0_1.length c0_1):=(blk_cell p0.out 1).trans rfl; have hfz13_0:=blk_frozen p0.out 0; have hfz13_1:=blk_frozen p0.out 1) | ((with_reducible refine gate_dst (N:=10) rfl ?_); refine Kd.R_lit (Kd.int .i64) _ 3 ?hg (N:=10) ?hd (xs:=([a1,a2] : List Int)) (inner:=[.int .i64 a1,.int .i64 a2]) (ok:=fun _ => True) (okp:=fun _ => True) ?hr ?hp (fun _ hk => hk) trivial (Below.refl _ _) (Nat.le_refl _) (by simp) ?_; (case hd => rfl); (case hg => rfl); (case hr => first | (go_simp; done) | (go_simp; rfl)); (case hp => exact (Reps.one (show Kd.M (Kd.int .i64) _ _ _ a1 [.int .i64 a1] from rfl) (Reps.one (show Kd.M (Kd.int .i64) _ _ _ a2 [.int .i64 a2] from rfl) (Reps.none _ _)))); intro v729 w14 ho15 hb hg_ hnew_; clear hg_ hnew_; (first | rw [← p2.out] at ho15 | (simp only [Int.reduceToNat] at ho15; rw [← p2.out] at ho15)); have n0_:=zx (Kd.R_lower ho15 (below_size HB.out)); have n1_:=zx (blk_below (g:=p1) (o:=.cells #[.int .i64 a0_0,.slice A0_1 l0_1.length c0_1] 34 (0,0)) p0.out hb); have n2_:=zx (below_step HB.out hb); clear p0; clear HB; have HO730:=n0_; have p0:=n1_; have HB:=n2_; clear n0_ n1_ n2_; clear hb ho15; obtain ⟨Ao16,co16,eo16⟩:=Kd.R_slice HO730.out; subst eo16) | ((with_reducible refine gate_callee (f:=99) rfl ?_); refine goesL_ (some 11) rfl rfl Try.func99 (by kernel_rfl) rfl #[.agg #[.int .i64 a0_0,.slice A0_1 l0_1.length c0_1],.slice Ao16 y728.length co16] rfl (by (try simp only [List.map_toArray,List.map_cons,List.map_nil]); first | done | rfl | (simp only [List.length_drop,List.length_take]; rfl)) ?_; (with_reducible refine (impl_nodesIn.calls a0_0 _ _ l0_1 _ _ y728 false _ ?side1 ?side2 ?side3 ?side4 A4.out).mono ?_); (case side1 => repeat (first | exact (Kd.C_below HR0_1.out HB.out) | (with_reducible refine Kd.C_alloc ?_ _) | (with_reducible refine Kd.C_drewN ?_ _) | (with_reducible refine Kd.C_drew ?_))); (case side2 => exact HC0_1.out); (case side3 => repeat (first | exact (Kd.R_reads' HO730.out).2.2 | (with_reducible refine Kd.C_alloc ?_ _) | (with_reducible refine Kd.C_drewN ?_ _) | (with_reducible refine Kd.C_drew ?_))); (case side4 => exact (Kd.R_reads' HO730.out).2.1); rintro e w17 ⟨rfl,hb⟩; refine ⟨_,rfl,?_⟩; have n0_:=zx (Kd.R_below HO730.out hb); have n1_:=zx (blk_below (g:=p1) (o:=.cells #[.int .i64 a0_0,.slice A0_1 l0_1.length c0_1] 34 (0,0)) p0.out hb); have n2_:=zx (below_step HB.out hb); clear HO730; clear p0; clear HB; have HO730:=n0_; have p0:=n1_; have HB:=n2_; clear n0_ n1_ n2_; (try clear hb); (try clear hb2); (try clear hk); (try clear hi)))
 go_ret;exact ⟨by first | rfl | (simp [errW_none,errW_some] <;> rfl) | (simp [*,errW_none,errW_some] <;> rfl),by repeat (first | (with_reducible first | exact HB.out | apply below_alloc | apply pw_below_drewN | apply below_drew1 | refine below_set ?_ p3.out) | exact HB.out)⟩
abbrev Y:=true
abbrev J:=false
mutual
def impl_FlowValue.j0 : Nat → List Int → Int → Int → Bool → Int → List (S58) → Option (Int × Bool)
 | 0,_,_,_,_,_,_ => none
 | k + 1,x1,x2,x3,x27,t1,t3 => if x27 = true then (some (0,false)) else (if 0 ≤ t1 then (if (t1 : Int).toNat ≤ 35184372088832 then (impl_FlowValue.l0 k x1 x2 x3 (List.replicate (t1 : Int).toNat 0) t3 (t3.length : Int) 0) else (none)) else (none))
def impl_FlowValue.l0 : Nat → List Int → Int → Int → List Int → List (S58) → Int → Int → Option (Int × Bool)
 | 0,_,_,_,_,_,_,_ => none
 | k + 1,x1,x2,x3,x10,x32,x33,x34 => if x34 < x33 then (if 0 ≤ x34 then (if x34 < (x32.length : Int) then (if x34 < (x1.length : Int) then ((impl_within.f (rd x1 x34) 0 ((rd_T58 x32 x34).f4)).bind fun t740 => (if t740 = true then (if 0 ≤ ((rd_T58 x32 x34).f0) then (if ((rd_T58 x32 x34).f0) < (x10.length : Int) then ((some (x10.set (((rd_T58 x32 x34).f0) : Int).toNat (wrap64 ((rd x10 ((rd_T58 x32 x34).f0)) + (rd x1 x34))) : List Int)).bind fun y743 => (if 0 ≤ ((rd_T58 x32 x34).f1) then (if ((rd_T58 x32 x34).f1) < (x10.length : Int) then (impl_FlowValue.l0 k x1 x2 x3 (y743.set (((rd_T58 x32 x34).f1) : Int).toNat (wrap64 ((rd y743 ((rd_T58 x32 x34).f1)) - (rd x1 x34)))) x32 x33 (wrap64 (x34 + 1))) else (none)) else (none))) else (none)) else (none)) else (some (0,false)))) else (none)) else (none)) else (none)) else (impl_FlowValue.l1 k x2 x3 x10 (x10.length : Int) 0)
def impl_FlowValue.l1 : Nat → Int → Int → List Int → Int → Int → Option (Int × Bool)
 | 0,_,_,_,_,_ => none
 | k + 1,x2,x3,x10,x71,x72 => if x72 < x71 then (if 0 ≤ x72 then (if x72 < (x10.length : Int) then (if (rd x10 x72) = 0 then (impl_FlowValue.l1 k x2 x3 x10 x71 (wrap64 (x72 + 1))) else (if x72 = x2 then (impl_FlowValue.l1 k x2 x3 x10 x71 (wrap64 (x72 + 1))) else (if x72 = x3 then (impl_FlowValue.l1 k x2 x3 x10 x71 (wrap64 (x72 + 1))) else (some (0,false))))) else (none)) else (none)) else (if 0 ≤ x2 then (if x2 < (x10.length : Int) then (some (rd x10 x2,true)) else (none)) else (none))
end
def impl_FlowValue.f (k : Nat) (a0_0 : Int) (l0_1 : List (S58)) (l1 : List Int) (a2 : Int) (a3 : Int) : Option (Int × Bool):=(impl_apart.f a0_0 l0_1 a2 a3).bind fun t733 => (if t733 = true then (impl_FlowValue.j0 k l1 a2 a3 ((l1.length : Int) != (l0_1.length : Int)) a0_0 l0_1) else (impl_FlowValue.j0 k l1 a2 a3 true a0_0 l0_1))
def impl_FlowValue.T7 : Bool × List (List Nat × List Nat):=(true,[([],[]),([],[]),([0,1],[0,1]),([2],[2]),([],[]),([4],[4]),([3,5],[3,5]),([6],[6])])
def impl_FlowValue.B7 : List Nat:=[0,0,3,7,0,16,63,127]
theorem impl_FlowValue.tab7 : rtab .any (opsOf Try.f34 7) = impl_FlowValue.T7:=by kernel_rfl
theorem impl_FlowValue.bits7 : waitsOk impl_FlowValue.T7.2 impl_FlowValue.B7 = true:=by kernel_rfl
def impl_FlowValue.T9 : Bool × List (List Nat × List Nat):=(true,[([],[]),([],[]),([1],[1]),([0,2],[0,2]),([3],[3]),([],[]),([],[]),([5,6],[5,6]),([7],[7]),([4,8],[4,8]),([0,2,0,1,2,3,4,5,6,7,8,9],[0,2]),([10,9,0,1,2,3,4,5,6,7,8,9],[9,10])])
def impl_FlowValue.B9 : List Nat:=[0,0,2,7,15,0,0,96,224,511,1023,2047]
theorem impl_FlowValue.tab9 : rtab .any (opsOf Try.f34 9) = impl_FlowValue.T9:=by kernel_rfl
theorem impl_FlowValue.bits9 : waitsOk impl_FlowValue.T9.2 impl_FlowValue.B9 = true:=by kernel_rfl
def impl_FlowValue.T10 : Bool × List (List Nat × List Nat):=(true,[([],[]),([],[]),([1],[1]),([0,2],[0,2]),([3],[3]),([],[]),([],[]),([5,6],[5,6]),([7],[7]),([4,8],[4,8]),([0,2,0,1,2,3,4,5,6,7,8,9],[0,2]),([10,9,0,1,2,3,4,5,6,7,8,9],[9,10])])
def impl_FlowValue.B10 : List Nat:=[0,0,2,7,15,0,0,96,224,511,1023,2047]
theorem impl_FlowValue.tab10 : rtab .any (opsOf Try.f34 10) = impl_FlowValue.T10:=by kernel_rfl
theorem impl_FlowValue.bits10 : waitsOk impl_FlowValue.T10.2 impl_FlowValue.B10 = true:=by kernel_rfl
set_option maxHeartbeats 8000000 in
set_option maxRecDepth 100000 in
theorem impl_FlowValue.calls (k : Nat) (a0_0 : Int) (A0_1 : Option Addr) (c0_1 : Nat) (l0_1 : List (S58)) (A1 : Option Addr) (c1 : Nat) (l1 : List Int) (a2 : Int) (a3 : Int) (r1 : Int) (r2 : Bool) (w : World) (hr0_1 : Kd.C k58 w A0_1 l0_1.length l0_1) (hc0_1 : l0_1.length ≤ c0_1) (hr1 : Kd.C (Kd.int .i64) w A1 l1.length l1) (hc1 : l1.length ≤ c1) (h : impl_FlowValue.f k a0_0 l0_1 l1 a2 a3 = some (r1,r2)) :
  Calls Try.prog 34 #[.agg #[.int .i64 a0_0,.slice A0_1 l0_1.length c0_1],.slice A1 l1.length c1,.int .i64 a2,.int .i64 a3] w fun e w' => e = .returned (.tuple #[.int .i64 r1,.bool r2]) ∧ Below w.heap.size w w':=by
 have hu34:=Try.underlying34;have hu58:=Try.underlying58;have t4:=zx hr0_1;have HC0_1:=zx hc0_1;clear hr0_1 hc0_1;have HR1:=zx hr1;have HC1:=zx hc1;clear hr1 hc1;have HB:=zx (Below.refl w.heap.size w);have H : ((impl_apart.f a0_0 l0_1 a2 a3).bind fun t733 => (if t733 = true then (impl_FlowValue.j0 k l1 a2 a3 ((l1.length : Int) != (l0_1.length : Int)) a0_0 l0_1) else (impl_FlowValue.j0 k l1 a2 a3 true a0_0 l0_1))) = some (r1,r2):=h;clear h;have HC5:=zx H;clear H
 go_enter Try.func34,Try.ntmps34
 go_upto_region 1 with (first | ((with_reducible refine gate_dst (N:=4) rfl ?_); (try (refine gate_guard (by rfl) ?_; dsimp only)); refine box_event ?hg (N:=4) ?hd (cs:=#[.int .i64 a0_0,.slice A0_1 l0_1.length c0_1]) (t:=34) ?hr ?_; (case hd => rfl); (case hg => rfl); (case hr => first | (go_simp; done) | (go_simp; rfl)); intro q1 hg w6 hbox hb; have n0_:=zx (below_step HB.out hb); have n1_:=zx (hbox); have n2_:=zx ((by rw [hg]; exact (below_size HB.out) : w.heap.size ≤ q1)); have n3_:=zx ((by rw [hg]; exact (below_size HB.out) : w.heap.size ≤ q1)); clear HB; have HB:=n0_; have p5:=n1_; have GW732:=n2_; have q6:=n3_; clear n0_ n1_ n2_ n3_; clear hb hbox hg))
 (try simp only [Act.put,U,V,Z])
 go_cut [27] (fun v27 wc => ∃ (kq : Nat) (t5 : Bool),v27 = .bool t5 ∧ Aside0 (impl_FlowValue.j0 kq l1 a2 a3 t5 a0_0 l0_1 = some (r1,r2)) ∧ Aside0 (kq ≤ k) ∧ Aside0 (wc.heap[q1]? = some (.cells #[.int .i64 a0_0,(.slice A0_1 l0_1.length c0_1)] 34 (0,0))) ∧ Aside0 (Below w.heap.size w wc))
 case first =>
  have H:=HC5.out;clear HC5;replace H:=Option.bind_eq_some_iff.mp H;obtain ⟨t733,A70,H⟩:=H;replace H : (if t733 = true then (impl_FlowValue.j0 k l1 a2 a3 ((l1.length : Int) != (l0_1.length : Int)) a0_0 l0_1) else (impl_FlowValue.j0 k l1 a2 a3 true a0_0 l0_1)) = some (r1,r2):=H;have A7:=zx A70;clear A70
  by_cases c8 : t733 = true
  case neg =>
   replace c8:=Bool.eq_false_iff.mpr c8;subst c8;have H1 : (impl_FlowValue.j0 k l1 a2 a3 true a0_0 l0_1) = some (r1,r2):=by rw [if_neg (show ¬ (false = true) by decide)] at H; exact H
   clear H;have H:=H1;clear H1;have H':=zx H;clear H;have u0 : w6.cell? ⟨q1,0,none⟩ = some (.int .i64 a0_0):=(blk_cell p5.out 0).trans rfl;have u1 : w6.cell? ⟨q1,1,none⟩ = some (.slice A0_1 l0_1.length c0_1):=(blk_cell p5.out 1).trans rfl;have u2:=blk_frozen p5.out 0;have u3:=blk_frozen p5.out 1
   go_wp2_with (first | ((with_reducible refine gate_callee (f:=89) rfl ?_); refine goesL_ (some 18) rfl rfl Try.func89 (by kernel_rfl) rfl #[.agg #[.int .i64 a0_0,.slice A0_1 l0_1.length c0_1],.int .i64 a2,.int .i64 a3] rfl (by (try simp only [List.map_toArray,List.map_cons,List.map_nil]); first | done | rfl | (simp only [List.length_drop,List.length_take]; rfl)) ?_; (with_reducible refine (impl_apart.calls a0_0 _ _ l0_1 a2 a3 false _ ?side1 ?side2 A7.out).mono ?_); (case side1 => repeat (first | exact (Kd.C_below t4.out HB.out) | (with_reducible refine Kd.C_alloc ?_ _) | (with_reducible refine Kd.C_drewN ?_ _) | (with_reducible refine Kd.C_drew ?_))); (case side2 => exact HC0_1.out); rintro e w13 ⟨rfl,hb⟩; refine ⟨_,rfl,?_⟩; have n0_:=zx (blk_below (g:=q1) (o:=.cells #[.int .i64 a0_0,.slice A0_1 l0_1.length c0_1] 34 (0,0)) p5.out hb); have n1_:=zx (below_step HB.out hb); clear p5; clear HB; have p5:=n0_; have HB:=n1_; clear n0_ n1_; (try clear hb); (try clear hb2); (try clear hk); (try clear hi)))
   go_meet
   case rel => exact ⟨_,(true),(by first | rfl | (simp; done) | (simp [*]; done)),H',⟨by first | omega | exact Nat.le_refl _⟩,⟨by (with_reducible repeat (first | refine blk_drewN ?_ _ | refine blk_drew ?_ | refine blk_alloc ?_ _)); exact p5.out⟩,⟨by repeat (first | (with_reducible first | exact HB.out | apply below_alloc | apply pw_below_drewN | apply below_drew1 | refine below_set ?_ q6.out) | exact HB.out)⟩⟩
  subst c8;have H1 : (impl_FlowValue.j0 k l1 a2 a3 ((l1.length : Int) != (l0_1.length : Int)) a0_0 l0_1) = some (r1,r2):=by rw [if_pos rfl] at H; exact H
  clear H;have H:=H1;clear H1;have H':=zx H;clear H;have u6 : w6.cell? ⟨q1,0,none⟩ = some (.int .i64 a0_0):=(blk_cell p5.out 0).trans rfl;have u7 : w6.cell? ⟨q1,1,none⟩ = some (.slice A0_1 l0_1.length c0_1):=(blk_cell p5.out 1).trans rfl;have u8:=blk_frozen p5.out 0;have u9:=blk_frozen p5.out 1
  go_wp2_with (first | ((with_reducible refine gate_callee (f:=89) rfl ?_); refine goesL_ (some 18) rfl rfl Try.func89 (by kernel_rfl) rfl #[.agg #[.int .i64 a0_0,.slice A0_1 l0_1.length c0_1],.int .i64 a2,.int .i64 a3] rfl (by (try simp only [List.map_toArray,List.map_cons,List.map_nil]); first | done | rfl | (simp only [List.length_drop,List.length_take]; rfl)) ?_; (with_reducible refine (impl_apart.calls a0_0 _ _ l0_1 a2 a3 true _ ?side1 ?side2 A7.out).mono ?_); (case side1 => repeat (first | exact (Kd.C_below t4.out HB.out) | (with_reducible refine Kd.C_alloc ?_ _) | (with_reducible refine Kd.C_drewN ?_ _) | (with_reducible refine Kd.C_drew ?_))); (case side2 => exact HC0_1.out); rintro e w10 ⟨rfl,hb⟩; refine ⟨_,rfl,?_⟩; have n0_:=zx (blk_below (g:=q1) (o:=.cells #[.int .i64 a0_0,.slice A0_1 l0_1.length c0_1] 34 (0,0)) p5.out hb); have n1_:=zx (below_step HB.out hb); clear p5; clear HB; have p5:=n0_; have HB:=n1_; clear n0_ n1_; (try clear hb); (try clear hb2); (try clear hk); (try clear hi); have t6 : w10.cell? ⟨q1,0,none⟩ = some (.int .i64 a0_0):=(blk_cell p5.out 0).trans rfl; have t7 : w10.cell? ⟨q1,1,none⟩ = some (.slice A0_1 l0_1.length c0_1):=(blk_cell p5.out 1).trans rfl; have t8:=blk_frozen p5.out 0; have t9:=blk_frozen p5.out 1))
  go_meet
  case rel => exact ⟨_,(((l1.length : Int) != (l0_1.length : Int))),(by first | rfl | (simp; done) | (simp [*]; done)),H',⟨by first | omega | exact Nat.le_refl _⟩,⟨by (with_reducible repeat (first | refine blk_drewN ?_ _ | refine blk_drew ?_ | refine blk_alloc ?_ _)); exact p5.out⟩,⟨by repeat (first | (with_reducible first | exact HB.out | apply below_alloc | apply pw_below_drewN | apply below_drew1 | refine below_set ?_ q6.out) | exact HB.out)⟩⟩
 case rest =>
  clear HC5
  try clear c1
  try clear p2
  try clear c3
  try clear c8
  try clear t6
  try clear t7
  try clear u0
  try clear u1
  try clear u6
  try clear u7
  try clear t8
  try clear t9
  try clear u2
  try clear u3
  try clear u8
  try clear u9
  obtain ⟨kq,t5,rfl,HA,HJ4,p5,HB⟩:=hcut;cases kq with
  | zero => exact absurd HA.out (by simp [impl_FlowValue.j0])
  | succ kj4 =>
   have H:=HA.out;clear HA;simp only [impl_FlowValue.j0] at H
   by_cases c14 : t5 = true
   case pos =>
    subst c14;have H1 : (some (0,false)) = some (r1,r2):=by rw [if_pos rfl] at H; exact H
    clear H;have H:=H1;clear H1;simp only [Option.some.injEq,Prod.mk.injEq] at H;obtain ⟨rfl,rfl⟩:=H
    go_wp2
    go_ret2;exact ⟨by first | rfl | (simp [errW_none,errW_some] <;> rfl) | (simp [*,errW_none,errW_some] <;> rfl),by repeat (first | (with_reducible first | exact HB.out | apply below_alloc | apply pw_below_drewN | apply below_drew1 | refine below_set ?_ q6.out) | exact HB.out)⟩
   replace c14:=Bool.eq_false_iff.mpr c14;subst c14;have H1 : (if 0 ≤ a0_0 then (if (a0_0 : Int).toNat ≤ 35184372088832 then (impl_FlowValue.l0 kj4 l1 a2 a3 (List.replicate (a0_0 : Int).toNat 0) l0_1 (l0_1.length : Int) 0) else (none)) else (none)) = some (r1,r2):=by rw [if_neg (show ¬ (false = true) by decide)] at H; exact H
   clear H;have H:=H1;clear H1
   by_cases c15 : 0 ≤ a0_0
   case neg =>
    rw [if_neg c15] at H;exact absurd H (by simp)
   rw [if_pos c15] at H;have c15b0:=eq_true c15;have c15b1 : decide (0 ≤ a0_0) = true:=decide_eq_true c15;clear c15
   by_cases c16 : (a0_0 : Int).toNat ≤ 35184372088832
   case neg =>
    rw [if_neg c16] at H;exact absurd H (by simp)
   rw [if_pos c16] at H;have c16b0:=eq_true c16;have c16b1 : decide ((a0_0 : Int).toNat ≤ 35184372088832) = true:=decide_eq_true c16;clear c16;obtain ⟨y734,hy734⟩ : ∃ y_ : List Int,y_ = (List.replicate (a0_0 : Int).toNat 0):=⟨_,rfl⟩
   replace H : (impl_FlowValue.l0 kj4 l1 a2 a3 y734 l0_1 (l0_1.length : Int) 0) = some (r1,r2):=by first | (rw [hy734]; with_reducible exact H) | (have H2_:=(Option.bind_some _ _).symm.trans H; rw [hy734]; with_reducible exact H2_) | (have H2_:=(Option.bind_some _ _).symm.trans H; with_reducible exact H2_) | with_reducible exact H | (rw [hy734]; exact H) | exact H
   have Ny734:=zx hy734;clear hy734;have H':=zx H;clear H;have v3 : wc.cell? ⟨q1,0,none⟩ = some (.int .i64 a0_0):=(blk_cell p5.out 0).trans rfl;have v4 : wc.cell? ⟨q1,1,none⟩ = some (.slice A0_1 l0_1.length c0_1):=(blk_cell p5.out 1).trans rfl;have v5:=blk_frozen p5.out 0;have v6:=blk_frozen p5.out 1
   go_wp2_with (first | ((with_reducible refine gate_dst (N:=30) rfl ?_); (try (refine gate_guard (by rfl) ?_; dsimp only)); refine Kd.R_make (Kd.int .i64) _ 3 rfl (N:=30) rfl 23 _ _ rfl a0_0 (by first | rfl | (go_simp; done) | (go_simp; rfl)) (by first | rfl | (go_simp; done) | (go_simp; rfl)) Try.underlying23 (.int .i64 0) 8 info3 rfl (by decide) (by omega) 0 (ok:=fun _ => True) (okp:=fun _ => True) rfl (fun _ hk => hk) trivial (of_decide_eq_true (by first | (with_reducible assumption) | assumption)) (Nat.le_trans (Nat.mul_le_mul_right _ (of_decide_eq_true (by first | (with_reducible assumption) | assumption) : a0_0.toNat ≤ 35184372088832)) (by omega)) (Below.refl _ _) (Nat.le_refl _) ?_; intro v735 w18 ho19 hb hg_ hnew_; clear hg_ hnew_; (first | rw [← Ny734.out] at ho19 | (simp only [Int.reduceToNat] at ho19; rw [← Ny734.out] at ho19)); have n0_:=zx (Kd.R_lower ho19 (below_size HB.out)); have n1_:=zx (blk_below (g:=q1) (o:=.cells #[.int .i64 a0_0,.slice A0_1 l0_1.length c0_1] 34 (0,0)) p5.out hb); have n2_:=zx (below_step HB.out hb); clear p5; clear HB; have HO736:=n0_; have p5:=n1_; have HB:=n2_; clear n0_ n1_ n2_; clear hb ho19; have v7 : w18.cell? ⟨q1,0,none⟩ = some (.int .i64 a0_0):=(blk_cell p5.out 0).trans rfl; have v8 : w18.cell? ⟨q1,1,none⟩ = some (.slice A0_1 l0_1.length c0_1):=(blk_cell p5.out 1).trans rfl; have v9:=blk_frozen p5.out 0; have y7:=blk_frozen p5.out 1))
   go_loopg [34] kj4 (fun kq v34 w' => ∃ (p9 : List Int) (p0 : Int),v34 = .int .i64 p0 ∧ Aside0 (impl_FlowValue.l0 kq l1 a2 a3 p9 l0_1 (l0_1.length : Int) p0 = some (r1,r2)) ∧ Aside0 (kq ≤ kj4) ∧ Aside0 (Kd.R (Kd.int .i64) 3 w' w.heap.size (fun _ => True) v735 p9) ∧ Aside0 (w'.heap[q1]? = some (.cells #[.int .i64 a0_0,(.slice A0_1 l0_1.length c0_1)] 34 (0,0))) ∧ Aside0 (Below w.heap.size w w'))
   case atStart => exact ⟨(y734),(0),(by first | rfl | (simp; done) | (simp [*]; done)),H',⟨Nat.le_refl _⟩,⟨by (with_reducible repeat (first | apply Kd.R_alloc | apply Kd.R_drewN | apply Kd.R_drew)); exact HO736.out⟩,⟨by (with_reducible repeat (first | refine blk_drewN ?_ _ | refine blk_drew ?_ | refine blk_alloc ?_ _)); exact p5.out⟩,⟨by repeat (first | (with_reducible first | exact HB.out | apply below_alloc | apply pw_below_drewN | apply below_drew1 | refine below_set ?_ q6.out) | exact HB.out)⟩⟩
   case round =>
    clear H'
    try clear c1
    try clear p2
    try clear c3
    try clear c8
    try clear c14
    try clear c15
    try clear c15b0
    try clear c15b1
    try clear c16
    try clear c16b0
    try clear c16b1
    try clear t6
    try clear t7
    try clear u0
    try clear u1
    try clear v3
    try clear v4
    try clear v7
    try clear v8
    try clear u6
    try clear u7
    try clear t8
    try clear t9
    try clear u2
    try clear u3
    try clear v5
    try clear v6
    try clear v9
    try clear y7
    try clear u8
    try clear u9
    try clear p2
    obtain ⟨p9,p0,rfl,HA,HK2,p8,p5,HB⟩:=hrel;cases gk with
    | zero => exact absurd HA.out (by simp [impl_FlowValue.l0])
    | succ k2 =>
     have H:=HA.out;clear HA;simp only [impl_FlowValue.l0] at H
     by_cases c21 : p0 < (l0_1.length : Int)
     case neg =>
      rw [if_neg c21] at H;have c21b0 : decide (p0 < (l0_1.length : Int)) = false:=decide_eq_false c21;clear c21;have H':=zx H;clear H;obtain ⟨Ao49,co49,eo49⟩:=Kd.R_slice p8.out;subst eo49
      go_wp2
      go_loopg [72] k2 (fun kq v72 w' => ∃ (q0 : Int),v72 = .int .i64 q0 ∧ Aside0 (impl_FlowValue.l1 kq a2 a3 p9 (p9.length : Int) q0 = some (r1,r2)) ∧ Aside0 (kq ≤ k2) ∧ Aside0 (Kd.R (Kd.int .i64) 3 w' w.heap.size (fun _ => True) (.slice Ao49 p9.length co49) p9) ∧ Aside0 (w'.heap[q1]? = some (.cells #[.int .i64 a0_0,(.slice A0_1 l0_1.length c0_1)] 34 (0,0))) ∧ Aside0 (Below w.heap.size w w'))
      case atStart => exact ⟨(0),(by first | rfl | (simp; done) | (simp [*]; done)),H',⟨Nat.le_refl _⟩,⟨by (with_reducible repeat (first | apply Kd.R_alloc | apply Kd.R_drewN | apply Kd.R_drew)); exact p8.out⟩,⟨by (with_reducible repeat (first | refine blk_drewN ?_ _ | refine blk_drew ?_ | refine blk_alloc ?_ _)); exact p5.out⟩,⟨by repeat (first | (with_reducible first | exact HB.out | apply below_alloc | apply pw_below_drewN | apply below_drew1 | refine below_set ?_ q6.out) | exact HB.out)⟩⟩
      case round =>
       clear H'
       try clear c2
       try clear p2
       try clear q2
       try clear hx2
       try clear c3
       try clear p3
       try clear q3
       try clear hx3
       try clear c4
       try clear p6
       try clear p7
       try clear q7
       try clear hx7
       try clear c8
       try clear c21
       try clear c21b0
       try clear c22
       try clear c23
       try clear c24
       try clear c26
       try clear c27
       try clear c27b0
       try clear c28
       try clear c28b0
       try clear p29
       try clear q29
       try clear hx29
       try clear hf29
       try clear c30
       try clear c30b0
       try clear c31
       try clear c31b0
       try clear p32
       try clear q32
       try clear hx32
       try clear hf32
       try clear c34
       try clear c45
       try clear y8
       try clear y9
       try clear z0
       try clear z1
       try clear z2
       try clear z8
       try clear z9
       try clear m0
       try clear m1
       try clear m2
       try clear z3
       try clear z4
       try clear z5
       try clear z6
       try clear z7
       try clear m3
       try clear m4
       try clear m5
       try clear m6
       try clear m7
       try clear v0
       try clear v1
       try clear q9
       try clear r0
       try clear r3
       try clear r4
       try clear r5
       try clear q5
       try clear s8
       try clear r7
       try clear r8
       try clear r9
       try clear p29
       try clear p32
       try clear p737
       try clear p739
       try clear p741
       try clear p742
       try clear p744
       try clear p745
       try clear q29
       try clear q32
       try clear q737
       try clear q739
       try clear q741
       try clear q742
       try clear q744
       try clear q745
       obtain ⟨q0,rfl,HA,HK3,p8,p5,HB⟩:=hrel;cases gk with
       | zero => exact absurd HA.out (by simp [impl_FlowValue.l1])
       | succ k3 =>
        have H:=HA.out;clear HA;simp only [impl_FlowValue.l1] at H
        by_cases c50 : q0 < (p9.length : Int)
        case neg =>
         rw [if_neg c50] at H;have c50b0 : decide (q0 < (p9.length : Int)) = false:=decide_eq_false c50;clear c50
         by_cases c56 : 0 ≤ a2
         case neg =>
          rw [if_neg c56] at H;exact absurd H (by simp)
         rw [if_pos c56] at H;have c56b0 : decide (0 ≤ a2) = true:=decide_eq_true c56;clear c56
         by_cases c57 : a2 < (p9.length : Int)
         case neg =>
          rw [if_neg c57] at H;exact absurd H (by simp)
         rw [if_pos c57] at H;have c57b0 : decide (a2 < (p9.length : Int)) = true:=decide_eq_true c57;clear c57;simp only [Option.some.injEq,Prod.mk.injEq] at H;obtain ⟨rfl,rfl⟩:=H;have p748 : 0 ≤ (a2 : Int):=of_decide_eq_true (by first | (with_reducible assumption) | assumption);have q748 : a2 < (p9.length : Int):=of_decide_eq_true (by first | (with_reducible assumption) | assumption);obtain ⟨ad748,e748,hx748_0⟩:=Kd.at_int (Kd.R_reads' p8.out).2.2 a2 p748 q748;cases e748;replace p748:=eq_true p748;replace q748:=eq_true q748
         go_wp2
         go_ret2;exact ⟨by first | rfl | (simp [errW_none,errW_some] <;> rfl) | (simp [*,errW_none,errW_some] <;> rfl),by repeat (first | (with_reducible first | exact HB.out | apply below_alloc | apply pw_below_drewN | apply below_drew1 | refine below_set ?_ q6.out) | exact HB.out)⟩
        rw [if_pos c50] at H;have c50b0 : decide (q0 < (p9.length : Int)) = true:=decide_eq_true c50;clear c50
        by_cases c51 : 0 ≤ q0
        case neg =>
         rw [if_neg c51] at H;exact absurd H (by simp)
        rw [if_pos c51] at H;have c51b0 : decide (0 ≤ q0) = true:=decide_eq_true c51;clear c51
        by_cases c52 : q0 < (p9.length : Int)
        case neg =>
         rw [if_neg c52] at H;exact absurd H (by simp)
        rw [if_pos c52] at H;have c52b0 : decide (q0 < (p9.length : Int)) = true:=decide_eq_true c52;clear c52
        by_cases c53 : (rd p9 q0) = 0
        case pos =>
         rw [if_pos c53] at H;have c53b0 : ((rd p9 q0) == 0) = true:=beq_iff_eq.mpr c53;have c53b1 : ((rd p9 q0) != 0) = false:=bne_eq_false_iff_eq.mpr c53;clear c53;have H':=zx H;clear H;have p747 : 0 ≤ (q0 : Int):=of_decide_eq_true (by first | (with_reducible assumption) | assumption);have q747 : q0 < (p9.length : Int):=of_decide_eq_true (by first | (with_reducible assumption) | assumption);obtain ⟨v2,e747,t2⟩:=Kd.at_int (Kd.R_reads' p8.out).2.2 q0 p747 q747;cases e747;replace p747:=eq_true p747;replace q747:=eq_true q747
         go_wp2
         go_roundg k3
         case measure => have:=HJ4.out; have:=HK2.out; have:=HK3.out; omega
         case rel => exact ⟨(wrap64 (q0 + 1)),(by first | rfl | (simp; done) | (simp [*]; done)),H',⟨by have:=HJ4.out; have:=HK2.out; have:=HK3.out; omega⟩,⟨by (with_reducible repeat (first | apply Kd.R_alloc | apply Kd.R_drewN | apply Kd.R_drew)); exact p8.out⟩,⟨by (with_reducible repeat (first | refine blk_drewN ?_ _ | refine blk_drew ?_ | refine blk_alloc ?_ _)); exact p5.out⟩,⟨by repeat (first | (with_reducible first | exact HB.out | apply below_alloc | apply pw_below_drewN | apply below_drew1 | refine below_set ?_ q6.out) | exact HB.out)⟩⟩
        rw [if_neg c53] at H;have c53b0 : ((rd p9 q0) == 0) = false:=beq_eq_false_iff_ne.mpr c53;have c53b1 : ((rd p9 q0) != 0) = true:=bne_iff_ne.mpr c53
        by_cases c54 : q0 = a2
        case pos =>
         rw [if_pos c54] at H;have c54b0 : (q0 == a2) = true:=beq_iff_eq.mpr c54;have c54b1 : (q0 != a2) = false:=bne_eq_false_iff_eq.mpr c54;clear c54;have H':=zx H;clear H;have p747 : 0 ≤ (q0 : Int):=of_decide_eq_true (by first | (with_reducible assumption) | assumption);have q747 : q0 < (p9.length : Int):=of_decide_eq_true (by first | (with_reducible assumption) | assumption);obtain ⟨v2,e747,t2⟩:=Kd.at_int (Kd.R_reads' p8.out).2.2 q0 p747 q747;cases e747;replace p747:=eq_true p747;replace q747:=eq_true q747
         go_wp2
         go_roundg k3
         case measure => have:=HJ4.out; have:=HK2.out; have:=HK3.out; omega
         case rel => exact ⟨(wrap64 (q0 + 1)),(by first | rfl | (simp; done) | (simp [*]; done)),H',⟨by have:=HJ4.out; have:=HK2.out; have:=HK3.out; omega⟩,⟨by (with_reducible repeat (first | apply Kd.R_alloc | apply Kd.R_drewN | apply Kd.R_drew)); exact p8.out⟩,⟨by (with_reducible repeat (first | refine blk_drewN ?_ _ | refine blk_drew ?_ | refine blk_alloc ?_ _)); exact p5.out⟩,⟨by repeat (first | (with_reducible first | exact HB.out | apply below_alloc | apply pw_below_drewN | apply below_drew1 | refine below_set ?_ q6.out) | exact HB.out)⟩⟩
        rw [if_neg c54] at H;have c54b0 : (q0 == a2) = false:=beq_eq_false_iff_ne.mpr c54;have c54b1 : (q0 != a2) = true:=bne_iff_ne.mpr c54
        by_cases c55 : q0 = a3
        case neg =>
         rw [if_neg c55] at H;have c55b0 : (q0 == a3) = false:=beq_eq_false_iff_ne.mpr c55;have c55b1 : (q0 != a3) = true:=bne_iff_ne.mpr c55;simp only [Option.some.injEq,Prod.mk.injEq] at H;obtain ⟨rfl,rfl⟩:=H;have p747 : 0 ≤ (q0 : Int):=of_decide_eq_true (by first | (with_reducible assumption) | assumption);have q747 : q0 < (p9.length : Int):=of_decide_eq_true (by first | (with_reducible assumption) | assumption);obtain ⟨v2,e747,t2⟩:=Kd.at_int (Kd.R_reads' p8.out).2.2 q0 p747 q747;cases e747;replace p747:=eq_true p747;replace q747:=eq_true q747
         go_wp2
         go_ret2;exact ⟨by first | rfl | (simp [errW_none,errW_some] <;> rfl) | (simp [*,errW_none,errW_some] <;> rfl),by repeat (first | (with_reducible first | exact HB.out | apply below_alloc | apply pw_below_drewN | apply below_drew1 | refine below_set ?_ q6.out) | exact HB.out)⟩
        rw [if_pos c55] at H;have c55b0 : (q0 == a3) = true:=beq_iff_eq.mpr c55;have c55b1 : (q0 != a3) = false:=bne_eq_false_iff_eq.mpr c55;clear c55;have H':=zx H;clear H;have p747 : 0 ≤ (q0 : Int):=of_decide_eq_true (by first | (with_reducible assumption) | assumption);have q747 : q0 < (p9.length : Int):=of_decide_eq_true (by first | (with_reducible assumption) | assumption);obtain ⟨v2,e747,t2⟩:=Kd.at_int (Kd.R_reads' p8.out).2.2 q0 p747 q747;cases e747;replace p747:=eq_true p747;replace q747:=eq_true q747
        go_wp2
        go_roundg k3
        case measure => have:=HJ4.out; have:=HK2.out; have:=HK3.out; omega
        case rel => exact ⟨(wrap64 (q0 + 1)),(by first | rfl | (simp; done) | (simp [*]; done)),H',⟨by have:=HJ4.out; have:=HK2.out; have:=HK3.out; omega⟩,⟨by (with_reducible repeat (first | apply Kd.R_alloc | apply Kd.R_drewN | apply Kd.R_drew)); exact p8.out⟩,⟨by (with_reducible repeat (first | refine blk_drewN ?_ _ | refine blk_drew ?_ | refine blk_alloc ?_ _)); exact p5.out⟩,⟨by repeat (first | (with_reducible first | exact HB.out | apply below_alloc | apply pw_below_drewN | apply below_drew1 | refine below_set ?_ q6.out) | exact HB.out)⟩⟩
     rw [if_pos c21] at H;have c21b0 : decide (p0 < (l0_1.length : Int)) = true:=decide_eq_true c21;clear c21
     by_cases c22 : 0 ≤ p0
     case neg =>
      rw [if_neg c22] at H;exact absurd H (by simp)
     rw [if_pos c22] at H;have c22b0 : decide (0 ≤ p0) = true:=decide_eq_true c22;clear c22
     by_cases c23 : p0 < (l0_1.length : Int)
     case neg =>
      rw [if_neg c23] at H;exact absurd H (by simp)
     rw [if_pos c23] at H;have c23b0 : decide (p0 < (l0_1.length : Int)) = true:=decide_eq_true c23;clear c23
     by_cases c24 : p0 < (l1.length : Int)
     case neg =>
      rw [if_neg c24] at H;exact absurd H (by simp)
     rw [if_pos c24] at H;have c24b0 : decide (p0 < (l1.length : Int)) = true:=decide_eq_true c24;clear c24;replace H:=Option.bind_eq_some_iff.mp H;obtain ⟨t740,A250,H⟩:=H;replace H : (if t740 = true then (if 0 ≤ ((rd_T58 l0_1 p0).f0) then (if ((rd_T58 l0_1 p0).f0) < (p9.length : Int) then ((some (p9.set (((rd_T58 l0_1 p0).f0) : Int).toNat (wrap64 ((rd p9 ((rd_T58 l0_1 p0).f0)) + (rd l1 p0))) : List Int)).bind fun y743 => (if 0 ≤ ((rd_T58 l0_1 p0).f1) then (if ((rd_T58 l0_1 p0).f1) < (p9.length : Int) then (impl_FlowValue.l0 k2 l1 a2 a3 (y743.set (((rd_T58 l0_1 p0).f1) : Int).toNat (wrap64 ((rd y743 ((rd_T58 l0_1 p0).f1)) - (rd l1 p0)))) l0_1 (l0_1.length : Int) (wrap64 (p0 + 1))) else (none)) else (none))) else (none)) else (none)) else (some (0,false))) = some (r1,r2):=H;have A25:=zx A250;clear A250
     by_cases c26 : t740 = true
     case neg =>
      replace c26:=Bool.eq_false_iff.mpr c26;subst c26;have H1 : (some (0,false)) = some (r1,r2):=by rw [if_neg (show ¬ (false = true) by decide)] at H; exact H
      clear H;have H:=H1;clear H1;simp only [Option.some.injEq,Prod.mk.injEq] at H;obtain ⟨rfl,rfl⟩:=H;have p737 : 0 ≤ (p0 : Int):=of_decide_eq_true (by first | (with_reducible assumption) | assumption);have q737 : p0 < (l0_1.length : Int):=of_decide_eq_true (by first | (with_reducible assumption) | assumption);obtain ⟨r6,e737,q9,r0,r3,r4,r5⟩:=at_T58 t4.out p0 p737 q737;cases e737;replace q9:=(HB.out.cell (World.block_lt_of_cell? w _ q9)).trans q9;replace r0:=(HB.out.cell (World.block_lt_of_cell? w _ r0)).trans r0;replace r3:=(HB.out.cell (World.block_lt_of_cell? w _ r3)).trans r3;replace r4:=(HB.out.cell (World.block_lt_of_cell? w _ r4)).trans r4;replace r5:=(HB.out.cell (World.block_lt_of_cell? w _ r5)).trans r5;replace p737:=eq_true p737;replace q737:=eq_true q737
      try go_wp2_with (first | ((with_reducible refine gate_dst (N:=12) rfl ?_); (try (refine gate_guard (by rfl) ?_; dsimp only)); refine box_event ?hg (N:=12) ?hd (cs:=#[.int .i64 0,.int .i64 0,.int .i64 0,.int .i64 0,.int .i64 0]) (t:=58) ?hr ?_; (case hd => rfl); (case hg => rfl); (case hr => first | (go_simp; done) | (go_simp; rfl)); intro p1 hg w44 hbox hb; have n0_:=zx (Kd.R_below p8.out hb); have n1_:=zx (blk_below (g:=q1) (o:=.cells #[.int .i64 a0_0,.slice (some r6) l0_1.length c0_1] 34 (0,0)) p5.out hb); have n2_:=zx (below_step HB.out hb); have n3_:=zx (hbox); have n4_:=zx ((by rw [hg]; exact (below_size HB.out) : w.heap.size ≤ p1)); have n5_:=zx ((by rw [hg]; exact (below_size HB.out) : w.heap.size ≤ p1)); have n6_:=zx ((by rw [hg]; exact Nat.ne_of_lt (blk_lt (g:=q1) (o:=.cells #[.int .i64 a0_0,.slice (some r6) l0_1.length c0_1] 34 (0,0)) p5.out) : q1 ≠ p1)); have n7_:=zx ((by rw [hg]; exact Nat.ne_of_gt (blk_lt (g:=q1) (o:=.cells #[.int .i64 a0_0,.slice (some r6) l0_1.length c0_1] 34 (0,0)) p5.out) : p1 ≠ q1)); clear p8; clear p5; clear HB; have p8:=n0_; have p5:=n1_; have HB:=n2_; have p4:=n3_; have GW738:=n4_; have s9:=n5_; have q4:=n6_; have s7:=n7_; clear n0_ n1_ n2_ n3_ n4_ n5_ n6_ n7_; clear hb hbox hg; have hnb45:=s7.out; have hnc45:=q4.out; have z8 : w44.cell? ⟨p1,0,none⟩ = some (.int .i64 0):=(blk_cell p4.out 0).trans rfl; have z9 : w44.cell? ⟨p1,1,none⟩ = some (.int .i64 0):=(blk_cell p4.out 1).trans rfl; have m0 : w44.cell? ⟨p1,2,none⟩ = some (.int .i64 0):=(blk_cell p4.out 2).trans rfl; have m1 : w44.cell? ⟨p1,3,none⟩ = some (.int .i64 0):=(blk_cell p4.out 3).trans rfl; have m2 : w44.cell? ⟨p1,4,none⟩ = some (.int .i64 0):=(blk_cell p4.out 4).trans rfl; have m3:=blk_frozen p4.out 0; have m4:=blk_frozen p4.out 1; have m5:=blk_frozen p4.out 2; have m6:=blk_frozen p4.out 3; have m7:=blk_frozen p4.out 4))
      have n0_ : Aside0 (Kd.R (Kd.int .i64) 3 (((((w44.setCell ⟨p1,0,none⟩ (.int .i64 ((rd_T58 l0_1 p0).f0))).setCell ⟨p1,1,none⟩ (.int .i64 ((rd_T58 l0_1 p0).f1))).setCell ⟨p1,2,none⟩ (.int .i64 ((rd_T58 l0_1 p0).f2))).setCell ⟨p1,3,none⟩ (.int .i64 ((rd_T58 l0_1 p0).f3))).setCell ⟨p1,4,none⟩ (.int .i64 ((rd_T58 l0_1 p0).f4))) w.heap.size (fun _ => True) v735 p9):=⟨by (with_reducible repeat (first | apply Kd.R_alloc | apply Kd.R_drewN | apply Kd.R_drew)); exact Kd.R_mono (Kd.R_far (p:=⟨p1,4,none⟩) (Kd.R_far (p:=⟨p1,3,none⟩) (Kd.R_far (p:=⟨p1,2,none⟩) (Kd.R_far (p:=⟨p1,1,none⟩) (Kd.R_far (p:=⟨p1,0,none⟩) (Kd.R_types p8.out p4.out (by decide)) (fun _ hk => hk.2) (.int .i64 ((rd_T58 l0_1 p0).f0))) (fun _ hk => hk.2) (.int .i64 ((rd_T58 l0_1 p0).f1))) (fun _ hk => hk.2) (.int .i64 ((rd_T58 l0_1 p0).f2))) (fun _ hk => hk.2) (.int .i64 ((rd_T58 l0_1 p0).f3))) (fun _ hk => hk.2) (.int .i64 ((rd_T58 l0_1 p0).f4))) (fun _ hk => trivial)⟩
      have n1_ : Aside0 ((((((w44.setCell ⟨p1,0,none⟩ (.int .i64 ((rd_T58 l0_1 p0).f0))).setCell ⟨p1,1,none⟩ (.int .i64 ((rd_T58 l0_1 p0).f1))).setCell ⟨p1,2,none⟩ (.int .i64 ((rd_T58 l0_1 p0).f2))).setCell ⟨p1,3,none⟩ (.int .i64 ((rd_T58 l0_1 p0).f3))).setCell ⟨p1,4,none⟩ (.int .i64 ((rd_T58 l0_1 p0).f4))).heap[q1]? = some (.cells #[.int .i64 a0_0,.slice (some r6) l0_1.length c0_1] 34 (0,0))):=⟨by (with_reducible repeat (first | refine blk_drewN ?_ _ | refine blk_drew ?_ | refine blk_alloc ?_ _)); refine blk_far ?_ q4.out _; (with_reducible repeat (first | refine blk_drewN ?_ _ | refine blk_drew ?_ | refine blk_alloc ?_ _)); refine blk_far ?_ q4.out _; (with_reducible repeat (first | refine blk_drewN ?_ _ | refine blk_drew ?_ | refine blk_alloc ?_ _)); refine blk_far ?_ q4.out _; (with_reducible repeat (first | refine blk_drewN ?_ _ | refine blk_drew ?_ | refine blk_alloc ?_ _)); refine blk_far ?_ q4.out _; (with_reducible repeat (first | refine blk_drewN ?_ _ | refine blk_drew ?_ | refine blk_alloc ?_ _)); refine blk_far ?_ q4.out _; (with_reducible repeat (first | refine blk_drewN ?_ _ | refine blk_drew ?_ | refine blk_alloc ?_ _)); exact p5.out⟩
      have n2_ : Aside0 ((((((w44.setCell ⟨p1,0,none⟩ (.int .i64 ((rd_T58 l0_1 p0).f0))).setCell ⟨p1,1,none⟩ (.int .i64 ((rd_T58 l0_1 p0).f1))).setCell ⟨p1,2,none⟩ (.int .i64 ((rd_T58 l0_1 p0).f2))).setCell ⟨p1,3,none⟩ (.int .i64 ((rd_T58 l0_1 p0).f3))).setCell ⟨p1,4,none⟩ (.int .i64 ((rd_T58 l0_1 p0).f4))).heap[p1]? = some (.cells #[.int .i64 ((rd_T58 l0_1 p0).f0),.int .i64 ((rd_T58 l0_1 p0).f1),.int .i64 ((rd_T58 l0_1 p0).f2),.int .i64 ((rd_T58 l0_1 p0).f3),.int .i64 ((rd_T58 l0_1 p0).f4)] 58 (0,0))):=⟨by (with_reducible repeat (first | refine blk_drewN ?_ _ | refine blk_drew ?_ | refine blk_alloc ?_ _)); refine blk_put (cs:=#[.int .i64 ((rd_T58 l0_1 p0).f0),.int .i64 ((rd_T58 l0_1 p0).f1),.int .i64 ((rd_T58 l0_1 p0).f2),.int .i64 ((rd_T58 l0_1 p0).f3),.int .i64 0]) ?_ 4 _ rfl; (with_reducible repeat (first | refine blk_drewN ?_ _ | refine blk_drew ?_ | refine blk_alloc ?_ _)); refine blk_put (cs:=#[.int .i64 ((rd_T58 l0_1 p0).f0),.int .i64 ((rd_T58 l0_1 p0).f1),.int .i64 ((rd_T58 l0_1 p0).f2),.int .i64 0,.int .i64 0]) ?_ 3 _ rfl; (with_reducible repeat (first | refine blk_drewN ?_ _ | refine blk_drew ?_ | refine blk_alloc ?_ _)); refine blk_put (cs:=#[.int .i64 ((rd_T58 l0_1 p0).f0),.int .i64 ((rd_T58 l0_1 p0).f1),.int .i64 0,.int .i64 0,.int .i64 0]) ?_ 2 _ rfl; (with_reducible repeat (first | refine blk_drewN ?_ _ | refine blk_drew ?_ | refine blk_alloc ?_ _)); refine blk_put (cs:=#[.int .i64 ((rd_T58 l0_1 p0).f0),.int .i64 0,.int .i64 0,.int .i64 0,.int .i64 0]) ?_ 1 _ rfl; (with_reducible repeat (first | refine blk_drewN ?_ _ | refine blk_drew ?_ | refine blk_alloc ?_ _)); refine blk_put (cs:=#[.int .i64 0,.int .i64 0,.int .i64 0,.int .i64 0,.int .i64 0]) ?_ 0 _ rfl; (with_reducible repeat (first | refine blk_drewN ?_ _ | refine blk_drew ?_ | refine blk_alloc ?_ _)); exact p4.out⟩
      have n3_ : Aside0 (Below w.heap.size w (((((w44.setCell ⟨p1,0,none⟩ (.int .i64 ((rd_T58 l0_1 p0).f0))).setCell ⟨p1,1,none⟩ (.int .i64 ((rd_T58 l0_1 p0).f1))).setCell ⟨p1,2,none⟩ (.int .i64 ((rd_T58 l0_1 p0).f2))).setCell ⟨p1,3,none⟩ (.int .i64 ((rd_T58 l0_1 p0).f3))).setCell ⟨p1,4,none⟩ (.int .i64 ((rd_T58 l0_1 p0).f4)))):=⟨by repeat (first | (with_reducible first | exact HB.out | apply below_alloc | apply pw_below_drewN | apply below_drew1 | refine below_set ?_ q6.out | refine below_set ?_ s9.out) | exact HB.out)⟩
      (try clear p8)
      (try clear p5)
      (try clear p4)
      (try clear HB)
      generalize (((((w44.setCell ⟨p1,0,none⟩ (.int .i64 ((rd_T58 l0_1 p0).f0))).setCell ⟨p1,1,none⟩ (.int .i64 ((rd_T58 l0_1 p0).f1))).setCell ⟨p1,2,none⟩ (.int .i64 ((rd_T58 l0_1 p0).f2))).setCell ⟨p1,3,none⟩ (.int .i64 ((rd_T58 l0_1 p0).f3))).setCell ⟨p1,4,none⟩ (.int .i64 ((rd_T58 l0_1 p0).f4))) = w47 at n0_ n1_ n2_ n3_ ⊢;have p8:=n0_;have p5:=n1_;have p4:=n2_;have HB:=n3_;clear n0_ n1_ n2_ n3_;have n0_:=zx (Kd.R_drew p8.out);have n1_:=zx (blk_drew p5.out);have n2_:=zx (blk_drew p4.out);have n3_:=zx (below_drew1 HB.out);clear p8;clear p5;clear p4;clear HB;have p8:=n0_;have p5:=n1_;have p4:=n2_;have HB:=n3_;clear n0_ n1_ n2_ n3_;have p739 : 0 ≤ (p0 : Int):=of_decide_eq_true (by first | (with_reducible assumption) | assumption);have q739 : p0 < (l1.length : Int):=of_decide_eq_true (by first | (with_reducible assumption) | assumption);obtain ⟨t0,e739,q5⟩:=Kd.at_int HR1.out p0 p739 q739;have q8:=q5;cases e739;replace q5:=(HB.out.cell (World.block_lt_of_cell? w _ q5)).trans q5;replace p739:=eq_true p739;replace q739:=eq_true q739;refine start_ (n:=8) (S:=fun w' => w'.cell? ⟨p1,0,none⟩ = some (.int .i64 ((rd_T58 l0_1 p0).f0)) ∧ w'.cell? ⟨p1,1,none⟩ = some (.int .i64 ((rd_T58 l0_1 p0).f1)) ∧ w'.cell? ⟨p1,2,none⟩ = some (.int .i64 ((rd_T58 l0_1 p0).f2)) ∧ w'.cell? ⟨p1,3,none⟩ = some (.int .i64 ((rd_T58 l0_1 p0).f3)) ∧ w'.cell? ⟨p1,4,none⟩ = some (.int .i64 ((rd_T58 l0_1 p0).f4)) ∧ w'.cell? (t0.add (p0).toNat) = some (.int .i64 (rd l1 p0))) (ds:=[]) #[J,J,J,J,J,J,J,J] (by kernel_rfl) rfl rfl ⟨(blk_cell p4.out 0).trans rfl,(blk_cell p4.out 1).trans rfl,(blk_cell p4.out 2).trans rfl,(blk_cell p4.out 3).trans rfl,(blk_cell p4.out 4).trans rfl,((HB.out.cell (World.block_lt_of_cell? w _ q8)).trans q8)⟩ (fun hHeld => ?_); refine with_tabW impl_FlowValue.tab7 impl_FlowValue.bits7 (fun HT_ HW_ => ?_);generalize w47.drew = w48 at p8 p5 p4 HB q5 hHeld ⊢;refine pure_ (i:=0) (N:=some 39) (v:=?_) (a':=?_) #[Y,J,J,J,J,J,J,J] rfl rfl (any_of HT_.out (by kernel_rfl)) (fun _ _ _ h => h) (Or.inl ⟨by rfl,?_⟩) ?_ ?_;rotate_left
      ·intro w';go_simp;with_reducible rfl
      rotate_left
      ·simp only [Act.put,U,V,Z,i64_w,i32_w];rfl
      refine pure_ (i:=1) (N:=some 40) (v:=?_) (a':=?_) #[Y,Y,J,J,J,J,J,J] rfl rfl (any_of HT_.out (by kernel_rfl)) (fun _ _ _ h => h) (Or.inl ⟨by rfl,?_⟩) ?_ ?_;rotate_left
      ·intro w';go_simp;with_reducible rfl
      rotate_left
      ·simp only [Act.put,U,V,Z,i64_w,i32_w];rfl
      refine pure_ (i:=2) (N:=some 41) (v:=?_) (a':=?_) #[Y,Y,Y,J,J,J,J,J] rfl rfl (any_of HT_.out (by kernel_rfl)) (fun _ _ _ h => h) (Or.inl ⟨by rfl,?_⟩) ?_ ?_;rotate_left
      ·intro w';go_simp;with_reducible rfl
      rotate_left
      ·simp only [Act.put,U,V,Z,i64_w,i32_w];rfl
      refine pure_ (i:=4) (N:=some 43) (v:=?_) (a':=?_) #[Y,Y,Y,J,Y,J,J,J] rfl rfl (any_of HT_.out (by kernel_rfl)) (fun _ _ _ h => h) (Or.inl ⟨by rfl,?_⟩) ?_ ?_;rotate_left
      ·intro w';go_simp;with_reducible rfl
      rotate_left
      ·simp only [Act.put,U,V,Z,i64_w,i32_w];rfl
      refine take_ (i:=3) (N:=some 42) (v:=?_) (a':=?_) #[Y,Y,Y,Y,Y,J,J,J] rfl rfl (take_ofW HT_.out HW_.out (by kernel_rfl)) (fun _ _ _ h => h) (Or.inl ⟨by rfl,?_⟩) hHeld ?_ ?_;rotate_left
      ·rintro w' ⟨s0,s1,s2,s3,s4,s5⟩;go_simp;with_reducible rfl
      rotate_left
      ·simp only [Act.put,U,V,Z,i64_w,i32_w];rfl
      refine take_ (i:=5) (N:=some 44) (v:=?_) (a':=?_) #[Y,Y,Y,Y,Y,Y,J,J] rfl rfl (take_ofW HT_.out HW_.out (by kernel_rfl)) (fun _ _ _ h => h) (Or.inl ⟨by rfl,?_⟩) hHeld ?_ ?_;rotate_left
      ·rintro w' ⟨s0,s1,s2,s3,s4,s5⟩;go_simp;with_reducible rfl
      rotate_left
      ·simp only [Act.put,U,V,Z,i64_w,i32_w];rfl
      refine one_ (i:=6) (N:=some 45) #[Y,Y,Y,Y,Y,Y,Y,J] rfl rfl (one_of HT_.out (by kernel_rfl)) (by decide) (fun K hK => ?_);refine goes_ Try.func82 (by kernel_rfl) rfl #[.int .i64 (rd l1 p0),.int .i64 0,.int .i64 ((rd_T58 l0_1 p0).f4)] (by rfl) rfl rfl (by (try simp only [List.map_toArray,List.map_cons,List.map_nil]); first | done | rfl | (simp only [List.length_drop,List.length_take]; rfl)) ?_;with_reducible refine (impl_within.calls (rd l1 p0) 0 ((rd_T58 l0_1 p0).f4) false _ A25.out).mono ?_
      rintro e w' ⟨rfl,⟨nd,rfl⟩⟩;refine ⟨_,rfl,?_⟩;refine hK.out _ _ ⟨(blk_cell p4.out 0).trans rfl,(blk_cell p4.out 1).trans rfl,(blk_cell p4.out 2).trans rfl,(blk_cell p4.out 3).trans rfl,(blk_cell p4.out 4).trans rfl,((HB.out.cell (World.block_lt_of_cell? w _ q8)).trans q8)⟩ (fun hHeld => ?_);clear hK K;refine norm_ (a':=?_) ?_ ?_;rotate_left
      ·show Act.put _ (some 45) _ = _
       simp only [Act.put,U,V,Z,i64_w,i32_w];rfl
      refine pure_ (i:=7) (N:=some 46) (v:=?_) (a':=?_) #[Y,Y,Y,Y,Y,Y,Y,Y] rfl rfl (any_of HT_.out (by kernel_rfl)) (fun _ _ _ h => h) (Or.inl ⟨by rfl,?_⟩) ?_ ?_;rotate_left
      ·intro w';go_simp;with_reducible rfl
      rotate_left
      ·simp only [Act.put,U,V,Z,i64_w,i32_w];rfl
      refine done_ (done_of HT_.out (by kernel_rfl)) ?_
      try go_wp2
      go_ret2;exact ⟨by first | rfl | (simp [errW_none,errW_some] <;> rfl) | (simp [*,errW_none,errW_some] <;> rfl),by repeat (first | (with_reducible first | exact HB.out | apply below_alloc | apply pw_below_drewN | apply below_drew1 | refine below_set ?_ q6.out | refine below_set ?_ s9.out) | exact HB.out)⟩
     subst c26;have H1 : (if 0 ≤ ((rd_T58 l0_1 p0).f0) then (if ((rd_T58 l0_1 p0).f0) < (p9.length : Int) then ((some (p9.set (((rd_T58 l0_1 p0).f0) : Int).toNat (wrap64 ((rd p9 ((rd_T58 l0_1 p0).f0)) + (rd l1 p0))) : List Int)).bind fun y743 => (if 0 ≤ ((rd_T58 l0_1 p0).f1) then (if ((rd_T58 l0_1 p0).f1) < (p9.length : Int) then (impl_FlowValue.l0 k2 l1 a2 a3 (y743.set (((rd_T58 l0_1 p0).f1) : Int).toNat (wrap64 ((rd y743 ((rd_T58 l0_1 p0).f1)) - (rd l1 p0)))) l0_1 (l0_1.length : Int) (wrap64 (p0 + 1))) else (none)) else (none))) else (none)) else (none)) = some (r1,r2):=by rw [if_pos rfl] at H; exact H
     clear H;have H:=H1;clear H1
     by_cases c27 : 0 ≤ ((rd_T58 l0_1 p0).f0)
     case neg =>
      rw [if_neg c27] at H;exact absurd H (by simp)
     rw [if_pos c27] at H;have c27b0 : decide (0 ≤ ((rd_T58 l0_1 p0).f0)) = true:=decide_eq_true c27;clear c27
     by_cases c28 : ((rd_T58 l0_1 p0).f0) < (p9.length : Int)
     case neg =>
      rw [if_neg c28] at H;exact absurd H (by simp)
     rw [if_pos c28] at H;have c28b0 : decide (((rd_T58 l0_1 p0).f0) < (p9.length : Int)) = true:=decide_eq_true c28;clear c28;obtain ⟨y743,hy743⟩ : ∃ y_ : List Int,y_ = (p9.set (((rd_T58 l0_1 p0).f0) : Int).toNat (wrap64 ((rd p9 ((rd_T58 l0_1 p0).f0)) + (rd l1 p0)))):=⟨_,rfl⟩
     replace H : (if 0 ≤ ((rd_T58 l0_1 p0).f1) then (if ((rd_T58 l0_1 p0).f1) < (p9.length : Int) then (impl_FlowValue.l0 k2 l1 a2 a3 (y743.set (((rd_T58 l0_1 p0).f1) : Int).toNat (wrap64 ((rd y743 ((rd_T58 l0_1 p0).f1)) - (rd l1 p0)))) l0_1 (l0_1.length : Int) (wrap64 (p0 + 1))) else (none)) else (none)) = some (r1,r2):=by first | (rw [hy743]; with_reducible exact H) | (have H2_:=(Option.bind_some _ _).symm.trans H; rw [hy743]; with_reducible exact H2_) | (have H2_:=(Option.bind_some _ _).symm.trans H; with_reducible exact H2_) | with_reducible exact H | (rw [hy743]; exact H) | exact H
     have Ny743:=zx hy743;clear hy743
     by_cases c30 : 0 ≤ ((rd_T58 l0_1 p0).f1)
     case neg =>
      rw [if_neg c30] at H;exact absurd H (by simp)
     rw [if_pos c30] at H;have c30b0 : decide (0 ≤ ((rd_T58 l0_1 p0).f1)) = true:=decide_eq_true c30;clear c30
     by_cases c31 : ((rd_T58 l0_1 p0).f1) < (p9.length : Int)
     case neg =>
      rw [if_neg c31] at H;exact absurd H (by simp)
     rw [if_pos c31] at H;have c31b0 : decide (((rd_T58 l0_1 p0).f1) < (p9.length : Int)) = true:=decide_eq_true c31;clear c31;obtain ⟨y746,hy746⟩ : ∃ y_ : List Int,y_ = (y743.set (((rd_T58 l0_1 p0).f1) : Int).toNat (wrap64 ((rd y743 ((rd_T58 l0_1 p0).f1)) - (rd l1 p0)))):=⟨_,rfl⟩
     replace H : (impl_FlowValue.l0 k2 l1 a2 a3 y746 l0_1 (l0_1.length : Int) (wrap64 (p0 + 1))) = some (r1,r2):=by first | (rw [hy746]; with_reducible exact H) | (have H2_:=(Option.bind_some _ _).symm.trans H; rw [hy746]; with_reducible exact H2_) | (have H2_:=(Option.bind_some _ _).symm.trans H; with_reducible exact H2_) | with_reducible exact H | (rw [hy746]; exact H) | exact H
     have Ny746:=zx hy746;clear hy746;have H':=zx H;clear H;have p737 : 0 ≤ (p0 : Int):=of_decide_eq_true (by first | (with_reducible assumption) | assumption);have q737 : p0 < (l0_1.length : Int):=of_decide_eq_true (by first | (with_reducible assumption) | assumption);obtain ⟨r6,e737,q9,r0,r3,r4,r5⟩:=at_T58 t4.out p0 p737 q737;cases e737;replace q9:=(HB.out.cell (World.block_lt_of_cell? w _ q9)).trans q9;replace r0:=(HB.out.cell (World.block_lt_of_cell? w _ r0)).trans r0;replace r3:=(HB.out.cell (World.block_lt_of_cell? w _ r3)).trans r3;replace r4:=(HB.out.cell (World.block_lt_of_cell? w _ r4)).trans r4;replace r5:=(HB.out.cell (World.block_lt_of_cell? w _ r5)).trans r5;replace p737:=eq_true p737;replace q737:=eq_true q737
     try go_wp2_with (first | ((with_reducible refine gate_dst (N:=12) rfl ?_); (try (refine gate_guard (by rfl) ?_; dsimp only)); refine box_event ?hg (N:=12) ?hd (cs:=#[.int .i64 0,.int .i64 0,.int .i64 0,.int .i64 0,.int .i64 0]) (t:=58) ?hr ?_; (case hd => rfl); (case hg => rfl); (case hr => first | (go_simp; done) | (go_simp; rfl)); intro p1 hg w33 hbox hb; have n0_:=zx (Kd.R_below p8.out hb); have n1_:=zx (blk_below (g:=q1) (o:=.cells #[.int .i64 a0_0,.slice (some r6) l0_1.length c0_1] 34 (0,0)) p5.out hb); have n2_:=zx (below_step HB.out hb); have n3_:=zx (hbox); have n4_:=zx ((by rw [hg]; exact (below_size HB.out) : w.heap.size ≤ p1)); have n5_:=zx ((by rw [hg]; exact (below_size HB.out) : w.heap.size ≤ p1)); have n6_:=zx ((by rw [hg]; exact Nat.ne_of_lt (blk_lt (g:=q1) (o:=.cells #[.int .i64 a0_0,.slice (some r6) l0_1.length c0_1] 34 (0,0)) p5.out) : q1 ≠ p1)); have n7_:=zx ((by rw [hg]; exact Nat.ne_of_gt (blk_lt (g:=q1) (o:=.cells #[.int .i64 a0_0,.slice (some r6) l0_1.length c0_1] 34 (0,0)) p5.out) : p1 ≠ q1)); clear p8; clear p5; clear HB; have p8:=n0_; have p5:=n1_; have HB:=n2_; have p4:=n3_; have GW738:=n4_; have s9:=n5_; have q4:=n6_; have s7:=n7_; clear n0_ n1_ n2_ n3_ n4_ n5_ n6_ n7_; clear hb hbox hg; have hnb34:=s7.out; have hnc34:=q4.out; have y8 : w33.cell? ⟨p1,0,none⟩ = some (.int .i64 0):=(blk_cell p4.out 0).trans rfl; have y9 : w33.cell? ⟨p1,1,none⟩ = some (.int .i64 0):=(blk_cell p4.out 1).trans rfl; have z0 : w33.cell? ⟨p1,2,none⟩ = some (.int .i64 0):=(blk_cell p4.out 2).trans rfl; have z1 : w33.cell? ⟨p1,3,none⟩ = some (.int .i64 0):=(blk_cell p4.out 3).trans rfl; have z2 : w33.cell? ⟨p1,4,none⟩ = some (.int .i64 0):=(blk_cell p4.out 4).trans rfl; have z3:=blk_frozen p4.out 0; have z4:=blk_frozen p4.out 1; have z5:=blk_frozen p4.out 2; have z6:=blk_frozen p4.out 3; have z7:=blk_frozen p4.out 4))
     have n0_ : Aside0 (Kd.R (Kd.int .i64) 3 (((((w33.setCell ⟨p1,0,none⟩ (.int .i64 ((rd_T58 l0_1 p0).f0))).setCell ⟨p1,1,none⟩ (.int .i64 ((rd_T58 l0_1 p0).f1))).setCell ⟨p1,2,none⟩ (.int .i64 ((rd_T58 l0_1 p0).f2))).setCell ⟨p1,3,none⟩ (.int .i64 ((rd_T58 l0_1 p0).f3))).setCell ⟨p1,4,none⟩ (.int .i64 ((rd_T58 l0_1 p0).f4))) w.heap.size (fun _ => True) v735 p9):=⟨by (with_reducible repeat (first | apply Kd.R_alloc | apply Kd.R_drewN | apply Kd.R_drew)); exact Kd.R_mono (Kd.R_far (p:=⟨p1,4,none⟩) (Kd.R_far (p:=⟨p1,3,none⟩) (Kd.R_far (p:=⟨p1,2,none⟩) (Kd.R_far (p:=⟨p1,1,none⟩) (Kd.R_far (p:=⟨p1,0,none⟩) (Kd.R_types p8.out p4.out (by decide)) (fun _ hk => hk.2) (.int .i64 ((rd_T58 l0_1 p0).f0))) (fun _ hk => hk.2) (.int .i64 ((rd_T58 l0_1 p0).f1))) (fun _ hk => hk.2) (.int .i64 ((rd_T58 l0_1 p0).f2))) (fun _ hk => hk.2) (.int .i64 ((rd_T58 l0_1 p0).f3))) (fun _ hk => hk.2) (.int .i64 ((rd_T58 l0_1 p0).f4))) (fun _ hk => trivial)⟩
     have n1_ : Aside0 ((((((w33.setCell ⟨p1,0,none⟩ (.int .i64 ((rd_T58 l0_1 p0).f0))).setCell ⟨p1,1,none⟩ (.int .i64 ((rd_T58 l0_1 p0).f1))).setCell ⟨p1,2,none⟩ (.int .i64 ((rd_T58 l0_1 p0).f2))).setCell ⟨p1,3,none⟩ (.int .i64 ((rd_T58 l0_1 p0).f3))).setCell ⟨p1,4,none⟩ (.int .i64 ((rd_T58 l0_1 p0).f4))).heap[q1]? = some (.cells #[.int .i64 a0_0,.slice (some r6) l0_1.length c0_1] 34 (0,0))):=⟨by (with_reducible repeat (first | refine blk_drewN ?_ _ | refine blk_drew ?_ | refine blk_alloc ?_ _)); refine blk_far ?_ q4.out _; (with_reducible repeat (first | refine blk_drewN ?_ _ | refine blk_drew ?_ | refine blk_alloc ?_ _)); refine blk_far ?_ q4.out _; (with_reducible repeat (first | refine blk_drewN ?_ _ | refine blk_drew ?_ | refine blk_alloc ?_ _)); refine blk_far ?_ q4.out _; (with_reducible repeat (first | refine blk_drewN ?_ _ | refine blk_drew ?_ | refine blk_alloc ?_ _)); refine blk_far ?_ q4.out _; (with_reducible repeat (first | refine blk_drewN ?_ _ | refine blk_drew ?_ | refine blk_alloc ?_ _)); refine blk_far ?_ q4.out _; (with_reducible repeat (first | refine blk_drewN ?_ _ | refine blk_drew ?_ | refine blk_alloc ?_ _)); exact p5.out⟩
     have n2_ : Aside0 ((((((w33.setCell ⟨p1,0,none⟩ (.int .i64 ((rd_T58 l0_1 p0).f0))).setCell ⟨p1,1,none⟩ (.int .i64 ((rd_T58 l0_1 p0).f1))).setCell ⟨p1,2,none⟩ (.int .i64 ((rd_T58 l0_1 p0).f2))).setCell ⟨p1,3,none⟩ (.int .i64 ((rd_T58 l0_1 p0).f3))).setCell ⟨p1,4,none⟩ (.int .i64 ((rd_T58 l0_1 p0).f4))).heap[p1]? = some (.cells #[.int .i64 ((rd_T58 l0_1 p0).f0),.int .i64 ((rd_T58 l0_1 p0).f1),.int .i64 ((rd_T58 l0_1 p0).f2),.int .i64 ((rd_T58 l0_1 p0).f3),.int .i64 ((rd_T58 l0_1 p0).f4)] 58 (0,0))):=⟨by (with_reducible repeat (first | refine blk_drewN ?_ _ | refine blk_drew ?_ | refine blk_alloc ?_ _)); refine blk_put (cs:=#[.int .i64 ((rd_T58 l0_1 p0).f0),.int .i64 ((rd_T58 l0_1 p0).f1),.int .i64 ((rd_T58 l0_1 p0).f2),.int .i64 ((rd_T58 l0_1 p0).f3),.int .i64 0]) ?_ 4 _ rfl; (with_reducible repeat (first | refine blk_drewN ?_ _ | refine blk_drew ?_ | refine blk_alloc ?_ _)); refine blk_put (cs:=#[.int .i64 ((rd_T58 l0_1 p0).f0),.int .i64 ((rd_T58 l0_1 p0).f1),.int .i64 ((rd_T58 l0_1 p0).f2),.int .i64 0,.int .i64 0]) ?_ 3 _ rfl; (with_reducible repeat (first | refine blk_drewN ?_ _ | refine blk_drew ?_ | refine blk_alloc ?_ _)); refine blk_put (cs:=#[.int .i64 ((rd_T58 l0_1 p0).f0),.int .i64 ((rd_T58 l0_1 p0).f1),.int .i64 0,.int .i64 0,.int .i64 0]) ?_ 2 _ rfl; (with_reducible repeat (first | refine blk_drewN ?_ _ | refine blk_drew ?_ | refine blk_alloc ?_ _)); refine blk_put (cs:=#[.int .i64 ((rd_T58 l0_1 p0).f0),.int .i64 0,.int .i64 0,.int .i64 0,.int .i64 0]) ?_ 1 _ rfl; (with_reducible repeat (first | refine blk_drewN ?_ _ | refine blk_drew ?_ | refine blk_alloc ?_ _)); refine blk_put (cs:=#[.int .i64 0,.int .i64 0,.int .i64 0,.int .i64 0,.int .i64 0]) ?_ 0 _ rfl; (with_reducible repeat (first | refine blk_drewN ?_ _ | refine blk_drew ?_ | refine blk_alloc ?_ _)); exact p4.out⟩
     have n3_ : Aside0 (Below w.heap.size w (((((w33.setCell ⟨p1,0,none⟩ (.int .i64 ((rd_T58 l0_1 p0).f0))).setCell ⟨p1,1,none⟩ (.int .i64 ((rd_T58 l0_1 p0).f1))).setCell ⟨p1,2,none⟩ (.int .i64 ((rd_T58 l0_1 p0).f2))).setCell ⟨p1,3,none⟩ (.int .i64 ((rd_T58 l0_1 p0).f3))).setCell ⟨p1,4,none⟩ (.int .i64 ((rd_T58 l0_1 p0).f4)))):=⟨by repeat (first | (with_reducible first | exact HB.out | apply below_alloc | apply pw_below_drewN | apply below_drew1 | refine below_set ?_ q6.out | refine below_set ?_ s9.out) | exact HB.out)⟩
     (try clear p8)
     (try clear p5)
     (try clear p4)
     (try clear HB)
     generalize (((((w33.setCell ⟨p1,0,none⟩ (.int .i64 ((rd_T58 l0_1 p0).f0))).setCell ⟨p1,1,none⟩ (.int .i64 ((rd_T58 l0_1 p0).f1))).setCell ⟨p1,2,none⟩ (.int .i64 ((rd_T58 l0_1 p0).f2))).setCell ⟨p1,3,none⟩ (.int .i64 ((rd_T58 l0_1 p0).f3))).setCell ⟨p1,4,none⟩ (.int .i64 ((rd_T58 l0_1 p0).f4))) = w36 at n0_ n1_ n2_ n3_ ⊢;have p8:=n0_;have p5:=n1_;have p4:=n2_;have HB:=n3_;clear n0_ n1_ n2_ n3_;have n0_:=zx (Kd.R_drew p8.out);have n1_:=zx (blk_drew p5.out);have n2_:=zx (blk_drew p4.out);have n3_:=zx (below_drew1 HB.out);clear p8;clear p5;clear p4;clear HB;have p8:=n0_;have p5:=n1_;have p4:=n2_;have HB:=n3_;clear n0_ n1_ n2_ n3_;have p739 : 0 ≤ (p0 : Int):=of_decide_eq_true (by first | (with_reducible assumption) | assumption);have q739 : p0 < (l1.length : Int):=of_decide_eq_true (by first | (with_reducible assumption) | assumption);obtain ⟨t0,e739,q5⟩:=Kd.at_int HR1.out p0 p739 q739;have q8:=q5;cases e739;replace q5:=(HB.out.cell (World.block_lt_of_cell? w _ q5)).trans q5;replace p739:=eq_true p739;replace q739:=eq_true q739;refine start_ (n:=8) (S:=fun w' => w'.cell? ⟨p1,0,none⟩ = some (.int .i64 ((rd_T58 l0_1 p0).f0)) ∧ w'.cell? ⟨p1,1,none⟩ = some (.int .i64 ((rd_T58 l0_1 p0).f1)) ∧ w'.cell? ⟨p1,2,none⟩ = some (.int .i64 ((rd_T58 l0_1 p0).f2)) ∧ w'.cell? ⟨p1,3,none⟩ = some (.int .i64 ((rd_T58 l0_1 p0).f3)) ∧ w'.cell? ⟨p1,4,none⟩ = some (.int .i64 ((rd_T58 l0_1 p0).f4)) ∧ w'.cell? (t0.add (p0).toNat) = some (.int .i64 (rd l1 p0))) (ds:=[]) #[J,J,J,J,J,J,J,J] (by kernel_rfl) rfl rfl ⟨(blk_cell p4.out 0).trans rfl,(blk_cell p4.out 1).trans rfl,(blk_cell p4.out 2).trans rfl,(blk_cell p4.out 3).trans rfl,(blk_cell p4.out 4).trans rfl,((HB.out.cell (World.block_lt_of_cell? w _ q8)).trans q8)⟩ (fun hHeld => ?_); refine with_tabW impl_FlowValue.tab7 impl_FlowValue.bits7 (fun HT_ HW_ => ?_);generalize w36.drew = w37 at p8 p5 p4 HB q5 hHeld ⊢;refine pure_ (i:=0) (N:=some 39) (v:=?_) (a':=?_) #[Y,J,J,J,J,J,J,J] rfl rfl (any_of HT_.out (by kernel_rfl)) (fun _ _ _ h => h) (Or.inl ⟨by rfl,?_⟩) ?_ ?_;rotate_left
     ·intro w';go_simp;with_reducible rfl
     rotate_left
     ·simp only [Act.put,U,V,Z,i64_w,i32_w];rfl
     refine pure_ (i:=1) (N:=some 40) (v:=?_) (a':=?_) #[Y,Y,J,J,J,J,J,J] rfl rfl (any_of HT_.out (by kernel_rfl)) (fun _ _ _ h => h) (Or.inl ⟨by rfl,?_⟩) ?_ ?_;rotate_left
     ·intro w';go_simp;with_reducible rfl
     rotate_left
     ·simp only [Act.put,U,V,Z,i64_w,i32_w];rfl
     refine pure_ (i:=2) (N:=some 41) (v:=?_) (a':=?_) #[Y,Y,Y,J,J,J,J,J] rfl rfl (any_of HT_.out (by kernel_rfl)) (fun _ _ _ h => h) (Or.inl ⟨by rfl,?_⟩) ?_ ?_;rotate_left
     ·intro w';go_simp;with_reducible rfl
     rotate_left
     ·simp only [Act.put,U,V,Z,i64_w,i32_w];rfl
     refine pure_ (i:=4) (N:=some 43) (v:=?_) (a':=?_) #[Y,Y,Y,J,Y,J,J,J] rfl rfl (any_of HT_.out (by kernel_rfl)) (fun _ _ _ h => h) (Or.inl ⟨by rfl,?_⟩) ?_ ?_;rotate_left
     ·intro w';go_simp;with_reducible rfl
     rotate_left
     ·simp only [Act.put,U,V,Z,i64_w,i32_w];rfl
     refine take_ (i:=3) (N:=some 42) (v:=?_) (a':=?_) #[Y,Y,Y,Y,Y,J,J,J] rfl rfl (take_ofW HT_.out HW_.out (by kernel_rfl)) (fun _ _ _ h => h) (Or.inl ⟨by rfl,?_⟩) hHeld ?_ ?_;rotate_left
     ·rintro w' ⟨s0,s1,s2,s3,s4,s5⟩;go_simp;with_reducible rfl
     rotate_left
     ·simp only [Act.put,U,V,Z,i64_w,i32_w];rfl
     refine take_ (i:=5) (N:=some 44) (v:=?_) (a':=?_) #[Y,Y,Y,Y,Y,Y,J,J] rfl rfl (take_ofW HT_.out HW_.out (by kernel_rfl)) (fun _ _ _ h => h) (Or.inl ⟨by rfl,?_⟩) hHeld ?_ ?_;rotate_left
     ·rintro w' ⟨s0,s1,s2,s3,s4,s5⟩;go_simp;with_reducible rfl
     rotate_left
     ·simp only [Act.put,U,V,Z,i64_w,i32_w];rfl
     refine one_ (i:=6) (N:=some 45) #[Y,Y,Y,Y,Y,Y,Y,J] rfl rfl (one_of HT_.out (by kernel_rfl)) (by decide) (fun K hK => ?_);refine goes_ Try.func82 (by kernel_rfl) rfl #[.int .i64 (rd l1 p0),.int .i64 0,.int .i64 ((rd_T58 l0_1 p0).f4)] (by rfl) rfl rfl (by (try simp only [List.map_toArray,List.map_cons,List.map_nil]); first | done | rfl | (simp only [List.length_drop,List.length_take]; rfl)) ?_;with_reducible refine (impl_within.calls (rd l1 p0) 0 ((rd_T58 l0_1 p0).f4) true _ A25.out).mono ?_
     rintro e w' ⟨rfl,⟨nd,rfl⟩⟩;refine ⟨_,rfl,?_⟩;refine hK.out _ _ ⟨(blk_cell p4.out 0).trans rfl,(blk_cell p4.out 1).trans rfl,(blk_cell p4.out 2).trans rfl,(blk_cell p4.out 3).trans rfl,(blk_cell p4.out 4).trans rfl,((HB.out.cell (World.block_lt_of_cell? w _ q8)).trans q8)⟩ (fun hHeld => ?_);clear hK K;refine norm_ (a':=?_) ?_ ?_;rotate_left
     ·show Act.put _ (some 45) _ = _
      simp only [Act.put,U,V,Z,i64_w,i32_w];rfl
     refine pure_ (i:=7) (N:=some 46) (v:=?_) (a':=?_) #[Y,Y,Y,Y,Y,Y,Y,Y] rfl rfl (any_of HT_.out (by kernel_rfl)) (fun _ _ _ h => h) (Or.inl ⟨by rfl,?_⟩) ?_ ?_;rotate_left
     ·intro w';go_simp;with_reducible rfl
     rotate_left
     ·simp only [Act.put,U,V,Z,i64_w,i32_w];rfl
     refine done_ (done_of HT_.out (by kernel_rfl)) ?_
     try go_wp2
     (try (rw [drewN_self w37]; generalize hq_ : World.drewN w37 _ = w37; have n0_ : Aside0 (Kd.R (Kd.int .i64) 3 w37 w.heap.size (fun _ => True) v735 p9):=⟨by rw [← hq_]; exact (by (with_reducible repeat (first | apply Kd.R_alloc | apply Kd.R_drewN | apply Kd.R_drew)); exact p8.out)⟩; have n1_ : Aside0 (w37.heap[q1]? = some (.cells #[.int .i64 a0_0,.slice (some r6) l0_1.length c0_1] 34 (0,0))):=⟨by rw [← hq_]; exact (by (with_reducible repeat (first | refine blk_drewN ?_ _ | refine blk_drew ?_ | refine blk_alloc ?_ _)); exact p5.out)⟩; have n2_ : Aside0 (w37.heap[p1]? = some (.cells #[.int .i64 ((rd_T58 l0_1 p0).f0),.int .i64 ((rd_T58 l0_1 p0).f1),.int .i64 ((rd_T58 l0_1 p0).f2),.int .i64 ((rd_T58 l0_1 p0).f3),.int .i64 ((rd_T58 l0_1 p0).f4)] 58 (0,0))):=⟨by rw [← hq_]; exact (by (with_reducible repeat (first | refine blk_drewN ?_ _ | refine blk_drew ?_ | refine blk_alloc ?_ _)); exact p4.out)⟩; have n3_ : Aside0 (Below w.heap.size w w37):=⟨by rw [← hq_]; exact (by repeat (first | (with_reducible first | exact HB.out | apply below_alloc | apply pw_below_drewN | apply below_drew1 | refine below_set ?_ q6.out | refine below_set ?_ s9.out) | exact HB.out))⟩; clear p8 p5 p4 HB hq_; have p8:=n0_; have p5:=n1_; have p4:=n2_; have HB:=n3_; clear n0_ n1_ n2_ n3_))
     have n0_:=zx (Kd.R_drew p8.out);have n1_:=zx (blk_drew p5.out);have n2_:=zx (blk_drew p4.out);have n3_:=zx (below_drew1 HB.out);clear p8;clear p5;clear p4;clear HB;have p8:=n0_;have p5:=n1_;have p4:=n2_;have HB:=n3_;clear n0_ n1_ n2_ n3_;obtain ⟨Ao39,co39,eo39⟩:=Kd.R_slice p8.out
     (first | subst eo39 | (injection eo39 with f1_ f2_ f3_; have f4_:=f1_.symm; have f5_:=f3_.symm; clear f1_ f2_ f3_; subst f4_; subst f5_))
     have p741 : 0 ≤ (((rd_T58 l0_1 p0).f0) : Int):=of_decide_eq_true (by first | (with_reducible assumption) | assumption);have q741 : ((rd_T58 l0_1 p0).f0) < (p9.length : Int):=of_decide_eq_true (by first | (with_reducible assumption) | assumption);obtain ⟨ad741,e741,s8⟩:=Kd.at_int (Kd.R_reads' p8.out).2.2 ((rd_T58 l0_1 p0).f0) p741 q741;cases e741;replace p741:=eq_true p741;replace q741:=eq_true q741;have p742 : 0 ≤ (p0 : Int):=of_decide_eq_true (by first | (with_reducible assumption) | assumption);have q742 : p0 < (l1.length : Int):=of_decide_eq_true (by first | (with_reducible assumption) | assumption);obtain ⟨ad742,e742,r7⟩:=Kd.at_int HR1.out p0 p742 q742;have u4:=r7;obtain rfl : t0 = ad742:=(by injection e742)
     replace r7:=(HB.out.cell (World.block_lt_of_cell? w _ r7)).trans r7;replace p742:=eq_true p742;replace q742:=eq_true q742;have p29 : 0 ≤ (((rd_T58 l0_1 p0).f0) : Int):=of_decide_eq_true (by first | (with_reducible assumption) | assumption);have q29 : (((rd_T58 l0_1 p0).f0) : Int) < ((p9.length : Int) : Int):=of_decide_eq_true (by first | (with_reducible assumption) | assumption);obtain ⟨go29,co29,eo29,gb29,gl29,cl29,HG29⟩:=Kd.R_form p8.out (by omega)
     (first | cases eo29 | (injection eo29 with ea_ en_ ec_; (first | subst ea_ | (injection ea_ with ea_; subst ea_)); subst ec_; clear en_))
     have GB29:=zx gb29;have GG29:=zx HG29;clear gb29 gl29 HG29
     (first | simp only [add_plain] at s8 | skip)
     obtain ⟨v0,hf29_0⟩:=Kd.R_celln 0 p8.out (((rd_T58 l0_1 p0).f0) : Int) p29 q29;replace p29:=eq_true p29;replace q29:=eq_true q29;have HP40:=Kd.R_putn p8.out (((rd_T58 l0_1 p0).f0) : Int) (wrap64 ((rd p9 ((rd_T58 l0_1 p0).f0)) + (rd l1 p0)));rw [← Ny743.out] at HP40;have HQ40:=zx HP40;clear HP40;refine start_ (n:=12) (S:=fun w' => w'.cell? ⟨p1,0,none⟩ = some (.int .i64 ((rd_T58 l0_1 p0).f0)) ∧ w'.cell? ⟨p1,1,none⟩ = some (.int .i64 ((rd_T58 l0_1 p0).f1)) ∧ w'.cell? ⟨p1,2,none⟩ = some (.int .i64 ((rd_T58 l0_1 p0).f2)) ∧ w'.cell? ⟨p1,3,none⟩ = some (.int .i64 ((rd_T58 l0_1 p0).f3)) ∧ w'.cell? ⟨p1,4,none⟩ = some (.int .i64 ((rd_T58 l0_1 p0).f4)) ∧ w'.cell? ⟨go29,(((rd_T58 l0_1 p0).f0)).toNat,none⟩ = some (.int .i64 (rd p9 ((rd_T58 l0_1 p0).f0))) ∧ w'.cell? (t0.add (p0).toNat) = some (.int .i64 (rd l1 p0))) (ds:=[11]) #[J,J,J,J,J,J,J,J,J,J,J,J] (by kernel_rfl) rfl rfl ⟨(blk_cell p4.out 0).trans rfl,(blk_cell p4.out 1).trans rfl,(blk_cell p4.out 2).trans rfl,(blk_cell p4.out 3).trans rfl,(blk_cell p4.out 4).trans rfl,s8,((HB.out.cell (World.block_lt_of_cell? w _ u4)).trans u4)⟩ (fun hHeld => ?_); refine with_tabW impl_FlowValue.tab9 impl_FlowValue.bits9 (fun HT_ HW_ => ?_);generalize w37.drew = w38 at p8 p5 p4 HB GG29 HQ40 hf29_0 v0 s8 r7 hHeld ⊢;refine pure_ (i:=0) (N:=some 47) (v:=?_) (a':=?_) #[Y,J,J,J,J,J,J,J,J,J,J,J] rfl rfl (any_of HT_.out (by kernel_rfl)) (fun _ _ _ h => h) (Or.inl ⟨by rfl,?_⟩) ?_ ?_;rotate_left
     ·intro w';go_simp;with_reducible rfl
     rotate_left
     ·simp only [Act.put,U,V,Z,i64_w,i32_w];rfl
     refine pure_ (i:=1) (N:=some 48) (v:=?_) (a':=?_) #[Y,Y,J,J,J,J,J,J,J,J,J,J] rfl rfl (any_of HT_.out (by kernel_rfl)) (fun _ _ _ h => h) (Or.inl ⟨by rfl,?_⟩) ?_ ?_;rotate_left
     ·intro w';go_simp;with_reducible rfl
     rotate_left
     ·simp only [Act.put,U,V,Z,i64_w,i32_w];rfl
     refine pure_ (i:=5) (N:=some 52) (v:=?_) (a':=?_) #[Y,Y,J,J,J,Y,J,J,J,J,J,J] rfl rfl (any_of HT_.out (by kernel_rfl)) (fun _ _ _ h => h) (Or.inl ⟨by rfl,?_⟩) ?_ ?_;rotate_left
     ·intro w';go_simp;with_reducible rfl
     rotate_left
     ·simp only [Act.put,U,V,Z,i64_w,i32_w];rfl
     refine pure_ (i:=6) (N:=some 53) (v:=?_) (a':=?_) #[Y,Y,J,J,J,Y,Y,J,J,J,J,J] rfl rfl (any_of HT_.out (by kernel_rfl)) (fun _ _ _ h => h) (Or.inl ⟨by rfl,?_⟩) ?_ ?_;rotate_left
     ·intro w';go_simp;with_reducible rfl
     rotate_left
     ·simp only [Act.put,U,V,Z,i64_w,i32_w];rfl
     refine pure_ (i:=7) (N:=some 54) (v:=?_) (a':=?_) #[Y,Y,J,J,J,Y,Y,Y,J,J,J,J] rfl rfl (any_of HT_.out (by kernel_rfl)) (fun _ _ _ h => h) (Or.inl ⟨by rfl,?_⟩) ?_ ?_;rotate_left
     ·intro w';go_simp;with_reducible rfl
     rotate_left
     ·simp only [Act.put,U,V,Z,i64_w,i32_w];rfl
     refine take_ (i:=2) (N:=some 49) (v:=?_) (a':=?_) #[Y,Y,Y,J,J,Y,Y,Y,J,J,J,J] rfl rfl (take_ofW HT_.out HW_.out (by kernel_rfl)) (fun _ _ _ h => h) (Or.inl ⟨by rfl,?_⟩) hHeld ?_ ?_;rotate_left
     ·rintro w' ⟨s0,s1,s2,s3,s4,s5,s6⟩;go_simp;with_reducible rfl
     rotate_left
     ·simp only [Act.put,U,V,Z,i64_w,i32_w];rfl
     refine pure_ (i:=3) (N:=some 50) (v:=?_) (a':=?_) #[Y,Y,Y,Y,J,Y,Y,Y,J,J,J,J] rfl rfl (any_of HT_.out (by kernel_rfl)) (fun _ _ _ h => h) (Or.inl ⟨by rfl,?_⟩) ?_ ?_;rotate_left
     ·intro w';go_simp;with_reducible rfl
     rotate_left
     ·simp only [Act.put,U,V,Z,i64_w,i32_w];rfl
     refine take_ (i:=4) (N:=some 51) (v:=?_) (a':=?_) #[Y,Y,Y,Y,Y,Y,Y,Y,J,J,J,J] rfl rfl (take_ofW HT_.out HW_.out (by kernel_rfl)) (fun _ _ _ h => h) (Or.inl ⟨by rfl,?_⟩) hHeld ?_ ?_;rotate_left
     ·rintro w' ⟨s0,s1,s2,s3,s4,s5,s6⟩;go_simp;with_reducible rfl
     rotate_left
     ·simp only [Act.put,U,V,Z,i64_w,i32_w];rfl
     refine take_ (i:=8) (N:=some 55) (v:=?_) (a':=?_) #[Y,Y,Y,Y,Y,Y,Y,Y,Y,J,J,J] rfl rfl (take_ofW HT_.out HW_.out (by kernel_rfl)) (fun _ _ _ h => h) (Or.inl ⟨by rfl,?_⟩) hHeld ?_ ?_;rotate_left
     ·rintro w' ⟨s0,s1,s2,s3,s4,s5,s6⟩;go_simp;with_reducible rfl
     rotate_left
     ·simp only [Act.put,U,V,Z,i64_w,i32_w];rfl
     refine pure_ (i:=9) (N:=some 56) (v:=?_) (a':=?_) #[Y,Y,Y,Y,Y,Y,Y,Y,Y,Y,J,J] rfl rfl (any_of HT_.out (by kernel_rfl)) (fun _ _ _ h => h) (Or.inl ⟨by rfl,?_⟩) ?_ ?_;rotate_left
     ·intro w';go_simp;with_reducible rfl
     rotate_left
     ·simp only [Act.put,U,V,Z,i64_w,i32_w];rfl
     refine pure_ (i:=10) (N:=some 57) (v:=?_) (a':=?_) #[Y,Y,Y,Y,Y,Y,Y,Y,Y,Y,Y,J] rfl rfl (any_of HT_.out (by kernel_rfl)) (fun _ _ _ h => h) (Or.inl ⟨by rfl,?_⟩) ?_ ?_;rotate_left
     ·intro w';go_simp;with_reducible rfl
     rotate_left
     ·simp only [Act.put,U,V,Z,i64_w,i32_w];rfl
     refine last_ (i:=11) (N:=none) #[true,true,true,true,true,true,true,true,true,true,true,true] rfl rfl (one_of HT_.out (by kernel_rfl)) (by decide) (fun K hK => ?_);refine skip_ (w1:=?_) (by rfl) rfl ?_ ?_;rotate_left
     ·go_simp;rfl
     refine hK.out _ _ ?_;clear hK K;refine done_ (done_of HT_.out (by kernel_rfl)) ?_
     try go_wp2
     have n0_ : Aside0 (Kd.R (Kd.int .i64) 3 (w38.setCell ⟨go29,(((rd_T58 l0_1 p0).f0) : Int).toNat,none⟩ (.int .i64 (wrap64 ((rd p9 ((rd_T58 l0_1 p0).f0)) + (rd l1 p0))))) w.heap.size (fun _ => True) (.slice (some ⟨go29,0,none⟩) p9.length co39) y743):=⟨by (with_reducible repeat (first | apply Kd.R_alloc | apply Kd.R_drewN | apply Kd.R_drew)); exact HQ40.out⟩
     have n1_ : Aside0 ((w38.setCell ⟨go29,(((rd_T58 l0_1 p0).f0) : Int).toNat,none⟩ (.int .i64 (wrap64 ((rd p9 ((rd_T58 l0_1 p0).f0)) + (rd l1 p0))))).heap[q1]? = some (.cells #[.int .i64 a0_0,.slice (some r6) l0_1.length c0_1] 34 (0,0))):=⟨by (with_reducible repeat (first | refine blk_drewN ?_ _ | refine blk_drew ?_ | refine blk_alloc ?_ _)); refine blk_far ?_ (by have h_:=Kd.R_ne p8.out p5.out (by decide); intro e_; exact h_ (by rw [e_]; rfl)) _; (with_reducible repeat (first | refine blk_drewN ?_ _ | refine blk_drew ?_ | refine blk_alloc ?_ _)); exact p5.out⟩
     have n2_ : Aside0 ((w38.setCell ⟨go29,(((rd_T58 l0_1 p0).f0) : Int).toNat,none⟩ (.int .i64 (wrap64 ((rd p9 ((rd_T58 l0_1 p0).f0)) + (rd l1 p0))))).heap[p1]? = some (.cells #[.int .i64 ((rd_T58 l0_1 p0).f0),.int .i64 ((rd_T58 l0_1 p0).f1),.int .i64 ((rd_T58 l0_1 p0).f2),.int .i64 ((rd_T58 l0_1 p0).f3),.int .i64 ((rd_T58 l0_1 p0).f4)] 58 (0,0))):=⟨by (with_reducible repeat (first | refine blk_drewN ?_ _ | refine blk_drew ?_ | refine blk_alloc ?_ _)); refine blk_far ?_ (by have h_:=Kd.R_ne p8.out p4.out (by decide); intro e_; exact h_ (by rw [e_]; rfl)) _; (with_reducible repeat (first | refine blk_drewN ?_ _ | refine blk_drew ?_ | refine blk_alloc ?_ _)); exact p4.out⟩
     have n3_ : Aside0 (Below w.heap.size w (w38.setCell ⟨go29,(((rd_T58 l0_1 p0).f0) : Int).toNat,none⟩ (.int .i64 (wrap64 ((rd p9 ((rd_T58 l0_1 p0).f0)) + (rd l1 p0)))))):=⟨by repeat (first | (with_reducible first | exact HB.out | apply below_alloc | apply pw_below_drewN | apply below_drew1 | refine below_set ?_ GB29.out | refine below_set ?_ q6.out | refine below_set ?_ s9.out) | exact HB.out)⟩
     (try clear p8)
     (try clear p5)
     (try clear p4)
     (try clear HB)
     generalize (w38.setCell ⟨go29,(((rd_T58 l0_1 p0).f0) : Int).toNat,none⟩ (.int .i64 (wrap64 ((rd p9 ((rd_T58 l0_1 p0).f0)) + (rd l1 p0))))) = w41 at n0_ n1_ n2_ n3_ ⊢;have p8:=n0_;have p5:=n1_;have p4:=n2_;have HB:=n3_;clear n0_ n1_ n2_ n3_;have n0_:=zx (Kd.R_drew p8.out);have n1_:=zx (blk_drew p5.out);have n2_:=zx (blk_drew p4.out);have n3_:=zx (below_drew1 HB.out);clear p8;clear p5;clear p4;clear HB;have p8:=n0_;have p5:=n1_;have p4:=n2_;have HB:=n3_;clear n0_ n1_ n2_ n3_;have p744 : 0 ≤ (((rd_T58 l0_1 p0).f1) : Int):=of_decide_eq_true (by first | (with_reducible assumption) | assumption);have q744 : ((rd_T58 l0_1 p0).f1) < (y743.length : Int):=(by have h_ : (((rd_T58 l0_1 p0).f1) : Int) < ((p9.length : Int) : Int):=of_decide_eq_true (by first | (with_reducible assumption) | assumption); first | (have e_:=(Kd.R_reads' p8.out).1; omega) | simpa only [Ny743.out,List.length_set] using h_)
     have ql744 : ((((rd_T58 l0_1 p0).f1) : Int) < ((p9.length : Int) : Int)) = True:=eq_true (of_decide_eq_true (by first | (with_reducible assumption) | assumption));obtain ⟨ad744,e744,r8⟩:=Kd.at_int (Kd.R_reads' p8.out).2.2 ((rd_T58 l0_1 p0).f1) p744 q744;obtain rfl : (⟨go29,0,none⟩ : Addr) = ad744:=(by injection e744)
     (first | simp only [add_plain] at r8 | simp only [add_at] at r8 | simp only [Addr.add,Nat.zero_add] at r8 | skip)
     replace p744:=eq_true p744;replace q744:=eq_true q744;have p745 : 0 ≤ (p0 : Int):=of_decide_eq_true (by first | (with_reducible assumption) | assumption);have q745 : p0 < (l1.length : Int):=of_decide_eq_true (by first | (with_reducible assumption) | assumption);obtain ⟨ad745,e745,r9⟩:=Kd.at_int HR1.out p0 p745 q745;have u5:=r9;obtain rfl : t0 = ad745:=(by injection e745)
     replace r9:=(HB.out.cell (World.block_lt_of_cell? w _ r9)).trans r9;replace p745:=eq_true p745;replace q745:=eq_true q745;have p32 : 0 ≤ (((rd_T58 l0_1 p0).f1) : Int):=of_decide_eq_true (by first | (with_reducible assumption) | assumption);have q32 : (((rd_T58 l0_1 p0).f1) : Int) < ((p9.length : Int) : Int):=of_decide_eq_true (by first | (with_reducible assumption) | assumption);obtain ⟨v1,hf32_0⟩:=Kd.R_celln 0 p8.out (((rd_T58 l0_1 p0).f1) : Int) p32 q32;replace p32:=eq_true p32;replace q32:=eq_true q32;have HP43:=Kd.R_putn p8.out (((rd_T58 l0_1 p0).f1) : Int) (wrap64 ((rd y743 ((rd_T58 l0_1 p0).f1)) - (rd l1 p0)));rw [← Ny746.out] at HP43;have HQ43:=zx HP43;clear HP43;refine start_ (n:=12) (S:=fun w' => w'.cell? ⟨p1,0,none⟩ = some (.int .i64 ((rd_T58 l0_1 p0).f0)) ∧ w'.cell? ⟨p1,1,none⟩ = some (.int .i64 ((rd_T58 l0_1 p0).f1)) ∧ w'.cell? ⟨p1,2,none⟩ = some (.int .i64 ((rd_T58 l0_1 p0).f2)) ∧ w'.cell? ⟨p1,3,none⟩ = some (.int .i64 ((rd_T58 l0_1 p0).f3)) ∧ w'.cell? ⟨p1,4,none⟩ = some (.int .i64 ((rd_T58 l0_1 p0).f4)) ∧ w'.cell? ⟨go29,(((rd_T58 l0_1 p0).f1)).toNat,none⟩ = some (.int .i64 (rd y743 ((rd_T58 l0_1 p0).f1))) ∧ w'.cell? (t0.add (p0).toNat) = some (.int .i64 (rd l1 p0))) (ds:=[11]) #[J,J,J,J,J,J,J,J,J,J,J,J] (by kernel_rfl) rfl rfl ⟨(blk_cell p4.out 0).trans rfl,(blk_cell p4.out 1).trans rfl,(blk_cell p4.out 2).trans rfl,(blk_cell p4.out 3).trans rfl,(blk_cell p4.out 4).trans rfl,r8,((HB.out.cell (World.block_lt_of_cell? w _ u5)).trans u5)⟩ (fun hHeld => ?_); refine with_tabW impl_FlowValue.tab10 impl_FlowValue.bits10 (fun HT_ HW_ => ?_);generalize w41.drew = w42 at p8 p5 p4 HB HQ40 HQ43 hf32_0 v1 r8 r9 hHeld ⊢;refine pure_ (i:=0) (N:=some 58) (v:=?_) (a':=?_) #[Y,J,J,J,J,J,J,J,J,J,J,J] rfl rfl (any_of HT_.out (by kernel_rfl)) (fun _ _ _ h => h) (Or.inl ⟨by rfl,?_⟩) ?_ ?_;rotate_left
     ·intro w';go_simp;with_reducible rfl
     rotate_left
     ·simp only [Act.put,U,V,Z,i64_w,i32_w];rfl
     refine pure_ (i:=1) (N:=some 59) (v:=?_) (a':=?_) #[Y,Y,J,J,J,J,J,J,J,J,J,J] rfl rfl (any_of HT_.out (by kernel_rfl)) (fun _ _ _ h => h) (Or.inl ⟨by rfl,?_⟩) ?_ ?_;rotate_left
     ·intro w';go_simp;with_reducible rfl
     rotate_left
     ·simp only [Act.put,U,V,Z,i64_w,i32_w];rfl
     refine pure_ (i:=5) (N:=some 63) (v:=?_) (a':=?_) #[Y,Y,J,J,J,Y,J,J,J,J,J,J] rfl rfl (any_of HT_.out (by kernel_rfl)) (fun _ _ _ h => h) (Or.inl ⟨by rfl,?_⟩) ?_ ?_;rotate_left
     ·intro w';go_simp;with_reducible rfl
     rotate_left
     ·simp only [Act.put,U,V,Z,i64_w,i32_w];rfl
     refine pure_ (i:=6) (N:=some 64) (v:=?_) (a':=?_) #[Y,Y,J,J,J,Y,Y,J,J,J,J,J] rfl rfl (any_of HT_.out (by kernel_rfl)) (fun _ _ _ h => h) (Or.inl ⟨by rfl,?_⟩) ?_ ?_;rotate_left
     ·intro w';go_simp;with_reducible rfl
     rotate_left
     ·simp only [Act.put,U,V,Z,i64_w,i32_w];rfl
     refine pure_ (i:=7) (N:=some 65) (v:=?_) (a':=?_) #[Y,Y,J,J,J,Y,Y,Y,J,J,J,J] rfl rfl (any_of HT_.out (by kernel_rfl)) (fun _ _ _ h => h) (Or.inl ⟨by rfl,?_⟩) ?_ ?_;rotate_left
     ·intro w';go_simp;with_reducible rfl
     rotate_left
     ·simp only [Act.put,U,V,Z,i64_w,i32_w];rfl
     refine take_ (i:=2) (N:=some 60) (v:=?_) (a':=?_) #[Y,Y,Y,J,J,Y,Y,Y,J,J,J,J] rfl rfl (take_ofW HT_.out HW_.out (by kernel_rfl)) (fun _ _ _ h => h) (Or.inl ⟨by rfl,?_⟩) hHeld ?_ ?_;rotate_left
     ·rintro w' ⟨s0,s1,s2,s3,s4,s5,s6⟩;go_simp;with_reducible rfl
     rotate_left
     ·simp only [Act.put,U,V,Z,i64_w,i32_w];rfl
     refine pure_ (i:=3) (N:=some 61) (v:=?_) (a':=?_) #[Y,Y,Y,Y,J,Y,Y,Y,J,J,J,J] rfl rfl (any_of HT_.out (by kernel_rfl)) (fun _ _ _ h => h) (Or.inl ⟨by rfl,?_⟩) ?_ ?_;rotate_left
     ·intro w';go_simp;with_reducible rfl
     rotate_left
     ·simp only [Act.put,U,V,Z,i64_w,i32_w];rfl
     refine take_ (i:=4) (N:=some 62) (v:=?_) (a':=?_) #[Y,Y,Y,Y,Y,Y,Y,Y,J,J,J,J] rfl rfl (take_ofW HT_.out HW_.out (by kernel_rfl)) (fun _ _ _ h => h) (Or.inl ⟨by rfl,?_⟩) hHeld ?_ ?_;rotate_left
     ·rintro w' ⟨s0,s1,s2,s3,s4,s5,s6⟩;go_simp;with_reducible rfl
     rotate_left
     ·simp only [Act.put,U,V,Z,i64_w,i32_w];rfl
     refine take_ (i:=8) (N:=some 66) (v:=?_) (a':=?_) #[Y,Y,Y,Y,Y,Y,Y,Y,Y,J,J,J] rfl rfl (take_ofW HT_.out HW_.out (by kernel_rfl)) (fun _ _ _ h => h) (Or.inl ⟨by rfl,?_⟩) hHeld ?_ ?_;rotate_left
     ·rintro w' ⟨s0,s1,s2,s3,s4,s5,s6⟩;go_simp;with_reducible rfl
     rotate_left
     ·simp only [Act.put,U,V,Z,i64_w,i32_w];rfl
     refine pure_ (i:=9) (N:=some 67) (v:=?_) (a':=?_) #[Y,Y,Y,Y,Y,Y,Y,Y,Y,Y,J,J] rfl rfl (any_of HT_.out (by kernel_rfl)) (fun _ _ _ h => h) (Or.inl ⟨by rfl,?_⟩) ?_ ?_;rotate_left
     ·intro w';go_simp;with_reducible rfl
     rotate_left
     ·simp only [Act.put,U,V,Z,i64_w,i32_w];rfl
     refine pure_ (i:=10) (N:=some 68) (v:=?_) (a':=?_) #[Y,Y,Y,Y,Y,Y,Y,Y,Y,Y,Y,J] rfl rfl (any_of HT_.out (by kernel_rfl)) (fun _ _ _ h => h) (Or.inl ⟨by rfl,?_⟩) ?_ ?_;rotate_left
     ·intro w';go_simp;with_reducible rfl
     rotate_left
     ·simp only [Act.put,U,V,Z,i64_w,i32_w];rfl
     refine last_ (i:=11) (N:=none) #[true,true,true,true,true,true,true,true,true,true,true,true] rfl rfl (one_of HT_.out (by kernel_rfl)) (by decide) (fun K hK => ?_);refine skip_ (w1:=?_) (by rfl) rfl ?_ ?_;rotate_left
     ·go_simp;rfl
     refine hK.out _ _ ?_;clear hK K;refine done_ (done_of HT_.out (by kernel_rfl)) ?_
     try go_wp2
     go_roundg k2
     case measure => have:=HJ4.out; have:=HK2.out; omega
     case rel => exact ⟨(y746),(wrap64 (p0 + 1)),(by first | rfl | (simp; done) | (simp [*]; done)),H',⟨by have:=HJ4.out; have:=HK2.out; omega⟩,⟨by (with_reducible repeat (first | apply Kd.R_alloc | apply Kd.R_drewN | apply Kd.R_drew)); exact HQ43.out⟩,⟨by (with_reducible repeat (first | refine blk_drewN ?_ _ | refine blk_drew ?_ | refine blk_alloc ?_ _)); refine blk_far ?_ (by have h_:=Kd.R_ne p8.out p5.out (by decide); intro e_; exact h_ (by rw [e_]; rfl)) _; (with_reducible repeat (first | refine blk_drewN ?_ _ | refine blk_drew ?_ | refine blk_alloc ?_ _)); exact p5.out⟩,⟨by repeat (first | (with_reducible first | exact HB.out | apply below_alloc | apply pw_below_drewN | apply below_drew1 | refine below_set ?_ GB29.out | refine below_set ?_ q6.out | refine below_set ?_ s9.out) | exact HB.out)⟩⟩
def impl_Net_cut.l0 : Nat → Int → Int → List (S58) → Int → Int → Option (Int)
 | 0,_,_,_,_,_ => none
 | k + 1,x1,x5,x9,x10,x11 => if x11 < x10 then (if 0 ≤ x11 then (if x11 < (x9.length : Int) then (if 0 ≤ ((rd_T58 x9 x11).f0) then (if (Go.bits .and .i64 (shr .i64 x1 ((rd_T58 x9 x11).f0)) 1) = 1 then (if 0 ≤ ((rd_T58 x9 x11).f1) then (if (Go.bits .and .i64 (shr .i64 x1 ((rd_T58 x9 x11).f1)) 1) = 0 then (impl_Net_cut.l0 k x1 (wrap64 (x5 + ((rd_T58 x9 x11).f4))) x9 x10 (wrap64 (x11 + 1))) else (impl_Net_cut.l0 k x1 x5 x9 x10 (wrap64 (x11 + 1)))) else (none)) else (impl_Net_cut.l0 k x1 x5 x9 x10 (wrap64 (x11 + 1)))) else (none)) else (none)) else (none)) else (some x5)
def impl_Net_cut.f (k : Nat) (a0_0 : Int) (l0_1 : List (S58)) (a1 : Int) : Option (Int):=impl_Net_cut.l0 k a1 0 l0_1 (l0_1.length : Int) 0
set_option maxHeartbeats 8000000 in
set_option maxRecDepth 100000 in
theorem impl_Net_cut.calls (k : Nat) (a0_0 : Int) (A0_1 : Option Addr) (c0_1 : Nat) (l0_1 : List (S58)) (a1 : Int) (r : Int) (w : World) (hr0_1 : Kd.C k58 w A0_1 l0_1.length l0_1) (hc0_1 : l0_1.length ≤ c0_1) (h : impl_Net_cut.f k a0_0 l0_1 a1 = some r) :
  Calls Try.prog 92 #[.agg #[.int .i64 a0_0,.slice A0_1 l0_1.length c0_1],.int .i64 a1] w fun e w' => e = .returned (.int .i64 r) ∧ Below w.heap.size w w':=by
 have hu34:=Try.underlying34;have hu58:=Try.underlying58;have q6:=zx hr0_1;have HC0_1:=zx hc0_1;clear hr0_1 hc0_1;have HB:=zx (Below.refl w.heap.size w);have H : (impl_Net_cut.l0 k a1 0 l0_1 (l0_1.length : Int) 0) = some r:=h;clear h;have H':=zx H;clear H
 go_enter Try.func92,Try.ntmps92
 go_wp2_with (first | ((with_reducible refine gate_dst (N:=2) rfl ?_); refine box_event ?hg (N:=2) ?hd (cs:=#[.int .i64 a0_0,.slice A0_1 l0_1.length c0_1]) (t:=34) ?hr ?_; (case hd => rfl); (case hg => rfl); (case hr => first | (go_simp; done) | (go_simp; rfl)); intro p6 hg w3 hbox hb; have n0_:=zx (below_step HB.out hb); have n1_:=zx (hbox); have n2_:=zx ((by rw [hg]; exact (below_size HB.out) : w.heap.size ≤ p6)); have n3_:=zx ((by rw [hg]; exact (below_size HB.out) : w.heap.size ≤ p6)); clear HB; have HB:=n0_; have p5:=n1_; have GW774:=n2_; have q4:=n3_; clear n0_ n1_ n2_ n3_; clear hb hbox hg; have hcz4_0 : w3.cell? ⟨p6,0,none⟩ = some (.int .i64 a0_0):=(blk_cell p5.out 0).trans rfl; have hcz4_1 : w3.cell? ⟨p6,1,none⟩ = some (.slice A0_1 l0_1.length c0_1):=(blk_cell p5.out 1).trans rfl; have hfz4_0:=blk_frozen p5.out 0; have hfz4_1:=blk_frozen p5.out 1))
 go_loopg [5,11] k (fun kq v5 v11 w' => ∃ (x5_1 : Int) (p1 : Int),v5 = .int .i64 x5_1 ∧ v11 = .int .i64 p1 ∧ Aside0 (impl_Net_cut.l0 kq a1 x5_1 l0_1 (l0_1.length : Int) p1 = some r) ∧ Aside0 (kq ≤ k) ∧ Aside0 (w'.heap[p6]? = some (.cells #[.int .i64 a0_0,(.slice A0_1 l0_1.length c0_1)] 34 (0,0))) ∧ Aside0 (Below w.heap.size w w'))
 case atStart => exact ⟨(0),(0),(by first | rfl | (simp; done) | (simp [*]; done)),(by first | rfl | (simp; done) | (simp [*]; done)),H',⟨Nat.le_refl _⟩,⟨by (with_reducible repeat (first | refine blk_drewN ?_ _ | refine blk_drew ?_ | refine blk_alloc ?_ _)); exact p5.out⟩,⟨by repeat (first | (with_reducible first | exact HB.out | apply below_alloc | apply pw_below_drewN | apply below_drew1 | refine below_set ?_ q4.out) | exact HB.out)⟩⟩
 case round =>
  clear H'
  try clear p2
  try clear hcz4_0
  try clear hcz4_1
  try clear hfz4_0
  try clear hfz4_1
  obtain ⟨x5_1,p1,rfl,rfl,HA,HK1,p5,HB⟩:=hrel;cases gk with
  | zero => exact absurd HA.out (by simp [impl_Net_cut.l0])
  | succ k1 =>
   have H:=HA.out;clear HA;simp only [impl_Net_cut.l0] at H
   by_cases c5 : p1 < (l0_1.length : Int)
   case neg =>
    rw [if_neg c5] at H;have c5b0 : decide (p1 < (l0_1.length : Int)) = false:=decide_eq_false c5;clear c5;obtain rfl:=Option.some.inj H
    go_wp2
    go_ret;exact ⟨by first | rfl | (simp [errW_none,errW_some] <;> rfl) | (simp [*,errW_none,errW_some] <;> rfl),by repeat (first | (with_reducible first | exact HB.out | apply below_alloc | apply pw_below_drewN | apply below_drew1 | refine below_set ?_ q4.out) | exact HB.out)⟩
   rw [if_pos c5] at H;have c5b0 : decide (p1 < (l0_1.length : Int)) = true:=decide_eq_true c5;clear c5
   by_cases c6 : 0 ≤ p1
   case neg =>
    rw [if_neg c6] at H;exact absurd H (by simp)
   rw [if_pos c6] at H;have c6b0 : decide (0 ≤ p1) = true:=decide_eq_true c6;clear c6
   by_cases c7 : p1 < (l0_1.length : Int)
   case neg =>
    rw [if_neg c7] at H;exact absurd H (by simp)
   rw [if_pos c7] at H;have c7b0 : decide (p1 < (l0_1.length : Int)) = true:=decide_eq_true c7;clear c7
   by_cases c8 : 0 ≤ ((rd_T58 l0_1 p1).f0)
   case neg =>
    rw [if_neg c8] at H;exact absurd H (by simp)
   rw [if_pos c8] at H;have c8b0:=eq_true c8;have c8b1 : decide (0 ≤ ((rd_T58 l0_1 p1).f0)) = true:=decide_eq_true c8;clear c8;obtain ⟨ji9,hji9⟩ : ∃ j_ : Int,(shr .i64 a1 ((rd_T58 l0_1 p1).f0)) = j_:=⟨_,rfl⟩
   replace H : (if (Go.bits .and .i64 (ji9) 1) = 1 then (if 0 ≤ ((rd_T58 l0_1 p1).f1) then (if (Go.bits .and .i64 (shr .i64 a1 ((rd_T58 l0_1 p1).f1)) 1) = 0 then (impl_Net_cut.l0 k1 a1 (wrap64 (x5_1 + ((rd_T58 l0_1 p1).f4))) l0_1 (l0_1.length : Int) (wrap64 (p1 + 1))) else (impl_Net_cut.l0 k1 a1 x5_1 l0_1 (l0_1.length : Int) (wrap64 (p1 + 1)))) else (none)) else (impl_Net_cut.l0 k1 a1 x5_1 l0_1 (l0_1.length : Int) (wrap64 (p1 + 1)))) = some r:=by first | (rw [hji9] at H; exact H) | (simp only [hji9] at H ⊢; exact H)
   have hji9_ : (a1 / 2 ^ min ((rd_T58 l0_1 p1).f0).toNat 64) = ji9:=hji9;have hji9z : ((rd_T58 l0_1 p1).f0) ≤ 64 → (a1 / 2 ^ ((rd_T58 l0_1 p1).f0).toNat) = ji9:=shr_small hji9
   by_cases c10 : (Go.bits .and .i64 (ji9) 1) = 1
   case neg =>
    rw [if_neg c10] at H;have c10b0 : ((Go.bits .and .i64 (ji9) 1) == 1) = false:=beq_eq_false_iff_ne.mpr c10;have c10b1 : ((Go.bits .and .i64 (ji9) 1) != 1) = true:=bne_iff_ne.mpr c10;have H':=zx H;clear H;have p775 : 0 ≤ (p1 : Int):=of_decide_eq_true (by first | (with_reducible assumption) | assumption);have q775 : p1 < (l0_1.length : Int):=of_decide_eq_true (by first | (with_reducible assumption) | assumption);obtain ⟨q3,e775,p7,p8,p9,q0,q1⟩:=at_T58 q6.out p1 p775 q775;cases e775;replace p7:=(HB.out.cell (World.block_lt_of_cell? w _ p7)).trans p7;replace p8:=(HB.out.cell (World.block_lt_of_cell? w _ p8)).trans p8;replace p9:=(HB.out.cell (World.block_lt_of_cell? w _ p9)).trans p9;replace q0:=(HB.out.cell (World.block_lt_of_cell? w _ q0)).trans q0;replace q1:=(HB.out.cell (World.block_lt_of_cell? w _ q1)).trans q1;replace p775:=eq_true p775;replace q775:=eq_true q775
    go_wp2_with (first | ((with_reducible refine gate_dst (N:=7) rfl ?_); refine box_event ?hg (N:=7) ?hd (cs:=#[.int .i64 0,.int .i64 0,.int .i64 0,.int .i64 0,.int .i64 0]) (t:=58) ?hr ?_; (case hd => rfl); (case hg => rfl); (case hr => first | (go_simp; done) | (go_simp; rfl)); intro p4 hg w20 hbox hb; have n0_:=zx (blk_below (g:=p6) (o:=.cells #[.int .i64 a0_0,.slice (some q3) l0_1.length c0_1] 34 (0,0)) p5.out hb); have n1_:=zx (below_step HB.out hb); have n2_:=zx (hbox); have n3_:=zx ((by rw [hg]; exact (below_size HB.out) : w.heap.size ≤ p4)); have n4_:=zx ((by rw [hg]; exact (below_size HB.out) : w.heap.size ≤ p4)); have n5_:=zx ((by rw [hg]; exact Nat.ne_of_lt (blk_lt (g:=p6) (o:=.cells #[.int .i64 a0_0,.slice (some q3) l0_1.length c0_1] 34 (0,0)) p5.out) : p6 ≠ p4)); have n6_:=zx ((by rw [hg]; exact Nat.ne_of_gt (blk_lt (g:=p6) (o:=.cells #[.int .i64 a0_0,.slice (some q3) l0_1.length c0_1] 34 (0,0)) p5.out) : p4 ≠ p6)); clear p5; clear HB; have p5:=n0_; have HB:=n1_; have p3:=n2_; have GW776:=n3_; have q5:=n4_; have p0:=n5_; have q2:=n6_; clear n0_ n1_ n2_ n3_ n4_ n5_ n6_; clear hb hbox hg; have hnb21:=q2.out; have hnc21:=p0.out; have hcz22_0 : w20.cell? ⟨p4,0,none⟩ = some (.int .i64 0):=(blk_cell p3.out 0).trans rfl; have hcz22_1 : w20.cell? ⟨p4,1,none⟩ = some (.int .i64 0):=(blk_cell p3.out 1).trans rfl; have hcz22_2 : w20.cell? ⟨p4,2,none⟩ = some (.int .i64 0):=(blk_cell p3.out 2).trans rfl; have hcz22_3 : w20.cell? ⟨p4,3,none⟩ = some (.int .i64 0):=(blk_cell p3.out 3).trans rfl; have hcz22_4 : w20.cell? ⟨p4,4,none⟩ = some (.int .i64 0):=(blk_cell p3.out 4).trans rfl; have hfz22_0:=blk_frozen p3.out 0; have hfz22_1:=blk_frozen p3.out 1; have hfz22_2:=blk_frozen p3.out 2; have hfz22_3:=blk_frozen p3.out 3; have hfz22_4:=blk_frozen p3.out 4))
    go_roundg k1
    case measure => have:=HK1.out; omega
    case rel => exact ⟨(x5_1),(wrap64 (p1 + 1)),(by first | rfl | (simp; done) | (simp [*]; done)),(by first | rfl | (simp; done) | (simp [*]; done)),H',⟨by have:=HK1.out; omega⟩,⟨by (with_reducible repeat (first | refine blk_drewN ?_ _ | refine blk_drew ?_ | refine blk_alloc ?_ _)); refine blk_far ?_ p0.out _; (with_reducible repeat (first | refine blk_drewN ?_ _ | refine blk_drew ?_ | refine blk_alloc ?_ _)); refine blk_far ?_ p0.out _; (with_reducible repeat (first | refine blk_drewN ?_ _ | refine blk_drew ?_ | refine blk_alloc ?_ _)); refine blk_far ?_ p0.out _; (with_reducible repeat (first | refine blk_drewN ?_ _ | refine blk_drew ?_ | refine blk_alloc ?_ _)); refine blk_far ?_ p0.out _; (with_reducible repeat (first | refine blk_drewN ?_ _ | refine blk_drew ?_ | refine blk_alloc ?_ _)); refine blk_far ?_ p0.out _; (with_reducible repeat (first | refine blk_drewN ?_ _ | refine blk_drew ?_ | refine blk_alloc ?_ _)); exact p5.out⟩,⟨by repeat (first | (with_reducible first | exact HB.out | apply below_alloc | apply pw_below_drewN | apply below_drew1 | refine below_set ?_ q4.out | refine below_set ?_ q5.out) | exact HB.out)⟩⟩
   rw [if_pos c10] at H;have c10b0 : ((Go.bits .and .i64 (ji9) 1) == 1) = true:=beq_iff_eq.mpr c10;have c10b1 : ((Go.bits .and .i64 (ji9) 1) != 1) = false:=bne_eq_false_iff_eq.mpr c10;clear c10
   by_cases c11 : 0 ≤ ((rd_T58 l0_1 p1).f1)
   case neg =>
    rw [if_neg c11] at H;exact absurd H (by simp)
   rw [if_pos c11] at H;have c11b0:=eq_true c11;have c11b1 : decide (0 ≤ ((rd_T58 l0_1 p1).f1)) = true:=decide_eq_true c11;clear c11;obtain ⟨ji12,hji12⟩ : ∃ j_ : Int,(shr .i64 a1 ((rd_T58 l0_1 p1).f1)) = j_:=⟨_,rfl⟩
   replace H : (if (Go.bits .and .i64 (ji12) 1) = 0 then (impl_Net_cut.l0 k1 a1 (wrap64 (x5_1 + ((rd_T58 l0_1 p1).f4))) l0_1 (l0_1.length : Int) (wrap64 (p1 + 1))) else (impl_Net_cut.l0 k1 a1 x5_1 l0_1 (l0_1.length : Int) (wrap64 (p1 + 1)))) = some r:=by first | (rw [hji12] at H; exact H) | (simp only [hji12] at H ⊢; exact H)
   have hji12_ : (a1 / 2 ^ min ((rd_T58 l0_1 p1).f1).toNat 64) = ji12:=hji12;have hji12z : ((rd_T58 l0_1 p1).f1) ≤ 64 → (a1 / 2 ^ ((rd_T58 l0_1 p1).f1).toNat) = ji12:=shr_small hji12
   by_cases c13 : (Go.bits .and .i64 (ji12) 1) = 0
   case neg =>
    rw [if_neg c13] at H;have c13b0 : ((Go.bits .and .i64 (ji12) 1) == 0) = false:=beq_eq_false_iff_ne.mpr c13;have c13b1 : ((Go.bits .and .i64 (ji12) 1) != 0) = true:=bne_iff_ne.mpr c13;have H':=zx H;clear H;have p775 : 0 ≤ (p1 : Int):=of_decide_eq_true (by first | (with_reducible assumption) | assumption);have q775 : p1 < (l0_1.length : Int):=of_decide_eq_true (by first | (with_reducible assumption) | assumption);obtain ⟨q3,e775,p7,p8,p9,q0,q1⟩:=at_T58 q6.out p1 p775 q775;cases e775;replace p7:=(HB.out.cell (World.block_lt_of_cell? w _ p7)).trans p7;replace p8:=(HB.out.cell (World.block_lt_of_cell? w _ p8)).trans p8;replace p9:=(HB.out.cell (World.block_lt_of_cell? w _ p9)).trans p9;replace q0:=(HB.out.cell (World.block_lt_of_cell? w _ q0)).trans q0;replace q1:=(HB.out.cell (World.block_lt_of_cell? w _ q1)).trans q1;replace p775:=eq_true p775;replace q775:=eq_true q775
    go_wp2_with (first | ((with_reducible refine gate_dst (N:=7) rfl ?_); refine box_event ?hg (N:=7) ?hd (cs:=#[.int .i64 0,.int .i64 0,.int .i64 0,.int .i64 0,.int .i64 0]) (t:=58) ?hr ?_; (case hd => rfl); (case hg => rfl); (case hr => first | (go_simp; done) | (go_simp; rfl)); intro p4 hg w17 hbox hb; have n0_:=zx (blk_below (g:=p6) (o:=.cells #[.int .i64 a0_0,.slice (some q3) l0_1.length c0_1] 34 (0,0)) p5.out hb); have n1_:=zx (below_step HB.out hb); have n2_:=zx (hbox); have n3_:=zx ((by rw [hg]; exact (below_size HB.out) : w.heap.size ≤ p4)); have n4_:=zx ((by rw [hg]; exact (below_size HB.out) : w.heap.size ≤ p4)); have n5_:=zx ((by rw [hg]; exact Nat.ne_of_lt (blk_lt (g:=p6) (o:=.cells #[.int .i64 a0_0,.slice (some q3) l0_1.length c0_1] 34 (0,0)) p5.out) : p6 ≠ p4)); have n6_:=zx ((by rw [hg]; exact Nat.ne_of_gt (blk_lt (g:=p6) (o:=.cells #[.int .i64 a0_0,.slice (some q3) l0_1.length c0_1] 34 (0,0)) p5.out) : p4 ≠ p6)); clear p5; clear HB; have p5:=n0_; have HB:=n1_; have p3:=n2_; have GW776:=n3_; have q5:=n4_; have p0:=n5_; have q2:=n6_; clear n0_ n1_ n2_ n3_ n4_ n5_ n6_; clear hb hbox hg; have hnb18:=q2.out; have hnc18:=p0.out; have hcz19_0 : w17.cell? ⟨p4,0,none⟩ = some (.int .i64 0):=(blk_cell p3.out 0).trans rfl; have hcz19_1 : w17.cell? ⟨p4,1,none⟩ = some (.int .i64 0):=(blk_cell p3.out 1).trans rfl; have hcz19_2 : w17.cell? ⟨p4,2,none⟩ = some (.int .i64 0):=(blk_cell p3.out 2).trans rfl; have hcz19_3 : w17.cell? ⟨p4,3,none⟩ = some (.int .i64 0):=(blk_cell p3.out 3).trans rfl; have hcz19_4 : w17.cell? ⟨p4,4,none⟩ = some (.int .i64 0):=(blk_cell p3.out 4).trans rfl; have hfz19_0:=blk_frozen p3.out 0; have hfz19_1:=blk_frozen p3.out 1; have hfz19_2:=blk_frozen p3.out 2; have hfz19_3:=blk_frozen p3.out 3; have hfz19_4:=blk_frozen p3.out 4))
    go_roundg k1
    case measure => have:=HK1.out; omega
    case rel => exact ⟨(x5_1),(wrap64 (p1 + 1)),(by first | rfl | (simp; done) | (simp [*]; done)),(by first | rfl | (simp; done) | (simp [*]; done)),H',⟨by have:=HK1.out; omega⟩,⟨by (with_reducible repeat (first | refine blk_drewN ?_ _ | refine blk_drew ?_ | refine blk_alloc ?_ _)); refine blk_far ?_ p0.out _; (with_reducible repeat (first | refine blk_drewN ?_ _ | refine blk_drew ?_ | refine blk_alloc ?_ _)); refine blk_far ?_ p0.out _; (with_reducible repeat (first | refine blk_drewN ?_ _ | refine blk_drew ?_ | refine blk_alloc ?_ _)); refine blk_far ?_ p0.out _; (with_reducible repeat (first | refine blk_drewN ?_ _ | refine blk_drew ?_ | refine blk_alloc ?_ _)); refine blk_far ?_ p0.out _; (with_reducible repeat (first | refine blk_drewN ?_ _ | refine blk_drew ?_ | refine blk_alloc ?_ _)); refine blk_far ?_ p0.out _; (with_reducible repeat (first | refine blk_drewN ?_ _ | refine blk_drew ?_ | refine blk_alloc ?_ _)); exact p5.out⟩,⟨by repeat (first | (with_reducible first | exact HB.out | apply below_alloc | apply pw_below_drewN | apply below_drew1 | refine below_set ?_ q4.out | refine below_set ?_ q5.out) | exact HB.out)⟩⟩
   rw [if_pos c13] at H;have c13b0 : ((Go.bits .and .i64 (ji12) 1) == 0) = true:=beq_iff_eq.mpr c13;have c13b1 : ((Go.bits .and .i64 (ji12) 1) != 0) = false:=bne_eq_false_iff_eq.mpr c13;clear c13;have H':=zx H;clear H;have p775 : 0 ≤ (p1 : Int):=of_decide_eq_true (by first | (with_reducible assumption) | assumption);have q775 : p1 < (l0_1.length : Int):=of_decide_eq_true (by first | (with_reducible assumption) | assumption);obtain ⟨q3,e775,p7,p8,p9,q0,q1⟩:=at_T58 q6.out p1 p775 q775;cases e775;replace p7:=(HB.out.cell (World.block_lt_of_cell? w _ p7)).trans p7;replace p8:=(HB.out.cell (World.block_lt_of_cell? w _ p8)).trans p8;replace p9:=(HB.out.cell (World.block_lt_of_cell? w _ p9)).trans p9;replace q0:=(HB.out.cell (World.block_lt_of_cell? w _ q0)).trans q0;replace q1:=(HB.out.cell (World.block_lt_of_cell? w _ q1)).trans q1;replace p775:=eq_true p775;replace q775:=eq_true q775
   go_wp2_with (first | ((with_reducible refine gate_dst (N:=7) rfl ?_); refine box_event ?hg (N:=7) ?hd (cs:=#[.int .i64 0,.int .i64 0,.int .i64 0,.int .i64 0,.int .i64 0]) (t:=58) ?hr ?_; (case hd => rfl); (case hg => rfl); (case hr => first | (go_simp; done) | (go_simp; rfl)); intro p4 hg w14 hbox hb; have n0_:=zx (blk_below (g:=p6) (o:=.cells #[.int .i64 a0_0,.slice (some q3) l0_1.length c0_1] 34 (0,0)) p5.out hb); have n1_:=zx (below_step HB.out hb); have n2_:=zx (hbox); have n3_:=zx ((by rw [hg]; exact (below_size HB.out) : w.heap.size ≤ p4)); have n4_:=zx ((by rw [hg]; exact (below_size HB.out) : w.heap.size ≤ p4)); have n5_:=zx ((by rw [hg]; exact Nat.ne_of_lt (blk_lt (g:=p6) (o:=.cells #[.int .i64 a0_0,.slice (some q3) l0_1.length c0_1] 34 (0,0)) p5.out) : p6 ≠ p4)); have n6_:=zx ((by rw [hg]; exact Nat.ne_of_gt (blk_lt (g:=p6) (o:=.cells #[.int .i64 a0_0,.slice (some q3) l0_1.length c0_1] 34 (0,0)) p5.out) : p4 ≠ p6)); clear p5; clear HB; have p5:=n0_; have HB:=n1_; have p3:=n2_; have GW776:=n3_; have q5:=n4_; have p0:=n5_; have q2:=n6_; clear n0_ n1_ n2_ n3_ n4_ n5_ n6_; clear hb hbox hg; have hnb15:=q2.out; have hnc15:=p0.out; have hcz16_0 : w14.cell? ⟨p4,0,none⟩ = some (.int .i64 0):=(blk_cell p3.out 0).trans rfl; have hcz16_1 : w14.cell? ⟨p4,1,none⟩ = some (.int .i64 0):=(blk_cell p3.out 1).trans rfl; have hcz16_2 : w14.cell? ⟨p4,2,none⟩ = some (.int .i64 0):=(blk_cell p3.out 2).trans rfl; have hcz16_3 : w14.cell? ⟨p4,3,none⟩ = some (.int .i64 0):=(blk_cell p3.out 3).trans rfl; have hcz16_4 : w14.cell? ⟨p4,4,none⟩ = some (.int .i64 0):=(blk_cell p3.out 4).trans rfl; have hfz16_0:=blk_frozen p3.out 0; have hfz16_1:=blk_frozen p3.out 1; have hfz16_2:=blk_frozen p3.out 2; have hfz16_3:=blk_frozen p3.out 3; have hfz16_4:=blk_frozen p3.out 4))
   go_roundg k1
   case measure => have:=HK1.out; omega
   case rel => exact ⟨(wrap64 (x5_1 + ((rd_T58 l0_1 p1).f4))),(wrap64 (p1 + 1)),(by first | rfl | (simp; done) | (simp [*]; done)),(by first | rfl | (simp; done) | (simp [*]; done)),H',⟨by have:=HK1.out; omega⟩,⟨by (with_reducible repeat (first | refine blk_drewN ?_ _ | refine blk_drew ?_ | refine blk_alloc ?_ _)); refine blk_far ?_ p0.out _; (with_reducible repeat (first | refine blk_drewN ?_ _ | refine blk_drew ?_ | refine blk_alloc ?_ _)); refine blk_far ?_ p0.out _; (with_reducible repeat (first | refine blk_drewN ?_ _ | refine blk_drew ?_ | refine blk_alloc ?_ _)); refine blk_far ?_ p0.out _; (with_reducible repeat (first | refine blk_drewN ?_ _ | refine blk_drew ?_ | refine blk_alloc ?_ _)); refine blk_far ?_ p0.out _; (with_reducible repeat (first | refine blk_drewN ?_ _ | refine blk_drew ?_ | refine blk_alloc ?_ _)); refine blk_far ?_ p0.out _; (with_reducible repeat (first | refine blk_drewN ?_ _ | refine blk_drew ?_ | refine blk_alloc ?_ _)); exact p5.out⟩,⟨by repeat (first | (with_reducible first | exact HB.out | apply below_alloc | apply pw_below_drewN | apply below_drew1 | refine below_set ?_ q4.out | refine below_set ?_ q5.out) | exact HB.out)⟩⟩
def impl_FlowMost.l0 : Nat → Int → Int → Int → Int → Int → Int → List (S58) → Option (Int)
 | 0,_,_,_,_,_,_,_ => none
 | k + 1,x1,x2,x7,x16,x17,p4,p5 => if x17 < x16 then (if 0 ≤ x1 then (if (Go.bits .and .i64 (shr .i64 x17 x1) 1) = 1 then (if 0 ≤ x2 then (if (Go.bits .and .i64 (shr .i64 x17 x2) 1) = 0 then (if x7 < 0 then ((impl_Net_cut.f k p4 p5 x17).bind fun t779 => (impl_FlowMost.l0 k x1 x2 t779 x16 (wrap64 (x17 + 1)) p4 p5)) else ((impl_Net_cut.f k p4 p5 x17).bind fun t780 => (if t780 < x7 then ((impl_Net_cut.f k p4 p5 x17).bind fun t781 => (impl_FlowMost.l0 k x1 x2 t781 x16 (wrap64 (x17 + 1)) p4 p5)) else (impl_FlowMost.l0 k x1 x2 x7 x16 (wrap64 (x17 + 1)) p4 p5)))) else (impl_FlowMost.l0 k x1 x2 x7 x16 (wrap64 (x17 + 1)) p4 p5)) else (none)) else (impl_FlowMost.l0 k x1 x2 x7 x16 (wrap64 (x17 + 1)) p4 p5)) else (none)) else (some x7)
def impl_FlowMost.f (k : Nat) (a0_0 : Int) (l0_1 : List (S58)) (a1 : Int) (a2 : Int) : Option (Int):=(impl_apart.f a0_0 l0_1 a1 a2).bind fun t778 => (if t778 = true then (if 0 ≤ a0_0 then (impl_FlowMost.l0 k a1 a2 (-1) (shl .i64 1 a0_0) 0 a0_0 l0_1) else (none)) else (some (-1)))
set_option maxHeartbeats 8000000 in
set_option maxRecDepth 100000 in
theorem impl_FlowMost.calls (k : Nat) (a0_0 : Int) (A0_1 : Option Addr) (c0_1 : Nat) (l0_1 : List (S58)) (a1 : Int) (a2 : Int) (r : Int) (w : World) (hr0_1 : Kd.C k58 w A0_1 l0_1.length l0_1) (hc0_1 : l0_1.length ≤ c0_1) (h : impl_FlowMost.f k a0_0 l0_1 a1 a2 = some r) :
  Calls Try.prog 36 #[.agg #[.int .i64 a0_0,.slice A0_1 l0_1.length c0_1],.int .i64 a1,.int .i64 a2] w fun e w' => e = .returned (.int .i64 r) ∧ Below w.heap.size w w':=by
 have hu34:=Try.underlying34;have p8:=zx hr0_1;have p9:=zx hc0_1;clear hr0_1 hc0_1;have HB:=zx (Below.refl w.heap.size w);have H : ((impl_apart.f a0_0 l0_1 a1 a2).bind fun t778 => (if t778 = true then (if 0 ≤ a0_0 then (impl_FlowMost.l0 k a1 a2 (-1) (shl .i64 1 a0_0) 0 a0_0 l0_1) else (none)) else (some (-1)))) = some r:=h;clear h;replace H:=Option.bind_eq_some_iff.mp H;obtain ⟨t778,A40,H⟩:=H;replace H : (if t778 = true then (if 0 ≤ a0_0 then (impl_FlowMost.l0 k a1 a2 (-1) (shl .i64 1 a0_0) 0 a0_0 l0_1) else (none)) else (some (-1))) = some r:=H;have A4:=zx A40;clear A40
 by_cases c5 : t778 = true
 case neg =>
  replace c5:=Bool.eq_false_iff.mpr c5;subst c5;have H1 : (some (-1)) = some r:=by rw [if_neg (show ¬ (false = true) by decide)] at H; exact H
  clear H;have H:=H1;clear H1;obtain rfl:=Option.some.inj H
  go_enter Try.func36,Try.ntmps36
  go_wp2_with (first | ((with_reducible refine gate_dst (N:=3) rfl ?_); refine box_event ?hg (N:=3) ?hd (cs:=#[.int .i64 a0_0,.slice A0_1 l0_1.length c0_1]) (t:=34) ?hr ?_; (case hd => rfl); (case hg => rfl); (case hr => first | (go_simp; done) | (go_simp; rfl)); intro p3 hg w32 hbox hb; have n0_:=zx (below_step HB.out hb); have n1_:=zx (hbox); have n2_:=zx ((by rw [hg]; exact (below_size HB.out) : w.heap.size ≤ p3)); have n3_:=zx ((by rw [hg]; exact (below_size HB.out) : w.heap.size ≤ p3)); clear HB; have HB:=n0_; have p0:=n1_; have GW777:=n2_; have p7:=n3_; clear n0_ n1_ n2_ n3_; clear hb hbox hg; have hcz33_0 : w32.cell? ⟨p3,0,none⟩ = some (.int .i64 a0_0):=(blk_cell p0.out 0).trans rfl; have hcz33_1 : w32.cell? ⟨p3,1,none⟩ = some (.slice A0_1 l0_1.length c0_1):=(blk_cell p0.out 1).trans rfl; have hfz33_0:=blk_frozen p0.out 0; have hfz33_1:=blk_frozen p0.out 1) | ((with_reducible refine gate_callee (f:=89) rfl ?_); refine goesL_ (some 12) rfl rfl Try.func89 (by kernel_rfl) rfl #[.agg #[.int .i64 a0_0,.slice A0_1 l0_1.length c0_1],.int .i64 a1,.int .i64 a2] rfl (by (try simp only [List.map_toArray,List.map_cons,List.map_nil]); first | done | rfl | (simp only [List.length_drop,List.length_take]; rfl)) ?_; (with_reducible refine (impl_apart.calls a0_0 _ _ l0_1 a1 a2 false _ ?side1 ?side2 A4.out).mono ?_); (case side1 => repeat (first | exact (Kd.C_below p8.out HB.out) | (with_reducible refine Kd.C_alloc ?_ _) | (with_reducible refine Kd.C_drewN ?_ _) | (with_reducible refine Kd.C_drew ?_))); (case side2 => exact p9.out); rintro e w34 ⟨rfl,hb⟩; refine ⟨_,rfl,?_⟩; have n0_:=zx (blk_below (g:=p3) (o:=.cells #[.int .i64 a0_0,.slice A0_1 l0_1.length c0_1] 34 (0,0)) p0.out hb); have n1_:=zx (below_step HB.out hb); clear p0; clear HB; have p0:=n0_; have HB:=n1_; clear n0_ n1_; (try clear hb); (try clear hb2); (try clear hk); (try clear hi)))
  go_ret;exact ⟨by first | rfl | (simp [errW_none,errW_some] <;> rfl) | (simp [*,errW_none,errW_some] <;> rfl),by repeat (first | (with_reducible first | exact HB.out | apply below_alloc | apply pw_below_drewN | apply below_drew1 | refine below_set ?_ p7.out) | exact HB.out)⟩
 subst c5;have H1 : (if 0 ≤ a0_0 then (impl_FlowMost.l0 k a1 a2 (-1) (shl .i64 1 a0_0) 0 a0_0 l0_1) else (none)) = some r:=by rw [if_pos rfl] at H; exact H
 clear H;have H:=H1;clear H1
 by_cases c6 : 0 ≤ a0_0
 case neg =>
  rw [if_neg c6] at H;exact absurd H (by simp)
 rw [if_pos c6] at H;have c6b0:=eq_true c6;have c6b1 : decide (0 ≤ a0_0) = true:=decide_eq_true c6;clear c6;obtain ⟨ji7,hji7⟩ : ∃ j_ : Int,(shl .i64 1 a0_0) = j_:=⟨_,rfl⟩
 replace H : (impl_FlowMost.l0 k a1 a2 (-1) ji7 0 a0_0 l0_1) = some r:=by first | (rw [hji7] at H; exact H) | (simp only [hji7] at H ⊢; exact H)
 (try rw [hji7] at A4)
 have hji7_ : (IntKind.i64.wrap (1 * 2 ^ min a0_0.toNat 64)) = ji7:=hji7;have hji7z : a0_0 ≤ 64 → (IntKind.i64.wrap (1 * 2 ^ a0_0.toNat)) = ji7:=shl_small hji7;have hji7u : (IntKind.i64.wrap (2 ^ min a0_0.toNat 64)) = ji7:=by have h_:=hji7_; rw [Int.one_mul] at h_; exact h_
 have hji7v : a0_0 ≤ 64 → (IntKind.i64.wrap (2 ^ a0_0.toNat)) = ji7:=fun hle_ => by have h_:=hji7z hle_; rw [Int.one_mul] at h_; exact h_
 have hji7y : (wrap64 (1 * 2 ^ min a0_0.toNat 64)) = ji7:=(i64_w _).symm.trans hji7_;have hji7x : a0_0 ≤ 64 → (wrap64 (1 * 2 ^ a0_0.toNat)) = ji7:=fun h_ => (i64_w _).symm.trans (hji7z h_)
 have H':=zx H;clear H
 go_enter Try.func36,Try.ntmps36
 go_wp2_with (first | ((with_reducible refine gate_dst (N:=3) rfl ?_); refine box_event ?hg (N:=3) ?hd (cs:=#[.int .i64 a0_0,.slice A0_1 l0_1.length c0_1]) (t:=34) ?hr ?_; (case hd => rfl); (case hg => rfl); (case hr => first | (go_simp; done) | (go_simp; rfl)); intro p3 hg w8 hbox hb; have n0_:=zx (below_step HB.out hb); have n1_:=zx (hbox); have n2_:=zx ((by rw [hg]; exact (below_size HB.out) : w.heap.size ≤ p3)); have n3_:=zx ((by rw [hg]; exact (below_size HB.out) : w.heap.size ≤ p3)); clear HB; have HB:=n0_; have p0:=n1_; have GW777:=n2_; have p7:=n3_; clear n0_ n1_ n2_ n3_; clear hb hbox hg; have hcz9_0 : w8.cell? ⟨p3,0,none⟩ = some (.int .i64 a0_0):=(blk_cell p0.out 0).trans rfl; have hcz9_1 : w8.cell? ⟨p3,1,none⟩ = some (.slice A0_1 l0_1.length c0_1):=(blk_cell p0.out 1).trans rfl; have hfz9_0:=blk_frozen p0.out 0; have hfz9_1:=blk_frozen p0.out 1) | ((with_reducible refine gate_callee (f:=89) rfl ?_); refine goesL_ (some 12) rfl rfl Try.func89 (by kernel_rfl) rfl #[.agg #[.int .i64 a0_0,.slice A0_1 l0_1.length c0_1],.int .i64 a1,.int .i64 a2] rfl (by (try simp only [List.map_toArray,List.map_cons,List.map_nil]); first | done | rfl | (simp only [List.length_drop,List.length_take]; rfl)) ?_; (with_reducible refine (impl_apart.calls a0_0 _ _ l0_1 a1 a2 true _ ?side1 ?side2 A4.out).mono ?_); (case side1 => repeat (first | exact (Kd.C_below p8.out HB.out) | (with_reducible refine Kd.C_alloc ?_ _) | (with_reducible refine Kd.C_drewN ?_ _) | (with_reducible refine Kd.C_drew ?_))); (case side2 => exact p9.out); rintro e w10 ⟨rfl,hb⟩; refine ⟨_,rfl,?_⟩; have n0_:=zx (blk_below (g:=p3) (o:=.cells #[.int .i64 a0_0,.slice A0_1 l0_1.length c0_1] 34 (0,0)) p0.out hb); have n1_:=zx (below_step HB.out hb); clear p0; clear HB; have p0:=n0_; have HB:=n1_; clear n0_ n1_; (try clear hb); (try clear hb2); (try clear hk); (try clear hi); have q0 : w10.cell? ⟨p3,0,none⟩ = some (.int .i64 a0_0):=(blk_cell p0.out 0).trans rfl; have q1 : w10.cell? ⟨p3,1,none⟩ = some (.slice A0_1 l0_1.length c0_1):=(blk_cell p0.out 1).trans rfl; have q2:=blk_frozen p0.out 0; have q3:=blk_frozen p0.out 1))
 go_loopg [7,17] k (fun kq v7 v17 w' => ∃ (x7_1 : Int) (p1 : Int),v7 = .int .i64 x7_1 ∧ v17 = .int .i64 p1 ∧ Aside0 (impl_FlowMost.l0 kq a1 a2 x7_1 ji7 p1 a0_0 l0_1 = some r) ∧ Aside0 (kq ≤ k) ∧ Aside0 (w'.heap[p3]? = some (.cells #[.int .i64 a0_0,(.slice A0_1 l0_1.length c0_1)] 34 (0,0))) ∧ Aside0 (Below w.heap.size w w'))
 case atStart => exact ⟨((-1)),(0),(by first | rfl | (simp; done) | (simp [*]; done)),(by first | rfl | (simp; done) | (simp [*]; done)),H',⟨Nat.le_refl _⟩,⟨by (with_reducible repeat (first | refine blk_drewN ?_ _ | refine blk_drew ?_ | refine blk_alloc ?_ _)); exact p0.out⟩,⟨by repeat (first | (with_reducible first | exact HB.out | apply below_alloc | apply pw_below_drewN | apply below_drew1 | refine below_set ?_ p7.out) | exact HB.out)⟩⟩
 case round =>
  clear H'
  try clear p2
  try clear c3
  try clear c5
  try clear c6
  try clear c6b0
  try clear c6b1
  try clear p6
  try clear c8
  try clear q0
  try clear q1
  try clear hcz9_0
  try clear hcz9_1
  try clear q2
  try clear q3
  try clear hfz9_0
  try clear hfz9_1
  obtain ⟨x7_1,p1,rfl,rfl,HA,HK1,p0,HB⟩:=hrel;cases gk with
  | zero => exact absurd HA.out (by simp [impl_FlowMost.l0])
  | succ k1 =>
   have H:=HA.out;clear HA;simp only [impl_FlowMost.l0] at H
   by_cases c12 : p1 < ji7
   case neg =>
    rw [if_neg c12] at H;have c12b0 : decide (p1 < ji7) = false:=decide_eq_false c12;clear c12;obtain rfl:=Option.some.inj H
    go_wp2
    go_ret;exact ⟨by first | rfl | (simp [errW_none,errW_some] <;> rfl) | (simp only [← hji7]; first | rfl | (simp [errW_none,errW_some] <;> rfl)) | (simp [*,errW_none,errW_some] <;> rfl),by repeat (first | (with_reducible first | exact HB.out | apply below_alloc | apply pw_below_drewN | apply below_drew1 | refine below_set ?_ p7.out) | exact HB.out)⟩
   rw [if_pos c12] at H;have c12b0 : decide (p1 < ji7) = true:=decide_eq_true c12;clear c12
   by_cases c13 : 0 ≤ a1
   case neg =>
    rw [if_neg c13] at H;exact absurd H (by simp)
   rw [if_pos c13] at H;have c13b0:=eq_true c13;have c13b1 : decide (0 ≤ a1) = true:=decide_eq_true c13;clear c13;obtain ⟨ji14,hji14⟩ : ∃ j_ : Int,(shr .i64 p1 a1) = j_:=⟨_,rfl⟩
   replace H : (if (Go.bits .and .i64 (ji14) 1) = 1 then (if 0 ≤ a2 then (if (Go.bits .and .i64 (shr .i64 p1 a2) 1) = 0 then (if x7_1 < 0 then ((impl_Net_cut.f k1 a0_0 l0_1 p1).bind fun t779 => (impl_FlowMost.l0 k1 a1 a2 t779 ji7 (wrap64 (p1 + 1)) a0_0 l0_1)) else ((impl_Net_cut.f k1 a0_0 l0_1 p1).bind fun t780 => (if t780 < x7_1 then ((impl_Net_cut.f k1 a0_0 l0_1 p1).bind fun t781 => (impl_FlowMost.l0 k1 a1 a2 t781 ji7 (wrap64 (p1 + 1)) a0_0 l0_1)) else (impl_FlowMost.l0 k1 a1 a2 x7_1 ji7 (wrap64 (p1 + 1)) a0_0 l0_1)))) else (impl_FlowMost.l0 k1 a1 a2 x7_1 ji7 (wrap64 (p1 + 1)) a0_0 l0_1)) else (none)) else (impl_FlowMost.l0 k1 a1 a2 x7_1 ji7 (wrap64 (p1 + 1)) a0_0 l0_1)) = some r:=by first | (rw [hji14] at H; exact H) | (simp only [hji14] at H ⊢; exact H)
   have hji14_ : (p1 / 2 ^ min a1.toNat 64) = ji14:=hji14;have hji14z : a1 ≤ 64 → (p1 / 2 ^ a1.toNat) = ji14:=shr_small hji14
   by_cases c15 : (Go.bits .and .i64 (ji14) 1) = 1
   case neg =>
    rw [if_neg c15] at H;have c15b0 : ((Go.bits .and .i64 (ji14) 1) == 1) = false:=beq_eq_false_iff_ne.mpr c15;have c15b1 : ((Go.bits .and .i64 (ji14) 1) != 1) = true:=bne_iff_ne.mpr c15;have H':=zx H;clear H
    go_wp2
    go_roundg k1
    case measure => have:=HK1.out; omega
    case rel => exact ⟨(x7_1),(wrap64 (p1 + 1)),(by first | rfl | (simp; done) | (simp [*]; done)),(by first | rfl | (simp; done) | (simp [*]; done)),H',⟨by have:=HK1.out; omega⟩,⟨by (with_reducible repeat (first | refine blk_drewN ?_ _ | refine blk_drew ?_ | refine blk_alloc ?_ _)); exact p0.out⟩,⟨by repeat (first | (with_reducible first | exact HB.out | apply below_alloc | apply pw_below_drewN | apply below_drew1 | refine below_set ?_ p7.out) | exact HB.out)⟩⟩
   rw [if_pos c15] at H;have c15b0 : ((Go.bits .and .i64 (ji14) 1) == 1) = true:=beq_iff_eq.mpr c15;have c15b1 : ((Go.bits .and .i64 (ji14) 1) != 1) = false:=bne_eq_false_iff_eq.mpr c15;clear c15
   by_cases c16 : 0 ≤ a2
   case neg =>
    rw [if_neg c16] at H;exact absurd H (by simp)
   rw [if_pos c16] at H;have c16b0:=eq_true c16;have c16b1 : decide (0 ≤ a2) = true:=decide_eq_true c16;clear c16;obtain ⟨ji17,hji17⟩ : ∃ j_ : Int,(shr .i64 p1 a2) = j_:=⟨_,rfl⟩
   replace H : (if (Go.bits .and .i64 (ji17) 1) = 0 then (if x7_1 < 0 then ((impl_Net_cut.f k1 a0_0 l0_1 p1).bind fun t779 => (impl_FlowMost.l0 k1 a1 a2 t779 ji7 (wrap64 (p1 + 1)) a0_0 l0_1)) else ((impl_Net_cut.f k1 a0_0 l0_1 p1).bind fun t780 => (if t780 < x7_1 then ((impl_Net_cut.f k1 a0_0 l0_1 p1).bind fun t781 => (impl_FlowMost.l0 k1 a1 a2 t781 ji7 (wrap64 (p1 + 1)) a0_0 l0_1)) else (impl_FlowMost.l0 k1 a1 a2 x7_1 ji7 (wrap64 (p1 + 1)) a0_0 l0_1)))) else (impl_FlowMost.l0 k1 a1 a2 x7_1 ji7 (wrap64 (p1 + 1)) a0_0 l0_1)) = some r:=by first | (rw [hji17] at H; exact H) | (simp only [hji17] at H ⊢; exact H)
   have hji17_ : (p1 / 2 ^ min a2.toNat 64) = ji17:=hji17;have hji17z : a2 ≤ 64 → (p1 / 2 ^ a2.toNat) = ji17:=shr_small hji17
   by_cases c18 : (Go.bits .and .i64 (ji17) 1) = 0
   case neg =>
    rw [if_neg c18] at H;have c18b0 : ((Go.bits .and .i64 (ji17) 1) == 0) = false:=beq_eq_false_iff_ne.mpr c18;have c18b1 : ((Go.bits .and .i64 (ji17) 1) != 0) = true:=bne_iff_ne.mpr c18;have H':=zx H;clear H
    go_wp2
    go_roundg k1
    case measure => have:=HK1.out; omega
    case rel => exact ⟨(x7_1),(wrap64 (p1 + 1)),(by first | rfl | (simp; done) | (simp [*]; done)),(by first | rfl | (simp; done) | (simp [*]; done)),H',⟨by have:=HK1.out; omega⟩,⟨by (with_reducible repeat (first | refine blk_drewN ?_ _ | refine blk_drew ?_ | refine blk_alloc ?_ _)); exact p0.out⟩,⟨by repeat (first | (with_reducible first | exact HB.out | apply below_alloc | apply pw_below_drewN | apply below_drew1 | refine below_set ?_ p7.out) | exact HB.out)⟩⟩
   rw [if_pos c18] at H;have c18b0 : ((Go.bits .and .i64 (ji17) 1) == 0) = true:=beq_iff_eq.mpr c18;have c18b1 : ((Go.bits .and .i64 (ji17) 1) != 0) = false:=bne_eq_false_iff_eq.mpr c18;clear c18
   by_cases c19 : x7_1 < 0
   case pos =>
    rw [if_pos c19] at H;have c19b0 : decide (x7_1 < 0) = true:=decide_eq_true c19;clear c19;replace H:=Option.bind_eq_some_iff.mp H;obtain ⟨t779,A200,H⟩:=H;replace H : (impl_FlowMost.l0 k1 a1 a2 t779 ji7 (wrap64 (p1 + 1)) a0_0 l0_1) = some r:=H;have A20:=zx A200;clear A200;have H':=zx H;clear H;have hcz21_0 : wr.cell? ⟨p3,0,none⟩ = some (.int .i64 a0_0):=(blk_cell p0.out 0).trans rfl;have hcz21_1 : wr.cell? ⟨p3,1,none⟩ = some (.slice A0_1 l0_1.length c0_1):=(blk_cell p0.out 1).trans rfl;have hfz21_0:=blk_frozen p0.out 0;have hfz21_1:=blk_frozen p0.out 1
    go_wp2_with (first | ((with_reducible refine gate_callee (f:=92) rfl ?_); refine goesL_ (some 45) rfl rfl Try.func92 (by kernel_rfl) rfl #[.agg #[.int .i64 a0_0,.slice A0_1 l0_1.length c0_1],.int .i64 p1] rfl (by (try simp only [List.map_toArray,List.map_cons,List.map_nil]); first | done | rfl | (simp only [List.length_drop,List.length_take]; rfl)) ?_; (with_reducible refine (impl_Net_cut.calls k1 a0_0 _ _ l0_1 p1 t779 _ ?side1 ?side2 A20.out).mono ?_); (case side1 => repeat (first | exact (Kd.C_below p8.out HB.out) | (with_reducible refine Kd.C_alloc ?_ _) | (with_reducible refine Kd.C_drewN ?_ _) | (with_reducible refine Kd.C_drew ?_))); (case side2 => exact p9.out); rintro e w22 ⟨rfl,hb⟩; refine ⟨_,rfl,?_⟩; have n0_:=zx (blk_below (g:=p3) (o:=.cells #[.int .i64 a0_0,.slice A0_1 l0_1.length c0_1] 34 (0,0)) p0.out hb); have n1_:=zx (below_step HB.out hb); clear p0; clear HB; have p0:=n0_; have HB:=n1_; clear n0_ n1_; (try clear hb); (try clear hb2); (try clear hk); (try clear hi)))
    go_roundg k1
    case measure => have:=HK1.out; omega
    case rel => exact ⟨(t779),(wrap64 (p1 + 1)),(by first | rfl | (simp; done) | (simp [*]; done)),(by first | rfl | (simp; done) | (simp [*]; done)),H',⟨by have:=HK1.out; omega⟩,⟨by (with_reducible repeat (first | refine blk_drewN ?_ _ | refine blk_drew ?_ | refine blk_alloc ?_ _)); exact p0.out⟩,⟨by repeat (first | (with_reducible first | exact HB.out | apply below_alloc | apply pw_below_drewN | apply below_drew1 | refine below_set ?_ p7.out) | exact HB.out)⟩⟩
   rw [if_neg c19] at H;have c19b0 : decide (x7_1 < 0) = false:=decide_eq_false c19;clear c19;replace H:=Option.bind_eq_some_iff.mp H;obtain ⟨t780,A230,H⟩:=H;replace H : (if t780 < x7_1 then ((impl_Net_cut.f k1 a0_0 l0_1 p1).bind fun t781 => (impl_FlowMost.l0 k1 a1 a2 t781 ji7 (wrap64 (p1 + 1)) a0_0 l0_1)) else (impl_FlowMost.l0 k1 a1 a2 x7_1 ji7 (wrap64 (p1 + 1)) a0_0 l0_1)) = some r:=H;have A23:=zx A230;clear A230
   by_cases c24 : t780 < x7_1
   case neg =>
    rw [if_neg c24] at H;have c24b0 : decide (t780 < x7_1) = false:=decide_eq_false c24;clear c24;have H':=zx H;clear H;have hcz30_0 : wr.cell? ⟨p3,0,none⟩ = some (.int .i64 a0_0):=(blk_cell p0.out 0).trans rfl;have hcz30_1 : wr.cell? ⟨p3,1,none⟩ = some (.slice A0_1 l0_1.length c0_1):=(blk_cell p0.out 1).trans rfl;have hfz30_0:=blk_frozen p0.out 0;have hfz30_1:=blk_frozen p0.out 1
    go_wp2_with (first | (go_at_call 92; (with_reducible refine (impl_Net_cut.calls k1 a0_0 _ _ l0_1 p1 t780 _ ?side1 ?side2 A23.out).mono ?_); (case side1 => repeat (first | exact (Kd.C_below p8.out HB.out) | (with_reducible refine Kd.C_alloc ?_ _) | (with_reducible refine Kd.C_drewN ?_ _) | (with_reducible refine Kd.C_drew ?_))); (case side2 => exact p9.out); rintro e w31 ⟨rfl,hb⟩; have n0_:=zx (blk_below (g:=p3) (o:=.cells #[.int .i64 a0_0,.slice A0_1 l0_1.length c0_1] 34 (0,0)) p0.out hb); have n1_:=zx (below_step HB.out hb); clear p0; clear HB; have p0:=n0_; have HB:=n1_; clear n0_ n1_; (try clear hb); (try clear hb2); (try clear hk); (try clear hi)))
    go_roundg k1
    case measure => have:=HK1.out; omega
    case rel => exact ⟨(x7_1),(wrap64 (p1 + 1)),(by first | rfl | (simp; done) | (simp [*]; done)),(by first | rfl | (simp; done) | (simp [*]; done)),H',⟨by have:=HK1.out; omega⟩,⟨by (with_reducible repeat (first | refine blk_drewN ?_ _ | refine blk_drew ?_ | refine blk_alloc ?_ _)); exact p0.out⟩,⟨by repeat (first | (with_reducible first | exact HB.out | apply below_alloc | apply pw_below_drewN | apply below_drew1 | refine below_set ?_ p7.out) | exact HB.out)⟩⟩
   rw [if_pos c24] at H;have c24b0 : decide (t780 < x7_1) = true:=decide_eq_true c24;clear c24;replace H:=Option.bind_eq_some_iff.mp H;obtain ⟨t781,A250,H⟩:=H;replace H : (impl_FlowMost.l0 k1 a1 a2 t781 ji7 (wrap64 (p1 + 1)) a0_0 l0_1) = some r:=H;have A25:=zx A250;clear A250;have H':=zx H;clear H;have hcz26_0 : wr.cell? ⟨p3,0,none⟩ = some (.int .i64 a0_0):=(blk_cell p0.out 0).trans rfl;have hcz26_1 : wr.cell? ⟨p3,1,none⟩ = some (.slice A0_1 l0_1.length c0_1):=(blk_cell p0.out 1).trans rfl;have hfz26_0:=blk_frozen p0.out 0;have hfz26_1:=blk_frozen p0.out 1
   go_wp2_with (first | (go_at_call 92; (with_reducible refine (impl_Net_cut.calls k1 a0_0 _ _ l0_1 p1 t780 _ ?side1 ?side2 A23.out).mono ?_); (case side1 => repeat (first | exact (Kd.C_below p8.out HB.out) | (with_reducible refine Kd.C_alloc ?_ _) | (with_reducible refine Kd.C_drewN ?_ _) | (with_reducible refine Kd.C_drew ?_))); (case side2 => exact p9.out); rintro e w27 ⟨rfl,hb⟩; have n0_:=zx (blk_below (g:=p3) (o:=.cells #[.int .i64 a0_0,.slice A0_1 l0_1.length c0_1] 34 (0,0)) p0.out hb); have n1_:=zx (below_step HB.out hb); clear p0; clear HB; have p0:=n0_; have HB:=n1_; clear n0_ n1_; (try clear hb); (try clear hb2); (try clear hk); (try clear hi); have hcz28_0 : w27.cell? ⟨p3,0,none⟩ = some (.int .i64 a0_0):=(blk_cell p0.out 0).trans rfl; have hcz28_1 : w27.cell? ⟨p3,1,none⟩ = some (.slice A0_1 l0_1.length c0_1):=(blk_cell p0.out 1).trans rfl; have hfz28_0:=blk_frozen p0.out 0; have hfz28_1:=blk_frozen p0.out 1) | ((with_reducible refine gate_callee (f:=92) rfl ?_); refine goesL_ (some 45) rfl rfl Try.func92 (by kernel_rfl) rfl #[.agg #[.int .i64 a0_0,.slice A0_1 l0_1.length c0_1],.int .i64 p1] rfl (by (try simp only [List.map_toArray,List.map_cons,List.map_nil]); first | done | rfl | (simp only [List.length_drop,List.length_take]; rfl)) ?_; (with_reducible refine (impl_Net_cut.calls k1 a0_0 _ _ l0_1 p1 t781 _ ?side1 ?side2 A25.out).mono ?_); (case side1 => repeat (first | exact (Kd.C_below p8.out HB.out) | (with_reducible refine Kd.C_alloc ?_ _) | (with_reducible refine Kd.C_drewN ?_ _) | (with_reducible refine Kd.C_drew ?_))); (case side2 => exact p9.out); rintro e w29 ⟨rfl,hb⟩; refine ⟨_,rfl,?_⟩; have n0_:=zx (blk_below (g:=p3) (o:=.cells #[.int .i64 a0_0,.slice A0_1 l0_1.length c0_1] 34 (0,0)) p0.out hb); have n1_:=zx (below_step HB.out hb); clear p0; clear HB; have p0:=n0_; have HB:=n1_; clear n0_ n1_; (try clear hb); (try clear hb2); (try clear hk); (try clear hi)))
   go_roundg k1
   case measure => have:=HK1.out; omega
   case rel => exact ⟨(t781),(wrap64 (p1 + 1)),(by first | rfl | (simp; done) | (simp [*]; done)),(by first | rfl | (simp; done) | (simp [*]; done)),H',⟨by have:=HK1.out; omega⟩,⟨by (with_reducible repeat (first | refine blk_drewN ?_ _ | refine blk_drew ?_ | refine blk_alloc ?_ _)); exact p0.out⟩,⟨by repeat (first | (with_reducible first | exact HB.out | apply below_alloc | apply pw_below_drewN | apply below_drew1 | refine below_set ?_ p7.out) | exact HB.out)⟩⟩
def IsS122 (w0 W : World) (g : Nat) (f0 : List Int) (f1 : Int) : Prop:=∃ A0 c0,W.heap[g]? = some (.cells #[.slice A0 f0.length c0,.int .i64 f1] 122 (0,0)) ∧ w0.heap.size ≤ g ∧ Kd.C (Kd.int .u8) w0 A0 f0.length f0
theorem IsS122.grown {w0 W : World} {g : Nat} {f0 : List Int} {f1 : Int} {W1 : World} {row : Option Nat} (h : IsS122 w0 W g f0 f1) (hw : W.grownBy W1 row) (hne : some g ≠ row) : IsS122 w0 W1 g f0 f1:=by
 obtain ⟨A0,c0,hb,hg,hr0⟩:=h;exact ⟨A0,c0,blk_grown hb hw hne,hg,hr0⟩
theorem IsS122.below {w0 W : World} {g : Nat} {f0 : List Int} {f1 : Int} {W1 : World} (h : IsS122 w0 W g f0 f1) (hw : Below W.heap.size W W1) : IsS122 w0 W1 g f0 f1:=h.grown (grown_of_below hw none) (by simp)
theorem IsS122.grown2 {w0 W : World} {g : Nat} {f0 : List Int} {f1 : Int} {W0 W1 : World} {row : Option Nat} (_h0 : IsS122 w0 W0 g f0 f1) (h : IsS122 w0 W g f0 f1) (hw : W.grownBy W1 row) (hne : some g ≠ row) : IsS122 w0 W1 g f0 f1:=h.grown hw hne
theorem IsS122.alloc {w0 W : World} {g : Nat} {f0 : List Int} {f1 : Int} (h : IsS122 w0 W g f0 f1) (o : Obj) : IsS122 w0 (W.alloc o) g f0 f1:=h.below (below_alloc (Below.refl _ _) o)
theorem IsS122.drewN {w0 W : World} {g : Nat} {f0 : List Int} {f1 : Int} (h : IsS122 w0 W g f0 f1) (m : Nat) : IsS122 w0 (W.drewN m) g f0 f1:=h
theorem IsS122.drew {w0 W : World} {g : Nat} {f0 : List Int} {f1 : Int} (h : IsS122 w0 W g f0 f1) : IsS122 w0 W.drew g f0 f1:=h
theorem IsS122.apart {w0 W : World} {g : Nat} {f0 : List Int} {f1 : Int} {α : Type} {d : Kd α} {e : Nat} {base : Nat} {ok : Nat → Prop} {v : Value} {xs : List α} (h : IsS122 w0 W g f0 f1) (ho : d.R e W base ok v xs) (ht : ∀ q,q ∈ e :: d.E → q ≠ 122) : d.R e W base (fun k => ok k ∧ k ≠ g) v xs:=by
 obtain ⟨A0,c0,hb,hg,hr0⟩:=h;exact Kd.R_types ho hb ht
theorem IsS122.own_ne {w0 W : World} {g : Nat} {f0 : List Int} {f1 : Int} {α : Type} {d : Kd α} {e : Nat} {base : Nat} {ok : Nat → Prop} {v : Value} {xs : List α} (h : IsS122 w0 W g f0 f1) (ho : d.R e W base ok v xs) (ht : e ≠ 122) : some g ≠ v.ownBlock:=by
 obtain ⟨A0,c0,hb,hg,hr0⟩:=h;exact Kd.R_ne ho hb ht
theorem IsS122.lt {w0 W : World} {g : Nat} {f0 : List Int} {f1 : Int} (h : IsS122 w0 W g f0 f1) : g < W.heap.size:=by
 obtain ⟨A0,c0,hb,hg,hr0⟩:=h;exact blk_lt hb
theorem IsS122.ge {w0 W : World} {g : Nat} {f0 : List Int} {f1 : Int} (h : IsS122 w0 W g f0 f1) : w0.heap.size ≤ g:=by
 obtain ⟨A0,c0,hb,hg,hr0⟩:=h;exact hg
theorem IsS122.ne_blk {w0 W : World} {g : Nat} {f0 : List Int} {f1 : Int} {a : Nat} {cs : Array Value} {t : TypeId} {fr : Nat × Nat} (h : IsS122 w0 W g f0 f1) (hb2 : W.heap[a]? = some (.cells cs t fr)) (ht : t ≠ 122) : g ≠ a:=by
 obtain ⟨A0,c0,hb,hg,hr0⟩:=h;rintro rfl;rw [hb] at hb2;injection hb2 with hb2
 injection hb2 with _ ht2
 exact ht ht2.symm
theorem IsS122.far {w0 W : World} {g : Nat} {f0 : List Int} {f1 : Int} {p : Addr} (h : IsS122 w0 W g f0 f1) (hne : g ≠ p.block) (u : Value) : IsS122 w0 (W.setCell p u) g f0 f1:=by
 obtain ⟨A0,c0,hb,hg,hr0⟩:=h;exact ⟨A0,c0,blk_far hb hne u,hg,hr0⟩
theorem cellS122_0 {W : World} {g : Nat} {A0 : Option Addr} {c0 : Nat} {f0 : List Int} {f1 : Int} (h : W.heap[g]? = some (.cells #[.slice A0 f0.length c0,.int .i64 f1] 122 (0,0))) : W.cell? ⟨g,0,none⟩ = some (.slice A0 f0.length c0):=(blk_cell h 0).trans rfl
theorem cellS122_1 {W : World} {g : Nat} {A0 : Option Addr} {c0 : Nat} {f0 : List Int} {f1 : Int} (h : W.heap[g]? = some (.cells #[.slice A0 f0.length c0,.int .i64 f1] 122 (0,0))) : W.cell? ⟨g,1,none⟩ = some (.int .i64 f1):=(blk_cell h 1).trans rfl
theorem IsS122.set_1 {w0 W : World} {g : Nat} {f0 : List Int} {f1 : Int} (h : IsS122 w0 W g f0 f1) (x : Int) : IsS122 w0 (W.setCell ⟨g,1,none⟩ (.int .i64 x)) g f0 x:=by
 obtain ⟨A0,c0,hb,hg,hr0⟩:=h;exact ⟨A0,c0,by simpa using blk_set hb 1 (.int .i64 x),hg,hr0⟩
def spec_l30Open.f (l0 : List Int) : Option (List Int × Int):=if (l0.length : Int) > 2000 then (if 2000 ≤ (l0.length : Int) then (some (l0.take 2000,0)) else (none)) else (some (l0,0))
set_option maxHeartbeats 8000000 in
set_option maxRecDepth 100000 in
theorem spec_l30Open.calls (A0 : Option Addr) (c0 : Nat) (l0 : List Int) (r1 : List Int) (r2 : Int) (w0 w : World) (hB : Below w0.heap.size w0 w) (hr0 : Kd.C (Kd.int .u8) w0 A0 l0.length l0) (hc0 : l0.length ≤ c0) (h : spec_l30Open.f l0 = some (r1,r2)) :
  Calls Try.prog 62 #[.slice A0 l0.length c0] w fun e w' => ∃ g_ : Nat,e = .returned (.pointer (some ⟨g_,0,none⟩)) ∧ IsS122 w0 w' g_ r1 r2 ∧ Below w0.heap.size w0 w' ∧ Below w.heap.size w w':=by
 have hu122:=Try.underlying122;have HR0:=zx hr0;have HC0:=zx hc0;clear hr0 hc0;have HBW:=zx (Below.refl w.heap.size w);have HW0:=zx hB.size;have HB:=zx hB;clear hB;have H : (if (l0.length : Int) > 2000 then (if 2000 ≤ (l0.length : Int) then (some (l0.take 2000,0)) else (none)) else (some (l0,0))) = some (r1,r2):=h;clear h
 by_cases c2 : (l0.length : Int) > 2000
 case neg =>
  rw [if_neg c2] at H;have c2b0 : decide (2000 < (l0.length : Int)) = false:=decide_eq_false c2;have c2b1 : decide (2000 < l0.length) = false:=decide_eq_false (by omega);clear c2;simp only [Option.some.injEq,Prod.mk.injEq] at H;obtain ⟨rfl,rfl⟩:=H
  go_enter Try.func62,Try.ntmps62
  go_wp2_with (first | ((with_reducible refine gate_dst (N:=10) rfl ?_); refine box_event ?hg (N:=10) ?hd (cs:=#[.slice A0 l0.length c0,.int .i64 0]) (t:=122) ?hr ?_; (case hd => rfl); (case hg => rfl); (case hr => first | (go_simp; done) | (go_simp; rfl)); intro p1 hg w6 hbox hb; have n0_:=zx (below_step HBW.out hb); have n1_:=zx (below_step HB.out hb); have n2_:=zx (hbox); have n3_:=zx ((by rw [hg]; exact (below_size HBW.out) : w.heap.size ≤ p1)); have n4_:=zx ((Nat.le_trans HW0.out (by rw [hg]; exact (below_size HBW.out) : w.heap.size ≤ p1) : w0.heap.size ≤ p1)); clear HBW; clear HB; have HBW:=n0_; have HB:=n1_; have BK103:=n2_; have GW103:=n3_; have GE103:=n4_; clear n0_ n1_ n2_ n3_ n4_; clear hb hbox hg))
  go_ret;exact ⟨_,rfl,(show IsS122 w0 _ p1 l0 0 from ⟨_,_,by (with_reducible repeat (first | refine blk_drewN ?_ _ | refine blk_drew ?_ | refine blk_alloc ?_ _)); exact BK103.out,GE103.out,HR0.out⟩),by repeat (first | (with_reducible first | exact HB.out | apply below_alloc | apply pw_below_drewN | apply below_drew1 | refine below_set ?_ GE103.out) | exact HB.out),by repeat (first | (with_reducible first | exact HBW.out | apply below_alloc | apply pw_below_drewN | apply below_drew1 | refine below_set ?_ GW103.out) | exact HBW.out)⟩
 rw [if_pos c2] at H;have c2b0 : decide (2000 < (l0.length : Int)) = true:=decide_eq_true c2;have c2b1 : decide (2000 < l0.length) = true:=decide_eq_true (by omega);clear c2
 by_cases c3 : 2000 ≤ (l0.length : Int)
 case neg =>
  rw [if_neg c3] at H;exact absurd H (by simp)
 rw [if_pos c3] at H;have c3b0:=eq_true c3;have c3b1 : decide (2000 ≤ (l0.length : Int)) = true:=decide_eq_true c3;clear c3;simp only [Option.some.injEq,Prod.mk.injEq] at H;obtain ⟨rfl,rfl⟩:=H;obtain ⟨i04,hi04,_,hsz4,_⟩:=info_parts info5;obtain ⟨hcut4,hA4,hC4⟩:=print_take_of (P:=Try.prog) (Value.int .u8) 0 22 5 .i64 Try.underlying22 hi04 hsz4 A0 c0 l0 2000 (by omega) (of_decide_eq_true (by first | (with_reducible assumption) | assumption)) HC0.out;have HR101:=zx (Kd.C_of_reads (h1:=fun _ => rfl) (hA4 _ (Kd.reads_of_C HR0.out)));have HC101:=zx hC4;clear hA4 hC4 hi04 hsz4
 go_enter Try.func62,Try.ntmps62
 go_wp2_with (first | ((with_reducible refine gate_dst (N:=10) rfl ?_); refine box_event ?hg (N:=10) ?hd (cs:=#[.slice A0 (l0.take 2000).length c0,.int .i64 0]) (t:=122) ?hr ?_; (case hd => rfl); (case hg => rfl); (case hr => first | (go_simp; done) | (go_simp; rfl)); intro p0 hg w5 hbox hb; have n0_:=zx (below_step HBW.out hb); have n1_:=zx (below_step HB.out hb); have n2_:=zx (hbox); have n3_:=zx ((by rw [hg]; exact (below_size HBW.out) : w.heap.size ≤ p0)); have n4_:=zx ((Nat.le_trans HW0.out (by rw [hg]; exact (below_size HBW.out) : w.heap.size ≤ p0) : w0.heap.size ≤ p0)); clear HBW; clear HB; have HBW:=n0_; have HB:=n1_; have BK102:=n2_; have GW102:=n3_; have GE102:=n4_; clear n0_ n1_ n2_ n3_ n4_; clear hb hbox hg))
 go_ret;exact ⟨_,rfl,(show IsS122 w0 _ p0 (l0.take 2000) 0 from ⟨_,_,by (with_reducible repeat (first | refine blk_drewN ?_ _ | refine blk_drew ?_ | refine blk_alloc ?_ _)); exact BK102.out,GE102.out,HR101.out⟩),by repeat (first | (with_reducible first | exact HB.out | apply below_alloc | apply pw_below_drewN | apply below_drew1 | refine below_set ?_ GE102.out) | exact HB.out),by repeat (first | (with_reducible first | exact HBW.out | apply below_alloc | apply pw_below_drewN | apply below_drew1 | refine below_set ?_ GW102.out) | exact HBW.out)⟩
def spec_l30Rd_pick.j0 : Nat → Int → Bool → List Int → Int → Option (Int × Int)
 | 0,_,_,_,_ => none
 | k + 1,x1,x24,p0,p1 => if x24 = true then (some (0,p1)) else (if (wrap64 (p1 - 1)) < (p0.length : Int) then (if 0 ≤ (wrap64 (p1 - 1)) then (if x1 = 0 then (none) else (some (Int.tmod (wrap64 (rd p0 (wrap64 (p1 - 1)))) x1,p1))) else (none)) else (if (p0.length : Int) = 0 then (none) else (if 0 ≤ (Int.tmod (wrap64 (p1 - 1)) (p0.length : Int)) then (if (Int.tmod (wrap64 (p1 - 1)) (p0.length : Int)) < (p0.length : Int) then (if 0 ≤ (Int.tmod (wrap64 ((wrap64 ((wrap64 (p1 - 1)) * 7)) + 3)) (p0.length : Int)) then (if (Int.tmod (wrap64 ((wrap64 ((wrap64 (p1 - 1)) * 7)) + 3)) (p0.length : Int)) < (p0.length : Int) then (if x1 = 0 then (none) else (some (Int.tmod (Go.bits .xor .i64 (wrap64 ((wrap64 ((wrap64 ((wrap64 ((wrap64 (rd p0 (Int.tmod (wrap64 (p1 - 1)) (p0.length : Int)))) * 131)) + (wrap64 ((wrap64 (rd p0 (Int.tmod (wrap64 ((wrap64 ((wrap64 (p1 - 1)) * 7)) + 3)) (p0.length : Int)))) * 1117)))) + (wrap64 ((wrap64 (p1 - 1)) * 29)))) + (wrap64 ((wrap64 (Int.tdiv (wrap64 (p1 - 1)) (p0.length : Int))) * 53)))) (wrap64 (Int.tdiv (wrap64 ((wrap64 ((wrap64 ((wrap64 ((wrap64 (rd p0 (Int.tmod (wrap64 (p1 - 1)) (p0.length : Int)))) * 131)) + (wrap64 ((wrap64 (rd p0 (Int.tmod (wrap64 ((wrap64 ((wrap64 (p1 - 1)) * 7)) + 3)) (p0.length : Int)))) * 1117)))) + (wrap64 ((wrap64 (p1 - 1)) * 29)))) + (wrap64 ((wrap64 (Int.tdiv (wrap64 (p1 - 1)) (p0.length : Int))) * 53)))) 64))) x1,p1))) else (none)) else (none)) else (none)) else (none))))
def spec_l30Rd_pick.f (k : Nat) (s0_0 : List Int) (s0_1 : Int) (a1 : Int) : Option (Int × Int):=if a1 < 1 then (spec_l30Rd_pick.j0 k a1 true s0_0 (wrap64 (s0_1 + 1))) else (spec_l30Rd_pick.j0 k a1 ((s0_0.length : Int) == 0) s0_0 (wrap64 (s0_1 + 1)))
set_option maxHeartbeats 8000000 in
set_option maxRecDepth 100000 in
theorem spec_l30Rd_pick.calls (k : Nat) (g : Nat) (s0_0 : List Int) (s0_1 : Int) (a1 : Int) (r1 : Int) (r2 : Int) (w0 w : World) (hI : IsS122 w0 w g s0_0 s0_1) (hB : Below w0.heap.size w0 w) (h : spec_l30Rd_pick.f k s0_0 s0_1 a1 = some (r1,r2)) :
  Calls Try.prog 64 #[.pointer (some ⟨g,0,none⟩),.int .i64 a1] w fun e w' => e = .returned (.int .i64 r1) ∧ IsS122 w0 w' g s0_0 r2 ∧ Below w0.heap.size w0 w' ∧ KeepBut w w' g none:=by
 have HI0:=zx hI;have HK:=zx (KeepBut.refl w g none);have HL:=zx hB.size;clear hI;have HW0:=zx hB.size;have HB:=zx hB;clear hB;have H : (if a1 < 1 then (spec_l30Rd_pick.j0 k a1 true s0_0 (wrap64 (s0_1 + 1))) else (spec_l30Rd_pick.j0 k a1 ((s0_0.length : Int) == 0) s0_0 (wrap64 (s0_1 + 1)))) = some (r1,r2):=h;clear h;have HC3:=zx H;clear H;obtain ⟨ASz4_0,cSz4_0,HGz4,hgz4,HSz4_0⟩:=HI0.out;have hcz4_0:=cellS122_0 HGz4;have hcz4_1:=cellS122_1 HGz4;have hfz4_1:=blk_frozen HGz4 1;clear HGz4 hgz4
 go_enter Try.func64,Try.ntmps64
 go_upto_region 2 with (fail)
 repeat (go_quiet (fail); go_upto_region 2 with (fail))
 go_cut [24] (fun v24 wc => ∃ (kq : Nat) (p3 : Bool),v24 = .bool p3 ∧ Aside0 (spec_l30Rd_pick.j0 kq a1 p3 s0_0 (wrap64 (s0_1 + 1)) = some (r1,r2)) ∧ Aside0 (kq ≤ k) ∧ Aside0 (IsS122 w0 wc g s0_0 (wrap64 (s0_1 + 1))) ∧ Aside0 (KeepBut w wc g none) ∧ Aside0 (Below w0.heap.size w0 wc))
 case first =>
  have H:=HC3.out;clear HC3
  by_cases c5 : a1 < 1
  case pos =>
   rw [if_pos c5] at H;have c5b0 : decide (a1 < 1) = true:=decide_eq_true c5;clear c5
   (first | rw [c5b0] | (simp only [i64_w,i32_w]; rw [c5b0]) | skip)
   have H':=zx H;clear H
   go_wp2
   repeat (go_quiet (fail); try go_wp2)
   go_meet
   case rel => exact ⟨_,(true),(by first | rfl | (simp; done) | (simp [*]; done)),H',⟨by first | omega | exact Nat.le_refl _⟩,⟨by repeat (first | (with_reducible first | exact HI0.out | apply IsS122.alloc | apply IsS122.drewN | apply IsS122.drew | apply IsS122.set_1) | exact HI0.out)⟩,⟨by repeat (first | (with_reducible first | exact HK.out | apply KeepBut.set_ | apply keep_drewN | apply keep_drew | apply keep_alloc) | exact HK.out)⟩,⟨by repeat (first | (with_reducible first | exact HB.out | apply below_alloc | apply pw_below_drewN | apply below_drew1 | refine below_set ?_ (IsS122.ge HI0.out)) | exact HB.out)⟩⟩
  rw [if_neg c5] at H;have c5b0 : decide (a1 < 1) = false:=decide_eq_false c5;clear c5
  (first | rw [c5b0] | (simp only [i64_w,i32_w]; rw [c5b0]) | skip)
  have H':=zx H;clear H;obtain ⟨ASz6_0,cSz6_0,HGz6,hgz6,HSz6_0⟩:=HI0.out;have hcz6_0:=cellS122_0 HGz6;have hcz6_1:=cellS122_1 HGz6;have hfz6_1:=blk_frozen HGz6 1;clear HGz6 hgz6
  go_wp2
  repeat (go_quiet (fail); try go_wp2)
  go_meet
  case rel => exact ⟨_,(((s0_0.length : Int) == 0)),(by first | rfl | (simp; done) | (simp [*]; done)),H',⟨by first | omega | exact Nat.le_refl _⟩,⟨by repeat (first | (with_reducible first | exact HI0.out | apply IsS122.alloc | apply IsS122.drewN | apply IsS122.drew | apply IsS122.set_1) | exact HI0.out)⟩,⟨by repeat (first | (with_reducible first | exact HK.out | apply KeepBut.set_ | apply keep_drewN | apply keep_drew | apply keep_alloc) | exact HK.out)⟩,⟨by repeat (first | (with_reducible first | exact HB.out | apply below_alloc | apply pw_below_drewN | apply below_drew1 | refine below_set ?_ (IsS122.ge HI0.out)) | exact HB.out)⟩⟩
 case rest =>
  clear HC3
  try clear p2
  try clear c5
  try clear c5b0
  try clear c6
  try clear p6
  try clear hcz4_0
  try clear hcz4_1
  try clear hcz6_0
  try clear hcz6_1
  try clear hfz4_1
  try clear hfz6_1
  obtain ⟨kq,p3,rfl,HA,HJ2,HI0,HK,HB⟩:=hcut;cases kq with
  | zero => exact absurd HA.out (by simp [spec_l30Rd_pick.j0])
  | succ kj2 =>
   have H:=HA.out;clear HA;simp only [spec_l30Rd_pick.j0] at H
   by_cases c7 : p3 = true
   case pos =>
    subst c7;have H1 : (some (0,(wrap64 (s0_1 + 1)))) = some (r1,r2):=by rw [if_pos rfl] at H; exact H
    clear H;have H:=H1;clear H1;simp only [Option.some.injEq,Prod.mk.injEq] at H;obtain ⟨rfl,rfl⟩:=H
    go_wp2
    repeat (go_quiet (fail); try go_wp2)
    go_ret;exact ⟨by first | rfl | (simp [errW_none,errW_some] <;> rfl) | (simp [*,errW_none,errW_some] <;> rfl),by repeat (first | (with_reducible first | exact HI0.out | apply IsS122.alloc | apply IsS122.drewN | apply IsS122.drew | apply IsS122.set_1) | exact HI0.out),by repeat (first | (with_reducible first | exact HB.out | apply below_alloc | apply pw_below_drewN | apply below_drew1 | refine below_set ?_ (IsS122.ge HI0.out)) | exact HB.out),by repeat (first | (with_reducible first | exact HK.out | apply KeepBut.set_ | apply keep_drewN | apply keep_drew | apply keep_alloc) | exact HK.out)⟩
   replace c7:=Bool.eq_false_iff.mpr c7;subst c7;have H1 : (if (wrap64 ((wrap64 (s0_1 + 1)) - 1)) < (s0_0.length : Int) then (if 0 ≤ (wrap64 ((wrap64 (s0_1 + 1)) - 1)) then (if a1 = 0 then (none) else (some (Int.tmod (wrap64 (rd s0_0 (wrap64 ((wrap64 (s0_1 + 1)) - 1)))) a1,(wrap64 (s0_1 + 1))))) else (none)) else (if (s0_0.length : Int) = 0 then (none) else (if 0 ≤ (Int.tmod (wrap64 ((wrap64 (s0_1 + 1)) - 1)) (s0_0.length : Int)) then (if (Int.tmod (wrap64 ((wrap64 (s0_1 + 1)) - 1)) (s0_0.length : Int)) < (s0_0.length : Int) then (if 0 ≤ (Int.tmod (wrap64 ((wrap64 ((wrap64 ((wrap64 (s0_1 + 1)) - 1)) * 7)) + 3)) (s0_0.length : Int)) then (if (Int.tmod (wrap64 ((wrap64 ((wrap64 ((wrap64 (s0_1 + 1)) - 1)) * 7)) + 3)) (s0_0.length : Int)) < (s0_0.length : Int) then (if a1 = 0 then (none) else (some (Int.tmod (Go.bits .xor .i64 (wrap64 ((wrap64 ((wrap64 ((wrap64 ((wrap64 (rd s0_0 (Int.tmod (wrap64 ((wrap64 (s0_1 + 1)) - 1)) (s0_0.length : Int)))) * 131)) + (wrap64 ((wrap64 (rd s0_0 (Int.tmod (wrap64 ((wrap64 ((wrap64 ((wrap64 (s0_1 + 1)) - 1)) * 7)) + 3)) (s0_0.length : Int)))) * 1117)))) + (wrap64 ((wrap64 ((wrap64 (s0_1 + 1)) - 1)) * 29)))) + (wrap64 ((wrap64 (Int.tdiv (wrap64 ((wrap64 (s0_1 + 1)) - 1)) (s0_0.length : Int))) * 53)))) (wrap64 (Int.tdiv (wrap64 ((wrap64 ((wrap64 ((wrap64 ((wrap64 (rd s0_0 (Int.tmod (wrap64 ((wrap64 (s0_1 + 1)) - 1)) (s0_0.length : Int)))) * 131)) + (wrap64 ((wrap64 (rd s0_0 (Int.tmod (wrap64 ((wrap64 ((wrap64 ((wrap64 (s0_1 + 1)) - 1)) * 7)) + 3)) (s0_0.length : Int)))) * 1117)))) + (wrap64 ((wrap64 ((wrap64 (s0_1 + 1)) - 1)) * 29)))) + (wrap64 ((wrap64 (Int.tdiv (wrap64 ((wrap64 (s0_1 + 1)) - 1)) (s0_0.length : Int))) * 53)))) 64))) a1,(wrap64 (s0_1 + 1))))) else (none)) else (none)) else (none)) else (none)))) = some (r1,r2):=by rw [if_neg (show ¬ (false = true) by decide)] at H; exact H
   clear H;have H:=H1;clear H1
   by_cases c8 : (wrap64 ((wrap64 (s0_1 + 1)) - 1)) < (s0_0.length : Int)
   case pos =>
    rw [if_pos c8] at H;have c8b0 : decide ((wrap64 ((wrap64 (s0_1 + 1)) - 1)) < (s0_0.length : Int)) = true:=decide_eq_true c8;clear c8;obtain ⟨ji9,hji9⟩ : ∃ j_ : Int,(wrap64 ((wrap64 (s0_1 + 1)) - 1)) = j_:=⟨_,rfl⟩
    replace H : (if 0 ≤ (ji9) then (if a1 = 0 then (none) else (some (Int.tmod (wrap64 (rd s0_0 (ji9))) a1,(wrap64 (s0_1 + 1))))) else (none)) = some (r1,r2):=by first | (rw [hji9] at H; exact H) | (simp only [hji9] at H ⊢; exact H)
    (try rw [hji9] at c8b0)
    have hji9w : (IntKind.i64.wrap ((wrap64 (s0_1 + 1)) - 1)) = ji9:=(i64_w _).trans hji9
    by_cases c10 : 0 ≤ (ji9)
    case neg =>
     rw [if_neg c10] at H;exact absurd H (by simp)
    rw [if_pos c10] at H;have c10b0 : decide (0 ≤ (ji9)) = true:=decide_eq_true c10;clear c10
    by_cases c11 : a1 = 0
    case pos =>
     rw [if_pos c11] at H;exact absurd H (by simp)
    rw [if_neg c11] at H;have c11b0 : (a1 == 0) = false:=beq_eq_false_iff_ne.mpr c11;have c11b1 : (a1 != 0) = true:=bne_iff_ne.mpr c11;simp only [Option.some.injEq,Prod.mk.injEq] at H;obtain ⟨rfl,rfl⟩:=H;obtain ⟨ASz12_0,cSz12_0,HGz12,hgz12,HSz12_0⟩:=HI0.out;have hcz12_0:=cellS122_0 HGz12;have hcz12_1:=cellS122_1 HGz12;have hfz12_1:=blk_frozen HGz12 1;clear HGz12 hgz12;have p104 : 0 ≤ ((ji9) : Int):=of_decide_eq_true (by first | (with_reducible assumption) | assumption);have q104 : (ji9) < (s0_0.length : Int):=of_decide_eq_true (by first | (with_reducible assumption) | assumption);obtain ⟨ad104,e104,p4⟩:=Kd.at_int HSz12_0 (ji9) p104 q104;cases e104;replace p4:=pw_cell_below HB.out p4;replace p104:=eq_true p104;replace q104:=eq_true q104
    go_wp2
    repeat (go_quiet (fail); try go_wp2)
    go_ret;exact ⟨by first | rfl | (simp [errW_none,errW_some] <;> rfl) | (simp only [← hji9]; first | rfl | (simp [errW_none,errW_some] <;> rfl)) | (simp [*,errW_none,errW_some] <;> rfl),by repeat (first | (with_reducible first | exact HI0.out | apply IsS122.alloc | apply IsS122.drewN | apply IsS122.drew | apply IsS122.set_1) | exact HI0.out),by repeat (first | (with_reducible first | exact HB.out | apply below_alloc | apply pw_below_drewN | apply below_drew1 | refine below_set ?_ (IsS122.ge HI0.out)) | exact HB.out),by repeat (first | (with_reducible first | exact HK.out | apply KeepBut.set_ | apply keep_drewN | apply keep_drew | apply keep_alloc) | exact HK.out)⟩
   rw [if_neg c8] at H;have c8b0 : decide ((wrap64 ((wrap64 (s0_1 + 1)) - 1)) < (s0_0.length : Int)) = false:=decide_eq_false c8;clear c8
   by_cases c13 : (s0_0.length : Int) = 0
   case pos =>
    rw [if_pos c13] at H;exact absurd H (by simp)
   rw [if_neg c13] at H;have c13b0 : ((s0_0.length : Int) == 0) = false:=beq_eq_false_iff_ne.mpr c13;have c13b1 : ((s0_0.length : Int) != 0) = true:=bne_iff_ne.mpr c13;have c13b2 : ¬ (s0_0 = []):=fun h_ => c13 (by rw [h_]; rfl)
   obtain ⟨ji14,hji14⟩ : ∃ j_ : Int,(Int.tmod (wrap64 ((wrap64 (s0_1 + 1)) - 1)) (s0_0.length : Int)) = j_:=⟨_,rfl⟩
   replace H : (if 0 ≤ (ji14) then (if (ji14) < (s0_0.length : Int) then (if 0 ≤ (Int.tmod (wrap64 ((wrap64 ((wrap64 ((wrap64 (s0_1 + 1)) - 1)) * 7)) + 3)) (s0_0.length : Int)) then (if (Int.tmod (wrap64 ((wrap64 ((wrap64 ((wrap64 (s0_1 + 1)) - 1)) * 7)) + 3)) (s0_0.length : Int)) < (s0_0.length : Int) then (if a1 = 0 then (none) else (some (Int.tmod (Go.bits .xor .i64 (wrap64 ((wrap64 ((wrap64 ((wrap64 ((wrap64 (rd s0_0 (ji14))) * 131)) + (wrap64 ((wrap64 (rd s0_0 (Int.tmod (wrap64 ((wrap64 ((wrap64 ((wrap64 (s0_1 + 1)) - 1)) * 7)) + 3)) (s0_0.length : Int)))) * 1117)))) + (wrap64 ((wrap64 ((wrap64 (s0_1 + 1)) - 1)) * 29)))) + (wrap64 ((wrap64 (Int.tdiv (wrap64 ((wrap64 (s0_1 + 1)) - 1)) (s0_0.length : Int))) * 53)))) (wrap64 (Int.tdiv (wrap64 ((wrap64 ((wrap64 ((wrap64 ((wrap64 (rd s0_0 (ji14))) * 131)) + (wrap64 ((wrap64 (rd s0_0 (Int.tmod (wrap64 ((wrap64 ((wrap64 ((wrap64 (s0_1 + 1)) - 1)) * 7)) + 3)) (s0_0.length : Int)))) * 1117)))) + (wrap64 ((wrap64 ((wrap64 (s0_1 + 1)) - 1)) * 29)))) + (wrap64 ((wrap64 (Int.tdiv (wrap64 ((wrap64 (s0_1 + 1)) - 1)) (s0_0.length : Int))) * 53)))) 64))) a1,(wrap64 (s0_1 + 1))))) else (none)) else (none)) else (none)) else (none)) = some (r1,r2):=by first | (rw [hji14] at H; exact H) | (simp only [hji14] at H ⊢; exact H)
   by_cases c15 : 0 ≤ (ji14)
   case neg =>
    rw [if_neg c15] at H;exact absurd H (by simp)
   rw [if_pos c15] at H;have c15b0 : decide (0 ≤ (ji14)) = true:=decide_eq_true c15;clear c15
   by_cases c16 : (ji14) < (s0_0.length : Int)
   case neg =>
    rw [if_neg c16] at H;exact absurd H (by simp)
   rw [if_pos c16] at H;have c16b0 : decide ((ji14) < (s0_0.length : Int)) = true:=decide_eq_true c16;clear c16;obtain ⟨ji17,hji17⟩ : ∃ j_ : Int,(Int.tmod (wrap64 ((wrap64 ((wrap64 ((wrap64 (s0_1 + 1)) - 1)) * 7)) + 3)) (s0_0.length : Int)) = j_:=⟨_,rfl⟩
   replace H : (if 0 ≤ (ji17) then (if (ji17) < (s0_0.length : Int) then (if a1 = 0 then (none) else (some (Int.tmod (Go.bits .xor .i64 (wrap64 ((wrap64 ((wrap64 ((wrap64 ((wrap64 (rd s0_0 (ji14))) * 131)) + (wrap64 ((wrap64 (rd s0_0 (ji17))) * 1117)))) + (wrap64 ((wrap64 ((wrap64 (s0_1 + 1)) - 1)) * 29)))) + (wrap64 ((wrap64 (Int.tdiv (wrap64 ((wrap64 (s0_1 + 1)) - 1)) (s0_0.length : Int))) * 53)))) (wrap64 (Int.tdiv (wrap64 ((wrap64 ((wrap64 ((wrap64 ((wrap64 (rd s0_0 (ji14))) * 131)) + (wrap64 ((wrap64 (rd s0_0 (ji17))) * 1117)))) + (wrap64 ((wrap64 ((wrap64 (s0_1 + 1)) - 1)) * 29)))) + (wrap64 ((wrap64 (Int.tdiv (wrap64 ((wrap64 (s0_1 + 1)) - 1)) (s0_0.length : Int))) * 53)))) 64))) a1,(wrap64 (s0_1 + 1))))) else (none)) else (none)) = some (r1,r2):=by first | (rw [hji17] at H; exact H) | (simp only [hji17] at H ⊢; exact H)
   by_cases c18 : 0 ≤ (ji17)
   case neg =>
    rw [if_neg c18] at H;exact absurd H (by simp)
   rw [if_pos c18] at H;have c18b0 : decide (0 ≤ (ji17)) = true:=decide_eq_true c18;clear c18
   by_cases c19 : (ji17) < (s0_0.length : Int)
   case neg =>
    rw [if_neg c19] at H;exact absurd H (by simp)
   rw [if_pos c19] at H;have c19b0 : decide ((ji17) < (s0_0.length : Int)) = true:=decide_eq_true c19;clear c19
   by_cases c20 : a1 = 0
   case pos =>
    rw [if_pos c20] at H;exact absurd H (by simp)
   rw [if_neg c20] at H;have c20b0 : (a1 == 0) = false:=beq_eq_false_iff_ne.mpr c20;have c20b1 : (a1 != 0) = true:=bne_iff_ne.mpr c20;simp only [Option.some.injEq,Prod.mk.injEq] at H;obtain ⟨rfl,rfl⟩:=H;obtain ⟨ASz21_0,cSz21_0,HGz21,hgz21,HSz21_0⟩:=HI0.out;have hcz21_0:=cellS122_0 HGz21;have hcz21_1:=cellS122_1 HGz21;have hfz21_1:=blk_frozen HGz21 1;clear HGz21 hgz21;have p105 : 0 ≤ ((ji14) : Int):=of_decide_eq_true (by first | (with_reducible assumption) | assumption);have q105 : (ji14) < (s0_0.length : Int):=of_decide_eq_true (by first | (with_reducible assumption) | assumption);obtain ⟨ad105,e105,p5⟩:=Kd.at_int HSz21_0 (ji14) p105 q105;cases e105;replace p5:=pw_cell_below HB.out p5;replace p105:=eq_true p105;replace q105:=eq_true q105;have p106 : 0 ≤ ((ji17) : Int):=of_decide_eq_true (by first | (with_reducible assumption) | assumption);have q106 : (ji17) < (s0_0.length : Int):=of_decide_eq_true (by first | (with_reducible assumption) | assumption);obtain ⟨ad106,e106,p7⟩:=Kd.at_int HSz21_0 (ji17) p106 q106;obtain rfl : ad105 = ad106:=(by injection e106)
   replace p7:=pw_cell_below HB.out p7;replace p106:=eq_true p106;replace q106:=eq_true q106
   go_wp2
   repeat (go_quiet (fail); try go_wp2)
   go_ret;exact ⟨by first | rfl | (simp [errW_none,errW_some] <;> rfl) | (simp only [← hji14,← hji17]; first | rfl | (simp [errW_none,errW_some] <;> rfl)) | (simp [*,errW_none,errW_some] <;> rfl),by repeat (first | (with_reducible first | exact HI0.out | apply IsS122.alloc | apply IsS122.drewN | apply IsS122.drew | apply IsS122.set_1) | exact HI0.out),by repeat (first | (with_reducible first | exact HB.out | apply below_alloc | apply pw_below_drewN | apply below_drew1 | refine below_set ?_ (IsS122.ge HI0.out)) | exact HB.out),by repeat (first | (with_reducible first | exact HK.out | apply KeepBut.set_ | apply keep_drewN | apply keep_drew | apply keep_alloc) | exact HK.out)⟩
def spec_l30Rd_one.f (k : Nat) (s0_0 : List Int) (s0_1 : Int) (l1 : List Int) : Option (Int × Int):=(spec_l30Rd_pick.f k s0_0 s0_1 (l1.length : Int)).bind fun bt107 => (if 0 ≤ bt107.1 then (if bt107.1 < (l1.length : Int) then (some (rd l1 bt107.1,bt107.2)) else (none)) else (none))
set_option maxHeartbeats 8000000 in
set_option maxRecDepth 100000 in
theorem spec_l30Rd_one.calls (k : Nat) (g : Nat) (s0_0 : List Int) (s0_1 : Int) (A1 : Option Addr) (c1 : Nat) (l1 : List Int) (r1 : Int) (r2 : Int) (w0 w : World) (hI : IsS122 w0 w g s0_0 s0_1) (hB : Below w0.heap.size w0 w) (hr1 : Kd.C (Kd.int .i64) w A1 l1.length l1) (hc1 : l1.length ≤ c1) (hf1 : ∀ ad,A1 = some ad → 0 < l1.length → ad.block ≠ g) (h : spec_l30Rd_one.f k s0_0 s0_1 l1 = some (r1,r2)) :
  Calls Try.prog 88 #[.pointer (some ⟨g,0,none⟩),.slice A1 l1.length c1] w fun e w' => e = .returned (.int .i64 r1) ∧ IsS122 w0 w' g s0_0 r2 ∧ Below w0.heap.size w0 w' ∧ KeepBut w w' g none:=by
 have HR1:=zx hr1;have HC1:=zx hc1;clear hr1 hc1;have HI0:=zx hI;have HK:=zx (KeepBut.refl w g none);have HL:=zx hB.size;clear hI;have HW0:=zx hB.size;have HB:=zx hB;clear hB;have H : ((spec_l30Rd_pick.f k s0_0 s0_1 (l1.length : Int)).bind fun bt107 => (if 0 ≤ bt107.1 then (if bt107.1 < (l1.length : Int) then (some (rd l1 bt107.1,bt107.2)) else (none)) else (none))) = some (r1,r2):=h;clear h;replace H:=Option.bind_eq_some_iff.mp H;obtain ⟨⟨t107,t108⟩,A30,H⟩:=H;replace H : (if 0 ≤ t107 then (if t107 < (l1.length : Int) then (some (rd l1 t107,t108)) else (none)) else (none)) = some (r1,r2):=H;have A3:=zx A30;clear A30
 by_cases c4 : 0 ≤ t107
 case neg =>
  rw [if_neg c4] at H;exact absurd H (by simp)
 rw [if_pos c4] at H;have c4b0 : decide (0 ≤ t107) = true:=decide_eq_true c4;clear c4
 by_cases c5 : t107 < (l1.length : Int)
 case neg =>
  rw [if_neg c5] at H;exact absurd H (by simp)
 rw [if_pos c5] at H;have c5b0 : decide (t107 < (l1.length : Int)) = true:=decide_eq_true c5;clear c5;simp only [Option.some.injEq,Prod.mk.injEq] at H;obtain ⟨rfl,rfl⟩:=H
 go_enter Try.func88,Try.ntmps88
 go_wp2_with (first | ((with_reducible refine gate_callee (f:=64) rfl ?_); refine goesL_ (some 9) rfl rfl Try.func64 (by kernel_rfl) rfl #[.pointer (some ⟨g,0,none⟩),.int .i64 (l1.length : Int)] rfl (by (try simp only [List.map_toArray,List.map_cons,List.map_nil]); first | done | rfl | (simp only [List.length_drop,List.length_take]; rfl)) ?_; (with_reducible refine (spec_l30Rd_pick.calls k g s0_0 s0_1 (l1.length : Int) t107 t108 w0 _ ?side1 ?side2 A3.out).mono ?_); (case side1 => repeat (first | (with_reducible first | exact HI0.out | apply IsS122.alloc | apply IsS122.drewN | apply IsS122.drew | apply IsS122.set_1) | exact HI0.out)); (case side2 => repeat (first | (with_reducible first | exact HB.out | apply below_alloc | apply pw_below_drewN | apply below_drew1 | refine below_set ?_ (IsS122.ge HI0.out)) | exact HB.out)); rintro e w6 ⟨rfl,hi,hb,hk⟩; refine ⟨_,rfl,?_⟩; have n0_:=zx (KeepBut.trans (by repeat (first | (with_reducible first | exact HK.out | apply KeepBut.set_ | apply keep_drewN | apply keep_drew | apply keep_alloc) | exact HK.out)) hk (.inl rfl)); have n1_:=zx (hb); have n2_:=zx (hi); clear HK; clear HB; clear HI0; have HK:=n0_; have HB:=n1_; have HI0:=n2_; clear n0_ n1_ n2_; (try clear hb); (try clear hb2); (try clear hk); (try clear hi); have p109 : 0 ≤ (t107 : Int):=of_decide_eq_true (by first | (with_reducible assumption) | assumption); have q109 : t107 < (l1.length : Int):=of_decide_eq_true (by first | (with_reducible assumption) | assumption); obtain ⟨ad109,e109,hx109_0⟩:=Kd.at_int HR1.out t107 p109 q109; cases e109; replace hx109_0:=keep_cell HK.out hx109_0 (by first | (rw [add_block]; exact hf1 _ rfl (by omega)) | exact hf1 _ rfl (by omega) | exact hf1 ad109 rfl (by omega)); replace p109:=eq_true p109; replace q109:=eq_true q109))
 go_ret;exact ⟨by first | rfl | (simp [errW_none,errW_some] <;> rfl) | (simp [*,errW_none,errW_some] <;> rfl),by repeat (first | (with_reducible first | exact HI0.out | apply IsS122.alloc | apply IsS122.drewN | apply IsS122.drew | apply IsS122.set_1) | exact HI0.out),by repeat (first | (with_reducible first | exact HB.out | apply below_alloc | apply pw_below_drewN | apply below_drew1 | refine below_set ?_ (IsS122.ge HI0.out)) | exact HB.out),by repeat (first | (with_reducible first | exact HK.out | apply KeepBut.set_ | apply keep_drewN | apply keep_drew | apply keep_alloc) | exact HK.out)⟩
end Go.Proofs.Ytlhmljngjdfbpaa.Pr
end
