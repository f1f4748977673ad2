/- For the statement FnJobBest of this seat: it is proved here, with no further conditions (part 9 of its texts: words, walks of the functions, the plain law, the row). -/
import Derived.Lib.SlicesCompact
import Derived.Test.YtmioaahiflfcdaaRows
import Derived.WalkKit
import Derived.ProofKit
import Derived.OpenShut
import Derived.ShutString
import Derived.ChangeOld
import Derived.Below
import Derived.SizedLaws
import Derived.WideShapes
import Derived.Test.YtmioaahiflfcdaaKFnJobBest7
section
set_option linter.unusedSimpArgs false
set_option linter.unusedVariables false
set_option linter.unusedSectionVars false
namespace Go.Proofs.Ytmioaahiflfcdaa.Pure
open Go.RowKit Go.Proofs.Ytmioaahiflfcdaa.Pr Go.Proofs.YtmioaahiflfcdaaW.PrintWords Go.Proofs.YtmioaahiflfcdaaW.PrintLast Go.Proofs.YtmioaahiflfcdaaW.PrintMore
open Go.Proofs.Ytmioaahiflfcdaa.Pm (perms pick at_ costOf IsPerm)
open Go.Proofs.Ytmioaahiflfcdaa.Fl (sm)
def nts (x : List Nat) : List Int:=x.map fun i => ((i : Nat) : Int)
def nats (x : List Int) : List Nat:=x.map Int.toNat
theorem nts_len (x : List Nat) : (nts x).length = x.length:=by simp [nts]
theorem nats_len (x : List Int) : (nats x).length = x.length:=by simp [nats]
theorem nts_nats {x : List Int} (h : ∀ v ∈ x,0 ≤ v) : nts (nats x) = x:=by
 unfold nts nats
 rw [List.map_map]
 conv => rhs; rw [← List.map_id x]
 exact List.map_congr_left (fun v hv => by show ((v.toNat : Nat) : Int) = v; have:=h v hv; omega)
theorem nats_nts (x : List Nat) : nats (nts x) = x:=by
 unfold nts nats
 rw [List.map_map]
 conv => rhs; rw [← List.map_id x]
 exact List.map_congr_left (fun v hv => by simp)
theorem nts_rd (x : List Nat) (i : Nat) : rd (nts x) (i : Int) = ((at_ x i : Nat) : Int):=by
 rw [rdg]
 unfold nth nts at_
 by_cases h : i < x.length
 case neg => simp [h]
 simp [h]
theorem nts_snoc (x : List Nat) (i : Nat) : nts x ++ [((i : Nat) : Int)] = nts (x ++ [i]):=by simp [nts]
theorem nts_mem (x : List Nat) (i : Nat) : ((i : Nat) : Int) ∈ nts x ↔ i ∈ x:=by
 unfold nts
 rw [List.mem_map];constructor
 ·rintro ⟨j,hj,e⟩;have : j = i:=by omega
  rw [← this]; exact hj
 ·exact fun h => ⟨i,h,rfl⟩
theorem at_mem {x : List Nat} {i : Nat} (h : i < x.length) : at_ x i ∈ x:=by
 have e : at_ x i = x[i]:=by simp [at_,h]
 rw [e]; exact List.getElem_mem h
theorem inL_l (x : List Int) (v : Int) (hm : x.length ≤ maxLen) : ∀ (m i : Nat),x.length - i = m → i ≤ x.length → Ev (fun k => spec_l12In.l0 k x v (i : Int)) (decide (v ∈ x.drop i)):=by
 intro m
 induction m with
 | zero =>
  intro i hd hi;refine Ev.go ?_ (fun k => by rw [spec_l12In.l0]);rw [List.drop_of_length_le (by omega)];exact Ev.neg (by omega) (Ev.is (by simp))
 | succ m ih =>
  intro i hd hi;have hlt : i < x.length:=by omega
  have hn:=ih (i + 1) (by omega) (by omega);rw [← up1 hlt hm] at hn;refine Ev.go ?_ (fun k => by rw [spec_l12In.l0]);refine Ev.pos (by omega) (Ev.pos (by omega) ?_);rw [rdn hlt,drop_cons hlt]
  by_cases c : x[i] = v
  case pos => exact Ev.pos c (Ev.is (decide_eq_true (List.mem_cons.2 (.inl c.symm))).symm)
  exact Ev.neg c (hn.cast (by rw [decide_eq_decide]; simp only [List.mem_cons]; exact ⟨.inr,fun h => h.resolve_left (fun e => c e.symm)⟩))
theorem inL_ev (x : List Int) (v : Int) (hm : x.length ≤ maxLen) : Ev (fun k => spec_l12In.f k x v) (decide (v ∈ x)):=by
 have:=inL_l x v hm _ 0 rfl (Nat.zero_le _)
 rwa [List.drop_zero] at this
theorem idx_l (x : List Int) (v : Int) (hm : x.length ≤ maxLen) : ∀ (m i : Nat),x.length - i = m → i ≤ x.length → ∃ r : Int,Ev (fun k => slices_Index_int_int.l0 k x v (x.length : Int) (i : Int)) r ∧ decide (r ≥ 0) = decide (v ∈ x.drop i):=by
 intro m
 induction m with
 | zero =>
  intro i hd hi;refine ⟨-1,?_,?_⟩
  ·refine Ev.go ?_ (fun k => by rw [slices_Index_int_int.l0]);exact Ev.neg (by omega) (Ev.now _)
  ·rw [List.drop_of_length_le (by omega)];simp
 | succ m ih =>
  intro i hd hi;have hlt : i < x.length:=by omega
  by_cases c : v = x[i]
  case pos =>
   refine ⟨(i : Int),?_,?_⟩
   ·refine Ev.go ?_ (fun k => by rw [slices_Index_int_int.l0]);rw [rdn hlt];exact Ev.pos (by omega) (Ev.pos (by omega) (Ev.pos (by omega) (Ev.pos c (Ev.now _))))
   ·rw [drop_cons hlt,decide_eq_decide];exact ⟨fun _ => List.mem_cons.2 (.inl c),fun _ => by omega⟩
  obtain ⟨r,h1,h2⟩:=ih (i + 1) (by omega) (by omega);rw [← up1 hlt hm] at h1;refine ⟨r,?_,?_⟩
  ·refine Ev.go ?_ (fun k => by rw [slices_Index_int_int.l0]);rw [rdn hlt];exact Ev.pos (by omega) (Ev.pos (by omega) (Ev.pos (by omega) (Ev.neg c h1)))
  ·rw [h2,drop_cons hlt,decide_eq_decide];simp only [List.mem_cons];exact ⟨.inr,fun h => h.resolve_left c⟩
theorem contains_ev (x : List Int) (v : Int) (hm : x.length ≤ maxLen) : Ev (fun k => slices_Contains_int_int.f k x v) (decide (v ∈ x)):=by
 obtain ⟨r,h1,h2⟩:=idx_l x v hm _ 0 rfl (Nat.zero_le _);rw [List.drop_zero] at h2;exact Ev.bind h1 (Ev.is h2)
def dis (N : Nat) (l : List Arc) (u v : Nat) : Int:=far (dst N (back l) u v)
section
variable {N : Nat} {l : List Arc} (hg : NetGood N l)
include hg
theorem dis_bd {u v : Nat} (hu : u < N) (hv : v < N) : 0 ≤ dis N l u v ∧ (dis N l u v = 99999 ∨ dis N l u v ≤ 693):=by
 unfold dis
 cases h : dst N (back l) u v with
 | none => exact ⟨by decide,.inl rfl⟩
 | some d =>
  have:=dst_bd (back_good hg) hu hv h;exact ⟨this.1,.inr this.2⟩
end
def DJ (N : Nat) (l : List Arc) (a b : List Nat) (i k : Nat) : Int:=dis N l (at_ a i) (at_ b k)
structure Jobs (N : Nat) (l : List Arc) (a b : List Nat) : Prop where
 net : NetGood N l
 m1 : 1 ≤ a.length
 m5 : a.length ≤ 5
 len : b.length = a.length
 ha : ∀ v ∈ a,v < N
 hb : ∀ v ∈ b,v < N
section
variable {N : Nat} {l : List Arc} {a b : List Nat} (hJ : Jobs N l a b)
include hJ
theorem at_a {i : Nat} (h : i < a.length) : at_ a i < N:=hJ.ha _ (at_mem h)
theorem at_b {i : Nat} (h : i < a.length) : at_ b i < N:=hJ.hb _ (at_mem (by rw [hJ.len]; exact h))
theorem DJ_bd {i k : Nat} (hi : i < a.length) (hk : k < a.length) : 0 ≤ DJ N l a b i k ∧ (DJ N l a b i k = 99999 ∨ DJ N l a b i k ≤ 693):=dis_bd hJ.net (at_a hJ hi) (at_b hJ hk)
theorem sm_bd {p : List Nat} (hp : p.length = a.length) (hl : ∀ v ∈ p,v < a.length) : ∀ i,i ≤ a.length → (∀ j,j < i → DJ N l a b j (at_ p j) ≠ 99999) → 0 ≤ sm (fun j => DJ N l a b j (at_ p j)) i ∧ sm (fun j => DJ N l a b j (at_ p j)) i ≤ 693 * (i : Int)
 | 0,_,_ => by simp [sm]
 | i + 1,hi,hf => by
  have ih:=sm_bd hp hl i (by omega) (fun j hj => hf j (by omega));have h1:=DJ_bd hJ (i:=i) (k:=at_ p i) (by omega) (hl _ (at_mem (by omega)));have h2:=hf i (by omega);simp only [sm];omega
theorem costOf_far {p : List Nat} {i : Nat} (hi : i < a.length) (h : DJ N l a b i (at_ p i) = 99999) : costOf a.length (DJ N l a b) p = 99999:=by
 unfold costOf
 exact if_pos ⟨i,hi,h⟩
theorem costOf_sm {p : List Nat} (hf : ∀ j,j < a.length → DJ N l a b j (at_ p j) ≠ 99999) : costOf a.length (DJ N l a b) p = sm (fun j => DJ N l a b j (at_ p j)) a.length:=by
 unfold costOf
 exact if_neg (fun ⟨j,hj,e⟩ => hf j hj e)
theorem costOf_bd {p : List Nat} (hp : p.length = a.length) (hl : ∀ v ∈ p,v < a.length) : 0 ≤ costOf a.length (DJ N l a b) p ∧ costOf a.length (DJ N l a b) p ≤ 99999:=by
 by_cases h : ∃ i,i < a.length ∧ DJ N l a b i (at_ p i) = 99999
 case pos =>
  obtain ⟨i,hi,e⟩:=h;rw [costOf_far hJ hi e]; omega
 have hf : ∀ j,j < a.length → DJ N l a b j (at_ p j) ≠ 99999:=fun j hj e => h ⟨j,hj,e⟩
 rw [costOf_sm hJ hf];have:=sm_bd hJ hp hl a.length (Nat.le_refl _) hf;have:=hJ.m5;omega
def tabs (N : Nat) (l : List Arc) : List (List Int):=(List.range N).map (tab N l)
omit hJ in
theorem tabs_row {u : Nat} (h : u < N) : rd_L3 (tabs N l) (u : Int) = tab N l u:=by simp [rd_L3,tabs,h]
omit hJ in
theorem tab_len (u : Nat) : (tab N l u).length = N:=by unfold tab; exact lst_len _ _
omit hJ in
theorem tab_rd {u v : Nat} (h : v < N) : rd (tab N l u) (v : Int) = dis N l u v:=by unfold tab dis; exact lst_rd _ h
omit hJ in
theorem tabs_len : (tabs N l).length = N:=by simp [tabs]
theorem assigned_l {p : List Nat} (hp : p.length = a.length) (hl : ∀ v ∈ p,v < a.length) : ∀ (d i : Nat),a.length - i = d → i ≤ a.length → (∀ j,j < i → DJ N l a b j (at_ p j) ≠ 99999) → Ev (fun k => impl_assigned.l0 k (tabs N l) (nts a) (nts b) (sm (fun j => DJ N l a b j (at_ p j)) i) (nts p) (a.length : Int) (i : Int)) (costOf a.length (DJ N l a b) p):=by
 have h8:=hJ.net.n8;have h5:=hJ.m5;intro d
 induction d with
 | zero =>
  intro i hd hi hf;have e : i = a.length:=by omega
  subst e;refine Ev.go ?_ (fun k => by rw [impl_assigned.l0]);exact Ev.neg (by omega) (Ev.is (costOf_sm hJ hf).symm)
 | succ d ih =>
  intro i hd hi hf;have hlt : i < a.length:=by omega
  have hpi:=hl _ (at_mem (show i < p.length by omega));have h1:=at_a hJ hlt;have h2:=at_b hJ hpi;have hbd:=DJ_bd hJ hlt hpi;have hsm:=sm_bd hJ hp hl i hi hf;have e1 : rd (tab N l (at_ a i)) ((at_ b (at_ p i) : Nat) : Int) = DJ N l a b i (at_ p i):=tab_rd h2;refine Ev.go ?_ (fun k => by rw [impl_assigned.l0]);rw [nts_rd,nts_rd,nts_rd,tabs_row h1,e1,up1 hlt (by simp only [maxLen]; omega)];refine Ev.pos (by omega) (Ev.pos (by omega) (Ev.pos (by rw [nts_len]; omega) (Ev.pos (by rw [nts_len]; omega) (Ev.pos (by omega) (Ev.pos (by rw [tabs_len]; omega) (Ev.pos (by omega) (Ev.pos (by rw [nts_len,hJ.len]; omega) (Ev.pos (by omega) (Ev.pos (by rw [tab_len]; omega) ?_)))))))))
  by_cases c : DJ N l a b i (at_ p i) = 99999
  case pos => exact Ev.pos c (Ev.is (costOf_far hJ hlt c).symm)
  refine Ev.neg c ?_;rw [w64 (by omega) (by omega)];exact ih (i + 1) (by omega) (by omega) (fun j hj => by
   by_cases e : j = i
   case pos => subst e; exact c
   exact hf j (by omega))
theorem assigned_ev {p : List Nat} (hp : p.length = a.length) (hl : ∀ v ∈ p,v < a.length) : Ev (fun k => impl_assigned.f k (tabs N l) (nts a) (nts b) (nts p)) (costOf a.length (DJ N l a b) p):=by
 unfold impl_assigned.f
 rw [nts_len,hp];exact assigned_l hJ hp hl _ 0 rfl (Nat.zero_le _) (fun j h => absurd h (by omega))
def gridJ (N : Nat) (l : List Arc) (a b : List Nat) : List (List Int):=(List.range a.length).map fun i => lst b.length (DJ N l a b i)
omit hJ in
theorem gridJ_len : (gridJ N l a b).length = a.length:=by simp [gridJ]
omit hJ in
theorem gridJ_row {i : Nat} (h : i < a.length) : rd_L3 (gridJ N l a b) (i : Int) = lst b.length (DJ N l a b i):=by simp [rd_L3,gridJ,h]
theorem l27Cost_l {p : List Nat} (hp : p.length = a.length) (hl : ∀ v ∈ p,v < a.length) : ∀ (d i : Nat),a.length - i = d → i ≤ a.length → (∀ j,j < i → DJ N l a b j (at_ p j) ≠ 99999) → Ev (fun k => spec_l27Cost.l0 k (gridJ N l a b) (nts p) (sm (fun j => DJ N l a b j (at_ p j)) i) (i : Int)) (costOf a.length (DJ N l a b) p):=by
 have h8:=hJ.net.n8;have h5:=hJ.m5;intro d
 induction d with
 | zero =>
  intro i hd hi hf;have e : i = a.length:=by omega
  subst e;refine Ev.go ?_ (fun k => by rw [spec_l27Cost.l0]);exact Ev.neg (by rw [nts_len]; omega) (Ev.is (costOf_sm hJ hf).symm)
 | succ d ih =>
  intro i hd hi hf;have hlt : i < a.length:=by omega
  have hpi:=hl _ (at_mem (show i < p.length by omega));have hbd:=DJ_bd hJ hlt hpi;have hsm:=sm_bd hJ hp hl i hi hf;have e1 : rd (lst b.length (DJ N l a b i)) ((at_ p i : Nat) : Int) = DJ N l a b i (at_ p i):=lst_rd _ (by rw [hJ.len]; exact hpi);refine Ev.go ?_ (fun k => by rw [spec_l27Cost.l0]);rw [nts_rd,gridJ_row hlt,e1,up1 hlt (by simp only [maxLen]; omega)];refine Ev.pos (by rw [nts_len]; omega) (Ev.pos (by omega) (Ev.pos (by rw [gridJ_len]; omega) (Ev.pos (by omega) (Ev.pos (by rw [lst_len,hJ.len]; omega) ?_))))
  by_cases c : DJ N l a b i (at_ p i) = 99999
  case pos => exact Ev.pos (by omega) (Ev.is (costOf_far hJ hlt c).symm)
  refine Ev.neg (by omega) ?_;rw [w64 (by omega) (by omega)];exact ih (i + 1) (by omega) (by omega) (fun j hj => by
   by_cases e : j = i
   case pos => subst e; exact c
   exact hf j (by omega))
theorem l27Cost_ev {p : List Nat} (hp : p.length = a.length) (hl : ∀ v ∈ p,v < a.length) : Ev (fun k => spec_l27Cost.f k (gridJ N l a b) (nts p)) (costOf a.length (DJ N l a b) p):=by
 unfold spec_l27Cost.f
 exact l27Cost_l hJ hp hl _ 0 rfl (Nat.zero_le _) (fun j h => absurd h (by omega))
def rest (n f : Nat) (b : List Nat) (i d : Nat) : List (List Nat):=((List.range' i d).filter fun j => !b.contains j).flatMap fun j => perms n f (b ++ [j])
omit hJ in
theorem rest_step (n f : Nat) (b : List Nat) (i d : Nat) : rest n f b i (d + 1) = if i ∈ b then rest n f b (i + 1) d else perms n f (b ++ [i]) ++ rest n f b (i + 1) d:=by
 unfold rest
 rw [List.range'_succ]
 by_cases h : i ∈ b
 case neg => rw [if_neg h]; simp [h]
 rw [if_pos h]; simp [h]
omit hJ in
theorem rest_all (n f : Nat) (b : List Nat) : rest n f b 0 n = perms n (f + 1) b:=by
 unfold rest
 rw [← List.range_eq_range'];rfl
def stepP (c : List Nat → Int) (s : List Nat × Int) (p : List Nat) : List Nat × Int:=if c p < s.2 then (p,c p) else s
theorem try_ev : ∀ (f : Nat) (q : List Nat) (s : List Nat × Int),q.length + f = a.length → (∀ v ∈ q,v < a.length) → Ev (fun k => spec_l27Try.f k (gridJ N l a b) (nts q) (nts s.1) s.2) (nts (pick (costOf a.length (DJ N l a b)) (perms a.length f q) s).1,(pick (costOf a.length (DJ N l a b)) (perms a.length f q) s).2):=by
 have h5:=hJ.m5;intro f
 induction f with
 | zero =>
  intro q s hq hl;have hc:=l27Cost_ev hJ (p:=q) (by omega) hl;refine Ev.go ?_ (fun k => by rw [spec_l27Try.f]);refine Ev.pos (by rw [nts_len,gridJ_len]; omega) (Ev.bind hc ?_)
  show Ev _ (nts (stepP (costOf a.length (DJ N l a b)) s q).1,(stepP (costOf a.length (DJ N l a b)) s q).2)
  by_cases c : costOf a.length (DJ N l a b) q < s.2
  case neg =>
   rw [show stepP (costOf a.length (DJ N l a b)) s q = s from if_neg c];exact Ev.neg c (Ev.now _)
  rw [show stepP (costOf a.length (DJ N l a b)) s q = (q,costOf a.length (DJ N l a b) q) from if_pos c];refine Ev.pos c (Ev.bind0 rfl (Ev.pos (by rw [nts_len,List.length_nil]; omega) (Ev.is (by rw [List.nil_append]))))
 | succ f ih =>
  intro q s hq hl;refine Ev.go ?_ (fun k => by rw [spec_l27Try.f]);refine Ev.neg (by rw [nts_len,gridJ_len]; omega) ?_;rw [← rest_all];have loop : ∀ (d i : Nat) (s : List Nat × Int),a.length - i = d → i ≤ a.length → Ev (fun k => spec_l27Try.l0 k (gridJ N l a b) (nts q) (nts s.1) s.2 (i : Int)) (nts (pick (costOf a.length (DJ N l a b)) (rest a.length f q i d) s).1,(pick (costOf a.length (DJ N l a b)) (rest a.length f q i d) s).2):=by
   intro d
   induction d with
   | zero =>
    intro i s hd hi;refine Ev.go ?_ (fun k => by rw [spec_l27Try.l0]);exact Ev.neg (by rw [gridJ_len]; omega) (Ev.now _)
   | succ d ihd =>
    intro i s hd hi;have hlt : i < a.length:=by omega
    have hin:=inL_ev (nts q) ((i : Nat) : Int) (by rw [nts_len]; simp only [maxLen]; omega);refine Ev.go ?_ (fun k => by rw [spec_l27Try.l0]);rw [up1 hlt (by simp only [maxLen]; omega),rest_step];refine Ev.pos (by rw [gridJ_len]; omega) (Ev.bind hin ?_)
    by_cases c : i ∈ q
    case pos =>
     rw [decide_eq_true ((nts_mem q i).2 c),if_pos c];exact Ev.pos rfl (ihd (i + 1) s (by omega) (by omega))
    rw [decide_eq_false (fun h => c ((nts_mem q i).1 h)),if_neg c,Pm.pick_append];have hr:=ih (q ++ [i]) s (by simp; omega) (fun v hv => by
     rcases List.mem_append.1 hv with h | h
     ·exact hl v h
     ·rw [List.mem_singleton.1 h]; exact hlt)
    rw [← nts_snoc] at hr;refine Ev.neg (by simp) (Ev.bind0 rfl (Ev.pos (by rw [nts_len,List.length_nil]; omega) (Ev.bind0 rfl (Ev.pos (by rw [List.length_append,nts_len,List.length_nil]; omega) ?_))));rw [List.nil_append];exact Ev.bind hr (ihd (i + 1) _ (by omega) (by omega))
  exact loop _ 0 s rfl (Nat.zero_le _)
theorem rangeOf_l (m : Nat) (hm : m ≤ 1000) : ∀ (d i : Nat),m - i = d → i ≤ m → Ev (fun k => impl_rangeOf.l0 k (nts (List.range i)) (m : Int) (i : Int)) (nts (List.range m)):=by
 intro d
 induction d with
 | zero =>
  intro i hd hi;have e : i = m:=by omega
  subst e;refine Ev.go ?_ (fun k => by rw [impl_rangeOf.l0]);exact Ev.neg (by omega) (Ev.now _)
 | succ d ih =>
  intro i hd hi;have hlt : i < m:=by omega
  have hn:=ih (i + 1) (by omega) (by omega);rw [List.range_succ,← nts_snoc] at hn;refine Ev.go ?_ (fun k => by rw [impl_rangeOf.l0]);rw [up1 hlt (by simp only [maxLen]; omega)];exact Ev.pos (by omega) (Ev.pos (by rw [nts_len,List.length_range]; omega) hn)
theorem rangeOf_ev (m : Nat) (hm : m ≤ 1000) : Ev (fun k => impl_rangeOf.f k (m : Int)) (nts (List.range m)):=by
 unfold impl_rangeOf.f
 exact Ev.pos (by omega) (Ev.pos (by omega) (rangeOf_l hJ m hm _ 0 rfl (Nat.zero_le _)))
theorem chosen_l (x : List Int) (hm : x.length ≤ 1000) : ∀ (d i : Nat),x.length - i = d → i ≤ x.length → Ev (fun k => impl_chosen.l0 k x (x.take i) (nts (List.range x.length)) (x.length : Int) (i : Int)) x:=by
 intro d
 induction d with
 | zero =>
  intro i hd hi;refine Ev.go ?_ (fun k => by rw [impl_chosen.l0]);rw [show x.take i = x from List.take_of_length_le (by omega)];exact Ev.neg (by omega) (Ev.now _)
 | succ d ih =>
  intro i hd hi;have hlt : i < x.length:=by omega
  have hn:=ih (i + 1) (by omega) (by omega);have e1 : rd (nts (List.range x.length)) (i : Int) = (i : Int):=by
   rw [nts_rd];have : at_ (List.range x.length) i = i:=by simp [at_,hlt]
   rw [this]
  rw [List.take_succ_eq_append_getElem hlt] at hn;refine Ev.go ?_ (fun k => by rw [impl_chosen.l0]);rw [e1,rdn hlt,up1 hlt (by simp only [maxLen]; omega)];exact Ev.pos (by omega) (Ev.pos (by omega) (Ev.pos (by rw [nts_len,List.length_range]; omega) (Ev.pos (by omega) (Ev.pos (by omega) (Ev.pos (by rw [List.length_take]; omega) hn)))))
theorem chosen_ev (x : List Int) (hm : x.length ≤ 1000) : Ev (fun k => impl_chosen.f k x (nts (List.range x.length))) x:=by
 unfold impl_chosen.f
 rw [nts_len,List.length_range];exact Ev.pos (by omega) (Ev.pos (by omega) (chosen_l hJ x hm _ 0 rfl (Nat.zero_le _)))
theorem stJ_ev {p : List Nat} (s : List Nat × Int) (hp : p.length = a.length) (hl : ∀ v ∈ p,v < a.length) : Ev (fun k => stJ k (tabs N l) (nts a) (nts b) (nts s.1,s.2) (nts p)) (nts (stepP (costOf a.length (DJ N l a b)) s p).1,(stepP (costOf a.length (DJ N l a b)) s p).2):=by
 have h5:=hJ.m5
 unfold stJ
 refine Ev.bind (assigned_ev hJ hp hl) ?_
 by_cases c : costOf a.length (DJ N l a b) p < s.2
 case neg =>
  rw [show stepP (costOf a.length (DJ N l a b)) s p = s from if_neg c];exact Ev.neg c (Ev.now _)
 rw [show stepP (costOf a.length (DJ N l a b)) s p = (p,costOf a.length (DJ N l a b) p) from if_pos c];have hr:=rangeOf_ev hJ (nts p).length (by rw [nts_len]; omega);have hc:=chosen_ev hJ (nts p) (by rw [nts_len]; omega);exact Ev.pos c (Ev.bind hr (Ev.bind hc (Ev.now _)))
theorem ord_ev : ∀ (f : Nat) (q : List Nat) (s : List Nat × Int),q.length + f = a.length → (∀ v ∈ q,v < a.length) → Ev (fun k => ordAll (stJ k (tabs N l) (nts a) (nts b)) k a.length f (nts q) (nts s.1,s.2)) (nts (pick (costOf a.length (DJ N l a b)) (perms a.length f q) s).1,(pick (costOf a.length (DJ N l a b)) (perms a.length f q) s).2):=by
 have h5:=hJ.m5;intro f
 induction f with
 | zero =>
  intro q s hq hl;exact stJ_ev hJ s (by omega) hl
 | succ f ih =>
  intro q s hq hl
  show Ev (fun k => ordRow (ordAll (stJ k (tabs N l) (nts a) (nts b)) k a.length f) k (nts q) a.length a.length (nts s.1,s.2)) _
  rw [← rest_all];have loop : ∀ (d : Nat) (s : List Nat × Int),d ≤ a.length → Ev (fun k => ordRow (ordAll (stJ k (tabs N l) (nts a) (nts b)) k a.length f) k (nts q) a.length d (nts s.1,s.2)) (nts (pick (costOf a.length (DJ N l a b)) (rest a.length f q (a.length - d) d) s).1,(pick (costOf a.length (DJ N l a b)) (rest a.length f q (a.length - d) d) s).2):=by
   intro d
   induction d with
   | zero => intro s hd; exact Ev.now _
   | succ d ihd =>
    intro s hd;have hlt : a.length - (d + 1) < a.length:=by omega
    have e1 : a.length - (d + 1) + 1 = a.length - d:=by omega
    have hin:=contains_ev (nts q) (((a.length - (d + 1) : Nat)) : Int) (by rw [nts_len]; simp only [maxLen]; omega);simp only [ordRow];rw [rest_step,e1];refine Ev.bind hin ?_
    by_cases c : (a.length - (d + 1)) ∈ q
    case pos =>
     rw [decide_eq_true ((nts_mem q _).2 c),if_pos c];exact Ev.pos rfl (ihd s (by omega))
    rw [decide_eq_false (fun h => c ((nts_mem q _).1 h)),if_neg c,Pm.pick_append];have hr:=ih (q ++ [a.length - (d + 1)]) s (by simp; omega) (fun v hv => by
     rcases List.mem_append.1 hv with h | h
     ·exact hl v h
     ·rw [List.mem_singleton.1 h]; exact hlt)
    rw [← nts_snoc] at hr;exact Ev.neg (by simp) (Ev.bind hr (ihd _ (by omega)))
  have:=loop a.length s (Nat.le_refl _)
  rwa [Nat.sub_self] at this
end
end Go.Proofs.Ytmioaahiflfcdaa.Pure
end
section
set_option linter.unusedSimpArgs false
set_option linter.unusedVariables false
set_option linter.unusedVariables false
end
section
set_option linter.unusedSimpArgs false
set_option linter.unusedVariables false
namespace Go.Proofs.Ytmioaahiflfcdaa.Dd
open Go.Lib
theorem sorted_pw (x : List Int) : (x.mergeSort fun x y => decide (x ≤ y)).Pairwise (· ≤ ·):=by
 have:=List.pairwise_mergeSort (le:=fun x y : Int => decide (x ≤ y)) (fun a b c h1 h2 => by rw [decide_eq_true_eq] at *; omega) (fun a b => by
  rw [Bool.or_eq_true,decide_eq_true_eq,decide_eq_true_eq]; omega) x
 exact this.imp (fun h => by simpa using h)
end Go.Proofs.Ytmioaahiflfcdaa.Dd
end
section
set_option linter.unusedSimpArgs false
set_option linter.unusedVariables false
set_option linter.unusedSectionVars false
namespace Go.Proofs.Ytmioaahiflfcdaa.Pure
open Go.RowKit Go.Proofs.Ytmioaahiflfcdaa.Pr Go.Proofs.YtmioaahiflfcdaaW.PrintWords Go.Proofs.YtmioaahiflfcdaaW.PrintLast Go.Proofs.YtmioaahiflfcdaaW.PrintMore
open Go.Proofs.Ytmioaahiflfcdaa.Pm (perms pick at_ costOf IsPerm)
open Go.Proofs.Ytmioaahiflfcdaa.Fl (sm)
section
variable {α : Type} {L : α → α → Prop}
theorem pw_uniq (irr : ∀ x,¬ L x x) (asy : ∀ x y,L x y → ¬ L y x) : ∀ (a b : List α),a.Pairwise L → b.Pairwise L → (∀ x,x ∈ a ↔ x ∈ b) → a = b
 | [],[],_,_,_ => rfl
 | [],y :: b,_,_,h => absurd ((h y).2 (List.mem_cons_self ..)) (by simp)
 | x :: a,[],_,_,h => absurd ((h x).1 (List.mem_cons_self ..)) (by simp)
 | x :: a,y :: b,ha,hb,h => by
  obtain ⟨ha1,ha2⟩:=List.pairwise_cons.1 ha;obtain ⟨hb1,hb2⟩:=List.pairwise_cons.1 hb;have e : x = y:=by
   rcases List.mem_cons.1 ((h x).1 (List.mem_cons_self ..)) with e | h1
   ·exact e
   ·rcases List.mem_cons.1 ((h y).2 (List.mem_cons_self ..)) with e | h2
    ·exact e.symm
    ·exact absurd (hb1 x h1) (asy _ _ (ha1 y h2))
  subst e
  congr 1
  refine pw_uniq irr asy a b ha2 hb2 (fun z => ⟨fun hz => ?_,fun hz => ?_⟩)
  ·rcases List.mem_cons.1 ((h z).1 (List.mem_cons_of_mem _ hz)) with e | h1
   ·subst e; exact absurd (ha1 z hz) (irr z)
   ·exact h1
  ·rcases List.mem_cons.1 ((h z).2 (List.mem_cons_of_mem _ hz)) with e | h1
   ·subst e; exact absurd (hb1 z hz) (irr z)
   ·exact h1
end
def jobsB (n : Int) (l : List Arc) (x y : List Int) : Bool:=decide (1 ≤ x.length) && (decide (x.length ≤ 5) && (decide (y.length = x.length) && (netOkB n l && (x.all (okN n) && y.all (okN n)))))
theorem okN_iff {n v : Int} : okN n v = true ↔ 0 ≤ v ∧ v < n:=by
 simp only [okN,Bool.and_eq_true,decide_eq_true_eq]
 try omega
theorem jobsB_jobs {n : Int} {l : List Arc} {x y : List Int} (h : jobsB n l x y = true) : ∃ (N : Nat) (a b : List Nat),n = (N : Int) ∧ x = nts a ∧ y = nts b ∧ Jobs N l a b:=by
 simp only [jobsB,Bool.and_eq_true,decide_eq_true_eq,netOkB_iff,List.all_eq_true,okN_iff] at h;obtain ⟨h1,h2,h3,h4,h5,h6⟩:=h;obtain ⟨N,rfl⟩ : ∃ N : Nat,n = (N : Int):=⟨n.toNat,by have:=h4.n1; omega⟩
 refine ⟨N,nats x,nats y,rfl,(nts_nats (fun v hv => (h5 v hv).1)).symm,(nts_nats (fun v hv => (h6 v hv).1)).symm,⟨h4,by rw [nats_len]; exact h1,by rw [nats_len]; exact h2,by rw [nats_len,nats_len]; exact h3,fun v hv => ?_,fun v hv => ?_⟩⟩
 ·obtain ⟨i,hi,rfl⟩:=List.mem_map.1 hv;have:=h5 i hi; omega
 ·obtain ⟨i,hi,rfl⟩:=List.mem_map.1 hv;have:=h6 i hi; omega
theorem jobs_jobsB {N : Nat} {l : List Arc} {a b : List Nat} (h : Jobs N l a b) : jobsB (N : Int) l (nts a) (nts b) = true:=by
 simp only [jobsB,Bool.and_eq_true,decide_eq_true_eq,netOkB_iff,List.all_eq_true,okN_iff,nts_len];refine ⟨h.m1,h.m5,h.len,h.net,fun v hv => ?_,fun v hv => ?_⟩
 ·obtain ⟨i,hi,rfl⟩:=List.mem_map.1 hv;have:=h.ha i hi; omega
 ·obtain ⟨i,hi,rfl⟩:=List.mem_map.1 hv;have:=h.hb i hi; omega
theorem jobsOk_eq (n : Int) (l : List Arc) (x y : List Int) : impl_jobsOk.f n l x y = some (jobsB n l x y):=by
 unfold impl_jobsOk.f jobsB
 rw [within1,Option.bind_some]
 by_cases h1 : 1 ≤ x.length ∧ x.length ≤ 5
 case neg =>
  have e : inB (x.length : Int) 1 5 = false:=by
   rw [Bool.eq_false_iff];exact fun h => h1 (by have:=inB_iff.1 h; omega)
  rw [e,if_neg (by simp)]
  by_cases h2 : 1 ≤ x.length
  case neg => rw [decide_eq_false h2]; simp
  rw [decide_eq_false (show ¬ x.length ≤ 5 from fun h => h1 ⟨h2,h⟩)]; simp
 have e : inB (x.length : Int) 1 5 = true:=inB_iff.2 ⟨by omega,by omega⟩;rw [e,if_pos rfl,decide_eq_true h1.1,decide_eq_true h1.2,Bool.true_and,Bool.true_and]
 by_cases h2 : y.length = x.length
 case neg => rw [if_neg (by omega),decide_eq_false h2,Bool.false_and]
 rw [if_pos (by omega),decide_eq_true h2,Bool.true_and,nodesIn_eq,Option.bind_some];cases h3 : netOkB n l with
 | false => simp
 | true =>
  rw [hasOf ((netOkB_iff n l).1 h3),Bool.true_and,Bool.true_and];cases x.all (okN n) with
  | false => simp
  | true => simp
theorem inB_okN {n : Int} {l : List Arc} (h : NetGood n l) (a : Int) : inB a 0 (wrap64 (n - 1)) = okN n a:=by
 have:=h.n1;have:=h.n8;rw [w64 (by omega) (by omega)];rfl
section
variable {n : Int} {l : List Arc} (hg : NetGood n l)
include hg
theorem any_l (x : List Int) (hm : x.length ≤ maxLen) : ∀ (d i : Nat),x.length - i = d → i ≤ x.length → Ev (fun k => spec_l11Any.l0 k x (i : Int) n l) ((x.drop i).all (okN n)):=by
 intro d
 induction d with
 | zero =>
  intro i hd hi;refine Ev.go ?_ (fun k => by rw [spec_l11Any.l0]);rw [List.drop_of_length_le (by omega)];exact Ev.neg (by omega) (Ev.now _)
 | succ d ih =>
  intro i hd hi;have hlt : i < x.length:=by omega
  refine Ev.go ?_ (fun k => by rw [spec_l11Any.l0]);rw [rdn hlt,up1 hlt hm,drop_cons hlt,List.all_cons];refine Ev.pos (by omega) (Ev.pos (by omega) (Ev.bind0 (in1 _ _ _) ?_));rw [inB_okN hg];cases okN n x[i] with
  | false => exact Ev.neg (by simp) (Ev.is (by simp))
  | true => exact Ev.pos rfl ((ih (i + 1) (by omega) (by omega)).cast (by simp))
theorem any_ev (x : List Int) (hm : x.length ≤ maxLen) : Ev (fun k => spec_l11Any.f k n l x) (x.all (okN n)):=any_l hg x hm _ 0 rfl (Nat.zero_le _)
theorem nodes_l (x : List Int) (hm : x.length ≤ maxLen) : ∀ (d i : Nat),x.length - i = d → i ≤ x.length → Ev (fun k => spec_l11Nodes.l0 k x (i : Int) n l) ((x.drop i).all (okN n) && decide ((x.length : Int) ≤ 8)):=by
 intro d
 induction d with
 | zero =>
  intro i hd hi;refine Ev.go ?_ (fun k => by rw [spec_l11Nodes.l0]);rw [List.drop_of_length_le (by omega)];exact Ev.neg (by omega) (Ev.is (by simp))
 | succ d ih =>
  intro i hd hi;have hlt : i < x.length:=by omega
  refine Ev.go ?_ (fun k => by rw [spec_l11Nodes.l0]);rw [rdn hlt,up1 hlt hm,drop_cons hlt,List.all_cons];refine Ev.pos (by omega) (Ev.pos (by omega) (Ev.bind0 (in1 _ _ _) ?_));rw [inB_okN hg];cases okN n x[i] with
  | false => exact Ev.neg (by simp) (Ev.is (by simp))
  | true => exact Ev.pos rfl ((ih (i + 1) (by omega) (by omega)).cast (by simp))
theorem nodes_ev (x : List Int) (hm : x.length ≤ maxLen) : Ev (fun k => spec_l11Nodes.f k n l x) (x.all (okN n) && decide ((x.length : Int) ≤ 8)):=nodes_l hg x hm _ 0 rfl (Nat.zero_le _)
end
theorem l27Ok_ev (n : Int) (l : List Arc) (x y : List Int) (hl : l.length ≤ maxLen) (hx : x.length ≤ maxLen) (hy : y.length ≤ maxLen) : Ev (fun k => spec_l27Ok.f k n l x y) (jobsB n l x y):=by
 unfold spec_l27Ok.f jobsB
 refine Ev.bind (l1Ok_ev n l hl) ?_;cases h3 : netOkB n l with
 | false => exact Ev.neg (by simp) (Ev.is (by simp))
 | true =>
  have hg:=(netOkB_iff n l).1 h3;refine Ev.pos rfl (Ev.bind (any_ev hg x hx) ?_);cases h4 : x.all (okN n) with
  | false => exact Ev.neg (by simp) (Ev.is (by simp))
  | true =>
   refine Ev.pos rfl (Ev.bind (any_ev hg y hy) ?_);cases h5 : y.all (okN n) with
   | false => exact Ev.neg (by simp) (Ev.is (by simp))
   | true =>
    refine Ev.pos rfl ?_
    by_cases h2 : y.length = x.length
    case neg => exact Ev.neg (by omega) (Ev.is (by rw [decide_eq_false h2]; simp))
    refine Ev.pos (by omega) (Ev.bind0 (in1 _ _ _) (Ev.is ?_));rw [decide_eq_true h2];simp only [Bool.and_true,Bool.true_and]
    unfold inB
    by_cases h1 : 1 ≤ x.length
    case neg => rw [decide_eq_false h1,decide_eq_false (show ¬ (1 : Int) ≤ (x.length : Int) by omega),Bool.false_and,Bool.false_and]
    rw [decide_eq_true h1,decide_eq_true (show (1 : Int) ≤ (x.length : Int) by omega),Bool.true_and,Bool.true_and,decide_eq_decide]; omega
section
variable {N : Nat} {l : List Arc} {a b : List Nat} (hJ : Jobs N l a b)
include hJ
def gridTo (N : Nat) (l : List Arc) (a b : List Nat) (i : Nat) : List (List Int):=(List.range i).map fun i => lst b.length (DJ N l a b i)
omit hJ in
theorem gridTo_snoc (i : Nat) : gridTo N l a b i ++ [lst b.length (DJ N l a b i)] = gridTo N l a b (i + 1):=by simp [gridTo,List.range_succ]
omit hJ in
theorem gridTo_len (i : Nat) : (gridTo N l a b i).length = i:=by simp [gridTo]
theorem many_l1 {i : Nat} (hi : i < a.length) (hn : Ev (fun q => spec_ManyAll.l0 q (nts a) (nts b) (gridTo N l a b (i + 1)) ((i + 1 : Nat) : Int) N l) (gridJ N l a b)) : ∀ (d k : Nat),b.length - k = d → k ≤ b.length → Ev (fun q => spec_ManyAll.l1 q (nts a) (nts b) (gridTo N l a b i) (i : Int) (lst N (fun v => far (dst N (back l) (at_ a i) v))) (lst k (DJ N l a b i)) (k : Int) N l) (gridJ N l a b):=by
 have h5:=hJ.m5;have hbl:=hJ.len;intro d
 induction d with
 | zero =>
  intro k hd hk;have e : k = b.length:=by omega
  subst e;refine Ev.go ?_ (fun q => by rw [spec_ManyAll.l1]);rw [up1 hi (by simp only [maxLen]; omega),gridTo_snoc];exact Ev.neg (by rw [nts_len]; omega) (Ev.pos (by rw [gridTo_len]; omega) hn)
 | succ d ih =>
  intro k hd hk;have hlt : k < b.length:=by omega
  have hb:=at_b hJ (i:=k) (by omega);have e1 : rd (lst N (fun v => far (dst N (back l) (at_ a i) v))) ((at_ b k : Nat) : Int) = DJ N l a b i k:=lst_rd _ hb;refine Ev.go ?_ (fun q => by rw [spec_ManyAll.l1]);rw [nts_rd,e1,up1 hlt (by simp only [maxLen]; omega),lst_snoc];exact Ev.pos (by rw [nts_len]; omega) (Ev.pos (by omega) (Ev.pos (by omega) (Ev.pos (by rw [lst_len]; omega) (Ev.pos (by rw [lst_len]; omega) (ih (k + 1) (by omega) (by omega))))))
theorem many_l : ∀ (d i : Nat),a.length - i = d → i ≤ a.length → Ev (fun q => spec_ManyAll.l0 q (nts a) (nts b) (gridTo N l a b i) (i : Int) N l) (gridJ N l a b):=by
 intro d
 induction d with
 | zero =>
  intro i hd hi;have e : i = a.length:=by omega
  subst e;refine Ev.go ?_ (fun q => by rw [spec_ManyAll.l0]);exact Ev.neg (by rw [nts_len]; omega) (Ev.now _)
 | succ d ih =>
  intro i hd hi;have hlt : i < a.length:=by omega
  have h3:=l3All_ev hJ.net (at_a hJ hlt);refine Ev.go ?_ (fun q => by rw [spec_ManyAll.l0]);rw [nts_rd];exact Ev.pos (by rw [nts_len]; omega) (Ev.pos (by omega) (Ev.bind h3 (many_l1 hJ hlt (ih (i + 1) (by omega) (by omega)) _ 0 rfl (Nat.zero_le _))))
theorem many_ev : Ev (fun q => spec_ManyAll.f q N l (nts a) (nts b)) (gridJ N l a b):=by
 have h5:=hJ.m5;have hbl:=hJ.len;have h16:=hJ.net.len;have hok:=l1Ok_ev (N : Int) l (by simp only [maxLen]; omega);rw [(netOkB_iff (N : Int) l).2 hJ.net] at hok;have hB:=jobs_jobsB hJ;simp only [jobsB,Bool.and_eq_true,nts_len] at hB;have e1 : ((nts a).all (okN (N : Int)) && decide (((nts a).length : Int) ≤ 8)) = true:=by
  rw [hB.2.2.2.2.1,Bool.true_and,decide_eq_true_eq,nts_len]; omega
 have e2 : ((nts b).all (okN (N : Int)) && decide (((nts b).length : Int) ≤ 8)) = true:=by
  rw [hB.2.2.2.2.2,Bool.true_and,decide_eq_true_eq,nts_len]; omega
 unfold spec_ManyAll.f
 refine Ev.bind0 rfl (Ev.bind hok (Ev.pos rfl (Ev.bind ((nodes_ev hJ.net (nts a) (by rw [nts_len]; simp only [maxLen]; omega)).cast e1) (Ev.pos rfl (Ev.bind ((nodes_ev hJ.net (nts b) (by rw [nts_len]; simp only [maxLen]; omega)).cast e2) ?_)))));refine Ev.go ?_ (fun q => by rw [spec_ManyAll.j0]);exact Ev.neg (by simp) (many_l hJ _ 0 rfl (Nat.zero_le _))
end
noncomputable def bestJ (N : Nat) (l : List Arc) (a b : List Nat) : List Nat × Int:=pick (costOf a.length (DJ N l a b)) (perms a.length a.length []) ([],99999)
noncomputable def jobV (n : Int) (l : List Arc) (x y : List Int) : List Int × Int:=if jobsB n l x y = true then (nts (bestJ n.toNat l (nats x) (nats y)).1,(bestJ n.toNat l (nats x) (nats y)).2) else ([],-1)
theorem jobV_at {N : Nat} {l : List Arc} {a b : List Nat} (hJ : Jobs N l a b) : jobV (N : Int) l (nts a) (nts b) = (nts (bestJ N l a b).1,(bestJ N l a b).2):=by
 unfold jobV
 rw [if_pos (jobs_jobsB hJ),nats_nts,nats_nts,Int.toNat_natCast]
theorem implJob_ev (n : Int) (l : List Arc) (x y : List Int) : Ev (fun k => impl_JobBest.f k n l x y) (jobV n l x y):=by
 unfold impl_JobBest.f
 refine Ev.bind0 (jobsOk_eq n l x y) ?_;cases h : jobsB n l x y with
 | false => exact Ev.neg (by simp) (Ev.is (by unfold jobV; rw [h]; simp))
 | true =>
  obtain ⟨N,a,b,rfl,rfl,rfl,hJ⟩:=jobsB_jobs h;have h5:=hJ.m5;rw [jobV_at hJ,nts_len];refine Ev.pos rfl (Ev.pos (by omega) (Ev.bind (table_ev hJ.net) ?_));exact ord_ev hJ a.length [] ([],99999) (by simp) (by simp)
theorem specJob_ev (n : Int) (l : List Arc) (x y : List Int) (hl : l.length ≤ maxLen) (hx : x.length ≤ maxLen) (hy : y.length ≤ maxLen) : Ev (fun k => spec_JobBest.f k n l x y) (jobV n l x y):=by
 unfold spec_JobBest.f
 refine Ev.bind (l27Ok_ev n l x y hl hx hy) ?_;cases h : jobsB n l x y with
 | false => exact Ev.neg (by simp) (Ev.is (by unfold jobV; rw [h]; simp))
 | true =>
  obtain ⟨N,a,b,rfl,rfl,rfl,hJ⟩:=jobsB_jobs h;rw [jobV_at hJ];have ht:=try_ev hJ a.length [] ([],99999) (by simp) (by simp);exact Ev.pos rfl (Ev.bind (many_ev hJ) (Ev.bind ht (Ev.is rfl)))
def PermI (w : List Int) (m : Nat) : Prop:=IsPerm m (nats w) ∧ ∀ v ∈ w,0 ≤ v
theorem permI_iff (w : List Int) (m : Nat) : PermI w m ↔ w.length = m ∧ w.Nodup ∧ ∀ v ∈ w,0 ≤ v ∧ v < m:=by
 constructor
 ·rintro ⟨⟨h1,h2,h3⟩,h4⟩;refine ⟨by rw [nats_len] at h1; exact h1,?_,fun v hv => ⟨h4 v hv,?_⟩⟩
  ·rw [← nts_nats h4]
   unfold nts List.Nodup
   rw [List.pairwise_map];exact List.Pairwise.imp (fun {a b} h e => h (Int.ofNat_inj.1 e)) h2
  ·have:=h3 _ (List.mem_map_of_mem (f:=Int.toNat) hv);have:=h4 v hv;omega
 ·rintro ⟨h1,h2,h3⟩;have h4 : ∀ v ∈ w,0 ≤ v:=fun v hv => (h3 v hv).1
  refine ⟨⟨by rw [nats_len]; exact h1,?_,fun v hv => ?_⟩,h4⟩
  ·rw [← nts_nats h4] at h2
   unfold nts List.Nodup at h2
   rw [List.pairwise_map] at h2;exact List.Pairwise.imp (fun {a b} h e => h (by rw [e])) h2
  ·obtain ⟨i,hi,rfl⟩:=List.mem_map.1 hv;have:=h3 i hi; omega
theorem countL_pw (m : Nat) : (countL m).Pairwise (· < ·):=by
 unfold countL
 rw [List.pairwise_map];exact List.Pairwise.imp (fun {a b} h => by omega) List.pairwise_lt_range
theorem countL_mem (m : Nat) (v : Int) : v ∈ countL m ↔ 0 ≤ v ∧ v < m:=by
 unfold countL
 rw [List.mem_map];constructor
 ·rintro ⟨i,hi,rfl⟩;have:=List.mem_range.1 hi; omega
 ·rintro ⟨h1,h2⟩;exact ⟨v.toNat,List.mem_range.2 (by omega),by omega⟩
theorem permuted_iff (w : List Int) (m : Nat) : (sortedL w = countL w.length ∧ w.length = m) ↔ PermI w m:=by
 have hp : (sortedL w).Perm w:=List.mergeSort_perm w _;rw [permI_iff];constructor
 ·rintro ⟨h1,rfl⟩;rw [h1] at hp;refine ⟨rfl,hp.nodup_iff.1 ?_,fun v hv => (countL_mem _ v).1 (hp.mem_iff.2 hv)⟩;exact List.Pairwise.imp (fun {a b} h => by show a ≠ b; omega) (countL_pw w.length)
 ·rintro ⟨h1,h2,h3⟩;subst h1;refine ⟨?_,rfl⟩;have hnd : (sortedL w).Nodup:=hp.nodup_iff.2 h2;have hs : (sortedL w).Pairwise (· < ·):=List.Pairwise.imp (fun {a b} h => by have h1:=h.1; have h2 : a ≠ b:=h.2; omega) ((Dd.sorted_pw w).and hnd);have hI:=(permI_iff w w.length).2 ⟨rfl,h2,h3⟩;refine pw_uniq (L:=fun a b : Int => a < b) (fun x => by omega) (fun x y h => by omega) _ _ hs (countL_pw _) (fun v => ?_);rw [hp.mem_iff,countL_mem];refine ⟨fun hv => h3 v hv,fun hv => ?_⟩;have:=Pm.perm_mem_all hI.1 v.toNat (by omega);obtain ⟨i,hi,e⟩:=List.mem_map.1 this;have:=(h3 i hi).1;have : i = v:=by omega
  rw [← this]; exact hi
open Classical in
theorem permuted_eq (w : List Int) (m : Nat) (hw : w.length ≤ 2000000) : impl_permuted.f w (m : Int) = some (decide (PermI w m)):=by
 unfold impl_permuted.f
 rw [if_pos hw]
 congr 1
 by_cases h : PermI w m
 case pos =>
  obtain ⟨h1,h2⟩:=(permuted_iff w m).2 h;rw [decide_eq_true h,decide_eq_true h1,decide_eq_true (show (w.length : Int) = m by omega)]; rfl
 rw [decide_eq_false h]
 by_cases h1 : sortedL w = countL w.length
 case neg => rw [decide_eq_false h1,Bool.false_and]
 rw [decide_eq_true h1,Bool.true_and,decide_eq_false];exact fun e => h ((permuted_iff w m).1 ⟨h1,by omega⟩)
def OkTo (w : List Int) (m i : Nat) : Prop:=∀ j,j < i → (0 ≤ nth w j ∧ nth w j < m) ∧ ∀ h,h < j → nth w h ≠ nth w j
theorem okTo_all (w : List Int) (m : Nat) : PermI w m ↔ w.length = m ∧ OkTo w m w.length:=by
 rw [permI_iff];constructor
 ·rintro ⟨h1,h2,h3⟩;refine ⟨h1,fun j hj => ⟨h3 _ (getD_mem hj),fun h hh e => ?_⟩⟩;rw [nth_get hj,nth_get (show h < w.length by omega)] at e;exact List.pairwise_iff_getElem.1 h2 h j (by omega) hj hh e
 ·rintro ⟨h1,h2⟩;refine ⟨h1,List.pairwise_iff_getElem.2 (fun i j hi hj hij e => ?_),fun v hv => ?_⟩
  ·have:=(h2 j hj).2 i hij;rw [nth_get hi,nth_get hj] at this;exact this e
  ·obtain ⟨j,hj,rfl⟩:=mem_getD hv;exact (h2 j hj).1
open Classical in
noncomputable def jobCV (n : Int) (l : List Arc) (x y w : List Int) : Int:=if jobsB n l x y = true ∧ PermI w x.length then costOf x.length (DJ n.toNat l (nats x) (nats y)) (nats w) else -1
theorem jobCV_at {N : Nat} {l : List Arc} {a b : List Nat} (hJ : Jobs N l a b) {w : List Int} (hw : PermI w a.length) : jobCV (N : Int) l (nts a) (nts b) w = costOf a.length (DJ N l a b) (nats w):=by
 unfold jobCV
 rw [if_pos ⟨jobs_jobsB hJ,by rw [nts_len]; exact hw⟩,nats_nts,nats_nts,Int.toNat_natCast,nts_len]
theorem implJobCost_ev (n : Int) (l : List Arc) (x y w : List Int) (hw : w.length ≤ 2000000) : Ev (fun k => impl_JobCost.f k n l x y w) (jobCV n l x y w):=by
 classical
 unfold impl_JobCost.f
 refine Ev.bind0 (jobsOk_eq n l x y) ?_;cases h : jobsB n l x y with
 | false =>
  refine Ev.neg (by simp) (Ev.go ?_ (fun k => by rw [impl_JobCost.j0]));exact Ev.pos rfl (Ev.is (by unfold jobCV; rw [if_neg (by rw [h]; simp)]))
 | true =>
  refine Ev.pos rfl (Ev.bind0 (permuted_eq w x.length hw) (Ev.go ?_ (fun k => by rw [impl_JobCost.j0])))
  by_cases c : PermI w x.length
  case neg =>
   rw [decide_eq_false c];exact Ev.pos rfl (Ev.is (by unfold jobCV; rw [if_neg (fun h => c h.2)]))
  obtain ⟨N,a,b,rfl,rfl,rfl,hJ⟩:=jobsB_jobs h;rw [nts_len] at c;rw [jobCV_at hJ c,nts_len,decide_eq_true c];have e : w = nts (nats w):=(nts_nats c.2).symm;refine Ev.neg (by simp) (Ev.bind (table_ev hJ.net) (Ev.bind ?_ (Ev.now _)));have:=assigned_ev hJ c.1.len c.1.lt;rw [← e] at this;exact this
end Go.Proofs.Ytmioaahiflfcdaa.Pure
end
section
set_option linter.unusedSimpArgs false
set_option linter.unusedVariables false
namespace Go.Proofs.Ytmioaahiflfcdaa.Pure
open Go.RowKit Go.Proofs.Ytmioaahiflfcdaa.Pr Go.Proofs.YtmioaahiflfcdaaW.PrintWords Go.Proofs.YtmioaahiflfcdaaW.PrintLast Go.Proofs.YtmioaahiflfcdaaW.PrintMore
structure Rdr (b : List Int) : Prop where
 len : b.length ≤ 2000
 rng : ∀ i,i < b.length → 0 ≤ nth b i ∧ nth b i ≤ 255
theorem Rdr.rd {b : List Int} (h : Rdr b) (i : Int) : 0 ≤ Go.Proofs.YtmioaahiflfcdaaW.PrintWords.rd b i ∧ Go.Proofs.YtmioaahiflfcdaaW.PrintWords.rd b i ≤ 255:=by
 have e : Go.Proofs.YtmioaahiflfcdaaW.PrintWords.rd b i = nth b i.toNat:=rfl;rw [e]
 by_cases c : i.toNat < b.length
 case pos => exact h.rng _ c
 have c2 : b.length ≤ i.toNat:=by omega
 simp [nth,List.getElem?_eq_none c2]
theorem tm {x a : Int} (hx : 0 ≤ x) (ha : 0 < a) : 0 ≤ Int.tmod x a ∧ Int.tmod x a < a:=by
 rw [Int.tmod_eq_emod_of_nonneg hx];exact ⟨Int.emod_nonneg _ (by omega),Int.emod_lt_of_pos _ ha⟩
theorem td {x a : Int} (hx : 0 ≤ x) (ha : 0 < a) : 0 ≤ Int.tdiv x a ∧ Int.tdiv x a ≤ x:=by
 rw [Int.tdiv_eq_ediv_of_nonneg hx];exact ⟨Int.ediv_nonneg hx (by omega),Int.ediv_le_self _ hx⟩
theorem xor_nn {x y : Int} (hx : 0 ≤ x) (hx' : x < 4294967296) (hy : 0 ≤ y) (hy' : y < 4294967296) : 0 ≤ Go.bits .xor .i64 x y:=by
 obtain ⟨x,rfl⟩:=Int.eq_ofNat_of_zero_le hx;obtain ⟨y,rfl⟩:=Int.eq_ofNat_of_zero_le hy;have h1 : x ^^^ y < 2 ^ 32:=Nat.xor_lt_two_pow (by omega) (by omega);have e : Go.bits .xor .i64 ((x : Nat) : Int) ((y : Nat) : Int) = wrap64 (((BitVec.ofInt 64 ((x : Nat) : Int) ^^^ BitVec.ofInt 64 ((y : Nat) : Int)).toNat : Nat) : Int):=by
  unfold Go.bits
  simp only [i64_w];rfl
 rw [e,BitVec.toNat_xor,BitVec.ofInt_natCast,BitVec.ofInt_natCast,BitVec.toNat_ofNat,BitVec.toNat_ofNat,Nat.mod_eq_of_lt (by omega),Nat.mod_eq_of_lt (by omega),w64 (by omega) (by omega)];omega
theorem pick_pv {b : List Int} (h : Rdr b) {p a : Int} (hp : 0 ≤ p) (hp' : p ≤ 1000000) : Pv (fun k => spec_l30Rd_pick.f k b p a) (fun r => (0 ≤ r.1 ∧ (a < 1 → r.1 = 0) ∧ (1 ≤ a → r.1 < a)) ∧ r.2 = p + 1):=by
 have w1 : wrap64 (p + 1) = p + 1:=w64 (by omega) (by omega);have w2 : wrap64 (p + 1 - 1) = p:=by rw [w64 (by omega) (by omega)]; omega
 unfold spec_l30Rd_pick.f
 refine Pv.ite (fun c => ?_) (fun c => ?_)
 ·refine Pv.go ?_ (fun k => by rw [spec_l30Rd_pick.j0]);exact Pv.pos rfl (Pv.now ⟨⟨Int.le_refl _,fun _ => rfl,fun c2 => by omega⟩,w1⟩)
 ·refine Pv.go ?_ (fun k => by rw [spec_l30Rd_pick.j0]);refine Pv.ite (fun _ => Pv.now ⟨⟨Int.le_refl _,fun _ => rfl,fun c2 => by dsimp only; omega⟩,w1⟩) (fun c0 => ?_);have hb : 0 < (b.length : Int):=by
   have : (b.length : Int) ≠ 0:=by simpa using c0
   omega
  have hb2:=h.len;rw [w1,w2];have fin : ∀ X : Int,0 ≤ X → Pv (fun _ => some (Int.tmod X a,p + 1)) (fun r => (0 ≤ r.1 ∧ (a < 1 → r.1 = 0) ∧ (1 ≤ a → r.1 < a)) ∧ r.2 = p + 1):=by
   intro X hX;have:=tm hX (show 0 < a by omega);exact Pv.now ⟨⟨this.1,fun c2 => absurd c2 c,fun _ => this.2⟩,rfl⟩
  refine Pv.ite (fun c1 => Pv.pos hp (Pv.neg (by omega) ?_)) (fun c1 => ?_)
  ·have:=h.rd p;rw [w64 (n:=Go.Proofs.YtmioaahiflfcdaaW.PrintWords.rd b p) (by omega) (by omega)];exact fin _ (by omega)
  ·have t1:=tm hp hb;have e1 : wrap64 (p * 7) = p * 7:=w64 (by omega) (by omega);have e2 : wrap64 (p * 7 + 3) = p * 7 + 3:=w64 (by omega) (by omega);rw [e1,e2];have t2:=tm (show 0 ≤ p * 7 + 3 by omega) hb;have r1:=h.rd (Int.tmod p b.length);have r2:=h.rd (Int.tmod (p * 7 + 3) b.length);have d1:=td hp hb;refine Pv.neg (by omega) (Pv.pos t1.1 (Pv.pos t1.2 (Pv.pos t2.1 (Pv.pos t2.2 (Pv.neg (by omega) ?_)))));generalize Go.Proofs.YtmioaahiflfcdaaW.PrintWords.rd b (Int.tmod p b.length) = u at r1;generalize Go.Proofs.YtmioaahiflfcdaaW.PrintWords.rd b (Int.tmod (p * 7 + 3) b.length) = v at r2;generalize Int.tdiv p b.length = q at d1;rw [w64 (n:=u) (by omega) (by omega),w64 (n:=v) (by omega) (by omega),w64 (n:=q) (by omega) (by omega),w64 (n:=u * 131) (by omega) (by omega),w64 (n:=v * 1117) (by omega) (by omega),w64 (n:=p * 29) (by omega) (by omega),w64 (n:=q * 53) (by omega) (by omega),w64 (n:=u * 131 + v * 1117) (by omega) (by omega),w64 (n:=u * 131 + v * 1117 + p * 29) (by omega) (by omega),w64 (n:=u * 131 + v * 1117 + p * 29 + q * 53) (by omega) (by omega)];have d2:=td (show 0 ≤ u * 131 + v * 1117 + p * 29 + q * 53 by omega) (show (0 : Int) < 64 by omega);generalize Int.tdiv (u * 131 + v * 1117 + p * 29 + q * 53) 64 = z at d2;rw [w64 (n:=z) (by omega) (by omega)];exact fin _ (xor_nn (by omega) (by omega) (by omega) (by omega))
theorem one_pv {b : List Int} (h : Rdr b) {p : Int} (hp : 0 ≤ p) (hp' : p ≤ 1000000) {l : List Int} (hl : 0 < l.length) : Pv (fun k => spec_l30Rd_one.f k b p l) (fun r => r.1 ∈ l ∧ r.2 = p + 1):=by
 unfold spec_l30Rd_one.f
 refine Pv.bind (pick_pv h hp hp') (fun r ⟨⟨h1,_,h2⟩,h3⟩ => ?_);have h2:=h2 (by omega);refine Pv.pos h1 (Pv.pos h2 (Pv.now ⟨?_,h3⟩));have e : Go.Proofs.YtmioaahiflfcdaaW.PrintWords.rd l r.1 = nth l r.1.toNat:=rfl;dsimp only;rw [e];exact getD_mem (by omega)
theorem u8_range {x : Int} (h : (Lit.int .u8 x).wf = true) : 0 ≤ x ∧ x ≤ 255:=by
 simp only [Lit.wf] at h;have h2 : IntKind.u8.min ≤ x ∧ x ≤ IntKind.u8.max:=by simpa using h
 have e1 : IntKind.u8.min = 0:=by decide
 have e2 : IntKind.u8.max = 255:=by decide
 omega
theorem open_pv {l : List Int} (hl : ∀ x ∈ l,(Lit.int .u8 x).wf = true) : ∃ b,spec_l30Open.f l = some (b,0) ∧ Rdr b:=by
 have key : ∀ m : List Int,m.length ≤ 2000 → (∀ x ∈ m,x ∈ l) → Rdr m:=fun m h1 h2 => ⟨h1,fun i hi => u8_range (hl _ (h2 _ (getD_mem hi)))⟩
 unfold spec_l30Open.f
 by_cases c : (l.length : Int) > 2000
 case neg =>
  rw [if_neg c];exact ⟨_,rfl,key _ (by omega) (fun x hx => hx)⟩
 rw [if_pos c,if_pos (by omega)];exact ⟨_,rfl,key _ (by simp; omega) (fun x hx => List.mem_of_mem_take hx)⟩
def NetSz (p : Int) (r : Int × List Arc × Int) : Prop:=(0 ≤ r.1 ∧ r.1 ≤ 9) ∧ r.2.1.length ≤ 13 ∧ (p ≤ r.2.2 ∧ r.2.2 ≤ p + 100)
theorem net_l {b : List Int} (h : Rdr b) (n : Int) (hn : 1 ≤ n ∧ n ≤ 9) : ∀ (m : Nat) (p : Int) (l : List Arc),0 ≤ p → p + 6 * m ≤ 100000 → m ≤ 13 → l.length ≤ 13 - m → Pv (fun k => spec_l30Net.l0 k (m : Int) b p n l) (fun r => r.1 = n ∧ r.2.1.length ≤ 13 ∧ (p ≤ r.2.2 ∧ r.2.2 ≤ p + 6 * m)):=by
 intro m
 induction m with
 | zero =>
  intro p l hp hp' hm hl;refine Pv.go ?_ (fun k => by rw [spec_l30Net.l0]);exact Pv.neg (by omega) (Pv.now ⟨rfl,by dsimp only; omega,by dsimp only; omega⟩)
 | succ m ih =>
  intro p l hp hp' hm hl;have hw : wrap64 (((m + 1 : Nat) : Int) - 1) = (m : Int):=by rw [w64 (by omega) (by omega)]; omega
  refine Pv.go ?_ (fun k => by rw [spec_l30Net.l0]);rw [hw];refine Pv.pos (by omega) (Pv.bind (pick_pv h hp (by omega)) (fun r1 ⟨a1,e1⟩ => Pv.bind (pick_pv h (p:=r1.2) (by omega) (by omega)) (fun r2 ⟨a2,e2⟩ => Pv.bind (pick_pv h (p:=r2.2) (by omega) (by omega)) (fun r3 ⟨a3,e3⟩ => Pv.bind (one_pv h (p:=r3.2) (by omega) (by omega) (by simp)) (fun r4 ⟨a4,e4⟩ => Pv.bind (one_pv h (p:=r4.2) (by omega) (by omega) (by simp)) (fun r5 ⟨a5,e5⟩ => Pv.bind (pick_pv h (p:=r5.2) (by omega) (by omega)) (fun r6 ⟨a6,e6⟩ => ?_)))))));have step : ∀ x : Arc,Pv (fun k => spec_l30Net.l0 k (m : Int) b r6.2 n (l ++ [x])) (fun r => r.1 = n ∧ r.2.1.length ≤ 13 ∧ (p ≤ r.2.2 ∧ r.2.2 ≤ p + 6 * ((m + 1 : Nat) : Int))):=fun x => (ih r6.2 (l ++ [x]) (by omega) (by omega) (by omega) (by simp; omega)).mono (fun r hr => ⟨hr.1,hr.2.1,by omega,by omega⟩)
  refine Pv.ite (fun _ => Pv.neg (by omega) (Pv.pos (by omega) (step _))) (fun _ => Pv.pos (by omega) (step _))
theorem net_pv {b : List Int} (h : Rdr b) {p : Int} (hp : 0 ≤ p) (hp' : p ≤ 10000) : Pv (fun k => spec_l30Net.f k b p) (fun r => (2 ≤ r.1 ∧ r.1 ≤ 6) ∧ r.2.1.length ≤ 13 ∧ (p ≤ r.2.2 ∧ r.2.2 ≤ p + 90)):=by
 unfold spec_l30Net.f
 refine Pv.bind (pick_pv h hp (by omega)) (fun r1 ⟨a1,e1⟩ => Pv.bind (pick_pv h (p:=r1.2) (by omega) (by omega)) (fun r2 ⟨a2,e2⟩ => ?_));have b1:=a1.2.2 (by omega);have b2:=a2.2.2 (by omega);have hw : wrap64 (2 + r1.1) = 2 + r1.1:=w64 (by omega) (by omega);rw [hw];have:=net_l h (2 + r1.1) (by omega) r2.1.toNat r2.2 [] (by omega) (by omega) (by omega) (by simp);rw [Int.toNat_of_nonneg a2.1] at this;exact this.mono (fun r hr => ⟨⟨by omega,by omega⟩,hr.2.1,by omega,by omega⟩)
theorem anyNet_pv {b : List Int} (h : Rdr b) {p : Int} (hp : 0 ≤ p) (hp' : p ≤ 10000) : Pv (fun k => spec_l30AnyNet.f k b p) (NetSz p):=by
 unfold spec_l30AnyNet.f
 refine Pv.bind (net_pv h hp hp') (fun r0 ⟨a0,l0,e0⟩ => ?_);refine Pv.ite (fun c => ?_) (fun c => Pv.now ⟨by dsimp only; omega,l0,by dsimp only; omega⟩);refine Pv.bind (pick_pv h (p:=r0.2.2) (by omega) (by omega)) (fun r1 ⟨a1,e1⟩ => Pv.bind (pick_pv h (p:=r1.2) (by omega) (by omega)) (fun r2 ⟨a2,e2⟩ => ?_));have b1:=a1.2.2 (by omega);refine Pv.ite (fun c1 => Pv.pos a1.1 (Pv.pos b1 (Pv.bind (one_pv h (p:=r2.2) (by omega) (by omega) (by simp)) (fun r3 ⟨a3,e3⟩ => Pv.now ⟨by dsimp only; omega,by simpa using l0,by dsimp only; omega⟩)))) (fun c1 => ?_);refine Pv.ite (fun c2 => Pv.bind (one_pv h (p:=r2.2) (by omega) (by omega) (by simp)) (fun r3 ⟨a3,e3⟩ => Pv.pos a1.1 (Pv.pos b1 (Pv.now ⟨by dsimp only; omega,by simpa using l0,by dsimp only; omega⟩)))) (fun c2 => ?_);refine Pv.ite (fun c3 => Pv.bind (one_pv h (p:=r2.2) (by omega) (by omega) (by simp)) (fun r3 ⟨a3,e3⟩ => Pv.now ⟨?_,l0,by dsimp only; omega⟩)) (fun c3 => Pv.now ⟨by dsimp only; omega,l0,by dsimp only; omega⟩);simp only [List.mem_cons,List.not_mem_nil,or_false] at a3;dsimp only;omega
end Go.Proofs.Ytmioaahiflfcdaa.Pure
end
section
set_option linter.unusedSimpArgs false
set_option linter.unusedVariables false
set_option linter.unusedSectionVars false
namespace Go.Proofs.Ytmioaahiflfcdaa.Pure
open Go.RowKit Go.Proofs.Ytmioaahiflfcdaa.Pr Go.Proofs.YtmioaahiflfcdaaW.PrintWords Go.Proofs.YtmioaahiflfcdaaW.PrintLast Go.Proofs.YtmioaahiflfcdaaW.PrintMore
open Go.Proofs.Ytmioaahiflfcdaa.Pm (perms pick at_ costOf IsPerm inv)
section
variable {N : Nat} {l : List Arc} {a b : List Nat} (hJ : Jobs N l a b)
include hJ
theorem perm_in {p : List Nat} (h : IsPerm a.length p) : p ∈ perms a.length a.length []:=by
 have:=Pm.perms_all (n:=a.length) (f:=a.length) (b:=[]) (q:=p) (by simpa using h.nd) h.lt h.len
 simpa using this
theorem perm_of {p : List Nat} (h : p ∈ perms a.length a.length []) : IsPerm a.length p:=by
 have h1:=Pm.perms_len h;have h2:=Pm.perms_ok (b:=[]) (by simp) (by simp) h;exact ⟨by simpa using h1,h2.1,h2.2⟩
theorem best_le {p : List Nat} (h : IsPerm a.length p) : (bestJ N l a b).2 ≤ costOf a.length (DJ N l a b) p:=(Pm.pick_le _ _ _).2 p (perm_in hJ h)
theorem best_from : bestJ N l a b = ([],99999) ∨ ∃ p,IsPerm a.length p ∧ bestJ N l a b = (p,costOf a.length (DJ N l a b) p) ∧ costOf a.length (DJ N l a b) p < 99999:=by
 rcases Pm.pick_from (costOf a.length (DJ N l a b)) (perms a.length a.length []) ([],99999) with h | ⟨p,hp,h1,h2⟩
 ·exact .inl h
 ·exact .inr ⟨p,perm_of hJ hp,h1,h2⟩
theorem best_bd : 0 ≤ (bestJ N l a b).2 ∧ (bestJ N l a b).2 ≤ 99999:=by
 rcases best_from hJ with h | ⟨p,hp,h1,h2⟩
 ·rw [h]; omega
 ·rw [h1];have:=costOf_bd hJ hp.len hp.lt;dsimp only;omega
theorem best_len : (bestJ N l a b).1.length ≤ 5:=by
 have h5:=hJ.m5
 rcases best_from hJ with h | ⟨p,hp,h1,h2⟩
 ·rw [h]; simp
 ·rw [h1];have:=hp.len;dsimp only;omega
end
theorem jobV_len (n : Int) (l : List Arc) (x y : List Int) : (jobV n l x y).1.length ≤ 5:=by
 cases h : jobsB n l x y with
 | false => unfold jobV; rw [if_neg (by rw [h]; simp)]; simp
 | true =>
  obtain ⟨N,a,b,rfl,rfl,rfl,hJ⟩:=jobsB_jobs h;rw [jobV_at hJ];dsimp only;rw [nts_len];exact best_len hJ
theorem nodeJ_pv {b : List Int} (h : Rdr b) {p : Int} (hp : 0 ≤ p) (hp' : p ≤ 20000) (n : Int) (l : List Arc) : Pv (fun k => spec_l30Node.f k b p n l) (fun r => p ≤ r.2 ∧ r.2 ≤ p + 2):=by
 unfold spec_l30Node.f
 refine Pv.bind (pick_pv h hp (by omega)) (fun r1 ⟨a1,e1⟩ => Pv.ite (fun _ => ?_) (fun _ => ?_))
 ·exact Pv.bind (one_pv h (p:=r1.2) (by omega) (by omega) (by simp)) (fun r2 ⟨a2,e2⟩ => Pv.now (by dsimp only; omega))
 ·exact Pv.bind (pick_pv h (p:=r1.2) (by omega) (by omega)) (fun r2 ⟨a2,e2⟩ => Pv.now (by dsimp only; omega))
theorem jobs_l {b : List Int} (h : Rdr b) (n : Int) (l : List Arc) : ∀ (m : Nat) (p : Int) (x y : List Int),0 ≤ p → p + 4 * m ≤ 15000 → x.length + m ≤ 4 → y.length + m ≤ 4 → Pv (fun k => spec_l30Jobs.l0 k x y (m : Int) b p n l) (fun r => r.1.length ≤ 5 ∧ r.2.1.length ≤ 5 ∧ (p ≤ r.2.2 ∧ r.2.2 ≤ p + 4 * m + 1)):=by
 intro m
 induction m with
 | zero =>
  intro p x y hp hp' hx hy;refine Pv.go ?_ (fun k => by rw [spec_l30Jobs.l0]);refine Pv.neg (by omega) (Pv.bind (pick_pv h hp (by omega)) (fun r1 ⟨a1,e1⟩ => Pv.ite (fun _ => Pv.pos (by omega) (Pv.now ⟨by simp; omega,by dsimp only; omega,by dsimp only; omega⟩)) (fun _ => Pv.now ⟨by dsimp only; omega,by dsimp only; omega,by dsimp only; omega⟩)))
 | succ m ih =>
  intro p x y hp hp' hx hy;refine Pv.go ?_ (fun k => by rw [spec_l30Jobs.l0]);have w2 : wrap64 (((m + 1 : Nat) : Int) - 1) = (m : Int):=by rw [w64 (by omega) (by omega)]; omega
  rw [w2];refine Pv.pos (by omega) (Pv.bind (nodeJ_pv h hp (by omega) n l) (fun r1 e1 => Pv.pos (by omega) (Pv.bind (nodeJ_pv h (p:=r1.2) (by omega) (by omega) n l) (fun r2 e2 => Pv.pos (by omega) ?_))));exact (ih r2.2 (x ++ [r1.1]) (y ++ [r2.1]) (by omega) (by omega) (by simp; omega) (by simp; omega)).mono (fun r hr => ⟨hr.1,hr.2.1,by have:=hr.2.2; omega⟩)
theorem jobs_pv {b : List Int} (h : Rdr b) {p : Int} (hp : 0 ≤ p) (hp' : p ≤ 10000) (n : Int) (l : List Arc) : Pv (fun k => spec_l30Jobs.f k b p n l) (fun r => r.1.length ≤ 5 ∧ r.2.1.length ≤ 5 ∧ (p ≤ r.2.2 ∧ r.2.2 ≤ p + 30)):=by
 unfold spec_l30Jobs.f
 refine Pv.bind (pick_pv h hp (by omega)) (fun r1 ⟨a1,e1⟩ => ?_);have b1:=a1.2.2 (by omega);obtain ⟨m,hm⟩ : ∃ m : Nat,r1.1 = (m : Int):=⟨r1.1.toNat,by omega⟩
 rw [hm];exact (jobs_l h n l m r1.2 [] [] (by omega) (by omega) (by simp; omega) (by simp; omega)).mono (fun r hr => ⟨hr.1,hr.2.1,by have:=hr.2.2; omega⟩)
theorem drawJob_pv {x : List Int} (hx : ∀ c ∈ x,(Lit.int .u8 c).wf = true) : Pv (fun k => spec_DrawJobBest.f k x) (fun r => r.2.1.length ≤ 13 ∧ r.2.2.1.length ≤ 5 ∧ r.2.2.2.length ≤ 5):=by
 unfold spec_DrawJobBest.f
 obtain ⟨b,e,hb⟩:=open_pv hx;refine Pv.bind0 e (Pv.bind (anyNet_pv hb (p:=0) (by omega) (by omega)) (fun r1 h1 => ?_));have h3:=h1.2.2;exact Pv.bind (jobs_pv hb (p:=r1.2.2) (by omega) (by omega) r1.1 r1.2.1) (fun r2 h2 => Pv.now ⟨h1.2.1,h2.1,h2.2.1⟩)
end Go.Proofs.Ytmioaahiflfcdaa.Pure
end
section
set_option linter.unusedSimpArgs false
set_option linter.unusedVariables false
namespace Go.Proofs.Ytmioaahiflfcdaa.Pure
open Go.RowKit Go.Proofs.Ytmioaahiflfcdaa.Pr Go.Proofs.YtmioaahiflfcdaaW.PrintWords Go.Proofs.YtmioaahiflfcdaaW.PrintLast Go.Proofs.YtmioaahiflfcdaaW.PrintMore
theorem wkInts_l (a b : List Int) (hm : a.length ≤ maxLen) (hl : a.length = b.length) : ∀ (m i : Nat),a.length - i = m → i ≤ a.length → Ev (fun k => laws_wkInts.l0 k a b (i : Int)) (decide (a.drop i = b.drop i)):=by
 intro m
 induction m with
 | zero =>
  intro i hd hi;refine Ev.go ?_ (fun k => by rw [laws_wkInts.l0]);refine Ev.neg (by omega) (Ev.is ?_);rw [List.drop_of_length_le (by omega),List.drop_of_length_le (by omega)];rfl
 | succ m ih =>
  intro i hd hi;have hlt : i < a.length:=by omega
  have hlt2 : i < b.length:=by omega
  refine Ev.go ?_ (fun k => by rw [laws_wkInts.l0]);refine Ev.pos (by omega) (Ev.pos (by omega) (Ev.pos (by omega) ?_));rw [rdn hlt,rdn hlt2,up1 hlt hm,drop_cons hlt,drop_cons hlt2]
  by_cases c : a[i] = b[i]
  case neg => exact Ev.neg c (Ev.is (by simp only [List.cons.injEq,c,false_and]; rfl))
  exact Ev.pos c ((ih (i + 1) (by omega) (by omega)).cast (by rw [c]; simp only [List.cons.injEq,true_and]))
theorem wkInts_ev (a b : List Int) (hm : a.length ≤ maxLen) : Ev (fun k => laws_wkInts.f k a b) (decide (a = b)):=by
 unfold laws_wkInts.f
 by_cases c : a.length = b.length
 case pos => exact Ev.pos (by omega) (by simpa using wkInts_l a b hm c _ 0 rfl (Nat.zero_le _))
 exact Ev.neg (by omega) (Ev.is (by rw [eq_comm]; exact decide_eq_false (fun e => c (by rw [e]))))
theorem wkInts_same (a : List Int) (hm : a.length ≤ maxLen) : Ev (fun k => laws_wkInts.f k a a) true:=(wkInts_ev a a hm).cast (by simp)
end Go.Proofs.Ytmioaahiflfcdaa.Pure
end
section
set_option linter.unusedSimpArgs false
set_option linter.unusedVariables false
namespace Go.Proofs.Ytmioaahiflfcdaa.Pure
open Go.RowKit Go.Proofs.Ytmioaahiflfcdaa.Pr Go.Proofs.YtmioaahiflfcdaaW.PrintWords Go.Proofs.YtmioaahiflfcdaaW.PrintLast Go.Proofs.YtmioaahiflfcdaaW.PrintMore
open Go.Proofs.Ytmioaahiflfcdaa.Pm (perms pick at_ costOf IsPerm inv)
theorem swap_perm {x : List Int} {m i k : Nat} (h : PermI x m) (hi : i < x.length) (hk : k < x.length) : PermI ((x.set i (nth x k)).set k (nth x i)) m:=by
 rw [okTo_all] at h ⊢;obtain ⟨h1,h2⟩:=h;have hl : ((x.set i (nth x k)).set k (nth x i)).length = x.length:=by simp
 have hat : ∀ j,j < x.length → nth ((x.set i (nth x k)).set k (nth x i)) j = nth x (if j = k then i else if j = i then k else j):=by
  intro j hj;rw [nth_get (by rw [hl]; exact hj),List.getElem_set]
  by_cases c1 : k = j
  case pos => rw [if_pos c1,if_pos c1.symm]
  rw [if_neg c1,if_neg (fun e => c1 e.symm),List.getElem_set]
  by_cases c2 : i = j
  case pos => rw [if_pos c2,if_pos c2.symm]
  rw [if_neg c2,if_neg (fun e => c2 e.symm),nth_get hj]
 have inj : ∀ p q,p < x.length → q < x.length → nth x p = nth x q → p = q:=by
  intro p q hp hq e
  rcases Nat.lt_trichotomy p q with c | c | c
  ·exact absurd e ((h2 q hq).2 p c)
  ·exact c
  ·exact absurd e.symm ((h2 p hp).2 q c)
 rw [hl];refine ⟨h1,fun j hj => ⟨?_,fun g hg e => ?_⟩⟩
 ·rw [hat j hj];have : (if j = k then i else if j = i then k else j) < x.length:=by
   split
   ·omega
   ·split <;> omega
  exact (h2 _ this).1
 ·rw [hat j hj,hat g (by omega)] at e;have a1 : (if j = k then i else if j = i then k else j) < x.length:=by
   split
   ·omega
   ·split <;> omega
  have a2 : (if g = k then i else if g = i then k else g) < x.length:=by
   split
   ·omega
   ·split <;> omega
  have:=inj _ _ a2 a1 e
  revert this
  split <;> split <;> (try split) <;> (try split) <;> omega
theorem job_no (n : Int) (l : List Arc) (x y more : List Int) (h : (jobV n l x y).1.length = 0 → (jobV n l x y).2 < 0 ∨ (jobV n l x y).2 = 99999) : Ev (fun k => laws_FnJobBest.j1 k more x y (jobV n l x y).1 (jobV n l x y).2 (jobV n l x y).1 (jobV n l x y).2 true n l) true:=by
 have hv:=jobV_len n l x y;have hw:=wkInts_same (jobV n l x y).1 (by simp only [maxLen]; omega);refine Ev.go ?_ (fun k => by rw [laws_FnJobBest.j1]);refine Ev.pos rfl (Ev.pos rfl (Ev.bind hw (Ev.pos rfl ?_)))
 by_cases c : ((jobV n l x y).1.length : Int) > 0
 case pos => exact Ev.pos c (Ev.now _)
 refine Ev.neg c ?_
 rcases h (by omega) with e | e
 ·exact Ev.pos e (Ev.now _)
 ·exact Ev.neg (by omega) (Ev.is (by rw [e]; rfl))
theorem FnJobBest : laws_FnJobBest.Asked:=by
 intro c more hc hm;refine Pv.rounds ?_
 unfold laws_FnJobBest.f
 have hyes : Pv (fun k => laws_FnJobBest.j0 k c more true) (· = true):=by
  refine Pv.go ?_ (fun k => by rw [laws_FnJobBest.j0]);exact Pv.pos rfl (Pv.now rfl)
 refine Pv.ite (fun _ => hyes) (fun _ => ?_)
 by_cases hml : (more.length : Int) > 1048576
 ·rw [decide_eq_true hml]; exact hyes
 rw [decide_eq_false hml];refine Pv.go ?_ (fun k => by rw [laws_FnJobBest.j0]);refine Pv.neg (by simp) (Pv.bind (drawJob_pv hc.2) (fun r h => ?_));obtain ⟨n,l,x,y⟩:=r;obtain ⟨h1,h2,h3⟩:=h;dsimp only at h1 h2 h3 ⊢;have hv:=jobV_len n l x y;have hw:=wkInts_same (jobV n l x y).1 (by simp only [maxLen]; omega);refine Pv.of (Ev.bind (implJob_ev n l x y) (Ev.bind (specJob_ev n l x y (by simp only [maxLen]; omega) (by simp only [maxLen]; omega) (by simp only [maxLen]; omega)) (Ev.pos rfl (Ev.bind hw (Ev.pos rfl ?_))))) rfl;cases hb : jobsB n l x y with
 | false =>
  have e : (jobV n l x y).2 = -1:=by unfold jobV; rw [if_neg (by rw [hb]; simp)]
  exact Ev.pos (by rw [e]; omega) (job_no n l x y more (fun _ => .inl (by rw [e]; omega)))
 | true =>
  obtain ⟨N,a,b,rfl,rfl,rfl,hJ⟩:=jobsB_jobs hb;have h0:=(best_bd hJ).1;have h5:=hJ.m5;refine Ev.neg (by rw [jobV_at hJ]; dsimp only; omega) ?_
  rcases best_from hJ with e | ⟨p,hp,e,elt⟩
  ·have ev : jobV (N : Int) l (nts a) (nts b) = ([],99999):=by rw [jobV_at hJ,e]; rfl
   have hno:=job_no (N : Int) l (nts a) (nts b) more (fun _ => .inr (by rw [ev]));have e0 : (((jobV (N : Int) l (nts a) (nts b)).1.length : Int) == 0) = true:=by rw [ev]; rfl
   rw [e0];exact hno
  ·have hlen:=hp.len;have h1m:=hJ.m1;have e0 : (((jobV (N : Int) l (nts a) (nts b)).1.length : Int) == 0) = false:=by
    rw [jobV_at hJ,e,beq_eq_false_iff_ne];dsimp only;rw [nts_len]; omega
   rw [e0];have ev : jobV (N : Int) l (nts a) (nts b) = (nts p,costOf a.length (DJ N l a b) p):=by rw [jobV_at hJ,e]
   rw [ev];dsimp only;have hP : PermI (nts p) a.length:=⟨by rw [nats_nts]; exact hp,fun v hv => by
    obtain ⟨i,_,rfl⟩:=List.mem_map.1 hv; omega⟩
   obtain ⟨i,hi⟩ : ∃ i : Nat,i = more.length % (nts p).length:=⟨_,rfl⟩
   obtain ⟨k,hk⟩ : ∃ k : Nat,k = more.length / (nts p).length % (nts p).length:=⟨_,rfl⟩
   have hpl : (nts p).length = a.length:=by rw [nts_len]; exact hlen
   have hil : i < (nts p).length:=by rw [hi]; exact Nat.mod_lt _ (by omega)
   have hkl : k < (nts p).length:=by rw [hk]; exact Nat.mod_lt _ (by omega)
   have ei : (more.length : Int) % ((nts p).length : Int) = (i : Int):=by rw [hi]; rfl
   have ek : Int.tmod (wrap64 ((more.length : Int) / ((nts p).length : Int))) ((nts p).length : Int) = (k : Int):=by
    obtain ⟨dv,hdv⟩ : ∃ dv : Nat,dv = more.length / (nts p).length:=⟨_,rfl⟩
    have e1 : (more.length : Int) / ((nts p).length : Int) = (dv : Int):=by rw [hdv]; rfl
    have e2 : dv ≤ more.length:=by rw [hdv]; exact Nat.div_le_self _ _
    rw [e1,w64 (by clear hdv hk hi e1; omega) (by clear hdv hk hi e1; omega),hk,← hdv];rfl
   have hS:=swap_perm hP hil hkl;have c1:=implJobCost_ev (N : Int) l (nts a) (nts b) (nts p) (by omega);rw [jobCV_at hJ hP,nats_nts] at c1;have c2:=implJobCost_ev (N : Int) l (nts a) (nts b) (((nts p).set i (nth (nts p) k)).set k (nth (nts p) i)) (by simp; omega);rw [jobCV_at hJ hS] at c2;have hle:=best_le hJ hS.1;rw [e] at hle;dsimp only at hle;have f1 : (0 : Int) ≤ (i : Int):=Int.natCast_nonneg i;have f2 : (i : Int) < ((nts p).length : Int):=Int.ofNat_lt.2 hil;have f3 : (0 : Int) ≤ (k : Int):=Int.natCast_nonneg k;have f4 : (k : Int) < ((nts p).length : Int):=Int.ofNat_lt.2 hkl;have f5 : ¬ ((nts p).length : Int) = 0:=by rw [hpl]; clear hi hk ei ek; omega
   have f6 : ([] : List Int).length + (nts p).length < 17592186044416:=by rw [hpl,List.length_nil]; clear hi hk ei ek f2 f4; omega
   refine Ev.go ?_ (fun k => by rw [laws_FnJobBest.j1]);rw [ei,ek];refine Ev.neg (by simp) (Ev.neg f5 (Ev.bind0 rfl (Ev.pos f6 (Ev.bind0 rfl ?_))));rw [List.nil_append,rdg,rdg,Int.toNat_natCast,Int.toNat_natCast];refine Ev.pos f1 (Ev.pos f2 (Ev.pos f3 (Ev.pos f4 (Ev.bind c1 (Ev.pos rfl (Ev.bind c2 (Ev.is ?_)))))));rw [decide_eq_true_eq];exact hle
end Go.Proofs.Ytmioaahiflfcdaa.Pure
end
section
namespace Go.Proofs.Ytmioaahiflfcdaa.fnJobBest
open Go.ChangeShapes Go.WideShapes Go.ChangeAt Go.RowKit Go.Proofs.YtmioaahiflfcdaaW.PrintWords Go.Proofs.Ytmioaahiflfcdaa.Pr
open Go.ChangeMaps (open_string shut_string)
set_option linter.unusedVariables false
set_option linter.unusedSimpArgs false
theorem own : ownKnob Try.prog.godebug = none:=by kernel_rfl
theorem laidOut : laidOutB Try.prog = true:=by kernel_rfl
theorem opens0 : Opens Try.prog (Kd.slice 5 (Kd.int .u8)) 22 (fun l => l.length ≤ maxLen ∧ ∀ x ∈ l,(fun n => (Lit.int .u8 n).wf = true) x):=(opens_slice (P:=Try.prog) Try.underlying22 (by kernel_rfl) (opens_int (P:=Try.prog) (k:=.u8) Try.underlying5))
theorem opens1 : Opens Try.prog (Kd.slice 5 (Kd.int .u8)) 22 (fun l => l.length ≤ maxLen ∧ ∀ x ∈ l,(fun n => (Lit.int .u8 n).wf = true) x):=(opens_slice (P:=Try.prog) Try.underlying22 (by kernel_rfl) (opens_int (P:=Try.prog) (k:=.u8) Try.underlying5))
set_option maxRecDepth 100000 in
set_option maxHeartbeats 2000000 in
theorem lifted (os : Os) (started : os.Started) (H : Type) (enc : TypeId × Value → H) :
  ReturnsInHanded {} Try.checked os 7 .any (Rows.fnJobBestSpec.pre6 enc Try.prog Try.f7 Rows.fnJobBestRow.domain false) (Rows.fnJobBestSpec.post enc Try.prog Try.f7 false true false false):=by
 refine returnsInHanded_of_change_sized (C:=Try.checked) own started (by kernel_rfl) Try.func7
  (ChangeSpec.witness6 (enc:=enc) (C:=Try.checked) false ⟨#[],#[(.slice none 0 0),(.slice none 0 0)],[]⟩ 8 (by kernel_rfl) (by kernel_rfl) (by kernel_rfl) (by kernel_rfl)) ?_
 intro W base args ds gs before hval0 hW hcnd hsz0 _;have hval : ∀ (j : Nat) t v,Try.f7.params[j]? = some t → args[j]? = some v → Value.okWide Try.prog W .any base t v:=hval0
 have hW':=hW;obtain ⟨p,q,hA0,hV,rfl,hfz,hnd⟩:=hW;have hA : DataW.TrodAll enc Try.prog W 0 (fun _ => true) true Try.f7.params.toList args.toList ds p:=hA0;rw [Try.params7] at hA hval;obtain ⟨v0,vs0,d0,ds0,p0,q0,hargs,rfl,rfl,h0,r0⟩:=trodAll_cons hA;obtain ⟨v1,vs1,d1,ds1,p1,q1,rfl,rfl,rfl,h1,r1⟩:=trodAll_cons r0;obtain ⟨rfl,rfl,rfl⟩:=trodAll_nil r1;obtain rfl : args = #[v0,v1]:=by cases args; simp_all
 obtain ⟨rfl,rfl⟩:=trodVars_none hV;have k0:=h0;have lt0 : ∀ x ∈ p0,x.block < W.heap.size:=by obtain ⟨m,hm⟩:=k0; exact DataW.trod_lt m _ _ _ hm
 obtain ⟨a0,len0,cap0,rfl⟩:=okWide_slice Try.underlying22 (hval 0 22 v0 rfl rfl);obtain ⟨fuel0,hf0⟩:=h0;obtain ⟨l0,⟨A0,c0,e0,hc0,hr0⟩,w0⟩:=opens0 hf0;have e0' : (Value.slice a0 len0 cap0) = .slice A0 l0.length c0:=(List.cons.inj e0).1;injection e0' with e0a e0b e0c
 subst e0a e0b e0c;have k1:=h1;have lt1 : ∀ x ∈ p1,x.block < W.heap.size:=by obtain ⟨m,hm⟩:=k1; exact DataW.trod_lt m _ _ _ hm
 obtain ⟨a1,len1,cap1,rfl⟩:=okWide_slice Try.underlying22 (hval 1 22 v1 rfl rfl);obtain ⟨fuel1,hf1⟩:=h1;obtain ⟨l1,⟨A1,c1,e1,hc1,hr1⟩,w1⟩:=opens1 hf1;have e1' : (Value.slice a1 len1 cap1) = .slice A1 l1.length c1:=(List.cons.inj e1).1;injection e1' with e1a e1b e1c
 subst e1a e1b e1c;obtain ⟨k,hh⟩:=Pure.FnJobBest l0 l1 w0 w1;refine (laws_FnJobBest.calls k _ _ l0 _ _ l1 true W hr0 hc0 hr1 hc1 hh).mono fun e W' ⟨he,bel0⟩ => ?_
 have bel : Below W.heap.size W W':=bel0;subst he;exact ⟨_,rfl,_,_,_,[],_,[],hW',trodAll_mk1 (shut_bool Try.underlying4 _),(trodAll_cons_mk (Below.trod laidOut (by kernel_rfl) (of_decide_eq_true (by kernel_rfl)) k0 bel lt0) (trodAll_cons_mk (Below.trod laidOut (by kernel_rfl) (of_decide_eq_true (by kernel_rfl)) k1 bel lt1) trodAll_mk0)),rfl,bel.frame _,fun h => by cases h⟩
theorem over : Rows.fnJobBestRow.holds Try.pinned (OpenSpec.ofChange Rows.fnJobBestSpec) :=
 OpenClaim.holds_of_wide 7 Try.f7 rfl rfl rfl rfl rfl rfl rfl ⟨rfl,rfl,rfl,rfl,rfl⟩ rfl rfl rfl rfl rfl (by kernel_rfl) Try.func7 (by kernel_rfl)
  (of_decide_eq_true (by kernel_rfl)) (by unfold Func.isWrapper; first | (rw [if_pos (by decide +kernel)]; kernel_rfl) | (rw [if_neg (by decide +kernel)]; exact ⟨rfl,rfl⟩))
  (fun os started H enc _ => lifted os started H enc)
theorem proved : Rows.FnJobBestSaid:=over
#print axioms proved
end Go.Proofs.Ytmioaahiflfcdaa.fnJobBest
namespace Go.Proofs.Ytmioaahiflfcdaa
theorem fnJobBest_holds : Rows.FnJobBestSaid:=fnJobBest.proved
end Go.Proofs.Ytmioaahiflfcdaa
end
