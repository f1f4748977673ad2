/- For the statement FnExactRingLong of this seat: it is proved here, with no further conditions (part 6 of its texts: words, walks of the functions, the plain law, the row). -/
import Derived.Test.YtmabopomecdidaaRows
import Derived.WalkKit
import Derived.ProofKit
import Derived.OpenShut
import Derived.ShutString
import Derived.ChangeOld
import Derived.Below
import Derived.SizedLaws
import Derived.WideShapes
import Derived.Test.YtmabopomecdidaaKFnExactRingLong4
section
set_option linter.unusedSimpArgs false
set_option linter.unusedVariables false
namespace Go.Proofs.Ytmabopomecdidaa.Pure
open Go.RowKit Go.Proofs.Ytmabopomecdidaa.Pr Go.Proofs.YtmabopomecdidaaW.PrintWords Go.Proofs.YtmabopomecdidaaW.PrintLast Go.Proofs.YtmabopomecdidaaW.PrintMore
theorem lowN_spec (c : Int → Bool) : ∀ (n : Nat) (nx : Int), lowN c n nx = nx ∨ ∃ j : Nat, j < n ∧ lowN c n nx = (j : Int) ∧ c (j : Int) = true
 | 0, nx => .inl rfl
 | n + 1, nx => by
  unfold lowN
  by_cases h : c (n : Int) = true
  ·rw [if_pos h]
   rcases lowN_spec c n (n : Int) with e | ⟨j, h1, h2, h3⟩
   ·exact .inr ⟨n, by omega, e, h⟩
   ·exact .inr ⟨j, by omega, h2, h3⟩
  ·rw [if_neg h]
   rcases lowN_spec c n nx with e | ⟨j, h1, h2, h3⟩
   ·exact .inl e
   ·exact .inr ⟨j, by omega, h2, h3⟩
structure Ord (l : List Arc) (N : Nat) (out : List Int) : Prop where
 node : ∀ v ∈ out, 0 ≤ v ∧ v < N
 once : out.Nodup
 back : ∀ j, j < out.length → ∀ a ∈ l, a.f1 = nth out j → a.f0 ∈ out.take j
theorem Ord.nil (l : List Arc) (N : Nat) : Ord l N [] := ⟨by simp, List.nodup_nil, by simp⟩
theorem Ord.push {l : List Arc} {N : Nat} {out : List Int} (h : Ord l N out) {j : Nat} (hj : j < N) (hc : candB l out (j : Int) = true) : Ord l N (out ++ [(j : Int)]) := by
 unfold candB at hc
 simp only [Bool.and_eq_true, Bool.not_eq_true', List.any_eq_false, decide_eq_true_eq, not_and, List.contains_eq_mem, decide_eq_false_iff_not, Decidable.not_not] at hc
 obtain ⟨h1, h2⟩ := hc
 refine ⟨?_, ?_, ?_⟩
 ·intro v hv
  rcases List.mem_append.1 hv with hv | hv
  ·exact h.node v hv
  ·simp at hv; omega
 ·rw [List.nodup_append]
  refine ⟨h.once, by simp, ?_⟩
  intro a ha b hb e
  simp at hb
  subst hb
  subst e
  exact h1 ha
 ·intro i hi a ha he
  rw [List.length_append, List.length_singleton] at hi
  by_cases e : i < out.length
  ·have hn : nth (out ++ [(j : Int)]) i = nth out i := by simp [nth, List.getD_eq_getElem?_getD, List.getElem?_append_left e]
   rw [List.take_append_of_le_length (by omega)]
   exact h.back i e a ha (by rw [← hn]; exact he)
  ·have e' : i = out.length := by omega
   subst e'
   have hn : nth (out ++ [(j : Int)]) out.length = (j : Int) := by simp [nth]
   rw [hn] at he
   rw [List.take_left]
   exact h2 a ha he
theorem ordF_good (l : List Arc) (N : Nat) : ∀ (m : Nat) (out : List Int), Ord l N out → out.length + m = N → (ordF l N m out).2 = true → Ord l N (ordF l N m out).1 ∧ (ordF l N m out).1.length = N
 | 0, out, h, hl, _ => ⟨h, by simpa [ordF] using hl⟩
 | m + 1, out, h, hl, ht => by
  unfold ordF at ht ⊢
  by_cases c : lowN (candB l out) N (-1) < 0
  ·rw [if_pos c] at ht; cases ht
  ·rw [if_neg c] at ht ⊢
   rcases lowN_spec (candB l out) N (-1) with e | ⟨j, h1, h2, h3⟩
   ·rw [e] at c; omega
   ·rw [h2] at ht ⊢
    exact ordF_good l N m _ (h.push h1 h3) (by rw [List.length_append, List.length_singleton]; omega) ht
end Go.Proofs.Ytmabopomecdidaa.Pure
end
section
set_option linter.unusedSimpArgs false
set_option linter.unusedVariables false
namespace Go.Proofs.Ytmabopomecdidaa.Pure
open Go.RowKit Go.Proofs.Ytmabopomecdidaa.Pr Go.Proofs.YtmabopomecdidaaW.PrintWords Go.Proofs.YtmabopomecdidaaW.PrintLast Go.Proofs.YtmabopomecdidaaW.PrintMore
def lst (n : Nat) (F : Nat → Int) : List Int := (List.range n).map F
theorem lst_len (n : Nat) (F : Nat → Int) : (lst n F).length = n := by simp [lst]
theorem lst_nth {n v : Nat} (F : Nat → Int) (h : v < n) : nth (lst n F) v = F v := by
 simp [nth, lst, h]
theorem lst_rd {n v : Nat} (F : Nat → Int) (h : v < n) : rd (lst n F) (v : Int) = F v := by rw [rdg, lst_nth F h]
def upd (F : Nat → Int) (a : Nat) (x : Int) : Nat → Int := fun v => if v = a then x else F v
theorem lst_set {n a : Nat} (F : Nat → Int) (x : Int) : (lst n F).set a x = lst n (upd F a x) := by
 apply List.ext_getElem (by simp [lst])
 intro i h1 h2
 have hi : i < n := by simpa [lst] using h2
 simp only [List.getElem_set]
 by_cases e : a = i
 ·subst e; simp [lst, upd]
 ·simp [lst, upd, e, show ¬ i = a from fun h => e h.symm]
theorem upd_far (F : Nat → Int) {a v : Nat} (x : Int) (h : v ≠ a) : upd F a x v = F v := by simp [upd, h]
inductive Conn (E : Nat → Nat → Prop) : Nat → Nat → Prop
 | refl (v : Nat) : Conn E v v
 | tail {u v w : Nat} : Conn E u v → (E v w ∨ E w v) → Conn E u w
theorem Conn.trans {E : Nat → Nat → Prop} {u v w : Nat} (h : Conn E u v) (k : Conn E v w) : Conn E u w := by
 induction k with
 | refl => exact h
 | tail _ e ih => exact .tail ih e
theorem Conn.one {E : Nat → Nat → Prop} {u v : Nat} (h : E u v ∨ E v u) : Conn E u v := .tail (.refl u) h
theorem Conn.symm {E : Nat → Nat → Prop} {u v : Nat} (h : Conn E u v) : Conn E v u := by
 induction h with
 | refl => exact .refl _
 | tail _ e ih => exact (Conn.one e.symm).trans ih
theorem Conn.mono {E E' : Nat → Nat → Prop} {u v : Nat} (h : Conn E u v) (k : ∀ a b, E a b → E' a b) : Conn E' u v := by
 induction h with
 | refl => exact .refl _
 | tail _ e ih => exact .tail ih (e.imp (k _ _) (k _ _))
end Go.Proofs.Ytmabopomecdidaa.Pure
end
section
set_option linter.unusedSimpArgs false
set_option linter.unusedVariables false
namespace Go.Proofs.Ytmabopomecdidaa.Pure
open Go.RowKit Go.Proofs.Ytmabopomecdidaa.Pr Go.Proofs.YtmabopomecdidaaW.PrintWords Go.Proofs.YtmabopomecdidaaW.PrintLast Go.Proofs.YtmabopomecdidaaW.PrintMore
def relax1 (F : Nat → Int) (v : Nat) (a : Arc) : Nat → Int := if a.f0 = (v : Int) then upd F a.f1.toNat (mx (F a.f1.toNat) (F v + a.f2)) else F
def runA (F : Nat → Int) (v : Nat) (l : List Arc) : Nat → Int := l.foldl (fun F a => relax1 F v a) F
theorem runA_cons (F : Nat → Int) (v : Nat) (a : Arc) (l : List Arc) : runA F v (a :: l) = runA (relax1 F v a) v l := rfl
theorem mx_le {a b c : Int} (h : a ≤ c) (k : b ≤ c) : mx a b ≤ c := by unfold mx; split <;> assumption
theorem le_mx_l (a b : Int) : a ≤ mx a b := by unfold mx; split <;> omega
structure RunOk (F G : Nat → Int) (v : Nat) (l : List Arc) (B : Int) : Prop where
 lo : ∀ x, F x ≤ G x
 hi : ∀ x, G x ≤ B
 own : G v = F v
 far : ∀ x, (∀ a ∈ l, a.f0 = (v : Int) → a.f1.toNat ≠ x) → G x = F x
theorem runA_ok (v : Nat) (B : Int) : ∀ (l : List Arc) (F : Nat → Int), (∀ a ∈ l, 0 ≤ a.f1 ∧ a.f0 ≠ a.f1 ∧ a.f2 ≤ 99) → (∀ x, F x ≤ B) → F v + 99 ≤ B → RunOk F (runA F v l) v l B
 | [], F, _, hB, _ => ⟨fun _ => Int.le_refl _, hB, rfl, fun _ _ => rfl⟩
 | a :: l, F, hl, hB, hv => by
  obtain ⟨h1, h2, h3⟩ := hl a (List.mem_cons_self ..)
  have hg : relax1 F v a v = F v := by
   unfold relax1
   split
   ·exact upd_far _ _ (by omega)
   ·rfl
  have hle : ∀ x, F x ≤ relax1 F v a x := by
   intro x
   unfold relax1
   split
   ·unfold upd
    split
    ·rename_i e; subst e; exact le_mx_l _ _
    ·exact Int.le_refl _
   ·exact Int.le_refl _
  have hhi : ∀ x, relax1 F v a x ≤ B := by
   intro x
   unfold relax1
   split
   ·unfold upd
    split
    ·exact mx_le (hB _) (by omega)
    ·exact hB _
   ·exact hB _
  have ih := runA_ok v B l (relax1 F v a) (fun b hb => hl b (List.mem_cons_of_mem _ hb)) hhi (by rw [hg]; exact hv)
  rw [runA_cons]
  refine ⟨fun x => Int.le_trans (hle x) (ih.lo x), ih.hi, ih.own.trans hg, fun x hx => ?_⟩
  rw [ih.far x (fun b hb => hx b (List.mem_cons_of_mem _ hb))]
  unfold relax1
  split
  ·rename_i e
   exact upd_far _ _ (fun h => hx a (List.mem_cons_self ..) e h.symm)
  ·rfl
end Go.Proofs.Ytmabopomecdidaa.Pure
end
section
set_option linter.unusedSimpArgs false
set_option linter.unusedVariables false
namespace Go.Proofs.Ytmabopomecdidaa.Pure
open Go.RowKit Go.Proofs.Ytmabopomecdidaa.Pr Go.Proofs.YtmabopomecdidaaW.PrintWords Go.Proofs.YtmabopomecdidaaW.PrintLast Go.Proofs.YtmabopomecdidaaW.PrintMore
theorem sLong1 {N : Nat} {l : List Arc} (hg : NetGood N l) (out : List Int) (best : Int) (j v : Nat) (hj : j < out.length) (hm : out.length ≤ 64) (hv : nth out j = (v : Int)) (hvN : v < N) (B : Int) (hB : B ≤ 100000) {R : Int} : ∀ (m i : Nat) (F : Nat → Int), l.length - i = m → i ≤ l.length → (∀ x, 0 ≤ F x) → (∀ x, F x ≤ B) → F v + 99 ≤ B →
  Ev (fun k => spec_RingLong.l0 k out (lst N (runA F v (l.drop i))) (if runA F v (l.drop i) v > best then runA F v (l.drop i) v else best) ((j + 1 : Nat) : Int) N l) R →
  Ev (fun k => spec_RingLong.l1 k out (lst N F) best (j : Int) (i : Int) N l) R := by
 intro m
 induction m with
 | zero =>
  intro i F hd hi h0 hF hFv h
  rw [List.drop_of_length_le (by omega)] at h
  have hrun : runA F v [] = F := rfl
  rw [hrun] at h
  refine Ev.go ?_ (fun k => by rw [spec_RingLong.l1])
  rw [rdg j, hv, lst_rd F hvN, lst_len, show wrap64 ((j : Int) + 1) = ((j + 1 : Nat) : Int) by unfold wrap64; omega]
  refine Ev.neg (by omega) (Ev.pos (by omega) (Ev.pos (by omega) (Ev.pos (by omega) (Ev.pos (by omega) ?_))))
  by_cases c : F v > best
  ·rw [if_pos c] at h; exact Ev.pos c h
  ·rw [if_neg c] at h; exact Ev.neg c h
 | succ m ih =>
  intro i F hd hi h0 hF hFv h
  have hlt : i < l.length := by omega
  obtain ⟨⟨a1, a2⟩, ⟨a3, a4⟩, a5, ⟨a6, a7⟩, _⟩ := hg.ok i hlt
  have hlen := hg.len
  rw [drop_cons hlt, ← arc_get hlt, runA_cons] at h
  have hu : wrap64 ((i : Int) + 1) = ((i + 1 : Nat) : Int) := by unfold wrap64; omega
  refine Ev.go ?_ (fun k => by rw [spec_RingLong.l1])
  rw [rda, rdg j, hv, hu]
  clear hu
  refine Ev.pos (by omega) (Ev.pos (by omega) (Ev.pos (by omega) (Ev.pos (by omega) ?_)))
  by_cases c : (arc l i).f0 = (v : Int)
  ·refine Ev.pos c ?_
   obtain ⟨t, ht⟩ := Int.eq_ofNat_of_zero_le a3
   have htN : t < N := by omega
   have hF0 := h0 v
   have hw : wrap64 (F v + (arc l i).f2) = F v + (arc l i).f2 := by unfold wrap64; omega
   rw [c, ht, lst_rd F hvN, lst_rd F htN, lst_len, hw, Int.toNat_natCast, lst_set]
   clear hw
   refine Ev.pos (by omega) (Ev.pos (by omega) (Ev.pos (by omega) (Ev.pos (by omega) ?_)))
   have hr : relax1 F v (arc l i) = upd F t (mx (F t) (F v + (arc l i).f2)) := by unfold relax1; rw [if_pos c, ht, Int.toNat_natCast]
   have hvt : v ≠ t := by omega
   rw [hr] at h
   by_cases d : F v + (arc l i).f2 > F t
   ·have hmx : mx (F t) (F v + (arc l i).f2) = F v + (arc l i).f2 := by unfold mx; rw [if_pos (by omega)]
    rw [hmx] at h
    refine Ev.pos d (ih (i + 1) _ (by omega) (by omega) (fun x => ?_) (fun x => ?_) ?_ h)
    ·unfold upd; split
     ·omega
     ·exact h0 x
    ·unfold upd; split
     ·omega
     ·exact hF x
    ·rw [upd_far _ _ hvt]; exact hFv
   ·have hmx : mx (F t) (F v + (arc l i).f2) = F t := by unfold mx; rw [if_neg (by omega)]
    have hup : upd F t (F t) = F := by
     funext x
     unfold upd
     split
     ·rename_i e; rw [e]
     ·rfl
    rw [hmx, hup] at h
    exact Ev.neg d (ih (i + 1) F (by omega) (by omega) h0 hF hFv h)
  ·have hr : relax1 F v (arc l i) = F := by unfold relax1; rw [if_neg c]
   rw [hr] at h
   exact Ev.neg c (ih (i + 1) F (by omega) (by omega) h0 hF hFv h)
theorem iLong1 {N : Nat} {l : List Arc} (hg : NetGood N l) (out : List Int) (j v : Nat) (hj : j < out.length) (hm : out.length ≤ 64) (hvN : v < N) (B : Int) (hB : B ≤ 100000) {R : Int} : ∀ (m i : Nat) (F : Nat → Int), l.length - i = m → i ≤ l.length → (∀ x, 0 ≤ F x) → (∀ x, F x ≤ B) → F v + 99 ≤ B →
  Ev (fun k => impl_RingLong.l0 k out (lst N (runA F v (l.drop i))) (out.length : Int) ((j + 1 : Nat) : Int) N l) R →
  Ev (fun k => impl_RingLong.l1 k out (lst N F) (v : Int) (out.length : Int) (j : Int) l (l.length : Int) (i : Int) N l) R := by
 intro m
 induction m with
 | zero =>
  intro i F hd hi h0 hF hFv h
  rw [List.drop_of_length_le (by omega)] at h
  have hrun : runA F v [] = F := rfl
  rw [hrun] at h
  refine Ev.go ?_ (fun k => by rw [impl_RingLong.l1])
  rw [show wrap64 ((j : Int) + 1) = ((j + 1 : Nat) : Int) by unfold wrap64; omega]
  exact Ev.neg (by omega) h
 | succ m ih =>
  intro i F hd hi h0 hF hFv h
  have hlt : i < l.length := by omega
  obtain ⟨⟨a1, a2⟩, ⟨a3, a4⟩, a5, ⟨a6, a7⟩, _⟩ := hg.ok i hlt
  have hlen := hg.len
  rw [drop_cons hlt, ← arc_get hlt, runA_cons] at h
  have hu : wrap64 ((i : Int) + 1) = ((i + 1 : Nat) : Int) := by unfold wrap64; omega
  refine Ev.go ?_ (fun k => by rw [impl_RingLong.l1])
  rw [rda, hu]
  clear hu
  refine Ev.pos (by omega) (Ev.pos (by omega) (Ev.pos (by omega) ?_))
  by_cases c : (arc l i).f0 = (v : Int)
  ·refine Ev.pos c ?_
   obtain ⟨t, ht⟩ := Int.eq_ofNat_of_zero_le a3
   have htN : t < N := by omega
   have hF0 := h0 v
   have hw : wrap64 (F v + (arc l i).f2) = F v + (arc l i).f2 := by unfold wrap64; omega
   rw [ht, lst_rd F hvN, lst_rd F htN, lst_len, hw, Int.toNat_natCast, lst_set]
   clear hw
   refine Ev.pos (by omega) (Ev.pos (by omega) (Ev.pos (by omega) (Ev.pos (by omega) ?_)))
   have hr : relax1 F v (arc l i) = upd F t (mx (F t) (F v + (arc l i).f2)) := by unfold relax1; rw [if_pos c, ht, Int.toNat_natCast]
   have hvt : v ≠ t := by omega
   rw [hr] at h
   have hl := le_mx_l (F t) (F v + (arc l i).f2)
   have hF2 := h0 t
   refine ih (i + 1) _ (by omega) (by omega) (fun x => ?_) (fun x => ?_) ?_ h
   ·unfold upd; split
    ·omega
    ·exact h0 x
   ·unfold upd; split
    ·exact mx_le (hF t) (by omega)
    ·exact hF x
   ·rw [upd_far _ _ hvt]; exact hFv
  ·have hr : relax1 F v (arc l i) = F := by unfold relax1; rw [if_neg c]
   rw [hr] at h
   exact Ev.neg c (ih (i + 1) F (by omega) (by omega) h0 hF hFv h)
end Go.Proofs.Ytmabopomecdidaa.Pure
end
section
set_option linter.unusedSectionVars false
namespace Go.Proofs.Ytmabopomecdidaa.Fl
def sm (F : Nat → Int) : Nat → Int
 | 0 => 0
 | n + 1 => sm F n + F n
section
variable {n m : Nat} {fr tw : Nat → Nat} {f : Nat → Int} (hf : ∀ i, i < m → fr i < n) (ht : ∀ i, i < m → tw i < n)
def net (m : Nat) (fr tw : Nat → Nat) (f : Nat → Int) (v : Nat) : Int := sm (fun i => (if fr i = v then f i else 0) - (if tw i = v then f i else 0)) m
include hf ht
end
section
variable {n m : Nat} {fr tw : Nat → Nat} {f cap : Nat → Int} (hf : ∀ i, i < m → fr i < n) (ht : ∀ i, i < m → tw i < n) (h0 : ∀ i, i < m → 0 ≤ f i ∧ f i ≤ cap i) {s t : Nat} (hs : s < n) (hz : ∀ v, v < n → v ≠ s → v ≠ t → net m fr tw f v = 0)
include hf ht h0 hs hz
end
end Go.Proofs.Ytmabopomecdidaa.Fl
end
section
set_option linter.unusedSectionVars false
namespace Go.Proofs.Ytmabopomecdidaa.Pm
open Go.Proofs.Ytmabopomecdidaa.Fl
def at_ (p : List Nat) (i : Nat) : Nat := p.getD i 0
structure IsPerm (n : Nat) (p : List Nat) : Prop where
 len : p.length = n
 nd : p.Nodup
 lt : ∀ x ∈ p, x < n
theorem perm_mem_all {n : Nat} {p : List Nat} (h : IsPerm n p) : ∀ k, k < n → k ∈ p := by
 intro k hk
 apply Classical.byContradiction
 intro hc
 have : ∀ (n : Nat) (l : List Nat), l.Nodup → (∀ x ∈ l, x < n) → l.length ≤ n := by
  intro n
  induction n with
  | zero =>
   intro l _ h
   cases l with
   | nil => simp
   | cons a l => exact absurd (h a (by simp)) (by omega)
  | succ n ih =>
   intro l hn h
   have h1 := ih (l.erase n) (hn.erase n) (fun x hx => by
    have h2 := h x (List.mem_of_mem_erase hx)
    have h3 : x ≠ n := by
     rintro rfl
     exact (List.Nodup.not_mem_erase hn) hx
    omega)
   have h4 : l.length ≤ (l.erase n).length + 1 := by
    rw [List.length_erase]
    split <;> omega
   omega
 have h1 := this n (k :: p) (List.nodup_cons.2 ⟨hc, h.nd⟩) (fun x hx => by
  rcases List.mem_cons.1 hx with rfl | hx
  ·exact hk
  ·exact h.lt x hx)
 have := h.len
 simp at h1
 omega
def inv (n : Nat) (p : List Nat) : List Nat := (List.range n).map fun k => p.idxOf k
theorem inv_at {n : Nat} {p : List Nat} (h : IsPerm n p) {k : Nat} (hk : k < n) : at_ (inv n p) k < n ∧ at_ p (at_ (inv n p) k) = k := by
 have hm := perm_mem_all h k hk
 have h1 := List.idxOf_lt_length_of_mem hm
 have e : at_ (inv n p) k = p.idxOf k := by simp [at_, inv, hk]
 rw [e]
 refine ⟨by rw [← h.len]; exact h1, ?_⟩
 simp only [at_, List.getD_eq_getElem?_getD, List.getElem?_eq_getElem h1, Option.getD_some]
 exact List.getElem_idxOf h1
end Go.Proofs.Ytmabopomecdidaa.Pm
end
section
set_option linter.unusedSimpArgs false
set_option linter.unusedVariables false
namespace Go.Proofs.Ytmabopomecdidaa.Pure
open Go.RowKit Go.Proofs.Ytmabopomecdidaa.Pr Go.Proofs.YtmabopomecdidaaW.PrintWords Go.Proofs.YtmabopomecdidaaW.PrintLast Go.Proofs.YtmabopomecdidaaW.PrintMore
def top (b : Int) (r : List Int) : Int := r.foldl (fun m x => if m < x then x else m) b
theorem top_ge : ∀ (r : List Int) (b : Int), b ≤ top b r ∧ ∀ x ∈ r, x ≤ top b r
 | [], b => ⟨Int.le_refl _, by simp⟩
 | a :: r, b => by
  have ih := top_ge r (if b < a then a else b)
  have e : top b (a :: r) = top (if b < a then a else b) r := rfl
  rw [e]
  refine ⟨?_, ?_⟩
  ·refine Int.le_trans ?_ ih.1
   split <;> omega
  ·intro x hx
   rcases List.mem_cons.1 hx with rfl | hx
   ·refine Int.le_trans ?_ ih.1
    split <;> omega
   ·exact ih.2 x hx
theorem top_mem : ∀ (r : List Int) (b : Int), top b r = b ∨ top b r ∈ r
 | [], b => .inl rfl
 | a :: r, b => by
  have e : top b (a :: r) = top (if b < a then a else b) r := rfl
  rw [e]
  rcases top_mem r (if b < a then a else b) with h | h
  ·rw [h]
   split
   ·exact .inr (List.mem_cons_self ..)
   ·exact .inl rfl
  ·exact .inr (List.mem_cons_of_mem _ h)
theorem mxI_ge (r : List Int) : ∀ x ∈ r, x ≤ mxI r := by
 cases r with
 | nil => simp
 | cons a r =>
  intro x hx
  have h := top_ge r a
  rcases List.mem_cons.1 hx with rfl | hx
  ·exact h.1
  ·exact h.2 x hx
theorem mxI_mem {r : List Int} (h : r ≠ []) : mxI r ∈ r := by
 cases r with
 | nil => exact absurd rfl h
 | cons a r =>
  show top a r ∈ a :: r
  rcases top_mem r a with e | e
  ·rw [e]; exact List.mem_cons_self ..
  ·exact List.mem_cons_of_mem _ e
theorem runA_far (v x : Nat) : ∀ (l : List Arc) (F : Nat → Int), (∀ a ∈ l, a.f0 = (v : Int) → a.f1.toNat ≠ x) → runA F v l x = F x
 | [], _, _ => rfl
 | a :: l, F, h => by
  rw [runA_cons, runA_far v x l _ (fun b hb => h b (List.mem_cons_of_mem _ hb))]
  unfold relax1
  split
  ·rename_i e
   exact upd_far _ _ (fun k => h a (List.mem_cons_self ..) e k.symm)
  ·rfl
def runO (l : List Arc) (F : Nat → Int) (vs : List Int) : Nat → Int := vs.foldl (fun F v => runA F v.toNat l) F
def bestRun (l : List Arc) : Int → (Nat → Int) → List Int → Int
 | b, _, [] => b
 | b, F, v :: vs => bestRun l (if runA F v.toNat l v.toNat > b then runA F v.toNat l v.toNat else b) (runA F v.toNat l) vs
theorem runO_far (l : List Arc) (x : Nat) : ∀ (vs : List Int) (F : Nat → Int), (∀ v ∈ vs, 0 ≤ v) → (∀ v ∈ vs, ∀ a ∈ l, a.f0 = v → a.f1.toNat ≠ x) → runO l F vs x = F x
 | [], _, _, _ => rfl
 | v :: vs, F, h0, h => by
  show runO l (runA F v.toNat l) vs x = F x
  rw [runO_far l x vs _ (fun u hu => h0 u (List.mem_cons_of_mem _ hu)) (fun u hu => h u (List.mem_cons_of_mem _ hu))]
  have h1 := h0 v (List.mem_cons_self ..)
  exact runA_far v.toNat x l F (fun a ha e => h v (List.mem_cons_self ..) a ha (by rw [e]; omega))
theorem bestRun_top (l : List Arc) : ∀ (vs : List Int) (b : Int) (F : Nat → Int), (∀ v ∈ vs, 0 ≤ v) → vs.Pairwise (fun v u => ∀ a ∈ l, a.f0 = u → a.f1.toNat ≠ v.toNat) → bestRun l b F vs = top b (vs.map fun v => runO l F vs v.toNat)
 | [], _, _, _, _ => rfl
 | v :: vs, b, F, h0, hp => by
  rw [List.pairwise_cons] at hp
  have h0' : ∀ u ∈ vs, 0 ≤ u := fun u hu => h0 u (List.mem_cons_of_mem _ hu)
  have e : runO l F (v :: vs) = runO l (runA F v.toNat l) vs := rfl
  have e2 := runO_far l v.toNat vs (runA F v.toNat l) h0' hp.1
  rw [e]
  simp only [bestRun, List.map_cons]
  rw [bestRun_top l vs _ _ h0' hp.2, e2]
  rfl
theorem Ord.pw {l : List Arc} {N : Nat} {out : List Int} (h : Ord l N out) (hl : ∀ a ∈ l, 0 ≤ a.f1) : out.Pairwise (fun v u => ∀ a ∈ l, a.f0 = u → a.f1.toNat ≠ v.toNat) := by
 rw [List.pairwise_iff_getElem]
 intro i j hi hj hij a ha he hx
 have h1 := hl a ha
 have h2 := h.node _ (List.getElem_mem hi)
 have h3 := h.back i hi a ha (by rw [nth_get hi]; omega)
 obtain ⟨k, hk, e⟩ := List.getElem_of_mem h3
 rw [List.length_take] at hk
 rw [List.getElem_take] at e
 have := (List.getElem_inj h.once).1 (e.trans he)
 omega
theorem Ord.all {l : List Arc} {N : Nat} {out : List Int} (h : Ord l N out) (hN : out.length = N) : ∀ v, v < N → (v : Int) ∈ out := by
 have hm : ∀ (L : List Int), (∀ v ∈ L, 0 ≤ v) → L.Nodup → (L.map Int.toNat).Nodup := by
  intro L h0 hn
  rw [List.Nodup, List.pairwise_map]
  exact (List.Pairwise.and_mem.1 hn).imp (fun {a b} hab e => hab.2.2 (by have := h0 a hab.1; have := h0 b hab.2.1; omega))
 have hp : Pm.IsPerm N (out.map Int.toNat) := ⟨by simpa using hN, hm out (fun v hv => (h.node v hv).1) h.once, by
  intro x hx
  obtain ⟨v, hv, rfl⟩ := List.mem_map.1 hx
  have := h.node v hv
  omega⟩
 intro v hv
 obtain ⟨u, hu, e⟩ := List.mem_map.1 (Pm.perm_mem_all hp v hv)
 have := h.node u hu
 rw [show (v : Int) = u by omega]
 exact hu
theorem top_mxI {l : List Arc} {N : Nat} {out : List Int} (h : Ord l N out) (hN : out.length = N) (h1 : 0 < N) (F : Nat → Int) (h0 : ∀ x, 0 ≤ F x) : top 0 (out.map fun v => F v.toNat) = mxI (lst N F) := by
 have hne : lst N F ≠ [] := by
  intro e
  have := lst_len N F
  rw [e] at this
  simp at this
  omega
 have hmem : ∀ x, x ∈ lst N F ↔ ∃ v, v < N ∧ F v = x := by simp [lst]
 apply Int.le_antisymm
 ·rcases top_mem (out.map fun v => F v.toNat) 0 with e | e
  ·rw [e]
   exact Int.le_trans (h0 0) (mxI_ge _ _ ((hmem _).2 ⟨0, h1, rfl⟩))
  ·obtain ⟨v, hv, e⟩ := List.mem_map.1 e
   rw [← e]
   have := h.node v hv
   exact mxI_ge _ _ ((hmem _).2 ⟨v.toNat, by omega, rfl⟩)
 ·obtain ⟨v, hv, e⟩ := (hmem _).1 (mxI_mem hne)
  rw [← e]
  exact (top_ge _ 0).2 _ (List.mem_map.2 ⟨(v : Int), h.all hN v hv, by simp⟩)
end Go.Proofs.Ytmabopomecdidaa.Pure
end
section
namespace Go.Proofs.Ytmabopomecdidaa.Pr
open Go.RowKit Go.Proofs.YtmabopomecdidaaW.PrintWords Go.Proofs.YtmabopomecdidaaW.PrintLast Go.Proofs.YtmabopomecdidaaW.PrintMore
attribute [local go_sem] max2_int min2_int max_two min_two max_three min_three max_four min_four
set_option linter.unusedVariables false
set_option linter.unusedSimpArgs false
def impl_Net_back.l0 : Nat → List (S45) → Int → Int → Int → List (S45) → Option (Int × (List (S45)))
 | 0, _, _, _, _, _ => none
 | k + 1, x14, x15, x16, x333000, x333001 => if x16 < x15 then (if 0 ≤ x16 then (if x16 < (x14.length : Int) then (if x333001.length < 3518437208883 then (impl_Net_back.l0 k x14 x15 (wrap64 (x16 + 1)) x333000 (x333001 ++ [(⟨(rd_T45 x14 x16).f1, (rd_T45 x14 x16).f0, (rd_T45 x14 x16).f2, (rd_T45 x14 x16).f3, (rd_T45 x14 x16).f4⟩ : S45)])) else (none)) else (none)) else (none)) else (some (x333000, x333001))
def impl_Net_back.f (k : Nat) (a0_0 : Int) (l0_1 : List (S45)) : Option (Int × (List (S45))) := if 0 ≤ (l0_1.length : Int) then (if ((l0_1.length : Int) : Int).toNat ≤ 7036874417766 then (impl_Net_back.l0 k l0_1 (l0_1.length : Int) 0 a0_0 (([] : List (S45)))) else (none)) else (none)
theorem impl_Net_back.mono_l : ∀ k, (∀ y0 y1 y2 y3 y4, LeO (impl_Net_back.l0 k y0 y1 y2 y3 y4) (impl_Net_back.l0 (k + 1) y0 y1 y2 y3 y4))
 | 0 => fun _ _ _ _ _ r h => by simp [impl_Net_back.l0] at h
 | k + 1 => by
  have ih0 := impl_Net_back.mono_l k
  ·intro y0 y1 y2 y3 y4
   unfold impl_Net_back.l0
   repeat' first
   | (with_reducible exact ih0 _ _ _ _ _)
   | (with_reducible exact LeO.refl _)
   | (with_reducible exact LeO.none _)
   | (with_reducible refine LeO.ite ?_ ?_)
   | (with_reducible refine LeO.bind ?_ (fun _ => ?_))
   | exact ih0 _ _ _ _ _
   | exact LeO.none _
   | refine LeO.ite ?_ ?_
   | refine LeO.bind ?_ (fun _ => ?_)
theorem impl_Net_back.mono : ∀ a0 a1 k, LeO (impl_Net_back.f k a0 a1) (impl_Net_back.f (k + 1) a0 a1) := by
 intro a0 a1 k
 have ih0 := impl_Net_back.mono_l k
 unfold impl_Net_back.f
 repeat' first
   | (with_reducible exact ih0 _ _ _ _ _)
   | (with_reducible exact LeO.refl _)
   | (with_reducible exact LeO.none _)
   | (with_reducible refine LeO.ite ?_ ?_)
   | (with_reducible refine LeO.bind ?_ (fun _ => ?_))
   | exact ih0 _ _ _ _ _
   | exact LeO.none _
   | refine LeO.ite ?_ ?_
   | refine LeO.bind ?_ (fun _ => ?_)
def impl_Net_back.T1 : Bool × List (List Nat × List Nat) := (true, [([], []), ([0], [0]), ([], []), ([2], [2]), ([3], [3]), ([4], [4]), ([1, 5], [1, 5]), ([], []), ([7, 6, 0, 1, 2, 3, 4, 5, 6, 7], [6, 7])])
def impl_Net_back.B1 : List Nat := [0, 1, 0, 4, 12, 28, 63, 0, 255]
theorem impl_Net_back.tab1 : rtab .any (opsOf Try.f71 1) = impl_Net_back.T1 := by kernel_rfl
theorem impl_Net_back.bits1 : waitsOk impl_Net_back.T1.2 impl_Net_back.B1 = true := by kernel_rfl
set_option maxHeartbeats 8000000 in
set_option maxRecDepth 100000 in
theorem impl_Net_back.calls (k : Nat) (a0_0 : Int) (A0_1 : Option Addr) (c0_1 : Nat) (l0_1 : List (S45)) (r1 : Int) (r2 : List (S45)) (w : World) (hr0_1 : Kd.C k45 w A0_1 l0_1.length l0_1) (hc0_1 : l0_1.length ≤ c0_1) (h : impl_Net_back.f k a0_0 l0_1 = some (r1, r2)) :
  Calls Try.prog 71 #[.agg #[.int .i64 a0_0, .slice A0_1 l0_1.length c0_1]] w fun e w' => ∃ v1_ : Value, e = .returned (.agg #[.int .i64 r1, v1_]) ∧ Kd.R k45 45 w' w.heap.size (fun _ => True) v1_ r2 ∧ Below w.heap.size w w' := by
 have hu38 := Try.underlying38
 have hu45 := Try.underlying45
 have HR0_1 := Aside0.mk hr0_1
 have HC0_1 := Aside0.mk hc0_1
 clear hr0_1 hc0_1
 have HB := Aside0.mk (Below.refl w.heap.size w)
 have H : (if 0 ≤ (l0_1.length : Int) then (if ((l0_1.length : Int) : Int).toNat ≤ 7036874417766 then (impl_Net_back.l0 k l0_1 (l0_1.length : Int) 0 a0_0 (([] : List (S45)))) else (none)) else (none)) = some (r1, r2) := h
 clear h
 by_cases c2 : 0 ≤ (l0_1.length : Int)
 ·rw [if_pos c2] at H
  have c2b0 := eq_true c2
  have c2b1 : decide (0 ≤ (l0_1.length : Int)) = true := decide_eq_true c2
  clear c2
  by_cases c3 : ((l0_1.length : Int) : Int).toNat ≤ 7036874417766
  ·rw [if_pos c3] at H
   have c3b0 := eq_true c3
   have c3b1 : decide (((l0_1.length : Int) : Int).toNat ≤ 7036874417766) = true := decide_eq_true c3
   clear c3
   obtain ⟨y329, hy329⟩ : ∃ y_ : List (S45), y_ = (([] : List (S45))) := ⟨_, rfl⟩
   replace H : (impl_Net_back.l0 k l0_1 (l0_1.length : Int) 0 a0_0 y329) = some (r1, r2) := by first | (rw [hy329]; with_reducible exact H) | (have H2_ := (Option.bind_some _ _).symm.trans H; rw [hy329]; with_reducible exact H2_) | (have H2_ := (Option.bind_some _ _).symm.trans H; with_reducible exact H2_) | with_reducible exact H | (rw [hy329]; exact H) | exact H
   have Ny329 := Aside0.mk hy329
   clear hy329
   have H' := Aside0.mk H
   clear H
   go_enter Try.func71, Try.ntmps71
   try go_wp2_with (first | ((with_reducible refine gate_dst (N := 1) rfl ?_); refine box_event ?hg (N := 1) ?hd (cs := #[.int .i64 a0_0, .slice A0_1 l0_1.length c0_1]) (t := 38) ?hr ?_; (case hd => rfl); (case hg => rfl); (case hr => first | (go_simp; done) | (go_simp; rfl)); intro gb327 hg w4 hbox hb; have n0_ := Aside0.mk (below_step (by repeat (first | (with_reducible first | exact HB.out | apply below_alloc | apply pw_below_drewN | apply below_drew1) | exact HB.out)) hb); have n1_ := Aside0.mk (hbox); have n2_ := Aside0.mk ((by rw [hg]; exact (below_size (by repeat (first | (with_reducible first | exact HB.out | apply below_alloc | apply pw_below_drewN | apply below_drew1) | exact HB.out))) : w.heap.size ≤ gb327)); have n3_ := Aside0.mk ((by rw [hg]; exact (below_size (by repeat (first | (with_reducible first | exact HB.out | apply below_alloc | apply pw_below_drewN | apply below_drew1) | exact HB.out))) : w.heap.size ≤ gb327)); clear HB; have HB := n0_; have BK327 := n1_; have GW327 := n2_; have GE327 := n3_; clear n0_ n1_ n2_ n3_; clear hb hbox hg) | ((with_reducible refine gate_dst (N := 2) rfl ?_); refine box_event ?hg (N := 2) ?hd (cs := #[.int .i64 0, .slice none 0 0]) (t := 38) ?hr ?_; (case hd => rfl); (case hg => rfl); (case hr => first | (go_simp; done) | (go_simp; rfl)); intro gb328 hg w5 hbox hb; have n0_ := Aside0.mk (blk_below (g := gb327) (o := .cells #[.int .i64 a0_0, .slice A0_1 l0_1.length c0_1] 38 (0, 0)) (by (with_reducible repeat (first | refine blk_drewN ?_ _ | refine blk_drew ?_ | refine blk_alloc ?_ _)); exact BK327.out) hb); have n1_ := Aside0.mk (below_step (by repeat (first | (with_reducible first | exact HB.out | apply below_alloc | apply pw_below_drewN | apply below_drew1 | refine below_set ?_ GE327.out) | exact HB.out)) hb); have n2_ := Aside0.mk (hbox); have n3_ := Aside0.mk ((by rw [hg]; exact (below_size (by repeat (first | (with_reducible first | exact HB.out | apply below_alloc | apply pw_below_drewN | apply below_drew1 | refine below_set ?_ GE327.out) | exact HB.out))) : w.heap.size ≤ gb328)); have n4_ := Aside0.mk ((by rw [hg]; exact (below_size (by repeat (first | (with_reducible first | exact HB.out | apply below_alloc | apply pw_below_drewN | apply below_drew1 | refine below_set ?_ GE327.out) | exact HB.out))) : w.heap.size ≤ gb328)); have n5_ := Aside0.mk ((by rw [hg]; exact Nat.ne_of_lt (blk_lt (g := gb327) (o := .cells #[.int .i64 a0_0, .slice A0_1 l0_1.length c0_1] 38 (0, 0)) (by (with_reducible repeat (first | refine blk_drewN ?_ _ | refine blk_drew ?_ | refine blk_alloc ?_ _)); exact BK327.out)) : gb327 ≠ gb328)); have n6_ := Aside0.mk ((by rw [hg]; exact Nat.ne_of_gt (blk_lt (g := gb327) (o := .cells #[.int .i64 a0_0, .slice A0_1 l0_1.length c0_1] 38 (0, 0)) (by (with_reducible repeat (first | refine blk_drewN ?_ _ | refine blk_drew ?_ | refine blk_alloc ?_ _)); exact BK327.out)) : gb328 ≠ gb327)); clear BK327; clear HB; have BK327 := n0_; have HB := n1_; have BK328 := n2_; have GW328 := n3_; have GE328 := n4_; have NB327_328 := n5_; have NB328_327 := n6_; clear n0_ n1_ n2_ n3_ n4_ n5_ n6_; clear hb hbox hg))
   have n0_ := Aside0.mk (blk_drew BK327.out)
   have n1_ := Aside0.mk (blk_drew BK328.out)
   have n2_ := Aside0.mk (below_drew1 HB.out)
   clear BK327
   clear BK328
   clear HB
   have BK327 := n0_
   have BK328 := n1_
   have HB := n2_
   clear n0_ n1_ n2_
   refine start_ (n := 9) (S := fun w' => True) (ds := []) #[false, false, false, false, false, false, false, false, false] (by kernel_rfl) rfl rfl trivial (fun hHeld => ?_); refine with_tabW impl_Net_back.tab1 impl_Net_back.bits1 (fun HT_ HW_ => ?_)
   generalize w5.drew = w6 at BK327 BK328 HB hHeld ⊢
   refine pure_ (i := 0) (N := some 6) (v := ?_) (a' := ?_) #[true, false, false, false, false, false, false, false, false] rfl rfl (any_of HT_.out (by kernel_rfl)) (fun _ _ _ h => h) (Or.inl ⟨by rfl, ?_⟩) ?_ ?_
   rotate_left
   ·intro w'
    go_simp
    with_reducible rfl
   rotate_left
   ·simp only [Act.put, List.setIfInBounds_toArray, List.set_cons_zero, List.set_cons_succ, i64_w, i32_w]
    rfl
   refine pure_ (i := 2) (N := some 8) (v := ?_) (a' := ?_) #[true, false, true, false, false, false, false, false, false] rfl rfl (any_of HT_.out (by kernel_rfl)) (fun _ _ _ h => h) (Or.inl ⟨by rfl, ?_⟩) ?_ ?_
   rotate_left
   ·intro w'
    go_simp
    with_reducible rfl
   rotate_left
   ·simp only [Act.put, List.setIfInBounds_toArray, List.set_cons_zero, List.set_cons_succ, i64_w, i32_w]
    rfl
   refine inv_at [1, 3, 4, 5, 6, 7, 8] (fun a0_ b a w' => ∃ (v330 : Value) (gb332 : Nat) (m6_ : Value) (m7_ : Value), a = putSel a0_ b [(1, 7, .int .i64 a0_0), (3, 9, .slice A0_1 l0_1.length c0_1), (4, 10, .int .i64 (l0_1.length : Int)), (5, 11, v330), (6, 12, m6_), (7, 3, m7_)] ∧ (w'.heap[gb327]? = some (.cells #[.int .i64 a0_0, .slice A0_1 l0_1.length c0_1] 38 (0, 0))) ∧ (w'.heap[gb328]? = some (.cells #[.int .i64 0, .slice none 0 0] 38 (0, 0))) ∧ (Below w.heap.size w w') ∧ (b 5 = true → Kd.R k45 45 w' w.heap.size (fun _ => True) v330 y329) ∧ (b 7 = true → b 8 = false → w'.heap[gb332]? = some (.cells #[.int .i64 0, .slice none 0 0] 38 (0, 0))) ∧ (b 7 = true → w.heap.size ≤ gb332) ∧ (b 7 = true → w.heap.size ≤ gb332) ∧ (b 7 = true → gb327 ≠ gb332) ∧ (b 7 = true → gb332 ≠ gb327) ∧ (b 7 = true → gb328 ≠ gb332) ∧ (b 7 = true → gb332 ≠ gb328) ∧ (b 8 = true → w'.heap[gb332]? = some (.cells #[.int .i64 a0_0, v330] 38 (0, 0))) ∧ (b 6 = true → (m6_ : Value) = .agg #[.int .i64 a0_0, v330]) ∧ (b 7 = true → (m7_ : Value) = .pointer (some ⟨gb332, 0, none⟩))) HT_.out HW_.out (by kernel_rfl) (by kernel_rfl) ?_ ?_ ?_
   ·exact ⟨.bool false, 0, .bool false, .bool false, by simp only [putSel, Bool.false_eq_true, if_false], BK327.out, BK328.out, HB.out, fun h_ => absurd h_ (by decide), fun h_ => absurd h_ (by decide), fun h_ => absurd h_ (by decide), fun h_ => absurd h_ (by decide), fun h_ => absurd h_ (by decide), fun h_ => absurd h_ (by decide), fun h_ => absurd h_ (by decide), fun h_ => absurd h_ (by decide), fun h_ => absurd h_ (by decide), fun h_ => absurd h_ (by decide), fun h_ => absurd h_ (by decide)⟩
   ·skip
    clear BK327 BK328 HB
    refine steps_cons ?_ ?_
    ·rintro b a w' ⟨v330, gb332, m6_, m7_, ha, Q_BK327, Q_BK328, Q_HB, Q_HO331, Q_BK332, Q_GW332, Q_GE332, Q_NB327_332, Q_NB332_327, Q_NB328_332, Q_NB332_328, Q_BK332_e8, Q_X6_, Q_X7_⟩ hb_ hon hoff
     refine ⟨_, rfl, fun K hK => ?_⟩
     have e6 : a.tmps[6]? = some (.pointer (some ⟨gb327, 0, none⟩)) := by rw [ha]; exact (putSel_off rfl).trans rfl
     replace ha := Aside0.mk ha
     have BK327 := Aside0.mk Q_BK327
     have BK328 := Aside0.mk Q_BK328
     have HB := Aside0.mk Q_HB
     have hc0_ : w'.cell? ⟨gb327, 0, none⟩ = some (.int .i64 a0_0) := (blk_cell BK327.out 0).trans rfl
     have hc1_ : w'.cell? ⟨gb327, 1, none⟩ = some (.slice A0_1 l0_1.length c0_1) := (blk_cell BK327.out 1).trans rfl
     refine value_ (w1 := w') (v := .int .i64 a0_0) (by rfl) rfl ?_ ?_
     ·go_simp
      (try simp only [i64_w])
      try rfl
     refine hK.out _ _ ⟨v330, gb332, m6_, m7_, (by rw [ha.out]; exact putSel_upk 0 hb_ rfl rfl rfl), Q_BK327, Q_BK328, Q_HB, Q_HO331, Q_BK332, Q_GW332, Q_GE332, Q_NB327_332, Q_NB332_327, Q_NB328_332, Q_NB332_328, fun h0_ => absurd ((hoff 8 (by kernel_rfl)).symm.trans h0_) (by decide), fun h0_ => absurd ((hoff 6 (by kernel_rfl)).symm.trans h0_) (by decide), Q_X7_⟩
    refine steps_cons ?_ ?_
    ·rintro b a w' ⟨v330, gb332, m6_, m7_, ha, Q_BK327, Q_BK328, Q_HB, Q_HO331, Q_BK332, Q_GW332, Q_GE332, Q_NB327_332, Q_NB332_327, Q_NB328_332, Q_NB332_328, Q_BK332_e8, Q_X6_, Q_X7_⟩ hb_ hon hoff
     refine ⟨_, rfl, fun K hK => ?_⟩
     have e8 : a.tmps[8]? = some (.pointer (some ⟨gb327, 1, none⟩)) := by rw [ha]; exact (putSel_off rfl).trans rfl
     replace ha := Aside0.mk ha
     have BK327 := Aside0.mk Q_BK327
     have BK328 := Aside0.mk Q_BK328
     have HB := Aside0.mk Q_HB
     have hc0_ : w'.cell? ⟨gb327, 0, none⟩ = some (.int .i64 a0_0) := (blk_cell BK327.out 0).trans rfl
     have hc1_ : w'.cell? ⟨gb327, 1, none⟩ = some (.slice A0_1 l0_1.length c0_1) := (blk_cell BK327.out 1).trans rfl
     refine value_ (w1 := w') (v := .slice A0_1 l0_1.length c0_1) (by rfl) rfl ?_ ?_
     ·go_simp
      (try simp only [i64_w])
      try rfl
     refine hK.out _ _ ⟨v330, gb332, m6_, m7_, (by rw [ha.out]; exact putSel_upk 1 hb_ rfl rfl rfl), Q_BK327, Q_BK328, Q_HB, fun h0_ => absurd ((hoff 5 (by kernel_rfl)).symm.trans h0_) (by decide), Q_BK332, Q_GW332, Q_GE332, Q_NB327_332, Q_NB332_327, Q_NB328_332, Q_NB332_328, fun h0_ => absurd ((hoff 8 (by kernel_rfl)).symm.trans h0_) (by decide), fun h0_ => absurd ((hoff 6 (by kernel_rfl)).symm.trans h0_) (by decide), Q_X7_⟩
    refine steps_cons ?_ ?_
    ·rintro b a w' ⟨v330, gb332, m6_, m7_, ha, Q_BK327, Q_BK328, Q_HB, Q_HO331, Q_BK332, Q_GW332, Q_GE332, Q_NB327_332, Q_NB332_327, Q_NB328_332, Q_NB332_328, Q_BK332_e8, Q_X6_, Q_X7_⟩ hb_ hon hoff
     refine ⟨_, rfl, fun K hK => ?_⟩
     have e9 : a.tmps[9]? = some (.slice A0_1 l0_1.length c0_1) := by rw [ha]; exact putSel_on (e := (3, 9, .slice A0_1 l0_1.length c0_1)) 1 rfl rfl (hon 3 (by kernel_rfl)) rfl
     replace ha := Aside0.mk ha
     have BK327 := Aside0.mk Q_BK327
     have BK328 := Aside0.mk Q_BK328
     have HB := Aside0.mk Q_HB
     refine value_ (w1 := w') (v := .int .i64 (l0_1.length : Int)) (by rfl) rfl ?_ ?_
     ·go_simp
      (try simp only [i64_w])
      try rfl
     refine hK.out _ _ ⟨v330, gb332, m6_, m7_, (by rw [ha.out]; exact putSel_upk 2 hb_ rfl rfl rfl), Q_BK327, Q_BK328, Q_HB, fun h0_ => absurd ((hoff 5 (by kernel_rfl)).symm.trans h0_) (by decide), Q_BK332, Q_GW332, Q_GE332, Q_NB327_332, Q_NB332_327, Q_NB328_332, Q_NB332_328, fun h0_ => absurd ((hoff 8 (by kernel_rfl)).symm.trans h0_) (by decide), fun h0_ => absurd ((hoff 6 (by kernel_rfl)).symm.trans h0_) (by decide), Q_X7_⟩
    refine steps_cons ?_ ?_
    ·rintro b a w' ⟨v330, gb332, m6_, m7_, ha, Q_BK327, Q_BK328, Q_HB, Q_HO331, Q_BK332, Q_GW332, Q_GE332, Q_NB327_332, Q_NB332_327, Q_NB328_332, Q_NB332_328, Q_BK332_e8, Q_X6_, Q_X7_⟩ hb_ hon hoff
     refine ⟨_, rfl, fun K hK => ?_⟩
     have e10 : a.tmps[10]? = some (.int .i64 (l0_1.length : Int)) := by rw [ha]; exact putSel_on (e := (4, 10, .int .i64 (l0_1.length : Int))) 2 rfl rfl (hon 4 (by kernel_rfl)) rfl
     replace ha := Aside0.mk ha
     have BK327 := Aside0.mk Q_BK327
     have BK328 := Aside0.mk Q_BK328
     have HB := Aside0.mk Q_HB
     refine Kd.R_make0_step k45 _ 45 (by rfl) (N := 11) rfl 36 _ _ rfl (l0_1.length : Int) (by first | rfl | (go_simp; done) | (go_simp; rfl)) (by first | rfl | (go_simp; done) | (go_simp; rfl)) Try.underlying36 (.agg #[(.int .i64 0), (.int .i64 0), (.int .i64 0), (.int .i64 0), (.int .i64 0)]) 40 info45 rfl (by decide) (by omega) z45 (ok := fun _ => True) (okp := fun _ => True) (k45_mkM _ _ _ z45 ) (fun _ hk => hk) trivial (of_decide_eq_true (by first | (with_reducible assumption) | assumption)) (Nat.le_trans (Nat.mul_le_mul_right _ (of_decide_eq_true (by first | (with_reducible assumption) | assumption) : (l0_1.length : Int).toNat ≤ 7036874417766)) (by omega)) (Below.refl _ _) (Nat.le_refl _) ?_
     intro v330 w7 ho8 hb hg_ hnew_
     clear hg_ hnew_
     (first | rw [← Ny329.out] at ho8 | (simp only [Int.reduceToNat] at ho8; rw [← Ny329.out] at ho8))
     have n0_ := Aside0.mk (Kd.R_lower ho8 (below_size (by repeat (first | (with_reducible first | exact HB.out | apply below_alloc | apply pw_below_drewN | apply below_drew1 | refine below_set ?_ GE327.out | refine below_set ?_ GE328.out) | exact HB.out))))
     have n1_ := Aside0.mk (blk_below (g := gb327) (o := .cells #[.int .i64 a0_0, .slice A0_1 l0_1.length c0_1] 38 (0, 0)) (by (with_reducible repeat (first | refine blk_drewN ?_ _ | refine blk_drew ?_ | refine blk_alloc ?_ _)); exact BK327.out) hb)
     have n2_ := Aside0.mk (blk_below (g := gb328) (o := .cells #[.int .i64 0, .slice none 0 0] 38 (0, 0)) (by (with_reducible repeat (first | refine blk_drewN ?_ _ | refine blk_drew ?_ | refine blk_alloc ?_ _)); exact BK328.out) hb)
     have n3_ := Aside0.mk (below_step (by repeat (first | (with_reducible first | exact HB.out | apply below_alloc | apply pw_below_drewN | apply below_drew1 | refine below_set ?_ GE327.out | refine below_set ?_ GE328.out) | exact HB.out)) hb)
     have z_BK332 := fun (h0_ : b 7 = true) (h1_ : b 8 = false) => (show w7.heap[gb332]? = some (.cells #[.int .i64 0, .slice none 0 0] 38 (0, 0)) from by first | exact (blk_below (g := gb332) (o := .cells #[.int .i64 0, .slice none 0 0] 38 (0, 0)) (by (with_reducible repeat (first | refine blk_drewN ?_ _ | refine blk_drew ?_ | refine blk_alloc ?_ _)); exact (Q_BK332 h0_ h1_)) hb))
     clear BK327
     clear BK328
     clear HB
     have HO331 := n0_
     have BK327 := n1_
     have BK328 := n2_
     have HB := n3_
     clear n0_ n1_ n2_ n3_
     clear hb ho8
     obtain ⟨Ao9, co9, eo9⟩ := Kd.R_slice HO331.out
     (first | subst eo9 | (injection eo9 with f1_ f2_ f3_; have f4_ := f1_.symm; have f5_ := f3_.symm; clear f1_ f2_ f3_; subst f4_; subst f5_))
     refine hK.out _ _ ⟨.slice Ao9 y329.length co9, gb332, m6_, m7_, (by rw [ha.out]; exact putSel_upk 3 hb_ rfl rfl rfl), (by (with_reducible repeat (first | refine blk_drewN ?_ _ | refine blk_drew ?_ | refine blk_alloc ?_ _)); exact BK327.out), (by (with_reducible repeat (first | refine blk_drewN ?_ _ | refine blk_drew ?_ | refine blk_alloc ?_ _)); exact BK328.out), (by repeat (first | (with_reducible first | exact HB.out | apply below_alloc | apply pw_below_drewN | apply below_drew1 | refine below_set ?_ GE327.out | refine below_set ?_ GE328.out) | exact HB.out)), fun _ => (by (with_reducible repeat (first | apply Kd.R_alloc | apply Kd.R_drewN | apply Kd.R_drew)); exact HO331.out), z_BK332, Q_GW332, Q_GE332, Q_NB327_332, Q_NB332_327, Q_NB328_332, Q_NB332_328, fun h0_ => absurd ((hoff 8 (by kernel_rfl)).symm.trans h0_) (by decide), fun h0_ => absurd ((hoff 6 (by kernel_rfl)).symm.trans h0_) (by decide), Q_X7_⟩
    refine steps_cons ?_ ?_
    ·rintro b a w' ⟨v330, gb332, m6_, m7_, ha, Q_BK327, Q_BK328, Q_HB, Q_HO331, Q_BK332, Q_GW332, Q_GE332, Q_NB327_332, Q_NB332_327, Q_NB328_332, Q_NB332_328, Q_BK332_e8, Q_X6_, Q_X7_⟩ hb_ hon hoff
     refine ⟨_, rfl, fun K hK => ?_⟩
     have e7 : a.tmps[7]? = some (.int .i64 a0_0) := by rw [ha]; exact putSel_on (e := (1, 7, .int .i64 a0_0)) 0 rfl rfl (hon 1 (by kernel_rfl)) rfl
     have e11 : a.tmps[11]? = some (v330) := by rw [ha]; exact putSel_on (e := (5, 11, v330)) 3 rfl rfl (hon 5 (by kernel_rfl)) rfl
     replace ha := Aside0.mk ha
     have BK327 := Aside0.mk Q_BK327
     have BK328 := Aside0.mk Q_BK328
     have HB := Aside0.mk Q_HB
     have HO331 := Aside0.mk (Q_HO331 (hon 5 (by kernel_rfl)))
     obtain ⟨Ao6_0, co6_0, eo_⟩ := Kd.R_slice HO331.out
     subst eo_
     refine value_ (w1 := w') (v := .agg #[.int .i64 a0_0, .slice Ao6_0 y329.length co6_0]) (by rfl) rfl ?_ ?_
     ·go_simp
      (try simp only [i64_w])
      try rfl
     refine hK.out _ _ ⟨.slice Ao6_0 y329.length co6_0, gb332, (.agg #[.int .i64 a0_0, .slice Ao6_0 y329.length co6_0]), m7_, (by rw [ha.out]; exact putSel_upk 4 hb_ rfl rfl rfl), Q_BK327, Q_BK328, Q_HB, Q_HO331, Q_BK332, Q_GW332, Q_GE332, Q_NB327_332, Q_NB332_327, Q_NB328_332, Q_NB332_328, fun h0_ => absurd ((hoff 8 (by kernel_rfl)).symm.trans h0_) (by decide), fun _ => rfl, Q_X7_⟩
    refine steps_cons ?_ ?_
    ·rintro b a w' ⟨v330, gb332, m6_, m7_, ha, Q_BK327, Q_BK328, Q_HB, Q_HO331, Q_BK332, Q_GW332, Q_GE332, Q_NB327_332, Q_NB332_327, Q_NB328_332, Q_NB332_328, Q_BK332_e8, Q_X6_, Q_X7_⟩ hb_ hon hoff
     refine ⟨_, rfl, fun K hK => ?_⟩
     replace ha := Aside0.mk ha
     have BK327 := Aside0.mk Q_BK327
     have BK328 := Aside0.mk Q_BK328
     have HB := Aside0.mk Q_HB
     refine box_step ?hg (N := 3) ?hd (cs := #[.int .i64 0, .slice none 0 0]) (t := 38) ?hr ?_; (case hd => rfl); (case hg => rfl); (case hr => first | (go_simp; done) | (go_simp; rfl))
     intro gb332 hg w7 hbox hb
     have n0_ := Aside0.mk (blk_below (g := gb327) (o := .cells #[.int .i64 a0_0, .slice A0_1 l0_1.length c0_1] 38 (0, 0)) (by (with_reducible repeat (first | refine blk_drewN ?_ _ | refine blk_drew ?_ | refine blk_alloc ?_ _)); exact BK327.out) hb)
     have n1_ := Aside0.mk (blk_below (g := gb328) (o := .cells #[.int .i64 0, .slice none 0 0] 38 (0, 0)) (by (with_reducible repeat (first | refine blk_drewN ?_ _ | refine blk_drew ?_ | refine blk_alloc ?_ _)); exact BK328.out) hb)
     have n2_ := Aside0.mk (below_step (by repeat (first | (with_reducible first | exact HB.out | apply below_alloc | apply pw_below_drewN | apply below_drew1 | refine below_set ?_ GE327.out | refine below_set ?_ GE328.out) | exact HB.out)) hb)
     have n3_ := Aside0.mk (hbox)
     have n4_ := Aside0.mk ((by rw [hg]; exact (below_size (by repeat (first | (with_reducible first | exact HB.out | apply below_alloc | apply pw_below_drewN | apply below_drew1 | refine below_set ?_ GE327.out | refine below_set ?_ GE328.out) | exact HB.out))) : w.heap.size ≤ gb332))
     have n5_ := Aside0.mk ((by rw [hg]; exact (below_size (by repeat (first | (with_reducible first | exact HB.out | apply below_alloc | apply pw_below_drewN | apply below_drew1 | refine below_set ?_ GE327.out | refine below_set ?_ GE328.out) | exact HB.out))) : w.heap.size ≤ gb332))
     have n6_ := Aside0.mk ((by rw [hg]; exact Nat.ne_of_lt (blk_lt (g := gb327) (o := .cells #[.int .i64 a0_0, .slice A0_1 l0_1.length c0_1] 38 (0, 0)) (by (with_reducible repeat (first | refine blk_drewN ?_ _ | refine blk_drew ?_ | refine blk_alloc ?_ _)); exact BK327.out)) : gb327 ≠ gb332))
     have n7_ := Aside0.mk ((by rw [hg]; exact Nat.ne_of_gt (blk_lt (g := gb327) (o := .cells #[.int .i64 a0_0, .slice A0_1 l0_1.length c0_1] 38 (0, 0)) (by (with_reducible repeat (first | refine blk_drewN ?_ _ | refine blk_drew ?_ | refine blk_alloc ?_ _)); exact BK327.out)) : gb332 ≠ gb327))
     have n8_ := Aside0.mk ((by rw [hg]; exact Nat.ne_of_lt (blk_lt (g := gb328) (o := .cells #[.int .i64 0, .slice none 0 0] 38 (0, 0)) (by (with_reducible repeat (first | refine blk_drewN ?_ _ | refine blk_drew ?_ | refine blk_alloc ?_ _)); exact BK328.out)) : gb328 ≠ gb332))
     have n9_ := Aside0.mk ((by rw [hg]; exact Nat.ne_of_gt (blk_lt (g := gb328) (o := .cells #[.int .i64 0, .slice none 0 0] 38 (0, 0)) (by (with_reducible repeat (first | refine blk_drewN ?_ _ | refine blk_drew ?_ | refine blk_alloc ?_ _)); exact BK328.out)) : gb332 ≠ gb328))
     have z_HO331 := fun (h0_ : b 5 = true) => (show Kd.R k45 45 w7 w.heap.size (fun _ => True) v330 y329 from by first | exact (Kd.R_below (by (with_reducible repeat (first | apply Kd.R_alloc | apply Kd.R_drewN | apply Kd.R_drew)); exact (Q_HO331 h0_)) hb) | exact Kd.R_mono (Kd.R_below (by (with_reducible repeat (first | apply Kd.R_alloc | apply Kd.R_drewN | apply Kd.R_drew)); exact (Q_HO331 h0_)) hb) (fun _ h_ => by first | trivial | exact h_ | exact h_.1))
     clear BK327
     clear BK328
     clear HB
     have BK327 := n0_
     have BK328 := n1_
     have HB := n2_
     have BK332 := n3_
     have GW332 := n4_
     have GE332 := n5_
     have NB327_332 := n6_
     have NB332_327 := n7_
     have NB328_332 := n8_
     have NB332_328 := n9_
     clear n0_ n1_ n2_ n3_ n4_ n5_ n6_ n7_ n8_ n9_
     clear hb hbox hg
     refine hK.out _ _ ⟨v330, gb332, m6_, (.pointer (some ⟨gb332, 0, none⟩)), (by rw [ha.out]; exact putSel_upk 5 hb_ rfl rfl rfl), (by (with_reducible repeat (first | refine blk_drewN ?_ _ | refine blk_drew ?_ | refine blk_alloc ?_ _)); exact BK327.out), (by (with_reducible repeat (first | refine blk_drewN ?_ _ | refine blk_drew ?_ | refine blk_alloc ?_ _)); exact BK328.out), (by repeat (first | (with_reducible first | exact HB.out | apply below_alloc | apply pw_below_drewN | apply below_drew1 | refine below_set ?_ GE327.out | refine below_set ?_ GE328.out | refine below_set ?_ GE332.out) | exact HB.out)), z_HO331, fun _ _ => (by (with_reducible repeat (first | refine blk_drewN ?_ _ | refine blk_drew ?_ | refine blk_alloc ?_ _)); exact BK332.out), fun _ => GW332.out, fun _ => GE332.out, fun _ => NB327_332.out, fun _ => NB332_327.out, fun _ => NB328_332.out, fun _ => NB332_328.out, fun h0_ => absurd ((hoff 8 (by kernel_rfl)).symm.trans h0_) (by decide), Q_X6_, fun _ => rfl⟩
    refine steps_cons ?_ ?_
    ·rintro b a w' ⟨v330, gb332, m6_, m7_, ha, Q_BK327, Q_BK328, Q_HB, Q_HO331, Q_BK332, Q_GW332, Q_GE332, Q_NB327_332, Q_NB332_327, Q_NB328_332, Q_NB332_328, Q_BK332_e8, Q_X6_, Q_X7_⟩ hb_ hon hoff
     refine ⟨_, rfl, fun K hK => ?_⟩
     have e3 : a.tmps[3]? = some (m7_) := by rw [ha]; exact putSel_on (e := (7, 3, m7_)) 5 rfl rfl (hon 7 (by kernel_rfl)) rfl
     rw [Q_X7_ (hon 7 (by kernel_rfl))] at e3
     have e12 : a.tmps[12]? = some (m6_) := by rw [ha]; exact putSel_on (e := (6, 12, m6_)) 4 rfl rfl (hon 6 (by kernel_rfl)) rfl
     rw [Q_X6_ (hon 6 (by kernel_rfl))] at e12
     replace ha := Aside0.mk ha
     have BK327 := Aside0.mk Q_BK327
     have BK328 := Aside0.mk Q_BK328
     have HB := Aside0.mk Q_HB
     have HO331 := Aside0.mk (Q_HO331 (hon 5 (by kernel_rfl)))
     have BK332 := Aside0.mk (Q_BK332 (hon 7 (by kernel_rfl)) hb_)
     have GW332 := Aside0.mk (Q_GW332 (hon 7 (by kernel_rfl)))
     have GE332 := Aside0.mk (Q_GE332 (hon 7 (by kernel_rfl)))
     have NB327_332 := Aside0.mk (Q_NB327_332 (hon 7 (by kernel_rfl)))
     have NB332_327 := Aside0.mk (Q_NB332_327 (hon 7 (by kernel_rfl)))
     have NB328_332 := Aside0.mk (Q_NB328_332 (hon 7 (by kernel_rfl)))
     have NB332_328 := Aside0.mk (Q_NB332_328 (hon 7 (by kernel_rfl)))
     obtain ⟨Ao12, co12, eo12⟩ := Kd.R_slice HO331.out
     (first | subst eo12 | (injection eo12 with f1_ f2_ f3_; have f4_ := f1_.symm; have f5_ := f3_.symm; clear f1_ f2_ f3_; subst f4_; subst f5_))
     have hs13 : w'.cell? ⟨gb332, 0, none⟩ = some (.int .i64 0) := (blk_cell BK332.out 0).trans rfl
     have hfs13 := blk_frozen BK332.out 0
     have hns13_0 := NB327_332.out
     have hns13_1 := NB328_332.out
     have hms13_0 := NB332_327.out
     have hms13_1 := NB332_328.out
     have hs14 : w'.cell? ⟨gb332, 1, none⟩ = some (.slice none 0 0) := (blk_cell BK332.out 1).trans rfl
     have hfs14 := blk_frozen BK332.out 1
     have hns14_0 := NB327_332.out
     have hns14_1 := NB328_332.out
     have hms14_0 := NB332_327.out
     have hms14_1 := NB332_328.out
     refine skip_ (w1 := ?_) (by rfl) rfl ?_ ?_
     rotate_left
     ·go_simp
      rfl
     refine hK.out _ _ ⟨.slice Ao12 y329.length co12, gb332, m6_, m7_, (by rw [ha.out]; exact putSel_none (v := undef) rfl), (by (with_reducible repeat (first | refine blk_drewN ?_ _ | refine blk_drew ?_ | refine blk_alloc ?_ _)); refine blk_far ?_ NB327_332.out _; (with_reducible repeat (first | refine blk_drewN ?_ _ | refine blk_drew ?_ | refine blk_alloc ?_ _)); refine blk_far ?_ NB327_332.out _; (with_reducible repeat (first | refine blk_drewN ?_ _ | refine blk_drew ?_ | refine blk_alloc ?_ _)); exact BK327.out), (by (with_reducible repeat (first | refine blk_drewN ?_ _ | refine blk_drew ?_ | refine blk_alloc ?_ _)); refine blk_far ?_ NB328_332.out _; (with_reducible repeat (first | refine blk_drewN ?_ _ | refine blk_drew ?_ | refine blk_alloc ?_ _)); refine blk_far ?_ NB328_332.out _; (with_reducible repeat (first | refine blk_drewN ?_ _ | refine blk_drew ?_ | refine blk_alloc ?_ _)); exact BK328.out), (by repeat (first | (with_reducible first | exact HB.out | apply below_alloc | apply pw_below_drewN | apply below_drew1 | refine below_set ?_ GE327.out | refine below_set ?_ GE328.out | refine below_set ?_ GE332.out) | exact HB.out)), fun _ => (by (with_reducible repeat (first | apply Kd.R_alloc | apply Kd.R_drewN | apply Kd.R_drew)); exact Kd.R_mono (Kd.R_far (p := ⟨gb332, 1, none⟩) (Kd.R_far (p := ⟨gb332, 0, none⟩) (Kd.R_types HO331.out BK332.out (by decide)) (fun _ hk => hk.2) (.int .i64 a0_0)) (fun _ hk => hk.2) (.slice Ao12 y329.length co12)) (fun _ hk => trivial)), fun _ h1_ => absurd ((up_self b 8).symm.trans h1_) (by decide), fun _ => GW332.out, fun _ => GE332.out, fun _ => NB327_332.out, fun _ => NB332_327.out, fun _ => NB328_332.out, fun _ => NB332_328.out, fun _ => (by (with_reducible repeat (first | refine blk_drewN ?_ _ | refine blk_drew ?_ | refine blk_alloc ?_ _)); refine blk_put (cs := #[.int .i64 a0_0, .slice none 0 0]) ?_ 1 _ rfl; (with_reducible repeat (first | refine blk_drewN ?_ _ | refine blk_drew ?_ | refine blk_alloc ?_ _)); refine blk_put (cs := #[.int .i64 0, .slice none 0 0]) ?_ 0 _ rfl; (with_reducible repeat (first | refine blk_drewN ?_ _ | refine blk_drew ?_ | refine blk_alloc ?_ _)); exact BK332.out), Q_X6_, Q_X7_⟩
    exact steps_nil
   rintro b a w13 hall ⟨v330, gb332, m6_, m7_, ha, Q_BK327, Q_BK328, Q_HB, Q_HO331, Q_BK332, Q_GW332, Q_GE332, Q_NB327_332, Q_NB332_327, Q_NB328_332, Q_NB332_328, Q_BK332_e8, Q_X6_, Q_X7_⟩
   clear BK327 BK328 HB
   have hb1_ := hall 1 (by kernel_rfl)
   have hb3_ := hall 3 (by kernel_rfl)
   have hb4_ := hall 4 (by kernel_rfl)
   have hb5_ := hall 5 (by kernel_rfl)
   have hb6_ := hall 6 (by kernel_rfl)
   have hb7_ := hall 7 (by kernel_rfl)
   have hb8_ := hall 8 (by kernel_rfl)
   subst ha
   obtain rfl := Q_X6_ hb6_
   obtain rfl := Q_X7_ hb7_
   simp only [putSel, hb1_, hb3_, hb4_, hb5_, hb6_, hb7_, hb8_, if_true, Act.put, List.setIfInBounds_toArray, List.set_cons_zero, List.set_cons_succ]
   have BK327 := Aside0.mk Q_BK327
   clear Q_BK327
   have BK328 := Aside0.mk Q_BK328
   clear Q_BK328
   have HB := Aside0.mk Q_HB
   clear Q_HB
   have HO331 := Aside0.mk (Q_HO331 hb5_)
   clear Q_HO331
   clear Q_BK332
   have GW332 := Aside0.mk (Q_GW332 hb7_)
   clear Q_GW332
   have GE332 := Aside0.mk (Q_GE332 hb7_)
   clear Q_GE332
   have NB327_332 := Aside0.mk (Q_NB327_332 hb7_)
   clear Q_NB327_332
   have NB332_327 := Aside0.mk (Q_NB332_327 hb7_)
   clear Q_NB332_327
   have NB328_332 := Aside0.mk (Q_NB328_332 hb7_)
   clear Q_NB328_332
   have NB332_328 := Aside0.mk (Q_NB332_328 hb7_)
   clear Q_NB332_328
   have BK332 := Aside0.mk (Q_BK332_e8 hb8_)
   clear Q_BK332_e8
   clear hall hb1_ hb3_ hb4_ hb5_ hb6_ hb7_ hb8_
   obtain ⟨Ao14, co14, eo14⟩ := Kd.R_slice HO331.out
   (first | subst eo14 | (injection eo14 with f1_ f2_ f3_; have f4_ := f1_.symm; have f5_ := f3_.symm; clear f1_ f2_ f3_; subst f4_; subst f5_))
   have hnb15 := NB327_328.out
   have hnc15 := NB328_327.out
   have hnb16 := NB327_332.out
   have hnc16 := NB332_327.out
   have hcz17_0 : w13.cell? ⟨gb327, 0, none⟩ = some (.int .i64 a0_0) := (blk_cell BK327.out 0).trans rfl
   have hcz17_1 : w13.cell? ⟨gb327, 1, none⟩ = some (.slice A0_1 l0_1.length c0_1) := (blk_cell BK327.out 1).trans rfl
   have hfz17_0 := blk_frozen BK327.out 0
   have hfz17_1 := blk_frozen BK327.out 1
   try go_wp2
   go_loopg [16] k (fun kq v16 w' => ∃ (x16_1 : Int) (x333001_1 : List (S45)) (u333001 : Value), v16 = .int .i64 x16_1 ∧ Aside0 (impl_Net_back.l0 kq l0_1 (l0_1.length : Int) x16_1 a0_0 x333001_1 = some (r1, r2)) ∧ Aside0 (kq ≤ k) ∧ Aside0 (Kd.R k45 45 w' w.heap.size (fun _ => True) u333001 x333001_1) ∧ Aside0 (w'.heap[gb327]? = some (.cells #[.int .i64 a0_0, (.slice A0_1 l0_1.length c0_1)] 38 (0, 0))) ∧ Aside0 (w'.heap[gb328]? = some (.cells #[.int .i64 0, (.slice none 0 0)] 38 (0, 0))) ∧ Aside0 (w'.heap[gb332]? = some (.cells #[.int .i64 a0_0, u333001] 38 (0, 0))) ∧ Aside0 (Below w.heap.size w w'))
   case atStart => exact ⟨(0), (y329), (.slice Ao14 y329.length co14), (by first | rfl | (simp; done) | (simp [*]; done)), H', ⟨Nat.le_refl _⟩, ⟨by (with_reducible repeat (first | apply Kd.R_alloc | apply Kd.R_drewN | apply Kd.R_drew)); exact HO331.out⟩, ⟨by (with_reducible repeat (first | refine blk_drewN ?_ _ | refine blk_drew ?_ | refine blk_alloc ?_ _)); exact BK327.out⟩, ⟨by (with_reducible repeat (first | refine blk_drewN ?_ _ | refine blk_drew ?_ | refine blk_alloc ?_ _)); exact BK328.out⟩, ⟨by (with_reducible repeat (first | refine blk_drewN ?_ _ | refine blk_drew ?_ | refine blk_alloc ?_ _)); exact BK332.out⟩, ⟨by repeat (first | (with_reducible first | exact HB.out | apply below_alloc | apply pw_below_drewN | apply below_drew1 | refine below_set ?_ GE327.out | refine below_set ?_ GE328.out | refine below_set ?_ GE332.out) | exact HB.out)⟩⟩
   case round =>
    clear H'
    try clear c1
    try clear c2
    try clear c2b0
    try clear c2b1
    try clear p2
    try clear c3
    try clear c3b0
    try clear c3b1
    try clear c7
    try clear c15
    try clear c16
    try clear hcz17_0
    try clear hcz17_1
    try clear hfz17_0
    try clear hfz17_1
    obtain ⟨x16_1, x333001_1, u333001, rfl, HA, HK1, HO_333001, BK327, BK328, BK332, HB⟩ := hrel
    cases gk with
    | zero => exact absurd HA.out (by simp [impl_Net_back.l0])
    | succ k1 =>
     have H := HA.out
     clear HA
     simp only [impl_Net_back.l0] at H
     by_cases c18 : x16_1 < (l0_1.length : Int)
     ·rw [if_pos c18] at H
      have c18b0 : decide (x16_1 < (l0_1.length : Int)) = true := decide_eq_true c18
      clear c18
      by_cases c19 : 0 ≤ x16_1
      ·rw [if_pos c19] at H
       have c19b0 : decide (0 ≤ x16_1) = true := decide_eq_true c19
       clear c19
       by_cases c20 : x16_1 < (l0_1.length : Int)
       ·rw [if_pos c20] at H
        have c20b0 : decide (x16_1 < (l0_1.length : Int)) = true := decide_eq_true c20
        clear c20
        by_cases c21 : x333001_1.length < 3518437208883
        ·rw [if_pos c21] at H
         have LMc21 := Aside0.mk c21
         clear c21
         obtain ⟨y335, hy335⟩ : ∃ y_ : List (S45), y_ = (x333001_1 ++ [(⟨(rd_T45 l0_1 x16_1).f1, (rd_T45 l0_1 x16_1).f0, (rd_T45 l0_1 x16_1).f2, (rd_T45 l0_1 x16_1).f3, (rd_T45 l0_1 x16_1).f4⟩ : S45)]) := ⟨_, rfl⟩
         replace H : (impl_Net_back.l0 k1 l0_1 (l0_1.length : Int) (wrap64 (x16_1 + 1)) a0_0 y335) = some (r1, r2) := by first | (rw [hy335]; with_reducible exact H) | (have H2_ := (Option.bind_some _ _).symm.trans H; rw [hy335]; with_reducible exact H2_) | (have H2_ := (Option.bind_some _ _).symm.trans H; with_reducible exact H2_) | with_reducible exact H | (rw [hy335]; exact H) | exact H
         have Ny335 := Aside0.mk hy335
         clear hy335
         have H' := Aside0.mk H
         clear H
         have p333 : 0 ≤ (x16_1 : Int) := of_decide_eq_true (by first | (with_reducible assumption) | assumption)
         have q333 : x16_1 < (l0_1.length : Int) := of_decide_eq_true (by first | (with_reducible assumption) | assumption)
         obtain ⟨ad333, e333, hx333_0, hx333_1, hx333_2, hx333_3, hx333_4⟩ := at_T45 HR0_1.out x16_1 p333 q333
         cases e333
         replace hx333_0 := (HB.out.cell (World.block_lt_of_cell? w _ hx333_0)).trans hx333_0
         replace hx333_1 := (HB.out.cell (World.block_lt_of_cell? w _ hx333_1)).trans hx333_1
         replace hx333_2 := (HB.out.cell (World.block_lt_of_cell? w _ hx333_2)).trans hx333_2
         replace hx333_3 := (HB.out.cell (World.block_lt_of_cell? w _ hx333_3)).trans hx333_3
         replace hx333_4 := (HB.out.cell (World.block_lt_of_cell? w _ hx333_4)).trans hx333_4
         replace p333 := eq_true p333
         replace q333 := eq_true q333
         go_wp2_with (first | ((with_reducible refine gate_dst (N := 5) rfl ?_); refine box_event ?hg (N := 5) ?hd (cs := #[.int .i64 0, .int .i64 0, .int .i64 0, .int .i64 0, .int .i64 0]) (t := 45) ?hr ?_; (case hd => rfl); (case hg => rfl); (case hr => first | (go_simp; done) | (go_simp; rfl)); intro gz hg w22 hbox hb; have n0_ := Aside0.mk (Kd.R_below (Kd.R_elderB HO_333001.out gz (Nat.le_of_eq hg.symm)) hb); have n1_ := Aside0.mk (blk_below BK327.out hb); have n2_ := Aside0.mk (blk_below BK328.out hb); have n3_ := Aside0.mk (blk_below BK332.out hb); have n4_ := Aside0.mk (below_step HB.out hb); have n5_ := Aside0.mk hbox; have n6_ := Aside0.mk (show w.heap.size ≤ gz by rw [hg]; exact below_size HB.out); have n7_ := Aside0.mk (show gb327 ≠ gz by rw [hg]; exact Nat.ne_of_lt (blk_lt BK327.out)); have n8_ := Aside0.mk (show gb328 ≠ gz by rw [hg]; exact Nat.ne_of_lt (blk_lt BK328.out)); have n9_ := Aside0.mk (show gb332 ≠ gz by rw [hg]; exact Nat.ne_of_lt (blk_lt BK332.out)); clear HO_333001 BK327 BK328 BK332 HB hb hbox hg) | ((with_reducible refine gate_store (t := 45) (p := 5) (v := .tmp 19) rfl ?_); refine put_event rfl rfl rfl n5_.out 0 #[.int .i64 (rd_T45 l0_1 x16_1).f0, .int .i64 (rd_T45 l0_1 x16_1).f1, .int .i64 (rd_T45 l0_1 x16_1).f2, .int .i64 (rd_T45 l0_1 x16_1).f3, .int .i64 (rd_T45 l0_1 x16_1).f4] (.agg #[.int .i64 (rd_T45 l0_1 x16_1).f0, .int .i64 (rd_T45 l0_1 x16_1).f1, .int .i64 (rd_T45 l0_1 x16_1).f2, .int .i64 (rd_T45 l0_1 x16_1).f3, .int .i64 (rd_T45 l0_1 x16_1).f4]) [.int .i64 (rd_T45 l0_1 x16_1).f0, .int .i64 (rd_T45 l0_1 x16_1).f1, .int .i64 (rd_T45 l0_1 x16_1).f2, .int .i64 (rd_T45 l0_1 x16_1).f3, .int .i64 (rd_T45 l0_1 x16_1).f4] (by first | rfl | (go_simp; done) | (go_simp; rfl)) (by first | rfl | (go_simp; done) | (go_simp; rfl)) rfl (by kernel_rfl) (by simp) (by simp [Value.oneCell']) rfl ?_; intro w23 hc hg; have p0_ := Aside0.mk (Kd.R_grown n0_.out hg (fun k hk e => hk.2 (Option.some.inj e))); have p1_ := Aside0.mk (blk_grown n1_.out hg (by simpa using n7_.out)); have p2_ := Aside0.mk (blk_grown n2_.out hg (by simpa using n8_.out)); have p3_ := Aside0.mk (blk_grown n3_.out hg (by simpa using n9_.out)); have p4_ := Aside0.mk (pw_below_grown n4_.out _ (below_size n4_.out) hg (fun k hk => by obtain rfl : gz = k := Option.some.inj hk; exact n6_.out)); clear n0_ n1_ n2_ n3_ n4_ n5_; have n0_ := p0_; have n1_ := p1_; have n2_ := p2_; have n3_ := p3_; have n4_ := p4_; have n5_ := Aside0.mk hc; clear p0_ p1_ p2_ p3_ p4_ hc hg; have hz0 : w23.cell? ⟨gz, 0, none⟩ = some (.int .i64 (rd_T45 l0_1 x16_1).f0) := (blk_cell n5_.out 0).trans rfl; have hz1 : w23.cell? ⟨gz, 1, none⟩ = some (.int .i64 (rd_T45 l0_1 x16_1).f1) := (blk_cell n5_.out 1).trans rfl) | ((with_reducible refine gate_store (t := 3) (p := 24) (v := .tmp 21) rfl ?_); clear hz0 hz1; refine put_event rfl rfl rfl n5_.out 0 #[.int .i64 (rd_T45 l0_1 x16_1).f1, .int .i64 (rd_T45 l0_1 x16_1).f1, .int .i64 (rd_T45 l0_1 x16_1).f2, .int .i64 (rd_T45 l0_1 x16_1).f3, .int .i64 (rd_T45 l0_1 x16_1).f4] (.int .i64 (rd_T45 l0_1 x16_1).f1) [.int .i64 (rd_T45 l0_1 x16_1).f1] (by first | rfl | (go_simp; done) | (go_simp; rfl)) (by first | rfl | (go_simp; done) | (go_simp; rfl)) rfl (by kernel_rfl) (by simp) (by simp [Value.oneCell']) rfl ?_; intro w24 hc hg; have p0_ := Aside0.mk (Kd.R_grown n0_.out hg (fun k hk e => hk.2 (Option.some.inj e))); have p1_ := Aside0.mk (blk_grown n1_.out hg (by simpa using n7_.out)); have p2_ := Aside0.mk (blk_grown n2_.out hg (by simpa using n8_.out)); have p3_ := Aside0.mk (blk_grown n3_.out hg (by simpa using n9_.out)); have p4_ := Aside0.mk (pw_below_grown n4_.out _ (below_size n4_.out) hg (fun k hk => by obtain rfl : gz = k := Option.some.inj hk; exact n6_.out)); clear n0_ n1_ n2_ n3_ n4_ n5_; have n0_ := p0_; have n1_ := p1_; have n2_ := p2_; have n3_ := p3_; have n4_ := p4_; have n5_ := Aside0.mk hc; clear p0_ p1_ p2_ p3_ p4_ hc hg) | ((with_reducible refine gate_store (t := 3) (p := 25) (v := .tmp 23) rfl ?_); refine put_event rfl rfl rfl n5_.out 1 #[.int .i64 (rd_T45 l0_1 x16_1).f1, .int .i64 (rd_T45 l0_1 x16_1).f0, .int .i64 (rd_T45 l0_1 x16_1).f2, .int .i64 (rd_T45 l0_1 x16_1).f3, .int .i64 (rd_T45 l0_1 x16_1).f4] (.int .i64 (rd_T45 l0_1 x16_1).f0) [.int .i64 (rd_T45 l0_1 x16_1).f0] (by first | rfl | (go_simp; done) | (go_simp; rfl)) (by first | rfl | (go_simp; done) | (go_simp; rfl)) rfl (by kernel_rfl) (by simp) (by simp [Value.oneCell']) rfl ?_; intro w25 hc hg; have p0_ := Aside0.mk (Kd.R_grown n0_.out hg (fun k hk e => hk.2 (Option.some.inj e))); have p1_ := Aside0.mk (blk_grown n1_.out hg (by simpa using n7_.out)); have p2_ := Aside0.mk (blk_grown n2_.out hg (by simpa using n8_.out)); have p3_ := Aside0.mk (blk_grown n3_.out hg (by simpa using n9_.out)); have p4_ := Aside0.mk (pw_below_grown n4_.out _ (below_size n4_.out) hg (fun k hk => by obtain rfl : gz = k := Option.some.inj hk; exact n6_.out)); clear n0_ n1_ n2_ n3_ n4_ n5_; have n0_ := p0_; have n1_ := p1_; have n2_ := p2_; have n3_ := p3_; have n4_ := p4_; have n5_ := Aside0.mk hc; clear p0_ p1_ p2_ p3_ p4_ hc hg; have hz0 : w25.cell? ⟨gz, 0, none⟩ = some (.int .i64 (rd_T45 l0_1 x16_1).f1) := (blk_cell n5_.out 0).trans rfl; have hz1 : w25.cell? ⟨gz, 1, none⟩ = some (.int .i64 (rd_T45 l0_1 x16_1).f0) := (blk_cell n5_.out 1).trans rfl; have hz2 : w25.cell? ⟨gz, 2, none⟩ = some (.int .i64 (rd_T45 l0_1 x16_1).f2) := (blk_cell n5_.out 2).trans rfl; have hz3 : w25.cell? ⟨gz, 3, none⟩ = some (.int .i64 (rd_T45 l0_1 x16_1).f3) := (blk_cell n5_.out 3).trans rfl; have hz4 : w25.cell? ⟨gz, 4, none⟩ = some (.int .i64 (rd_T45 l0_1 x16_1).f4) := (blk_cell n5_.out 4).trans rfl; have hy1 : w25.cell? ⟨gb332, 1, none⟩ = some u333001 := (blk_cell n3_.out 1).trans rfl) | ((with_reducible refine gate_builtin (b := .append) (xs := #[.tmp 27, .tmp 29]) rfl ?_); at_builtin; refine Kd.R_append k45 (w0 := w) w.heap.size rfl (.tmp 27) (.tmp 29) 36 45 (.agg #[(.int .i64 0), (.int .i64 0), (.int .i64 0), (.int .i64 0), (.int .i64 0)]) 40 rfl Try.underlying36 info45 rfl (by decide) (by omega) u333001 x333001_1 (⟨(rd_T45 l0_1 x16_1).f1, (rd_T45 l0_1 x16_1).f0, (rd_T45 l0_1 x16_1).f2, (rd_T45 l0_1 x16_1).f3, (rd_T45 l0_1 x16_1).f4⟩ : S45) [.int .i64 ((rd_T45 l0_1 x16_1).f1), .int .i64 ((rd_T45 l0_1 x16_1).f0), .int .i64 ((rd_T45 l0_1 x16_1).f2), .int .i64 ((rd_T45 l0_1 x16_1).f3), .int .i64 ((rd_T45 l0_1 x16_1).f4)] (fun _ => True) (fun _ => False) rfl (by first | (go_simp; done) | (go_simp; rfl)) ?aP (fun _ hk => hk.elim) (fun _ _ => trivial) ?aO ?aB ?aS ?aL ?_; (case aP => exact k45_mkM _ _ _ (⟨(rd_T45 l0_1 x16_1).f1, (rd_T45 l0_1 x16_1).f0, (rd_T45 l0_1 x16_1).f2, (rd_T45 l0_1 x16_1).f3, (rd_T45 l0_1 x16_1).f4⟩ : S45)); (case aB => exact n4_.out); (case aO => exact Kd.R_mono n0_.out (fun _ _ => trivial)); (case aS => exact below_size n4_.out); (case aL => have := LMc21.out; omega); intro v798 w30 ho hb hg hat; rw [← Ny335.out] at ho; have m1_ := Aside0.mk (blk_grown n1_.out hg (Kd.R_ne n0_.out n1_.out (by decide))); have m2_ := Aside0.mk (blk_grown n2_.out hg (Kd.R_ne n0_.out n2_.out (by decide))); have m3_ := Aside0.mk (blk_grown n3_.out hg (Kd.R_ne n0_.out n3_.out (by decide))); have m0_ := Aside0.mk (Kd.R_types ho m3_.out (by decide)); have m4_ := Aside0.mk hb; clear n0_ n1_ n2_ n3_ n4_ n5_ n6_ n7_ n8_ n9_ hz0 hz1 hz2 hz3 hz4 hy1 ho hb hg hat; obtain ⟨Ao31, co31, eo31⟩ := Kd.R_slice m0_.out; subst eo31) | ((with_reducible refine gate_store (t := 36) (p := 31) (v := .tmp 30) rfl ?_); refine put_event rfl rfl rfl m3_.out 1 #[.int .i64 a0_0, .slice Ao31 y335.length co31] (.slice Ao31 y335.length co31) [.slice Ao31 y335.length co31] (by first | rfl | (go_simp; done) | (go_simp; rfl)) (by first | rfl | (go_simp; done) | (go_simp; rfl)) rfl (by kernel_rfl) (by simp) (by simp [Value.oneCell']) rfl ?_; intro w31 hc hg; have k0_ := Aside0.mk (Kd.R_grown m0_.out hg (fun k hk e => hk.2 (Option.some.inj e))); have k1_ := Aside0.mk (blk_grown m1_.out hg (by simpa using NB327_332.out)); have k2_ := Aside0.mk (blk_grown m2_.out hg (by simpa using NB328_332.out)); have k3_ := Aside0.mk hc; have k4_ := Aside0.mk (pw_below_grown m4_.out _ (below_size m4_.out) hg (fun k hk => by obtain rfl : gb332 = k := Option.some.inj hk; exact GE332.out)); clear m0_ m1_ m2_ m3_ m4_ hc hg))
         go_roundg k1
         case measure => have := HK1.out; omega
         case rel => exact ⟨(wrap64 (x16_1 + 1)), (y335), (.slice Ao31 y335.length co31), (by first | rfl | (simp; done) | (simp [*]; done)), H', ⟨by have := HK1.out; omega⟩, ⟨Kd.R_mono k0_.out (fun _ _ => trivial)⟩, k1_, k2_, k3_, k4_⟩
        ·rw [if_neg c21] at H
         exact absurd H (by simp)
       ·rw [if_neg c20] at H
        exact absurd H (by simp)
      ·rw [if_neg c19] at H
       exact absurd H (by simp)
     ·rw [if_neg c18] at H
      have c18b0 : decide (x16_1 < (l0_1.length : Int)) = false := decide_eq_false c18
      clear c18
      simp only [Option.some.injEq, Prod.mk.injEq] at H
      obtain ⟨rfl, rfl⟩ := H
      have hnb33 := NB332_327.out
      have hnc33 := NB327_332.out
      have hnb34 := NB332_328.out
      have hnc34 := NB328_332.out
      have hcz35_0 : wr.cell? ⟨gb332, 0, none⟩ = some (.int .i64 a0_0) := (blk_cell BK332.out 0).trans rfl
      have hcz35_1 : wr.cell? ⟨gb332, 1, none⟩ = some (u333001) := (blk_cell BK332.out 1).trans rfl
      have hfz35_0 := blk_frozen BK332.out 0
      have hfz35_1 := blk_frozen BK332.out 1
      have hnb36 := NB328_327.out
      have hnc36 := NB327_328.out
      have hcz37_0 : wr.cell? ⟨gb328, 0, none⟩ = some (.int .i64 0) := (blk_cell BK328.out 0).trans rfl
      have hcz37_1 : wr.cell? ⟨gb328, 1, none⟩ = some (.slice none 0 0) := (blk_cell BK328.out 1).trans rfl
      have hfz37_0 := blk_frozen BK328.out 0
      have hfz37_1 := blk_frozen BK328.out 1
      obtain ⟨Ao38, co38, eo38⟩ := Kd.R_slice HO_333001.out
      subst eo38
      go_wp2
      refine bodyPost_ret (results_cell_row rfl _ _ gb328 38 #[.int .i64 a0_0, .slice Ao38 x333001_1.length co38] (0, 0) _ rfl (by (with_reducible repeat (first | refine blk_drewN ?_ _ | refine blk_drew ?_ | refine blk_alloc ?_ _)); refine blk_put (cs := #[.int .i64 a0_0, .slice none 0 0]) ?_ 1 _ rfl; (with_reducible repeat (first | refine blk_drewN ?_ _ | refine blk_drew ?_ | refine blk_alloc ?_ _)); refine blk_put (cs := #[.int .i64 0, .slice none 0 0]) ?_ 0 _ rfl; (with_reducible repeat (first | refine blk_drewN ?_ _ | refine blk_drew ?_ | refine blk_alloc ?_ _)); exact BK328.out) Try.underlying38 rfl (by kernel_rfl)) rfl ?_
      exact ⟨_, by first | rfl | (simp [errW_none, errW_some] <;> rfl) | (simp [*, errW_none, errW_some] <;> rfl), by (with_reducible repeat (first | apply Kd.R_alloc | apply Kd.R_drewN | apply Kd.R_drew)); exact Kd.R_mono (Kd.R_far (p := ⟨gb328, 1, none⟩) (Kd.R_far (p := ⟨gb328, 0, none⟩) (Kd.R_types HO_333001.out BK328.out (by decide)) (fun _ hk => hk.2) (.int .i64 a0_0)) (fun _ hk => hk.2) (.slice Ao38 x333001_1.length co38)) (fun _ hk => trivial), by repeat (first | (with_reducible first | exact HB.out | apply below_alloc | apply pw_below_drewN | apply below_drew1 | refine below_set ?_ GE327.out | refine below_set ?_ GE328.out | refine below_set ?_ GE332.out) | exact HB.out)⟩
  ·rw [if_neg c3] at H
   exact absurd H (by simp)
 ·rw [if_neg c2] at H
  exact absurd H (by simp)
end Go.Proofs.Ytmabopomecdidaa.Pr
end
section
namespace Go.Proofs.Ytmabopomecdidaa.Pr
open Go.RowKit Go.Proofs.YtmabopomecdidaaW.PrintWords Go.Proofs.YtmabopomecdidaaW.PrintLast Go.Proofs.YtmabopomecdidaaW.PrintMore
attribute [local go_sem] max2_int min2_int max_two min_two max_three min_three max_four min_four
set_option linter.unusedVariables false
set_option linter.unusedSimpArgs false
def impl_NetBack.f (k : Nat) (a0_0 : Int) (l0_1 : List (S45)) : Option (Int × (List (S45))) := (impl_NetOk.f a0_0 l0_1).bind fun t340 => (if t340 = true then ((impl_Net_back.f k a0_0 l0_1).bind fun bt341 => (some (bt341.1, bt341.2))) else (some (0, ([] : List (S45)))))
theorem impl_NetBack.mono : ∀ a0 a1 k, LeO (impl_NetBack.f k a0 a1) (impl_NetBack.f (k + 1) a0 a1) := by
 intro a0 a1 k
 unfold impl_NetBack.f
 repeat' first
   | (with_reducible exact impl_Net_back.mono _ _ _)
   | (with_reducible exact LeO.refl _)
   | (with_reducible exact LeO.none _)
   | (with_reducible refine LeO.ite ?_ ?_)
   | (with_reducible refine LeO.bind ?_ (fun _ => ?_))
   | exact impl_Net_back.mono _ _ _
   | exact LeO.none _
   | refine LeO.ite ?_ ?_
   | refine LeO.bind ?_ (fun _ => ?_)
set_option maxHeartbeats 8000000 in
set_option maxRecDepth 100000 in
theorem impl_NetBack.calls (k : Nat) (a0_0 : Int) (A0_1 : Option Addr) (c0_1 : Nat) (l0_1 : List (S45)) (r1 : Int) (r2 : List (S45)) (w : World) (hr0_1 : Kd.C k45 w A0_1 l0_1.length l0_1) (hc0_1 : l0_1.length ≤ c0_1) (h : impl_NetBack.f k a0_0 l0_1 = some (r1, r2)) :
  Calls Try.prog 28 #[.agg #[.int .i64 a0_0, .slice A0_1 l0_1.length c0_1]] w fun e w' => ∃ v1_ : Value, e = .returned (.agg #[.int .i64 r1, v1_]) ∧ Kd.R k45 45 w' w.heap.size (fun _ => True) v1_ r2 ∧ Below w.heap.size w w' := by
 have hu38 := Try.underlying38
 have HR0_1 := Aside0.mk hr0_1
 have HC0_1 := Aside0.mk hc0_1
 clear hr0_1 hc0_1
 have HB := Aside0.mk (Below.refl w.heap.size w)
 have H : ((impl_NetOk.f a0_0 l0_1).bind fun t340 => (if t340 = true then ((impl_Net_back.f k a0_0 l0_1).bind fun bt341 => (some (bt341.1, bt341.2))) else (some (0, ([] : List (S45)))))) = some (r1, r2) := h
 clear h
 replace H := Option.bind_eq_some_iff.mp H
 obtain ⟨t340, A20, H⟩ := H
 replace H : (if t340 = true then ((impl_Net_back.f k a0_0 l0_1).bind fun bt341 => (some (bt341.1, bt341.2))) else (some (0, ([] : List (S45))))) = some (r1, r2) := H
 have A2 := Aside0.mk A20
 clear A20
 by_cases c3 : t340 = true
 ·subst c3
  have H1 : ((impl_Net_back.f k a0_0 l0_1).bind fun bt341 => (some (bt341.1, bt341.2))) = some (r1, r2) := by rw [if_pos rfl] at H; exact H
  clear H
  have H := H1
  clear H1
  replace H := Option.bind_eq_some_iff.mp H
  obtain ⟨⟨t341, t342⟩, A40, H⟩ := H
  replace H : (some (t341, t342)) = some (r1, r2) := H
  have A4 := Aside0.mk A40
  clear A40
  simp only [Option.some.injEq, Prod.mk.injEq] at H
  obtain ⟨rfl, rfl⟩ := H
  go_enter Try.func28, Try.ntmps28
  go_wp2_with (first | ((with_reducible refine gate_dst (N := 1) rfl ?_); refine box_event ?hg (N := 1) ?hd (cs := #[.int .i64 a0_0, .slice A0_1 l0_1.length c0_1]) (t := 38) ?hr ?_; (case hd => rfl); (case hg => rfl); (case hr => first | (go_simp; done) | (go_simp; rfl)); intro gb338 hg w5 hbox hb; have n0_ := Aside0.mk (below_step (by repeat (first | (with_reducible first | exact HB.out | apply below_alloc | apply pw_below_drewN | apply below_drew1) | exact HB.out)) hb); have n1_ := Aside0.mk (hbox); have n2_ := Aside0.mk ((by rw [hg]; exact (below_size (by repeat (first | (with_reducible first | exact HB.out | apply below_alloc | apply pw_below_drewN | apply below_drew1) | exact HB.out))) : w.heap.size ≤ gb338)); have n3_ := Aside0.mk ((by rw [hg]; exact (below_size (by repeat (first | (with_reducible first | exact HB.out | apply below_alloc | apply pw_below_drewN | apply below_drew1) | exact HB.out))) : w.heap.size ≤ gb338)); clear HB; have HB := n0_; have BK338 := n1_; have GW338 := n2_; have GE338 := n3_; clear n0_ n1_ n2_ n3_; clear hb hbox hg) | ((with_reducible refine gate_dst (N := 2) rfl ?_); refine box_event ?hg (N := 2) ?hd (cs := #[.int .i64 0, .slice none 0 0]) (t := 38) ?hr ?_; (case hd => rfl); (case hg => rfl); (case hr => first | (go_simp; done) | (go_simp; rfl)); intro gb339 hg w6 hbox hb; have n0_ := Aside0.mk (blk_below (g := gb338) (o := .cells #[.int .i64 a0_0, .slice A0_1 l0_1.length c0_1] 38 (0, 0)) (by (with_reducible repeat (first | refine blk_drewN ?_ _ | refine blk_drew ?_ | refine blk_alloc ?_ _)); exact BK338.out) hb); have n1_ := Aside0.mk (below_step (by repeat (first | (with_reducible first | exact HB.out | apply below_alloc | apply pw_below_drewN | apply below_drew1 | refine below_set ?_ GE338.out) | exact HB.out)) hb); have n2_ := Aside0.mk (hbox); have n3_ := Aside0.mk ((by rw [hg]; exact (below_size (by repeat (first | (with_reducible first | exact HB.out | apply below_alloc | apply pw_below_drewN | apply below_drew1 | refine below_set ?_ GE338.out) | exact HB.out))) : w.heap.size ≤ gb339)); have n4_ := Aside0.mk ((by rw [hg]; exact (below_size (by repeat (first | (with_reducible first | exact HB.out | apply below_alloc | apply pw_below_drewN | apply below_drew1 | refine below_set ?_ GE338.out) | exact HB.out))) : w.heap.size ≤ gb339)); have n5_ := Aside0.mk ((by rw [hg]; exact Nat.ne_of_lt (blk_lt (g := gb338) (o := .cells #[.int .i64 a0_0, .slice A0_1 l0_1.length c0_1] 38 (0, 0)) (by (with_reducible repeat (first | refine blk_drewN ?_ _ | refine blk_drew ?_ | refine blk_alloc ?_ _)); exact BK338.out)) : gb338 ≠ gb339)); have n6_ := Aside0.mk ((by rw [hg]; exact Nat.ne_of_gt (blk_lt (g := gb338) (o := .cells #[.int .i64 a0_0, .slice A0_1 l0_1.length c0_1] 38 (0, 0)) (by (with_reducible repeat (first | refine blk_drewN ?_ _ | refine blk_drew ?_ | refine blk_alloc ?_ _)); exact BK338.out)) : gb339 ≠ gb338)); clear BK338; clear HB; have BK338 := n0_; have HB := n1_; have BK339 := n2_; have GW339 := n3_; have GE339 := n4_; have NB338_339 := n5_; have NB339_338 := n6_; clear n0_ n1_ n2_ n3_ n4_ n5_ n6_; clear hb hbox hg; have hnb7 := NB338_339.out; have hnc7 := NB339_338.out; have hcz8_0 : w6.cell? ⟨gb338, 0, none⟩ = some (.int .i64 a0_0) := (blk_cell BK338.out 0).trans rfl; have hcz8_1 : w6.cell? ⟨gb338, 1, none⟩ = some (.slice A0_1 l0_1.length c0_1) := (blk_cell BK338.out 1).trans rfl; have hfz8_0 := blk_frozen BK338.out 0; have hfz8_1 := blk_frozen BK338.out 1) | ((with_reducible refine gate_callee (f := 67) rfl ?_); refine goesL_ (some 4) rfl rfl Try.func67 (by kernel_rfl) rfl #[.agg #[.int .i64 a0_0, .slice A0_1 l0_1.length c0_1]] rfl (by (try simp only [List.map_toArray, List.map_cons, List.map_nil]); first | done | rfl | (simp only [List.length_drop, List.length_take]; rfl)) ?_; (with_reducible refine (impl_NetOk.calls a0_0 _ _ l0_1 true _ ?side1 ?side2 A2.out).mono ?_); (case side1 => repeat (first | exact (Kd.C_below HR0_1.out HB.out) | (with_reducible refine Kd.C_alloc ?_ _) | (with_reducible refine Kd.C_drewN ?_ _) | (with_reducible refine Kd.C_drew ?_))); (case side2 => exact HC0_1.out); rintro e w9 ⟨rfl, hb⟩; refine ⟨_, rfl, ?_⟩; have n0_ := Aside0.mk (blk_below (g := gb338) (o := .cells #[.int .i64 a0_0, .slice A0_1 l0_1.length c0_1] 38 (0, 0)) (by (with_reducible repeat (first | refine blk_drewN ?_ _ | refine blk_drew ?_ | refine blk_alloc ?_ _)); exact BK338.out) hb); have n1_ := Aside0.mk (blk_below (g := gb339) (o := .cells #[.int .i64 0, .slice none 0 0] 38 (0, 0)) (by (with_reducible repeat (first | refine blk_drewN ?_ _ | refine blk_drew ?_ | refine blk_alloc ?_ _)); exact BK339.out) hb); have n2_ := Aside0.mk (below_step (by repeat (first | (with_reducible first | exact HB.out | apply below_alloc | apply pw_below_drewN | apply below_drew1 | refine below_set ?_ GE338.out | refine below_set ?_ GE339.out) | exact HB.out)) hb); clear BK338; clear BK339; clear HB; have BK338 := n0_; have BK339 := n1_; have HB := n2_; clear n0_ n1_ n2_; (try clear hb); (try clear hb2); (try clear hk); (try clear hi); have hcz10_0 : w9.cell? ⟨gb338, 0, none⟩ = some (.int .i64 a0_0) := (blk_cell BK338.out 0).trans rfl; have hcz10_1 : w9.cell? ⟨gb338, 1, none⟩ = some (.slice A0_1 l0_1.length c0_1) := (blk_cell BK338.out 1).trans rfl; have hfz10_0 := blk_frozen BK338.out 0; have hfz10_1 := blk_frozen BK338.out 1) | ((with_reducible refine gate_callee (f := 71) rfl ?_); refine goesL_ (some 8) rfl rfl Try.func71 (by kernel_rfl) rfl #[.agg #[.int .i64 a0_0, .slice A0_1 l0_1.length c0_1]] rfl (by (try simp only [List.map_toArray, List.map_cons, List.map_nil]); first | done | rfl | (simp only [List.length_drop, List.length_take]; rfl)) ?_; (with_reducible refine (impl_Net_back.calls k a0_0 _ _ l0_1 t341 t342 _ ?side1 ?side2 A4.out).mono ?_); (case side1 => repeat (first | exact (Kd.C_below HR0_1.out HB.out) | (with_reducible refine Kd.C_alloc ?_ _) | (with_reducible refine Kd.C_drewN ?_ _) | (with_reducible refine Kd.C_drew ?_))); (case side2 => exact HC0_1.out); rintro e w11 ⟨v343, rfl, ho0, hb⟩; refine ⟨_, rfl, ?_⟩; have n0_ := Aside0.mk (Kd.R_lower ho0 (below_size (by repeat (first | (with_reducible first | exact HB.out | apply below_alloc | apply pw_below_drewN | apply below_drew1 | refine below_set ?_ GE338.out | refine below_set ?_ GE339.out) | exact HB.out)))); have n1_ := Aside0.mk (blk_below (g := gb338) (o := .cells #[.int .i64 a0_0, .slice A0_1 l0_1.length c0_1] 38 (0, 0)) (by (with_reducible repeat (first | refine blk_drewN ?_ _ | refine blk_drew ?_ | refine blk_alloc ?_ _)); exact BK338.out) hb); have n2_ := Aside0.mk (blk_below (g := gb339) (o := .cells #[.int .i64 0, .slice none 0 0] 38 (0, 0)) (by (with_reducible repeat (first | refine blk_drewN ?_ _ | refine blk_drew ?_ | refine blk_alloc ?_ _)); exact BK339.out) hb); have n3_ := Aside0.mk (below_step (by repeat (first | (with_reducible first | exact HB.out | apply below_alloc | apply pw_below_drewN | apply below_drew1 | refine below_set ?_ GE338.out | refine below_set ?_ GE339.out) | exact HB.out)) hb); clear BK338; clear BK339; clear HB; have HO344 := n0_; have BK338 := n1_; have BK339 := n2_; have HB := n3_; clear n0_ n1_ n2_ n3_; (try clear hb); (try clear hb2); (try clear hk); (try clear hi); (try clear ho0); have hcz12_0 : w11.cell? ⟨gb339, 0, none⟩ = some (.int .i64 0) := (blk_cell BK339.out 0).trans rfl; have hcz12_1 : w11.cell? ⟨gb339, 1, none⟩ = some (.slice none 0 0) := (blk_cell BK339.out 1).trans rfl; have hfz12_0 := blk_frozen BK339.out 0; have hfz12_1 := blk_frozen BK339.out 1; obtain ⟨Ao13, co13, eo13⟩ := Kd.R_slice HO344.out; subst eo13))
  refine bodyPost_ret (results_cell_row rfl _ _ gb339 38 #[.int .i64 t341, .slice Ao13 t342.length co13] (0, 0) _ rfl (by (with_reducible repeat (first | refine blk_drewN ?_ _ | refine blk_drew ?_ | refine blk_alloc ?_ _)); refine blk_put (cs := #[.int .i64 t341, .slice none 0 0]) ?_ 1 _ rfl; (with_reducible repeat (first | refine blk_drewN ?_ _ | refine blk_drew ?_ | refine blk_alloc ?_ _)); refine blk_put (cs := #[.int .i64 0, .slice none 0 0]) ?_ 0 _ rfl; (with_reducible repeat (first | refine blk_drewN ?_ _ | refine blk_drew ?_ | refine blk_alloc ?_ _)); exact BK339.out) Try.underlying38 rfl (by kernel_rfl)) rfl ?_
  exact ⟨_, by first | rfl | (simp [errW_none, errW_some] <;> rfl) | (simp [*, errW_none, errW_some] <;> rfl), by (with_reducible repeat (first | apply Kd.R_alloc | apply Kd.R_drewN | apply Kd.R_drew)); exact Kd.R_mono (Kd.R_far (p := ⟨gb339, 1, none⟩) (Kd.R_far (p := ⟨gb339, 0, none⟩) (Kd.R_types HO344.out BK339.out (by decide)) (fun _ hk => hk.2) (.int .i64 t341)) (fun _ hk => hk.2) (.slice Ao13 t342.length co13)) (fun _ hk => trivial), by repeat (first | (with_reducible first | exact HB.out | apply below_alloc | apply pw_below_drewN | apply below_drew1 | refine below_set ?_ GE338.out | refine below_set ?_ GE339.out) | exact HB.out)⟩
 ·replace c3 := Bool.eq_false_iff.mpr c3
  subst c3
  have H1 : (some (0, ([] : List (S45)))) = some (r1, r2) := by rw [if_neg (show ¬ (false = true) by decide)] at H; exact H
  clear H
  have H := H1
  clear H1
  simp only [Option.some.injEq, Prod.mk.injEq] at H
  obtain ⟨rfl, rfl⟩ := H
  go_enter Try.func28, Try.ntmps28
  go_wp2_with (first | ((with_reducible refine gate_dst (N := 1) rfl ?_); refine box_event ?hg (N := 1) ?hd (cs := #[.int .i64 a0_0, .slice A0_1 l0_1.length c0_1]) (t := 38) ?hr ?_; (case hd => rfl); (case hg => rfl); (case hr => first | (go_simp; done) | (go_simp; rfl)); intro gb338 hg w14 hbox hb; have n0_ := Aside0.mk (below_step (by repeat (first | (with_reducible first | exact HB.out | apply below_alloc | apply pw_below_drewN | apply below_drew1) | exact HB.out)) hb); have n1_ := Aside0.mk (hbox); have n2_ := Aside0.mk ((by rw [hg]; exact (below_size (by repeat (first | (with_reducible first | exact HB.out | apply below_alloc | apply pw_below_drewN | apply below_drew1) | exact HB.out))) : w.heap.size ≤ gb338)); have n3_ := Aside0.mk ((by rw [hg]; exact (below_size (by repeat (first | (with_reducible first | exact HB.out | apply below_alloc | apply pw_below_drewN | apply below_drew1) | exact HB.out))) : w.heap.size ≤ gb338)); clear HB; have HB := n0_; have BK338 := n1_; have GW338 := n2_; have GE338 := n3_; clear n0_ n1_ n2_ n3_; clear hb hbox hg) | ((with_reducible refine gate_dst (N := 2) rfl ?_); refine box_event ?hg (N := 2) ?hd (cs := #[.int .i64 0, .slice none 0 0]) (t := 38) ?hr ?_; (case hd => rfl); (case hg => rfl); (case hr => first | (go_simp; done) | (go_simp; rfl)); intro gb339 hg w15 hbox hb; have n0_ := Aside0.mk (blk_below (g := gb338) (o := .cells #[.int .i64 a0_0, .slice A0_1 l0_1.length c0_1] 38 (0, 0)) (by (with_reducible repeat (first | refine blk_drewN ?_ _ | refine blk_drew ?_ | refine blk_alloc ?_ _)); exact BK338.out) hb); have n1_ := Aside0.mk (below_step (by repeat (first | (with_reducible first | exact HB.out | apply below_alloc | apply pw_below_drewN | apply below_drew1 | refine below_set ?_ GE338.out) | exact HB.out)) hb); have n2_ := Aside0.mk (hbox); have n3_ := Aside0.mk ((by rw [hg]; exact (below_size (by repeat (first | (with_reducible first | exact HB.out | apply below_alloc | apply pw_below_drewN | apply below_drew1 | refine below_set ?_ GE338.out) | exact HB.out))) : w.heap.size ≤ gb339)); have n4_ := Aside0.mk ((by rw [hg]; exact (below_size (by repeat (first | (with_reducible first | exact HB.out | apply below_alloc | apply pw_below_drewN | apply below_drew1 | refine below_set ?_ GE338.out) | exact HB.out))) : w.heap.size ≤ gb339)); have n5_ := Aside0.mk ((by rw [hg]; exact Nat.ne_of_lt (blk_lt (g := gb338) (o := .cells #[.int .i64 a0_0, .slice A0_1 l0_1.length c0_1] 38 (0, 0)) (by (with_reducible repeat (first | refine blk_drewN ?_ _ | refine blk_drew ?_ | refine blk_alloc ?_ _)); exact BK338.out)) : gb338 ≠ gb339)); have n6_ := Aside0.mk ((by rw [hg]; exact Nat.ne_of_gt (blk_lt (g := gb338) (o := .cells #[.int .i64 a0_0, .slice A0_1 l0_1.length c0_1] 38 (0, 0)) (by (with_reducible repeat (first | refine blk_drewN ?_ _ | refine blk_drew ?_ | refine blk_alloc ?_ _)); exact BK338.out)) : gb339 ≠ gb338)); clear BK338; clear HB; have BK338 := n0_; have HB := n1_; have BK339 := n2_; have GW339 := n3_; have GE339 := n4_; have NB338_339 := n5_; have NB339_338 := n6_; clear n0_ n1_ n2_ n3_ n4_ n5_ n6_; clear hb hbox hg; have hnb16 := NB338_339.out; have hnc16 := NB339_338.out; have hcz17_0 : w15.cell? ⟨gb338, 0, none⟩ = some (.int .i64 a0_0) := (blk_cell BK338.out 0).trans rfl; have hcz17_1 : w15.cell? ⟨gb338, 1, none⟩ = some (.slice A0_1 l0_1.length c0_1) := (blk_cell BK338.out 1).trans rfl; have hfz17_0 := blk_frozen BK338.out 0; have hfz17_1 := blk_frozen BK338.out 1) | ((with_reducible refine gate_callee (f := 67) rfl ?_); refine goesL_ (some 4) rfl rfl Try.func67 (by kernel_rfl) rfl #[.agg #[.int .i64 a0_0, .slice A0_1 l0_1.length c0_1]] rfl (by (try simp only [List.map_toArray, List.map_cons, List.map_nil]); first | done | rfl | (simp only [List.length_drop, List.length_take]; rfl)) ?_; (with_reducible refine (impl_NetOk.calls a0_0 _ _ l0_1 false _ ?side1 ?side2 A2.out).mono ?_); (case side1 => repeat (first | exact (Kd.C_below HR0_1.out HB.out) | (with_reducible refine Kd.C_alloc ?_ _) | (with_reducible refine Kd.C_drewN ?_ _) | (with_reducible refine Kd.C_drew ?_))); (case side2 => exact HC0_1.out); rintro e w18 ⟨rfl, hb⟩; refine ⟨_, rfl, ?_⟩; have n0_ := Aside0.mk (blk_below (g := gb338) (o := .cells #[.int .i64 a0_0, .slice A0_1 l0_1.length c0_1] 38 (0, 0)) (by (with_reducible repeat (first | refine blk_drewN ?_ _ | refine blk_drew ?_ | refine blk_alloc ?_ _)); exact BK338.out) hb); have n1_ := Aside0.mk (blk_below (g := gb339) (o := .cells #[.int .i64 0, .slice none 0 0] 38 (0, 0)) (by (with_reducible repeat (first | refine blk_drewN ?_ _ | refine blk_drew ?_ | refine blk_alloc ?_ _)); exact BK339.out) hb); have n2_ := Aside0.mk (below_step (by repeat (first | (with_reducible first | exact HB.out | apply below_alloc | apply pw_below_drewN | apply below_drew1 | refine below_set ?_ GE338.out | refine below_set ?_ GE339.out) | exact HB.out)) hb); clear BK338; clear BK339; clear HB; have BK338 := n0_; have BK339 := n1_; have HB := n2_; clear n0_ n1_ n2_; (try clear hb); (try clear hb2); (try clear hk); (try clear hi); have hcz19_0 : w18.cell? ⟨gb339, 0, none⟩ = some (.int .i64 0) := (blk_cell BK339.out 0).trans rfl; have hcz19_1 : w18.cell? ⟨gb339, 1, none⟩ = some (.slice none 0 0) := (blk_cell BK339.out 1).trans rfl; have hfz19_0 := blk_frozen BK339.out 0; have hfz19_1 := blk_frozen BK339.out 1))
  refine bodyPost_ret (results_cell_row rfl _ _ gb339 38 #[.int .i64 0, .slice none 0 0] (0, 0) _ rfl (by (with_reducible repeat (first | refine blk_drewN ?_ _ | refine blk_drew ?_ | refine blk_alloc ?_ _)); refine blk_put (cs := #[.int .i64 0, .slice none 0 0]) ?_ 1 _ rfl; (with_reducible repeat (first | refine blk_drewN ?_ _ | refine blk_drew ?_ | refine blk_alloc ?_ _)); refine blk_put (cs := #[.int .i64 0, .slice none 0 0]) ?_ 0 _ rfl; (with_reducible repeat (first | refine blk_drewN ?_ _ | refine blk_drew ?_ | refine blk_alloc ?_ _)); exact BK339.out) Try.underlying38 rfl (by kernel_rfl)) rfl ?_
  exact ⟨_, by first | rfl | (simp [errW_none, errW_some] <;> rfl) | (simp [*, errW_none, errW_some] <;> rfl), by first | exact Kd.R_nil _ _ _ _ _ | exact Kd.N_nil _ _ _ _ _ | exact Kd.V_nil _ _ _ _ _ | exact Kd.Q_nil _ _ _ _ _ | exact Kd.S_nil _ _ _ _ _, by repeat (first | (with_reducible first | exact HB.out | apply below_alloc | apply pw_below_drewN | apply below_drew1 | refine below_set ?_ GE338.out | refine below_set ?_ GE339.out) | exact HB.out)⟩
end Go.Proofs.Ytmabopomecdidaa.Pr
end
section
set_option linter.unusedSimpArgs false
set_option linter.unusedVariables false
namespace Go.Proofs.Ytmabopomecdidaa.Pure
open Go.RowKit Go.Proofs.Ytmabopomecdidaa.Pr Go.Proofs.YtmabopomecdidaaW.PrintWords Go.Proofs.YtmabopomecdidaaW.PrintLast Go.Proofs.YtmabopomecdidaaW.PrintMore
def flip (a : Arc) : Arc := ⟨a.f1, a.f0, a.f2, a.f3, a.f4⟩
def back (l : List Arc) : List Arc := l.map flip
end Go.Proofs.Ytmabopomecdidaa.Pure
end
section
set_option linter.unusedSimpArgs false
set_option linter.unusedVariables false
end
section
set_option linter.unusedSimpArgs false
set_option linter.unusedVariables false
set_option linter.unusedSectionVars false
namespace Go.Proofs.Ytmabopomecdidaa.Pure
open Go.RowKit Go.Proofs.Ytmabopomecdidaa.Pr Go.Proofs.YtmabopomecdidaaW.PrintWords Go.Proofs.YtmabopomecdidaaW.PrintLast Go.Proofs.YtmabopomecdidaaW.PrintMore
theorem lst_zero (N : Nat) (c : Int) : List.replicate N c = lst N (fun _ => c) := by
 apply List.ext_getElem (by simp [lst])
 intro i h1 h2
 simp [lst]
theorem good_arcs {n : Int} {l : List Arc} (hg : NetGood n l) : ∀ a ∈ l, (0 ≤ a.f0 ∧ a.f0 < n) ∧ (0 ≤ a.f1 ∧ a.f1 < n) ∧ a.f0 ≠ a.f1 ∧ (0 ≤ a.f2 ∧ a.f2 ≤ 99) ∧ (0 ≤ a.f3 ∧ a.f3 ≤ 99) ∧ (0 ≤ a.f4 ∧ a.f4 ≤ 9) := by
 intro a ha
 obtain ⟨i, hi, e⟩ := List.getElem_of_mem ha
 have := hg.ok i hi
 rw [arc_get hi, e] at this
 exact this
section
variable {N : Nat} {l : List Arc} (hg : NetGood N l) {out : List Int} (ho : Ord l N out) (hN : out.length = N)
include hg ho hN
theorem runA_nn {v : Nat} {F : Nat → Int} {B : Int} (h0 : ∀ x, 0 ≤ F x) (hB : ∀ x, F x ≤ B) (hv : F v + 99 ≤ B) : (∀ x, 0 ≤ runA F v l x) ∧ ∀ x, runA F v l x ≤ B := by
 have h := runA_ok v B l F (fun a ha => by have := good_arcs hg a ha; exact ⟨this.2.1.1, this.2.2.1, this.2.2.2.1.2⟩) hB hv
 exact ⟨fun x => Int.le_trans (h0 x) (h.lo x), h.hi⟩
theorem sLong0 : ∀ (m j : Nat) (F : Nat → Int) (best : Int), out.length - j = m → j ≤ out.length → (∀ x, 0 ≤ F x) → (∀ x, F x ≤ 99 * (j : Int)) →
  Ev (fun k => spec_RingLong.l0 k out (lst N F) best (j : Int) N l) (bestRun l best F (out.drop j)) := by
 have h8 := hg.n8
 intro m
 induction m with
 | zero =>
  intro j F best hd hj h0 hF
  refine Ev.go ?_ (fun k => by rw [spec_RingLong.l0])
  rw [List.drop_of_length_le (by omega)]
  exact Ev.neg (by omega) (Ev.now _)
 | succ m ih =>
  intro j F best hd hj h0 hF
  have hlt : j < out.length := by omega
  have hnode := ho.node _ (List.getElem_mem hlt)
  obtain ⟨v, hv⟩ : ∃ v : Nat, out[j] = (v : Int) := ⟨out[j].toNat, by omega⟩
  have hb : ∀ x, F x ≤ 99 * ((j + 1 : Nat) : Int) := fun x => by have := hF x; omega
  have hbv : F v + 99 ≤ 99 * ((j + 1 : Nat) : Int) := by have := hF v; omega
  have hn := runA_nn hg ho hN h0 hb hbv
  refine Ev.go ?_ (fun k => by rw [spec_RingLong.l0])
  refine Ev.pos (by omega) ?_
  rw [drop_cons hlt, hv]
  have h := sLong1 hg out best j v hlt (by omega) (by rw [nth_get hlt, hv]) (by omega) (99 * ((j + 1 : Nat) : Int)) (by omega) (R := bestRun l best F ((v : Int) :: out.drop (j + 1))) l.length 0 F rfl (Nat.zero_le _) h0 hb hbv
  rw [List.drop_zero] at h
  refine h ?_
  exact ih (j + 1) _ _ (by omega) (by omega) hn.1 hn.2
theorem iLong0 : ∀ (m j : Nat) (F : Nat → Int), out.length - j = m → j ≤ out.length → (∀ x, 0 ≤ F x) → (∀ x, F x ≤ 99 * (j : Int)) →
  Ev (fun k => impl_RingLong.l0 k out (lst N F) (out.length : Int) (j : Int) N l) (mxI (lst N (runO l F (out.drop j)))) := by
 have h8 := hg.n8
 have h1 := hg.n1
 intro m
 induction m with
 | zero =>
  intro j F hd hj h0 hF
  refine Ev.go ?_ (fun k => by rw [impl_RingLong.l0])
  rw [List.drop_of_length_le (by omega)]
  have hl := lst_len N F
  refine Ev.neg (by omega) (Ev.bind0 (show slices_Max_int_int.f (lst N F) = some (mxI (lst N F)) by unfold slices_Max_int_int.f; rw [if_neg (by omega)]) (Ev.now _))
 | succ m ih =>
  intro j F hd hj h0 hF
  have hlt : j < out.length := by omega
  have hnode := ho.node _ (List.getElem_mem hlt)
  obtain ⟨v, hv⟩ : ∃ v : Nat, out[j] = (v : Int) := ⟨out[j].toNat, by omega⟩
  have hb : ∀ x, F x ≤ 99 * ((j + 1 : Nat) : Int) := fun x => by have := hF x; omega
  have hbv : F v + 99 ≤ 99 * ((j + 1 : Nat) : Int) := by have := hF v; omega
  have hn := runA_nn hg ho hN h0 hb hbv
  refine Ev.go ?_ (fun k => by rw [impl_RingLong.l0])
  refine Ev.pos (by omega) (Ev.pos (by omega) (Ev.pos (by omega) ?_))
  rw [rdg j, nth_get hlt, drop_cons hlt, hv]
  have h := iLong1 hg out j v hlt (by omega) (by omega) (99 * ((j + 1 : Nat) : Int)) (by omega) (R := mxI (lst N (runO l F ((v : Int) :: out.drop (j + 1))))) l.length 0 F rfl (Nat.zero_le _) h0 hb hbv
  rw [List.drop_zero] at h
  refine h ?_
  exact ih (j + 1) _ (by omega) (by omega) hn.1 hn.2
theorem long_nn : ∀ (m j : Nat) (F : Nat → Int), out.length - j = m → j ≤ out.length → (∀ x, 0 ≤ F x) → (∀ x, F x ≤ 99 * (j : Int)) → (∀ x, 0 ≤ runO l F (out.drop j) x) ∧ ∀ x, runO l F (out.drop j) x ≤ 99 * (out.length : Int) := by
 intro m
 induction m with
 | zero =>
  intro j F hd hj h0 hF
  rw [List.drop_of_length_le (by omega)]
  exact ⟨h0, fun x => by have := hF x; show F x ≤ _; omega⟩
 | succ m ih =>
  intro j F hd hj h0 hF
  have hlt : j < out.length := by omega
  have hnode := ho.node _ (List.getElem_mem hlt)
  obtain ⟨v, hv⟩ : ∃ v : Nat, out[j] = (v : Int) := ⟨out[j].toNat, by omega⟩
  have hb : ∀ x, F x ≤ 99 * ((j + 1 : Nat) : Int) := fun x => by have := hF x; omega
  have hbv : F v + 99 ≤ 99 * ((j + 1 : Nat) : Int) := by have := hF v; omega
  have hn := runA_nn hg ho hN h0 hb hbv
  rw [drop_cons hlt, hv]
  exact ih (j + 1) _ (by omega) (by omega) hn.1 hn.2
end
def longV (n : Int) (l : List Arc) : Int := if (orderV n l).2 = true then mxI (lst n.toNat (runO l (fun _ => 0) (orderV n l).1)) else -1
theorem orderV_good {n : Int} {l : List Arc} (h : (orderV n l).2 = true) : ∃ N : Nat, n = N ∧ NetGood N l ∧ Ord l N (orderV n l).1 ∧ (orderV n l).1.length = N := by
 unfold orderV at h ⊢
 cases hk : netOkB n l with
 | false => rw [hk] at h; simp at h
 | true =>
  have hg := (netOkB_iff n l).1 hk
  have h1 := hg.n1
  rw [hk] at h
  rw [if_pos rfl] at h ⊢
  obtain ⟨N, rfl⟩ := Int.eq_ofNat_of_zero_le (show 0 ≤ n by omega)
  rw [Int.toNat_natCast] at h ⊢
  have := ordF_good l N N [] (Ord.nil _ _) (by simp) h
  exact ⟨N, rfl, hg, this⟩
theorem specLong_ev (n : Int) (l : List Arc) (hm : l.length ≤ maxLen) : Ev (fun k => spec_RingLong.f k n l) (longV n l) := by
 unfold spec_RingLong.f
 refine Ev.bind (specRing_ev n l hm) ?_
 unfold longV
 cases h : (orderV n l).2 with
 | false => exact Ev.neg (by simp) (Ev.is (by simp))
 | true =>
  obtain ⟨N, rfl, hg, ho, hN⟩ := orderV_good h
  have h8 := hg.n8
  have h1 := hg.n1
  rw [if_pos rfl, Int.toNat_natCast, lst_zero]
  refine Ev.pos rfl (Ev.pos (by omega) (Ev.pos (by omega) ?_))
  have e := sLong0 hg ho hN _ 0 (fun _ => 0) 0 rfl (Nat.zero_le _) (fun _ => Int.le_refl _) (fun _ => by simp)
  rw [List.drop_zero] at e
  have hnn := long_nn hg ho hN _ 0 (fun _ => 0) rfl (Nat.zero_le _) (fun _ => Int.le_refl _) (fun _ => by simp)
  rw [List.drop_zero] at hnn
  have e2 := bestRun_top l (orderV N l).1 0 (fun _ => 0) (fun v hv => (ho.node v hv).1) (ho.pw (fun a ha => (good_arcs hg a ha).2.1.1))
  rw [e2, top_mxI ho hN (by omega) _ hnn.1] at e
  exact e
theorem implLong_ev (n : Int) (l : List Arc) : Ev (fun k => impl_RingLong.f k n l) (longV n l) := by
 unfold impl_RingLong.f
 refine Ev.bind0 (implRing n l) ?_
 unfold longV
 cases h : (orderV n l).2 with
 | false => exact Ev.neg (by simp) (Ev.is (by simp))
 | true =>
  obtain ⟨N, rfl, hg, ho, hN⟩ := orderV_good h
  have h8 := hg.n8
  have h1 := hg.n1
  rw [if_pos rfl, Int.toNat_natCast, lst_zero]
  refine Ev.pos rfl (Ev.pos (by omega) (Ev.pos (by omega) ?_))
  have e := iLong0 hg ho hN _ 0 (fun _ => 0) rfl (Nat.zero_le _) (fun _ => Int.le_refl _) (fun _ => by simp)
  rw [List.drop_zero] at e
  exact e
end Go.Proofs.Ytmabopomecdidaa.Pure
end
section
set_option linter.unusedSimpArgs false
set_option linter.unusedVariables false
namespace Go.Proofs.Ytmabopomecdidaa.Pure
open Go.RowKit Go.Proofs.Ytmabopomecdidaa.Pr Go.Proofs.YtmabopomecdidaaW.PrintWords Go.Proofs.YtmabopomecdidaaW.PrintLast Go.Proofs.YtmabopomecdidaaW.PrintMore
theorem FnExactRingLong : laws_FnExactRingLong.Asked := by
 intro n l hn hl
 refine Ev.rounds ?_
 unfold laws_FnExactRingLong.f
 refine Ev.bind0 (szNet_eq n l 1048576 (by omega) (by omega) hl.1) ?_
 by_cases hs : (l.length : Int) ≤ 1048576
 ·rw [if_neg (by omega)]
  have ht := toNet_ev n l (by omega)
  have hm : (l.map toA).length ≤ maxLen := by simpa using hl.1
  refine Ev.neg (by omega) (Ev.bind ht (Ev.bind (specLong_ev n _ hm) (Ev.bind ht (Ev.bind (implLong_ev n _) (Ev.pos rfl (Ev.bind ht (Ev.bind (eqNet_ev n _ hm) (Ev.pos rfl (Ev.now _)))))))))
 ·rw [if_pos (by omega)]
  exact Ev.pos (by omega) (Ev.now _)
end Go.Proofs.Ytmabopomecdidaa.Pure
end
section
namespace Go.Proofs.Ytmabopomecdidaa.fnExactRingLong
open Go.ChangeShapes Go.WideShapes Go.ChangeAt Go.RowKit Go.Proofs.YtmabopomecdidaaW.PrintWords Go.Proofs.Ytmabopomecdidaa.Pr
open Go.ChangeMaps (open_string shut_string)
set_option linter.unusedVariables false
set_option linter.unusedSimpArgs false
theorem own : ownKnob Try.prog.godebug = none := by kernel_rfl
theorem laidOut : laidOutB Try.prog = true := by kernel_rfl
instance inh117 : Inhabited S117 := ⟨z117⟩
theorem opens0 : Opens Try.prog (Kd.pair (Kd.int .i64) (Kd.slice 117 k117)) 55 (fun x => I64 x.1 ∧ (fun l => l.length ≤ maxLen ∧ ∀ x ∈ l, (fun b : S117 => (fun x => I64 x.1 ∧ (fun x => I64 x.1 ∧ (fun x => I64 x.1 ∧ (fun x => I64 x.1 ∧ I64 x.2) x.2) x.2) x.2) (b.f0, b.f1, b.f2, b.f3, b.f4)) x) x.2) := (opens_struct (P := Try.prog) Try.underlying55 (opensF_cons (P := Try.prog) (by kernel_rfl) (opens_i64 (P := Try.prog) Try.underlying3) (opensF_last (P := Try.prog) (by kernel_rfl) (by kernel_rfl) (opens_slice (P := Try.prog) Try.underlying53 (by kernel_rfl) (opens_iso (P := Try.prog) (fun x : S117 => (x.f0, x.f1, x.f2, x.f3, x.f4)) (fun x => (⟨x.1, x.2.1, x.2.2.1, x.2.2.2.1, x.2.2.2.2⟩ : S117)) (fun _ => rfl) (opens_struct (P := Try.prog) Try.underlying117 (opensF_cons (P := Try.prog) (by kernel_rfl) (opens_i64 (P := Try.prog) Try.underlying3) (opensF_cons (P := Try.prog) (by kernel_rfl) (opens_i64 (P := Try.prog) Try.underlying3) (opensF_cons (P := Try.prog) (by kernel_rfl) (opens_i64 (P := Try.prog) Try.underlying3) (opensF_cons (P := Try.prog) (by kernel_rfl) (opens_i64 (P := Try.prog) Try.underlying3) (opensF_last (P := Try.prog) (by kernel_rfl) (by kernel_rfl) (opens_i64 (P := Try.prog) Try.underlying3))))))))))))
set_option maxRecDepth 100000 in
set_option maxHeartbeats 2000000 in
theorem lifted (os : Os) (started : os.Started) (H : Type) (enc : TypeId × Value → H) :
  ReturnsInHanded {} Try.checked os 7 .any (Rows.fnExactRingLongSpec.pre6 enc Try.prog Try.f7 Rows.fnExactRingLongRow.domain false) (Rows.fnExactRingLongSpec.post enc Try.prog Try.f7 false true false false) := by
 refine returnsInHanded_of_change_sized (C := Try.checked) own started (by kernel_rfl) Try.func7
  (ChangeSpec.witness6 (enc := enc) (C := Try.checked) false ⟨#[], #[(.agg #[(.int .i64 0), (.slice none 0 0)])], []⟩ 8 (by kernel_rfl) (by kernel_rfl) (by kernel_rfl) (by kernel_rfl)) ?_
 intro W base args ds gs before hval0 hW hcnd hsz0 _
 have hval : ∀ (j : Nat) t v, Try.f7.params[j]? = some t → args[j]? = some v → Value.okWide Try.prog W .any base t v := hval0
 have hW' := hW
 obtain ⟨p, q, hA0, hV, rfl, hfz, hnd⟩ := hW
 have hA : DataW.TrodAll enc Try.prog W 0 (fun _ => true) true Try.f7.params.toList args.toList ds p := hA0
 rw [Try.params7] at hA hval
 obtain ⟨v0, vs0, d0, ds0, p0, q0, hargs, rfl, rfl, h0, r0⟩ := trodAll_cons hA
 obtain ⟨rfl, rfl, rfl⟩ := trodAll_nil r0
 obtain rfl : args = #[v0] := by cases args; simp_all
 obtain ⟨rfl, rfl⟩ := trodVars_none hV
 have k0 := h0
 have lt0 : ∀ x ∈ p0, x.block < W.heap.size := by obtain ⟨m, hm⟩ := k0; exact DataW.trod_lt m _ _ _ hm
 obtain ⟨cs0, rfl, hsz0⟩ := okWide_struct Try.underlying55 (hval 0 55 v0 rfl rfl)
 obtain ⟨fuel0, hf0⟩ := h0
 obtain ⟨x0, hK0, w0⟩ := opens0 hf0
 obtain ⟨u0_0, v0_0, e0_0, ha0_0, hb0_0⟩ := hK0
 have e0_1 : u0_0 = [.int .i64 x0.1] := ha0_0
 obtain ⟨A0_2, c0_2, e0_2, hc0_2, hr0_2⟩ := hb0_0
 have z0 : cs0 = #[.int .i64 x0.1, .slice A0_2 x0.2.length c0_2] := by
  apply Array.toList_inj.1
  have ee : (Value.agg cs0).cells.toList = cs0.toList := rfl
  rw [← ee]
  rw [e0_0]
  subst e0_1
  subst e0_2
  rfl
 subst z0
 clear e0_2 e0_1 e0_0
 obtain ⟨k, hh⟩ := Pure.FnExactRingLong (x0.1) x0.2 w0.1 w0.2
 refine (laws_FnExactRingLong.calls k (x0.1) A0_2 c0_2 x0.2 true W hr0_2 hc0_2 hh).mono fun e W' ⟨he, bel0⟩ => ?_
 have bel : Below W.heap.size W W' := bel0
 subst he
 exact ⟨_, rfl, _, _, _, [], _, [], hW', trodAll_mk1 (shut_bool Try.underlying4 _), (trodAll_cons_mk (Below.trod laidOut (by kernel_rfl) (of_decide_eq_true (by kernel_rfl)) k0 bel lt0) trodAll_mk0), rfl, bel.frame _, fun h => by cases h⟩
theorem over : Rows.fnExactRingLongRow.holds Try.pinned (OpenSpec.ofChange Rows.fnExactRingLongSpec) :=
 OpenClaim.holds_of_wide 7 Try.f7 rfl rfl rfl rfl rfl rfl rfl ⟨rfl, rfl, rfl, rfl, rfl⟩ rfl rfl rfl rfl rfl (by kernel_rfl) Try.func7 (by kernel_rfl)
  (of_decide_eq_true (by kernel_rfl)) (by unfold Func.isWrapper; first | (rw [if_pos (by decide +kernel)]; kernel_rfl) | (rw [if_neg (by decide +kernel)]; exact ⟨rfl, rfl⟩))
  (fun os started H enc _ => lifted os started H enc)
theorem proved : Rows.FnExactRingLongSaid := over
#print axioms proved
end Go.Proofs.Ytmabopomecdidaa.fnExactRingLong
namespace Go.Proofs.Ytmabopomecdidaa
theorem fnExactRingLong_holds : Rows.FnExactRingLongSaid := fnExactRingLong.proved
end Go.Proofs.Ytmabopomecdidaa
end
