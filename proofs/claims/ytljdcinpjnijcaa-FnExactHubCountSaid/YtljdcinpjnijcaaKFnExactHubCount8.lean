/- For the statement FnExactHubCount of this seat: it is proved here, with no further conditions (part 9 of its texts: words, walks of the functions, the plain law, the row). -/
import Derived.Test.YtljdcinpjnijcaaRows
import Derived.WalkKit
import Derived.ProofKit
import Derived.OpenShut
import Derived.ShutString
import Derived.ChangeOld
import Derived.Below
import Derived.SizedLaws
import Derived.WideShapes
import Derived.Test.YtljdcinpjnijcaaKFnExactHubCount7
section
set_option linter.unusedSimpArgs false
set_option linter.unusedVariables false
set_option linter.unusedSectionVars false
namespace Go.Proofs.Ytljdcinpjnijcaa.Pure
open Go.RowKit Go.Proofs.Ytljdcinpjnijcaa.Pr Go.Proofs.YtljdcinpjnijcaaW.PrintWords Go.Proofs.YtljdcinpjnijcaaW.PrintLast Go.Proofs.YtljdcinpjnijcaaW.PrintMore
open Go.Proofs.Ytljdcinpjnijcaa.Sp (G Wk Opt lts put relax sweep rounds start Dbl)
def gr (N : Nat) (l : List Arc) : G := ⟨N, l.length, fun i => (arc l i).f0.toNat, fun i => (arc l i).f1.toNat, fun i => (arc l i).f2, fun _ => true⟩
def grE (N : Nat) (l : List Arc) : G := { gr N l with w := fun i => 1000 * (arc l i).f2 + 1 }
def grS (N : Nat) (l : List Arc) (D : Nat → Option Int) : G := { gr N l with w := fun _ => 1, use := fun i => match D (arc l i).f1.toNat with | none => false | some x => decide (D (arc l i).f0.toNat = some ((arc l i).f2 + x)) }
section
variable {N : Nat} {l : List Arc} (hg : NetGood N l)
include hg
theorem gr_ok : (gr N l).Ok := ⟨fun i hi => by have := hg.ok i hi; show (arc l i).f0.toNat < N; omega, fun i hi => by have := hg.ok i hi; show (arc l i).f1.toNat < N; omega, fun i hi => by have := hg.ok i hi; show 0 ≤ (arc l i).f2; omega⟩
theorem grE_ok : (grE N l).Ok := ⟨fun i hi => by have := hg.ok i hi; show (arc l i).f0.toNat < N; omega, fun i hi => by have := hg.ok i hi; show (arc l i).f1.toNat < N; omega, fun i hi => by have := hg.ok i hi; show 0 ≤ 1000 * (arc l i).f2 + 1; omega⟩
theorem grS_ok (D : Nat → Option Int) : (grS N l D).Ok := ⟨fun i hi => by have := hg.ok i hi; show (arc l i).f0.toNat < N; omega, fun i hi => by have := hg.ok i hi; show (arc l i).f1.toNat < N; omega, fun i hi => by show (0 : Int) ≤ 1; omega⟩
end
theorem dbl (N : Nat) (l : List Arc) (D : Nat → Option Int) : Dbl (gr N l) (grE N l) (grS N l D) D := by
 refine ⟨rfl, rfl, rfl, rfl, rfl, fun i _ => rfl, rfl, rfl, rfl, rfl, fun i _ => rfl, fun i _ => ?_⟩
 show (match D (arc l i).f1.toNat with | none => false | some x => decide (D (arc l i).f0.toNat = some ((arc l i).f2 + x))) = true ↔ _
 cases e : D (arc l i).f1.toNat with
 | none =>
  refine ⟨fun h => (by cases h), fun ⟨_, x, h, _⟩ => ?_⟩
  have h : D (arc l i).f1.toNat = some x := h
  rw [e] at h; cases h
 | some x =>
  dsimp only
  rw [decide_eq_true_iff]
  refine ⟨fun h => ⟨rfl, x, e, h⟩, fun ⟨_, y, h, h2⟩ => ?_⟩
  have h : D (arc l i).f1.toNat = some y := h
  rw [e] at h
  obtain rfl := Option.some.inj h
  exact h2
def dst (N : Nat) (l : List Arc) (t : Nat) : Nat → Option Int := rounds (gr N l) t N
def stp (N : Nat) (l : List Arc) (t : Nat) : Nat → Option Int := rounds (grS N l (dst N l t)) t N
section
variable {N : Nat} {l : List Arc} (hg : NetGood N l) {t : Nat} (ht : t < N)
include hg ht
theorem dst_opt : Opt (gr N l) t (dst N l t) := Sp.rounds_opt (gr_ok hg) ht (by show N ≤ N + 1; omega)
theorem stp_opt : Opt (grS N l (dst N l t)) t (stp N l t) := Sp.rounds_opt (grS_ok hg _) ht (by show N ≤ N + 1; omega)
theorem stp_some {v : Nat} (hv : v < N) {d : Int} (hd : dst N l t v = some d) : ∃ k : Nat, stp N l t v = some (k : Int) ∧ k < N := by
 obtain ⟨k, h1, h2, _⟩ := (dbl N l (dst N l t)).some (dst_opt hg ht) (stp_opt hg ht) ht (gr_ok hg) hv hd
 exact ⟨k, h1, h2⟩
theorem tow_both {v : Nat} (hv : v < N) : rounds (grE N l) t N v = Sp.both (dst N l t) (stp N l t) v := by
 have h8 := hg.n8
 have h1 := Sp.rounds_opt (g := grE N l) (t := t) (r := N) (grE_ok hg) ht (by show N ≤ N + 1; omega)
 have h2 := (dbl N l (dst N l t)).opt (dst_opt hg ht) (stp_opt hg ht) ht (gr_ok hg) (by show N ≤ 1000; omega)
 exact h1.uniq h2 v hv
end
abbrev Msr := S104
def ent : Option Int → Msr
 | none => ⟨99999, 0⟩
 | some x => ⟨x / 1000, x % 1000⟩
def far : Option Int → Int
 | none => 99999
 | some x => x
def lstM (N : Nat) (F : Nat → Msr) : List Msr := (List.range N).map F
theorem lstM_len (N : Nat) (F : Nat → Msr) : (lstM N F).length = N := by simp [lstM]
theorem lstM_rd {N v : Nat} (F : Nat → Msr) (h : v < N) : rd_T104 (lstM N F) (v : Int) = F v := by
 simp [rd_T104, lstM, h]
theorem lstM_congr {N : Nat} {F H : Nat → Msr} (h : ∀ v, v < N → F v = H v) : lstM N F = lstM N H := by
 unfold lstM
 exact List.map_congr_left (fun v hv => h v (List.mem_range.1 hv))
theorem lstM_set {N a : Nat} (L : Nat → Option Int) (x : Int) : (lstM N (fun v => ent (L v))).set a (ent (some x)) = lstM N (fun v => ent (put L a x v)) := by
 apply List.ext_getElem (by simp [lstM])
 intro i h1 h2
 simp only [List.getElem_set]
 by_cases e : a = i
 case pos => subst e; simp [lstM, put]
 simp [lstM, put, e, show ¬ i = a from fun h => e h.symm]
theorem less_eq (a b c d : Int) : impl_measure_less.f a b c d = some (decide (a < c ∨ a = c ∧ b < d)) := by
 unfold impl_measure_less.f
 by_cases h : a < c
 case pos => rw [if_pos h, decide_eq_true (.inl h)]
 rw [if_neg h]
 by_cases h2 : a = c
 case neg => rw [if_neg h2, decide_eq_false (fun h3 => h3.elim h (fun h4 => h2 h4.1))]
 rw [if_pos h2]
 congr 1
 simp only [decide_eq_decide]
 exact ⟨fun h3 => .inr ⟨h2, h3⟩, fun h3 => h3.elim (fun h4 => absurd h4 h) (fun h4 => h4.2)⟩
def Bd (s : Nat) (L : Nat → Option Int) : Prop := ∀ v x, L v = some x → 0 ≤ x ∧ x / 1000 ≤ 99 * (s : Int) ∧ x % 1000 ≤ (s : Int)
theorem Bd.relax {N : Nat} {l : List Arc} (hg : NetGood N l) {s : Nat} {L : Nat → Option Int} (h : Bd s L) (hs : s < 900) {i : Nat} (hi : i < l.length) : Bd (s + 1) (relax (grE N l) L i) := by
 obtain ⟨_, _, _, ⟨a1, a2⟩, _⟩ := hg.ok i hi
 intro v x hx
 rcases Sp.relax_cases (grE N l) L i with ⟨e, _⟩ | ⟨_, y, hy, hl, e⟩
 ·rw [e] at hx; have := h v x hx; omega
 ·rw [e] at hx
  by_cases hv : v = (grE N l).fr i
  case neg => rw [Sp.put_far _ _ hv] at hx; have := h v x hx; omega
  subst hv
  rw [Sp.put_same] at hx
  have hx : some (y + (1000 * (arc l i).f2 + 1)) = some x := hx
  obtain rfl := Option.some.inj hx
  have := h _ _ hy
  omega
theorem Bd.sweep {N : Nat} {l : List Arc} (hg : NetGood N l) {s : Nat} {L : Nat → Option Int} (h : Bd s L) : ∀ i, i ≤ l.length → s + i ≤ 900 → Bd (s + i) (sweep (grE N l) L i) := by
 intro i
 induction i with
 | zero => exact fun _ _ => h
 | succ i ih => exact fun hi hs => (ih (by omega) (by omega)).relax hg (by omega) (by omega)
theorem Bd.mono {s r : Nat} {L : Nat → Option Int} (h : Bd s L) (hs : s ≤ r) : Bd r L := fun v x hx => by have := h v x hx; omega
theorem Bd.rounds {N : Nat} {l : List Arc} (hg : NetGood N l) (t : Nat) : ∀ r, r ≤ 9 → Bd (16 * r) (rounds (grE N l) t r) := by
 intro r
 induction r with
 | zero =>
  intro _ v x hx
  unfold Sp.rounds Sp.start at hx
  split at hx
  ·obtain rfl := Option.some.inj hx; omega
  ·cases hx
 | succ r ih =>
  intro hr
  have := hg.len
  exact ((ih (by omega)).sweep hg l.length (Nat.le_refl _) (by omega)).mono (by omega)
def hit (g : G) (L : Nat → Option Int) (i : Nat) : Bool := match L (g.tw i) with
 | none => false
 | some x => lts (x + g.w i) (L (g.fr i))
def fl (g : G) (L : Nat → Option Int) : Nat → Bool
 | 0 => false
 | i + 1 => fl g L i || hit g (sweep g L i) i
theorem relax_hit {g : G} {L : Nat → Option Int} {i : Nat} (h : hit g L i = false) : relax g L i = L := by
 unfold hit at h
 unfold Sp.relax
 split
 ·cases e : L (g.tw i) with
  | none => rfl
  | some x => rw [e] at h; dsimp only at h ⊢; rw [h]; rfl
 ·rfl
theorem fl_none {g : G} {L : Nat → Option Int} : ∀ i, fl g L i = false → sweep g L i = L
 | 0, _ => rfl
 | i + 1, h => by
  have h : (fl g L i || hit g (sweep g L i) i) = false := h
  rw [Bool.or_eq_false_iff] at h
  show relax g (sweep g L i) i = L
  rw [relax_hit h.2, fl_none i h.1]
theorem fl_same {g : G} (hu : ∀ i, g.use i = true) {L : Nat → Option Int} (h : ∀ v, sweep g L g.m v = L v) : ∀ i, i ≤ g.m → fl g L i = false
 | 0, _ => rfl
 | i + 1, hi => by
  show (fl g L i || hit g (sweep g L i) i) = false
  rw [fl_same hu h i (by omega), Bool.false_or]
  have e1 : sweep g L i = L := funext (Sp.sweep_same h (by omega))
  have e2 : relax g L i = L := by
   have : sweep g L (i + 1) = L := funext (Sp.sweep_same h hi)
   have e3 : sweep g L (i + 1) = relax g (sweep g L i) i := rfl
   rw [e3, e1] at this
   exact this
  rw [e1]
  unfold hit
  unfold Sp.relax at e2
  rw [if_pos (hu i)] at e2
  cases e : L (g.tw i) with
  | none => rfl
  | some x =>
   rw [e] at e2
   dsimp only at e2 ⊢
   cases hl : lts (x + g.w i) (L (g.fr i)) with
   | false => rfl
   | true =>
    rw [if_pos hl] at e2
    have := congrFun e2 (g.fr i)
    rw [Sp.put_same] at this
    rw [← this] at hl
    simp [Sp.lts] at hl
section
variable {N : Nat} {l : List Arc} (hg : NetGood N l)
include hg
theorem tow_l1 (L : Nat → Option Int) {s : Nat} (hs : s ≤ 700) (hL : Bd s L) {R : List Msr} : ∀ (m i : Nat), l.length - i = m → i ≤ l.length →
  Ev (fun k => impl_Net_toward.l0 k (lstM N (fun v => ent (sweep (grE N l) L l.length v))) (fl (grE N l) L l.length) N l) R →
  Ev (fun k => impl_Net_toward.l1 k (lstM N (fun v => ent (sweep (grE N l) L i v))) (fl (grE N l) L i) l (l.length : Int) (i : Int) N l) R := by
 have h16 := hg.len
 intro m
 induction m with
 | zero =>
  intro i hd hi h
  have e : i = l.length := by omega
  subst e
  refine Ev.go ?_ (fun k => by rw [impl_Net_toward.l1])
  exact Ev.neg (by omega) h
 | succ m ih =>
  intro i hd hi h
  have hlt : i < l.length := by omega
  have hn := ih (i + 1) (by omega) (by omega) h
  clear ih h
  have hb := hL.sweep hg i hi (by omega)
  obtain ⟨⟨a1, a2⟩, ⟨a3, a4⟩, a5, ⟨a6, a7⟩, _⟩ := hg.ok i hlt
  have ef : (grE N l).fr i = (arc l i).f0.toNat := rfl
  have et : (grE N l).tw i = (arc l i).f1.toNat := rfl
  have ew : (grE N l).w i = 1000 * (arc l i).f2 + 1 := rfl
  obtain ⟨f, hf⟩ := Int.eq_ofNat_of_zero_le a1
  obtain ⟨t, ht⟩ := Int.eq_ofNat_of_zero_le a3
  rw [hf, Int.toNat_natCast] at ef
  rw [ht, Int.toNat_natCast] at et
  have hfN : f < N := by omega
  have htN : t < N := by omega
  have hsw : sweep (grE N l) L (i + 1) = relax (grE N l) (sweep (grE N l) L i) i := rfl
  have hfl : fl (grE N l) L (i + 1) = (fl (grE N l) L i || hit (grE N l) (sweep (grE N l) L i) i) := rfl
  rw [hsw, hfl] at hn
  clear hsw hfl
  generalize sweep (grE N l) L i = M at hn hb
  generalize fl (grE N l) L i = b at hn
  refine Ev.go ?_ (fun k => by rw [impl_Net_toward.l1])
  rw [rda, up1 hlt (by simp only [maxLen]; omega), hf, ht, lstM_rd _ htN, lstM_rd _ hfN, lstM_len]
  refine Ev.pos (by omega) (Ev.pos (by omega) (Ev.pos (by omega) (Ev.pos (by omega) (Ev.pos (by omega) ?_))))
  cases et2 : M t with
  | none =>
   have hh : hit (grE N l) M i = false := by unfold hit; rw [et, et2]
   rw [hh, relax_hit hh, Bool.or_false] at hn
   exact Ev.pos rfl hn
  | some x =>
   have hx := hb t x et2
   have hq : 0 ≤ x / 1000 := by omega
   have hr : 0 ≤ x % 1000 := by omega
   have w1 : wrap64 (x / 1000 + (arc l i).f2) = x / 1000 + (arc l i).f2 := w64 (by omega) (by omega)
   have w2 : wrap64 (x % 1000 + 1) = x % 1000 + 1 := w64 (by omega) (by omega)
   have e1 : (x + (1000 * (arc l i).f2 + 1)) / 1000 = x / 1000 + (arc l i).f2 := by omega
   have e2 : (x + (1000 * (arc l i).f2 + 1)) % 1000 = x % 1000 + 1 := by omega
   have eent : (⟨x / 1000 + (arc l i).f2, x % 1000 + 1⟩ : Msr) = ent (some (x + (1000 * (arc l i).f2 + 1))) := by simp only [ent, e1, e2]
   have hne : ¬ ((ent (some x)).f0 = 99999) := by show ¬ (x / 1000 = 99999); omega
   have elts : decide ((x / 1000 + (arc l i).f2) < (ent (M f)).f0 ∨ (x / 1000 + (arc l i).f2) = (ent (M f)).f0 ∧ (x % 1000 + 1) < (ent (M f)).f1) = lts (x + (1000 * (arc l i).f2 + 1)) (M f) := by
    cases ef2 : M f with
    | none => exact decide_eq_true (.inl (by show x / 1000 + (arc l i).f2 < 99999; omega))
    | some y =>
     have hy := hb f y ef2
     show decide (_ < y / 1000 ∨ _ = y / 1000 ∧ _ < y % 1000) = decide (_ < y)
     rw [decide_eq_decide]
     omega
   have hh : hit (grE N l) M i = lts (x + (1000 * (arc l i).f2 + 1)) (M f) := by unfold hit; rw [et, et2, ef, ew]
   have hre : relax (grE N l) M i = if lts (x + (1000 * (arc l i).f2 + 1)) (M f) = true then put M f (x + (1000 * (arc l i).f2 + 1)) else M := by
    unfold Sp.relax
    rw [if_pos (show (grE N l).use i = true from rfl), et, et2, ef, ew]
   rw [hh, hre] at hn
   clear hh hre
   refine Ev.neg hne ?_
   show Ev (fun k => if 0 ≤ ((f : Nat) : Int) then _ else _) R
   rw [show (ent (some x)).f0 = x / 1000 from rfl, show (ent (some x)).f1 = x % 1000 from rfl, w1, w2, Int.toNat_natCast, eent, lstM_set]
   clear w1 w2 hne
   refine Ev.pos (by omega) (Ev.pos (by omega) (Ev.bind0 (less_eq _ _ _ _) ?_))
   rw [elts]
   cases c : lts (x + (1000 * (arc l i).f2 + 1)) (M f) with
   | true =>
    rw [c, if_pos rfl, Bool.or_true] at hn
    exact Ev.pos rfl hn
   | false =>
    rw [c, if_neg (by simp), Bool.or_false] at hn
    exact Ev.neg (by simp) hn
theorem tow_l0 {t : Nat} (ht : t < N) : ∀ d r, r + d = N → Ev (fun k => impl_Net_toward.l0 k (lstM N (fun v => ent (rounds (grE N l) t r v))) true N l) (lstM N (fun v => ent (rounds (grE N l) t N v))) := by
 have h8 := hg.n8
 have stop : ∀ r, r ≤ N → fl (grE N l) (rounds (grE N l) t r) l.length = false → lstM N (fun v => ent (rounds (grE N l) t (r + 1) v)) = lstM N (fun v => ent (rounds (grE N l) t N v)) := by
  intro r hr hf
  have e := fl_none l.length hf
  have o1 : Opt (grE N l) t (rounds (grE N l) t r) := Sp.opt_of_fix (Sp.rounds_real _ _ _) (Sp.rounds_t _ _ _) (fun v => congrFun e v)
  have o2 := Sp.rounds_opt (g := grE N l) (t := t) (r := N) (grE_ok hg) ht (by show N ≤ N + 1; omega)
  refine lstM_congr (fun v hv => ?_)
  have e2 : rounds (grE N l) t (r + 1) = rounds (grE N l) t r := e
  rw [e2, o1.uniq o2 v hv]
 intro d
 induction d with
 | zero =>
  intro r hr
  obtain rfl : r = N := by omega
  refine Ev.go ?_ (fun k => by rw [impl_Net_toward.l0])
  refine Ev.pos rfl (tow_l1 hg (rounds (grE r l) t r) (s := 16 * r) (by omega) (Bd.rounds hg t r (by omega)) _ 0 rfl (Nat.zero_le _) ?_)
  have hf := fl_same (g := grE r l) (fun _ => rfl) (L := rounds (grE r l) t r) (Sp.rounds_fix (grE_ok hg) ht (by show r ≤ r + 1; omega)) l.length (Nat.le_refl _)
  rw [hf]
  refine Ev.go ?_ (fun k => by rw [impl_Net_toward.l0])
  exact Ev.neg (by simp) (Ev.is (stop r (Nat.le_refl _) hf))
 | succ d ih =>
  intro r hr
  refine Ev.go ?_ (fun k => by rw [impl_Net_toward.l0])
  refine Ev.pos rfl (tow_l1 hg (rounds (grE N l) t r) (s := 16 * r) (by omega) (Bd.rounds hg t r (by omega)) _ 0 rfl (Nat.zero_le _) ?_)
  cases hf : fl (grE N l) (rounds (grE N l) t r) l.length with
  | true => exact ih (r + 1) (by omega)
  | false =>
   refine Ev.go ?_ (fun k => by rw [impl_Net_toward.l0])
   exact Ev.neg (by simp) (Ev.is (stop r (by omega) hf))
theorem tow_ev {t : Nat} (ht : t < N) : Ev (fun k => impl_Net_toward.f k N l (t : Int)) (lstM N (fun v => ent (rounds (grE N l) t N v))) := by
 have h8 := hg.n8
 unfold impl_Net_toward.f
 refine Ev.bind0 (rep_measure _ N (by omega)) ?_
 refine Ev.pos (by omega) (Ev.pos (by simp; omega) ?_)
 have e : (List.replicate N (⟨99999, 0⟩ : Msr)).set (t : Int).toNat ⟨0, 0⟩ = lstM N (fun v => ent (rounds (grE N l) t 0 v)) := by
  apply List.ext_getElem (by simp [lstM])
  intro i h1 h2
  simp only [Int.toNat_natCast, List.getElem_set]
  by_cases c : t = i
  case pos => subst c; simp [lstM, Sp.rounds, Sp.start, ent]
  simp [lstM, Sp.rounds, Sp.start, ent, c, show ¬ i = t from fun h => c h.symm]
 rw [e]
 exact tow_l0 hg ht N 0 (by omega)
end
end Go.Proofs.Ytljdcinpjnijcaa.Pure
end
section
set_option linter.unusedSimpArgs false
set_option linter.unusedVariables false
set_option linter.unusedSectionVars false
namespace Go.Proofs.Ytljdcinpjnijcaa.Pure
open Go.RowKit Go.Proofs.Ytljdcinpjnijcaa.Pr Go.Proofs.YtljdcinpjnijcaaW.PrintWords Go.Proofs.YtljdcinpjnijcaaW.PrintLast Go.Proofs.YtljdcinpjnijcaaW.PrintMore
open Go.Proofs.Ytljdcinpjnijcaa.Sp (G Wk Opt)
def Chain (l : List Arc) : Int → List Int → Int → Prop
 | u, [], v => u = v
 | u, k :: w, v => (0 ≤ k ∧ k < l.length ∧ (arc l k.toNat).f0 = u) ∧ Chain l (arc l k.toNat).f1 w v
def sumW (l : List Arc) (w : List Int) : Int := (w.map fun k => (arc l k.toNat).f2).sum
theorem Chain.rng {l : List Arc} : ∀ (w : List Int) (u v : Int), Chain l u w v → ∀ k ∈ w, 0 ≤ k ∧ k < l.length
 | [], _, _, _, k, hk => by simp at hk
 | a :: w, u, v, h, k, hk => by
  rcases List.mem_cons.1 hk with rfl | hk
  ·exact ⟨h.1.1, h.1.2.1⟩
  ·exact Chain.rng w _ v h.2 k hk
theorem back_arc' (l : List Arc) (i : Nat) : arc (back l) i = flip (arc l i) := by
 by_cases h : i < l.length
 case pos => exact back_arc h
 have e1 : arc (back l) i = z34 := by unfold arc; simp [rd_T34, back_len, List.getElem?_eq_none (show l.length ≤ i by omega), List.getElem?_eq_none (show (back l).length ≤ i by rw [back_len]; omega)]
 have e2 : arc l i = z34 := by unfold arc; simp [rd_T34, List.getElem?_eq_none (show l.length ≤ i by omega)]
 rw [e1, e2]; rfl
theorem back_back (l : List Arc) : back (back l) = l := by
 unfold back
 rw [List.map_map]
 have : (flip ∘ flip : Arc → Arc) = id := by funext a; rfl
 rw [this, List.map_id]
end Go.Proofs.Ytljdcinpjnijcaa.Pure
end
section
set_option linter.unusedSimpArgs false
set_option linter.unusedVariables false
set_option linter.unusedSectionVars false
namespace Go.Proofs.Ytljdcinpjnijcaa.Pure
open Go.RowKit Go.Proofs.Ytljdcinpjnijcaa.Pr Go.Proofs.YtljdcinpjnijcaaW.PrintWords Go.Proofs.YtljdcinpjnijcaaW.PrintLast Go.Proofs.YtljdcinpjnijcaaW.PrintMore
open Go.Proofs.Ytljdcinpjnijcaa.Sp (G Wk Opt)
def pA (N : Nat) (l : List Arc) (t u : Nat) (a : Arc) : Bool := decide (a.f0 = (u : Int)) && match dst N l t a.f1.toNat, stp N l t a.f1.toNat with
 | some x, some k => decide (dst N l t u = some (a.f2 + x)) && decide (stp N l t u = some (k + 1))
 | _, _ => false
def nxA (N : Nat) (l : List Arc) (t u : Nat) : Int := idxI (pA N l t u) l
def bestW (N : Nat) (l : List Arc) (t : Nat) : Nat → Nat → List Int
 | 0, _ => []
 | k + 1, u => nxA N l t u :: bestW N l t k (arc l (nxA N l t u).toNat).f1.toNat
theorem idxI_spec {α : Type} {p : α → Bool} {l : List α} (h : ∃ x ∈ l, p x = true) : ∃ i : Nat, ∃ hi : i < l.length, idxI p l = (i : Int) ∧ p l[i] = true ∧ ∀ j (hj : j < i), p (l[j]'(by omega)) = false := by
 unfold idxI
 cases e : l.findIdx? p with
 | none =>
  obtain ⟨x, hx, hp⟩ := h
  have := List.findIdx?_eq_none_iff.1 e x hx
  rw [this] at hp; cases hp
 | some i =>
  obtain ⟨hi, h1, h2⟩ := List.findIdx?_eq_some_iff_getElem.1 e
  exact ⟨i, hi, rfl, h1, fun j hj => by simpa using h2 j hj⟩
theorem wk_cost {N : Nat} {l : List Arc} (hg : NetGood N l) {u v k : Nat} {c : Int} (w : Wk (gr N l) u v k c) : c ≤ 99 * (k : Int) := by
 induction w with
 | nil => omega
 | @cons i _ _ c hi _ _ ih =>
  have h : (gr N l).w i ≤ 99 := (hg.ok i hi).2.2.2.1.2
  omega
section
variable {N : Nat} {l : List Arc} (hg : NetGood N l) {t : Nat} (ht : t < N)
include hg ht
theorem dst_t : dst N l t t = some 0 := by
 obtain ⟨x, h1, h2⟩ := (dst_opt hg ht t ht).2 0 0 (.nil t)
 obtain ⟨k, w⟩ := (dst_opt hg ht t ht).1 x h1
 have := w.nonneg (gr_ok hg)
 rw [h1]; congr 1; omega
theorem stp_t : stp N l t t = some 0 := by
 obtain ⟨x, h1, h2⟩ := (stp_opt hg ht t ht).2 0 0 (.nil t)
 obtain ⟨k, w⟩ := (stp_opt hg ht t ht).1 x h1
 have := w.nonneg (grS_ok hg _)
 rw [h1]; congr 1; omega
theorem dst_bd {v : Nat} (hv : v < N) {d : Int} (h : dst N l t v = some d) : 0 ≤ d ∧ d ≤ 693 := by
 have h8 := hg.n8
 obtain ⟨k, w⟩ := (dst_opt hg ht v hv).1 d h
 obtain ⟨k', c', w', h1, h2, h3⟩ := w.short (gr_ok hg) ht
 obtain ⟨x, h4, h5⟩ := (dst_opt hg ht v hv).2 _ _ w'
 rw [h] at h4
 obtain rfl := Option.some.inj h4
 have h6 := wk_cost hg w'
 have h7 : k' < N := h1
 exact ⟨w.nonneg (gr_ok hg), by omega⟩
theorem pA_some {u : Nat} (hu : u < N) (hne : u ≠ t) {d : Int} (hd : dst N l t u = some d) {k : Nat} (hk : stp N l t u = some (k : Int)) : ∃ a ∈ l, pA N l t u a = true := by
 obtain ⟨j, w⟩ := (stp_opt hg ht u hu).1 _ hk
 have hN := (dbl N l (dst N l t))
 generalize hc : (k : Int) = c at w
 cases w with
 | nil => exact absurd rfl hne
 | @cons i v _ c hi hus w =>
  have hil : i < l.length := hi
  have hok := hg.ok i hil
  have ew : (grS N l (dst N l t)).w i = 1 := rfl
  have ef : (grS N l (dst N l t)).fr i = (arc l i).f0.toNat := rfl
  have et : (grS N l (dst N l t)).tw i = (arc l i).f1.toNat := rfl
  rw [ew] at hc
  rw [et] at w
  rw [ef] at hu hd hk
  obtain ⟨_, x, e1, e2⟩ := (hN.su i hi).1 hus
  have e1 : dst N l t (arc l i).f1.toNat = some x := e1
  have e2 : dst N l t (arc l i).f0.toNat = some ((arc l i).f2 + x) := e2
  have h1N : (arc l i).f1.toNat < N := by omega
  obtain ⟨k', e3, h3⟩ := stp_some hg ht h1N e1
  obtain ⟨y, e4, h4⟩ := (stp_opt hg ht _ h1N).2 _ _ w
  rw [e3] at e4
  obtain rfl := Option.some.inj e4
  obtain ⟨j2, w2⟩ := (stp_opt hg ht _ h1N).1 _ e3
  have w3 := Wk.cons (g := grS N l (dst N l t)) (i := i) hi hus w2
  rw [ef] at w3
  obtain ⟨z, e5, h5⟩ := (stp_opt hg ht _ hu).2 _ _ w3
  rw [hk] at e5
  obtain rfl := Option.some.inj e5
  rw [ew] at h5
  refine ⟨arc l i, arc_mem hil, ?_⟩
  show (decide ((arc l i).f0 = (((arc l i).f0.toNat : Nat) : Int)) && _) = true
  rw [decide_eq_true (by omega), Bool.true_and, ef, e1, e3]
  dsimp only
  rw [decide_eq_true e2, Bool.true_and, hk]
  exact decide_eq_true (by congr 1; omega)
theorem nx_ok {u : Nat} (hu : u < N) (hne : u ≠ t) {d : Int} (hd : dst N l t u = some d) {k : Nat} (hk : stp N l t u = some (k : Int)) : ∃ i : Nat, nxA N l t u = (i : Int) ∧ i < l.length ∧ (arc l i).f0 = (u : Int) ∧ (arc l i).f1.toNat < N ∧ dst N l t (arc l i).f1.toNat = some (d - (arc l i).f2) ∧ 0 < k ∧ stp N l t (arc l i).f1.toNat = some ((k - 1 : Nat) : Int) ∧ pA N l t u (arc l i) = true ∧ ∀ j, j < i → pA N l t u (arc l j) = false := by
 obtain ⟨i, hi, e, hp, hf⟩ := idxI_spec (pA_some hg ht hu hne hd hk)
 rw [← arc_get hi] at hp
 have hp0 := hp
 unfold pA at hp
 rw [Bool.and_eq_true, decide_eq_true_eq] at hp
 obtain ⟨h1, h2⟩ := hp
 have hok := hg.ok i hi
 have h1N : (arc l i).f1.toNat < N := by omega
 cases e1 : dst N l t (arc l i).f1.toNat with
 | none => rw [e1] at h2; cases h2
 | some x =>
  obtain ⟨k', e2, _⟩ := stp_some hg ht h1N e1
  rw [e1, e2] at h2
  dsimp only at h2
  rw [Bool.and_eq_true, decide_eq_true_eq, decide_eq_true_eq, hd, hk] at h2
  have a1 := Option.some.inj h2.1
  have a2 := Option.some.inj h2.2
  refine ⟨i, e, hi, h1, h1N, by rw [show d - (arc l i).f2 = x by omega, e1], by omega, by rw [e2]; congr 1; omega, hp0, fun j hj => ?_⟩
  rw [arc_get (by omega)]
  exact hf j hj
theorem bestW_ok : ∀ (k u : Nat) (d : Int), u < N → dst N l t u = some d → stp N l t u = some (k : Int) → Chain l (u : Int) (bestW N l t k u) (t : Int) ∧ (bestW N l t k u).length = k ∧ sumW l (bestW N l t k u) = d
 | 0, u, d, hu, hd, hk => by
  have hut : u = t := by
   apply Classical.byContradiction
   intro hne
   obtain ⟨i, _, _, _, _, _, h0, _⟩ := nx_ok hg ht hu hne hd hk
   omega
  subst hut
  rw [dst_t hg ht] at hd
  exact ⟨rfl, rfl, Option.some.inj hd⟩
 | k + 1, u, d, hu, hd, hk => by
  have hne : u ≠ t := by
   rintro rfl
   rw [stp_t hg ht] at hk
   have := Option.some.inj hk
   omega
  obtain ⟨i, e, hi, h1, h2, h3, _, h4, _⟩ := nx_ok hg ht hu hne hd hk
  have hok := hg.ok i hi
  obtain ⟨a, b, c⟩ := bestW_ok k (arc l i).f1.toNat _ h2 h3 h4
  have e0 : bestW N l t (k + 1) u = (i : Int) :: bestW N l t k (arc l i).f1.toNat := by
   show nxA N l t u :: bestW N l t k (arc l (nxA N l t u).toNat).f1.toNat = _
   rw [e, Int.toNat_natCast]
  rw [e0]
  refine ⟨⟨⟨by omega, by omega, by rw [Int.toNat_natCast]; exact h1⟩, ?_⟩, by rw [List.length_cons, b], ?_⟩
  ·rw [Int.toNat_natCast]
   rw [show (((arc l i).f1.toNat : Nat) : Int) = (arc l i).f1 by omega] at a
   exact a
  ·have : sumW l ((i : Int) :: bestW N l t k (arc l i).f1.toNat) = (arc l i).f2 + sumW l (bestW N l t k (arc l i).f1.toNat) := by simp [sumW]
   rw [this, c]; omega
end
end Go.Proofs.Ytljdcinpjnijcaa.Pure
end
section
set_option linter.unusedSimpArgs false
set_option linter.unusedVariables false
set_option linter.unusedSectionVars false
namespace Go.Proofs.Ytljdcinpjnijcaa.Pure
open Go.RowKit Go.Proofs.Ytljdcinpjnijcaa.Pr Go.Proofs.YtljdcinpjnijcaaW.PrintWords Go.Proofs.YtljdcinpjnijcaaW.PrintLast Go.Proofs.YtljdcinpjnijcaaW.PrintMore
open Go.Proofs.Ytljdcinpjnijcaa.Sp (G Wk Opt rounds)
theorem idxI_congr {α : Type} {p q : α → Bool} {l : List α} (h : ∀ a ∈ l, p a = q a) : idxI p l = idxI q l := by
 have e : l.findIdx? p = l.findIdx? q := by
  induction l with
  | nil => rfl
  | cons a l ih =>
   rw [List.findIdx?_cons, List.findIdx?_cons, h a (List.mem_cons_self ..), ih (fun b hb => h b (List.mem_cons_of_mem _ hb))]
 unfold idxI
 rw [e]
section
variable {N : Nat} {l : List Arc} (hg : NetGood N l) {t : Nat} (ht : t < N)
include hg ht
theorem ent_none {v : Nat} (hv : v < N) (h : dst N l t v = none) : ent (rounds (grE N l) t N v) = ⟨99999, 0⟩ := by
 rw [tow_both hg ht hv]
 unfold Sp.both
 rw [h]; rfl
theorem ent_some {v : Nat} (hv : v < N) {d : Int} {k : Nat} (h : dst N l t v = some d) (hk : stp N l t v = some (k : Int)) : ent (rounds (grE N l) t N v) = ⟨d, (k : Int)⟩ := by
 have h8 := hg.n8
 obtain ⟨k', h1, h2⟩ := stp_some hg ht hv h
 rw [hk] at h1
 have := Option.some.inj h1
 rw [tow_both hg ht hv]
 unfold Sp.both
 rw [h, hk]
 show (⟨(1000 * d + (k : Int)) / 1000, (1000 * d + (k : Int)) % 1000⟩ : Msr) = ⟨d, (k : Int)⟩
 rw [show (1000 * d + (k : Int)) / 1000 = d by omega, show (1000 * d + (k : Int)) % 1000 = (k : Int) by omega]
theorem farc_pA {u : Nat} (hu : u < N) {d : Int} {k : Nat} (hd : dst N l t u = some d) (hk : stp N l t u = some (k : Int)) : ∀ a ∈ l, farc (lstM N (fun v => ent (rounds (grE N l) t N v))) (u : Int) ⟨d, (k : Int)⟩ a = pA N l t u a := by
 intro a ha
 have h8 := hg.n8
 obtain ⟨i, hi, e⟩ := List.getElem_of_mem ha
 have hok := hg.ok i hi
 rw [arc_get hi, e] at hok
 obtain ⟨v, hv⟩ := Int.eq_ofNat_of_zero_le hok.2.1.1
 have hvN : v < N := by omega
 unfold farc pA
 congr 1
 rw [hv, lstM_rd _ hvN, Int.toNat_natCast]
 cases e1 : dst N l t v with
 | none =>
  rw [ent_none hg ht hvN e1]
  simp
 | some x =>
  obtain ⟨k', e2, h2⟩ := stp_some hg ht hvN e1
  rw [ent_some hg ht hvN e1 e2, e2]
  have hx := dst_bd hg ht hvN e1
  have w1 : wrap64 (x + a.f2) = x + a.f2 := w64 (by omega) (by omega)
  have w2 : wrap64 ((k' : Int) + 1) = (k' : Int) + 1 := w64 (by omega) (by omega)
  dsimp only
  rw [w1, w2, decide_eq_false (show ¬ x = 99999 by omega), hd, hk]
  clear w1 w2
  simp only [Bool.not_false, Bool.true_and]
  congr 1
  ·rw [decide_eq_decide]
   exact ⟨fun h => by congr 1; omega, fun h => by have := Option.some.inj h; omega⟩
  ·rw [decide_eq_decide]
   exact ⟨fun h => by congr 1; omega, fun h => by have := Option.some.inj h; omega⟩
theorem best_l : ∀ (k u : Nat) (d : Int) (w : List Int), u < N → dst N l t u = some d → stp N l t u = some (k : Int) → w.length + k ≤ 100 → Ev (fun q => impl_Net_best.l0 q (u : Int) (t : Int) (lstM N (fun v => ent (rounds (grE N l) t N v))) w N l) (w ++ bestW N l t k u, true)
 | 0, u, d, w, hu, hd, hk, _ => by
  have hut : u = t := by
   apply Classical.byContradiction
   intro hne
   obtain ⟨i, _, _, _, _, _, h0, _⟩ := nx_ok hg ht hu hne hd hk
   omega
  subst hut
  refine Ev.go ?_ (fun k => by rw [impl_Net_best.l0])
  exact Ev.pos rfl (Ev.is (by simp [bestW]))
 | k + 1, u, d, w, hu, hd, hk, hw => by
  have h8 := hg.n8
  have hne : u ≠ t := by
   rintro rfl
   rw [stp_t hg ht] at hk
   have := Option.some.inj hk
   omega
  obtain ⟨i, e, hi, h1, h2, h3, _, h4, _⟩ := nx_ok hg ht hu hne hd hk
  have hok := hg.ok i hi
  have ih := best_l k (arc l i).f1.toNat _ (w ++ [(i : Int)]) h2 h3 h4 (by simp; omega)
  have e0 : bestW N l t (k + 1) u = (i : Int) :: bestW N l t k (arc l i).f1.toNat := by
   show nxA N l t u :: bestW N l t k (arc l (nxA N l t u).toNat).f1.toNat = _
   rw [e, Int.toNat_natCast]
  have ef : impl_Net_firstArc.f (N : Int) l (lstM N (fun v => ent (rounds (grE N l) t N v))) (u : Int) = some (i : Int) := by
   unfold impl_Net_firstArc.f
   rw [lstM_len, if_pos (by omega), if_pos (by omega), if_pos ?_, lstM_rd _ hu, ent_some hg ht hu hd hk, idxI_congr (farc_pA hg ht hu hd hk)]
   ·exact congrArg some e
   ·rw [List.all_eq_true]
    intro a ha
    obtain ⟨j, hj, ej⟩ := List.getElem_of_mem ha
    have := hg.ok j hj
    rw [arc_get hj, ej] at this
    simp
    omega
  refine Ev.go ?_ (fun k => by rw [impl_Net_best.l0])
  refine Ev.neg (by omega) (Ev.bind0 ef (Ev.pos (by omega) (Ev.pos (by omega) (Ev.pos (by omega) ?_))))
  rw [rda, show (arc l i).f1 = (((arc l i).f1.toNat : Nat) : Int) by omega]
  exact ih.cast (by rw [e0]; simp)
def bestV (N : Nat) (l : List Arc) (u t : Nat) : List Int × Bool := match dst N l t u, stp N l t u with
 | some _, some k => (bestW N l t k.toNat u, true)
 | _, _ => ([], false)
theorem best_ev {u : Nat} (hu : u < N) : Ev (fun q => impl_Net_best.f q N l (u : Int) (t : Int)) (bestV N l u t) := by
 have h8 := hg.n8
 unfold impl_Net_best.f bestV
 refine Ev.bind (tow_ev hg ht) ?_
 rw [lstM_len, lstM_rd _ hu]
 refine Ev.pos (by omega) (Ev.pos (by omega) ?_)
 cases e1 : dst N l t u with
 | none =>
  rw [ent_none hg ht hu e1]
  exact Ev.pos rfl (Ev.now _)
 | some d =>
  obtain ⟨k, e2, h2⟩ := stp_some hg ht hu e1
  have hx := dst_bd hg ht hu e1
  rw [ent_some hg ht hu e1 e2, e2]
  dsimp only
  rw [Int.toNat_natCast]
  exact Ev.neg (by omega) (Ev.pos (by omega) (Ev.pos (by omega) ((best_l hg ht k u d [] hu e1 e2 (by simp; omega)).cast (by simp))))
end
section
variable {N : Nat} {l : List Arc} (hg : NetGood N l)
include hg
end
end Go.Proofs.Ytljdcinpjnijcaa.Pure
end
section
set_option linter.unusedSimpArgs false
set_option linter.unusedVariables false
set_option linter.unusedSectionVars false
namespace Go.Proofs.Ytljdcinpjnijcaa.Pure
open Go.RowKit Go.Proofs.Ytljdcinpjnijcaa.Pr Go.Proofs.YtljdcinpjnijcaaW.PrintWords Go.Proofs.YtljdcinpjnijcaaW.PrintLast Go.Proofs.YtljdcinpjnijcaaW.PrintMore
open Go.Proofs.Ytljdcinpjnijcaa.Sp (G Wk Opt lts put relax sweep rounds start)
theorem lst_put {N a : Nat} (L : Nat → Option Int) (x : Int) : (lst N (fun v => far (L v))).set a x = lst N (fun v => far (put L a x v)) := by
 rw [lst_set]
 apply lst_congr
 intro v _
 unfold upd Sp.put
 split <;> rfl
theorem lst_fill (N i : Nat) (c : Int) (F : Nat → Int) (h : i < N) : (lst N (fun v => if v < i then c else F v)).set i c = lst N (fun v => if v < i + 1 then c else F v) := by
 rw [lst_set]
 apply lst_congr
 intro v _
 unfold upd
 by_cases e : v = i
 case pos => subst e; simp
 rw [if_neg e]
 show (if v < i then c else F v) = _
 by_cases e2 : v < i
 case neg => rw [if_neg e2, if_neg (by omega)]
 rw [if_pos e2, if_pos (by omega)]
theorem start_lst {N s : Nat} (hs : s < N) : (lst N (fun _ => (99999 : Int))).set s 0 = lst N (fun v => far (Sp.start s v)) := by
 rw [lst_set]
 apply lst_congr
 intro v _
 unfold upd Sp.start
 split <;> rfl
def Bw (w : Int) (s : Nat) (L : Nat → Option Int) : Prop := ∀ v x, L v = some x → 0 ≤ x ∧ x ≤ w * (s : Int)
theorem Bw.relax {g : G} {w : Int} {s : Nat} {L : Nat → Option Int} (h : Bw w s L) {i : Nat} (h0 : 0 ≤ g.w i) (h1 : g.w i ≤ w) : Bw w (s + 1) (relax g L i) := by
 intro v x hx
 have := Sp.relax_bd h h0 h1 v x hx
 refine ⟨this.1, ?_⟩
 have e : w * ((s + 1 : Nat) : Int) = w * (s : Int) + w := by rw [Int.natCast_add, Int.mul_add]; simp
 omega
theorem Bw.sweep {g : G} {w : Int} {s : Nat} {L : Nat → Option Int} (h : Bw w s L) (hw : ∀ i, i < g.m → 0 ≤ g.w i ∧ g.w i ≤ w) : ∀ i, i ≤ g.m → Bw w (s + i) (sweep g L i)
 | 0, _ => h
 | i + 1, hi => (Bw.sweep h hw i (by omega)).relax (hw i (by omega)).1 (hw i (by omega)).2
theorem Bw.rounds {g : G} {w : Int} (hw : ∀ i, i < g.m → 0 ≤ g.w i ∧ g.w i ≤ w) (t : Nat) : ∀ r, Bw w (g.m * r) (rounds g t r)
 | 0 => by
  intro v x hx
  unfold Sp.rounds Sp.start at hx
  split at hx
  ·obtain rfl := Option.some.inj hx; simp
  ·cases hx
 | r + 1 => by
  have := (Bw.rounds hw t r).sweep hw g.m (Nat.le_refl _)
  rw [Nat.mul_succ]
  exact this
section
variable {N : Nat} {l : List Arc} (hg : NetGood N l)
include hg
theorem back_gr_fr (i : Nat) : (gr N (back l)).fr i = (arc l i).f1.toNat := by show (arc (back l) i).f0.toNat = _; rw [back_arc']; rfl
theorem back_gr_tw (i : Nat) : (gr N (back l)).tw i = (arc l i).f0.toNat := by show (arc (back l) i).f1.toNat = _; rw [back_arc']; rfl
theorem back_gr_w (i : Nat) : (gr N (back l)).w i = (arc l i).f2 := by show (arc (back l) i).f2 = _; rw [back_arc']; rfl
theorem back_gr_m : (gr N (back l)).m = l.length := back_len l
theorem back_bw : ∀ i, i < (gr N (back l)).m → 0 ≤ (gr N (back l)).w i ∧ (gr N (back l)).w i ≤ 99 := by
 intro i hi
 rw [back_gr_m hg] at hi
 rw [back_gr_w hg]
 exact (hg.ok i hi).2.2.2.1
theorem l3All_arcs (r : Nat) {M : Nat → Option Int} {s : Nat} (hM : Bw 99 s M) (hs : s ≤ 500) (hr : r < N) {R : List Int} : ∀ (m i : Nat), l.length - i = m → i ≤ l.length →
  Ev (fun k => spec_l3All.l1 k (lst N (fun v => far (sweep (gr N (back l)) M l.length v))) ((r + 1 : Nat) : Int) N l) R →
  Ev (fun k => spec_l3All.l2 k (lst N (fun v => far (sweep (gr N (back l)) M i v))) (r : Int) (i : Int) N l) R := by
 have h8 := hg.n8
 have h16 := hg.len
 intro m
 induction m with
 | zero =>
  intro i hd hi h
  obtain rfl : i = l.length := by omega
  refine Ev.go ?_ (fun k => by rw [spec_l3All.l2])
  rw [up1 hr (by simp only [maxLen]; omega)]
  exact Ev.neg (by omega) h
 | succ m ih =>
  intro i hd hi h
  have hlt : i < l.length := by omega
  have hn := ih (i + 1) (by omega) (by omega) h
  clear ih h
  have hb := hM.sweep (back_bw hg) i (by rw [back_gr_m hg]; omega)
  have hsw : sweep (gr N (back l)) M (i + 1) = relax (gr N (back l)) (sweep (gr N (back l)) M i) i := rfl
  rw [hsw] at hn
  generalize sweep (gr N (back l)) M i = L at hn hb
  obtain ⟨⟨a1, a2⟩, ⟨a3, a4⟩, a5, ⟨a6, a7⟩, _⟩ := hg.ok i hlt
  have ef := back_gr_fr hg i
  have et := back_gr_tw hg i
  have ew := back_gr_w hg i
  obtain ⟨f, hf⟩ := Int.eq_ofNat_of_zero_le a1
  obtain ⟨t, ht⟩ := Int.eq_ofNat_of_zero_le a3
  rw [hf, Int.toNat_natCast] at et
  rw [ht, Int.toNat_natCast] at ef
  have hfN : f < N := by omega
  have htN : t < N := by omega
  refine Ev.go ?_ (fun k => by rw [spec_l3All.l2])
  rw [rda, up1 hlt (by simp only [maxLen]; omega), hf, ht, lst_rd _ htN, lst_rd _ hfN, lst_len]
  refine Ev.pos (by omega) (Ev.pos (by omega) (Ev.pos (by omega) (Ev.pos (by omega) ?_)))
  cases e2 : L f with
  | none =>
   have hre : relax (gr N (back l)) L i = L := by unfold Sp.relax; rw [if_pos (show (gr N (back l)).use i = true from rfl), et, e2]
   rw [hre] at hn
   exact Ev.neg (by show ¬ ((99999 : Int) < 99999); omega) hn
  | some x =>
   have hx := hb f x e2
   have w1 : wrap64 (x + (arc l i).f2) = x + (arc l i).f2 := w64 (by omega) (by omega)
   have hre : relax (gr N (back l)) L i = if lts (x + (arc l i).f2) (L t) = true then put L t (x + (arc l i).f2) else L := by
    unfold Sp.relax
    rw [if_pos (show (gr N (back l)).use i = true from rfl), et, e2, ef, ew]
   have elt : (x + (arc l i).f2 < far (L t)) ↔ lts (x + (arc l i).f2) (L t) = true := by
    cases e3 : L t with
    | none => exact ⟨fun _ => rfl, fun _ => by show x + _ < 99999; omega⟩
    | some y => exact ⟨fun h => decide_eq_true h, fun h => of_decide_eq_true h⟩
   rw [hre] at hn
   show Ev (fun k => if x < 99999 then _ else _) R
   rw [show far (some x) = x from rfl, w1, Int.toNat_natCast, lst_put]
   clear w1 hre
   refine Ev.pos (by omega) (Ev.pos (by omega) (Ev.pos (by omega) ?_))
   cases c : lts (x + (arc l i).f2) (L t) with
   | true =>
    rw [c, if_pos rfl] at hn
    exact Ev.pos (elt.2 c) hn
   | false =>
    rw [c, if_neg (by simp)] at hn
    exact Ev.neg (fun h => by rw [elt.1 h] at c; cases c) hn
theorem l3All_rounds {s : Nat} (hs : s < N) : ∀ (m r : Nat), N - r = m → r ≤ N → Ev (fun k => spec_l3All.l1 k (lst N (fun v => far (rounds (gr N (back l)) s r v))) (r : Int) N l) (lst N (fun v => far (dst N (back l) s v))) := by
 have h8 := hg.n8
 have h16 := hg.len
 intro m
 induction m with
 | zero =>
  intro r hd hr
  obtain rfl : r = N := by omega
  refine Ev.go ?_ (fun k => by rw [spec_l3All.l1])
  exact Ev.neg (by omega) (Ev.now _)
 | succ m ih =>
  intro r hd hr
  have hlt : r < N := by omega
  refine Ev.go ?_ (fun k => by rw [spec_l3All.l1])
  refine Ev.pos (by omega) ?_
  have hb := Bw.rounds (back_bw hg) s r
  rw [back_gr_m hg] at hb
  have h16r : l.length * r ≤ 16 * 8 := Nat.mul_le_mul h16 (by omega)
  refine l3All_arcs hg r hb (by omega) hlt _ 0 rfl (Nat.zero_le _) ?_
  have e : sweep (gr N (back l)) (rounds (gr N (back l)) s r) l.length = rounds (gr N (back l)) s (r + 1) := by
   show _ = sweep (gr N (back l)) (rounds (gr N (back l)) s r) (gr N (back l)).m
   rw [back_gr_m hg]
  rw [e]
  exact ih (r + 1) (by omega) (by omega)
theorem l3All_fill {s : Nat} (hs : s < N) : ∀ (m i : Nat), N - i = m → i ≤ N → Ev (fun k => spec_l3All.l0 k (s : Int) (lst N (fun v => if v < i then 99999 else 0)) (i : Int) N l) (lst N (fun v => far (dst N (back l) s v))) := by
 have h8 := hg.n8
 intro m
 induction m with
 | zero =>
  intro i hd hi
  obtain rfl : i = N := by omega
  refine Ev.go ?_ (fun k => by rw [spec_l3All.l0])
  have e : lst i (fun v => if v < i then (99999 : Int) else 0) = lst i (fun _ => 99999) := lst_congr (fun v hv => by rw [if_pos hv])
  rw [e, lst_len]
  refine Ev.neg (by omega) (Ev.pos (by omega) (Ev.pos (by omega) ?_))
  rw [Int.toNat_natCast, start_lst hs]
  exact (l3All_rounds hg hs _ 0 rfl (Nat.zero_le _))
 | succ m ih =>
  intro i hd hi
  have hlt : i < N := by omega
  refine Ev.go ?_ (fun k => by rw [spec_l3All.l0])
  rw [lst_len, Int.toNat_natCast, lst_fill N i 99999 (fun _ => 0) hlt, up1 hlt (by simp only [maxLen]; omega)]
  exact Ev.pos (by omega) (Ev.pos (by omega) (Ev.pos (by omega) (ih (i + 1) (by omega) (by omega))))
theorem zeros_lst : List.replicate N (0 : Int) = lst N (fun v => if v < 0 then 99999 else 0) := by
 apply List.ext_getElem (by simp [lst])
 intro i h1 h2
 simp [lst]
theorem l3All_ev {s : Nat} (hs : s < N) : Ev (fun k => spec_l3All.f k N l (s : Int)) (lst N (fun v => far (dst N (back l) s v))) := by
 have h8 := hg.n8
 unfold spec_l3All.f
 rw [Int.toNat_natCast, zeros_lst hg]
 exact Ev.pos (by omega) (Ev.pos (by omega) (l3All_fill hg hs _ 0 rfl (Nat.zero_le _)))
end
theorem l1Back_l (n m0 : Int) (l : List Arc) (hm : l.length ≤ 1000) : ∀ (m i : Nat), l.length - i = m → i ≤ l.length → Ev (fun k => spec_l1Back.l0 k (i : Int) n l m0 ((back l).take i)) (m0, back l) := by
 intro m
 induction m with
 | zero =>
  intro i hd hi
  refine Ev.go ?_ (fun k => by rw [spec_l1Back.l0])
  refine Ev.neg (by omega) (Ev.is ?_)
  rw [List.take_of_length_le (by rw [back_len]; omega)]
 | succ m ih =>
  intro i hd hi
  have hlt : i < l.length := by omega
  refine Ev.go ?_ (fun k => by rw [spec_l1Back.l0])
  have ih := ih (i + 1) (by omega) (by omega)
  have hlt2 : i < (back l).length := by rw [back_len]; exact hlt
  rw [List.take_succ_eq_append_getElem hlt2, ← arc_get hlt2, back_arc hlt] at ih
  rw [up1 hlt (by simp only [maxLen]; omega), rda]
  exact Ev.pos (by omega) (Ev.pos (by omega) (Ev.pos (by simp; omega) ih))
theorem l1Back_ev (n : Int) (l : List Arc) (hm : l.length ≤ 1000) : Ev (fun k => spec_l1Back.f k n l) (n, back l) := by
 unfold spec_l1Back.f
 simpa using l1Back_l n n l hm _ 0 rfl (Nat.zero_le _)
end Go.Proofs.Ytljdcinpjnijcaa.Pure
end
section
set_option linter.unusedSimpArgs false
set_option linter.unusedVariables false
set_option linter.unusedSectionVars false
namespace Go.Proofs.Ytljdcinpjnijcaa.Pure
open Go.RowKit Go.Proofs.Ytljdcinpjnijcaa.Pr Go.Proofs.YtljdcinpjnijcaaW.PrintWords Go.Proofs.YtljdcinpjnijcaaW.PrintLast Go.Proofs.YtljdcinpjnijcaaW.PrintMore
open Go.Proofs.Ytljdcinpjnijcaa.Sp (G Wk Opt lts put relax sweep rounds start)
def walkW (N : Nat) (l : List Arc) (u t : Nat) : List Int × Bool := match dst N l t u, stp N l t u with
 | some _, some k => (bestW N l t k.toNat u, true)
 | _, _ => ([], false)
section
variable {N : Nat} {l : List Arc} (hg : NetGood N l) {t : Nat} (ht : t < N)
include hg ht
theorem l3Steps_arcs (r : Nat) {M : Nat → Option Int} {s : Nat} (hM : Bw 1 s M) (hs : s ≤ 500) (hr : r < N) {R : List Int} : ∀ (m i : Nat), l.length - i = m → i ≤ l.length →
  Ev (fun k => spec_l3Steps.l1 k (lst N (fun v => far (dst N l t v))) (lst N (fun v => far (sweep (grS N l (dst N l t)) M l.length v))) ((r + 1 : Nat) : Int) N l) R →
  Ev (fun k => spec_l3Steps.l2 k (lst N (fun v => far (dst N l t v))) (lst N (fun v => far (sweep (grS N l (dst N l t)) M i v))) (r : Int) (i : Int) N l) R := by
 have h8 := hg.n8
 have h16 := hg.len
 intro m
 induction m with
 | zero =>
  intro i hd hi h
  obtain rfl : i = l.length := by omega
  refine Ev.go ?_ (fun k => by rw [spec_l3Steps.l2])
  rw [up1 hr (by simp only [maxLen]; omega)]
  exact Ev.neg (by omega) h
 | succ m ih =>
  intro i hd hi h
  have hlt : i < l.length := by omega
  have hn := ih (i + 1) (by omega) (by omega) h
  clear ih h
  have hb := hM.sweep (g := grS N l (dst N l t)) (fun i _ => ⟨by show (0 : Int) ≤ 1; omega, by show (1 : Int) ≤ 1; omega⟩) i hi
  have hsw : sweep (grS N l (dst N l t)) M (i + 1) = relax (grS N l (dst N l t)) (sweep (grS N l (dst N l t)) M i) i := rfl
  rw [hsw] at hn
  clear hsw
  generalize sweep (grS N l (dst N l t)) M i = L at hn hb
  obtain ⟨⟨a1, a2⟩, ⟨a3, a4⟩, a5, ⟨a6, a7⟩, _⟩ := hg.ok i hlt
  have ef : (grS N l (dst N l t)).fr i = (arc l i).f0.toNat := rfl
  have et : (grS N l (dst N l t)).tw i = (arc l i).f1.toNat := rfl
  have ew : (grS N l (dst N l t)).w i = 1 := rfl
  have eu : (grS N l (dst N l t)).use i = (match dst N l t (arc l i).f1.toNat with | none => false | some x => decide (dst N l t (arc l i).f0.toNat = some ((arc l i).f2 + x))) := rfl
  obtain ⟨f, hf⟩ := Int.eq_ofNat_of_zero_le a1
  obtain ⟨g, hgg⟩ := Int.eq_ofNat_of_zero_le a3
  rw [hf, Int.toNat_natCast] at ef
  rw [hgg, Int.toNat_natCast] at et
  rw [hf, hgg, Int.toNat_natCast, Int.toNat_natCast] at eu
  have hfN : f < N := by omega
  have hgN : g < N := by omega
  refine Ev.go ?_ (fun k => by rw [spec_l3Steps.l2])
  rw [rda, up1 hlt (by simp only [maxLen]; omega), hf, hgg, lst_rd _ hfN, lst_rd _ hgN, lst_rd _ hfN, lst_rd _ hgN, lst_len, lst_len]
  refine Ev.pos (by omega) (Ev.pos (by omega) (Ev.pos (by omega) (Ev.pos (by omega) ?_)))
  cases e1 : dst N l t g with
  | none =>
   rw [e1] at eu
   have hre : relax (grS N l (dst N l t)) L i = L := by unfold Sp.relax; rw [eu]; rfl
   rw [hre] at hn
   exact Ev.neg (by show ¬ ((99999 : Int) < 99999); omega) hn
  | some x =>
   have hx := dst_bd hg ht hgN e1
   rw [e1] at eu
   dsimp only at eu
   have w1 : wrap64 ((arc l i).f2 + x) = (arc l i).f2 + x := w64 (by omega) (by omega)
   show Ev (fun k => if x < 99999 then _ else _) R
   rw [show far (some x) = x from rfl, w1]
   clear w1
   refine Ev.pos (by omega) (Ev.pos (by omega) (Ev.pos (by omega) ?_))
   by_cases c : dst N l t f = some ((arc l i).f2 + x)
   case neg =>
    rw [decide_eq_false c] at eu
    have hre : relax (grS N l (dst N l t)) L i = L := by unfold Sp.relax; rw [eu]; rfl
    rw [hre] at hn
    refine Ev.neg ?_ hn
    intro h
    apply c
    cases e3 : dst N l t f with
    | none => rw [e3] at h; have h : (99999 : Int) = (arc l i).f2 + x := h; omega
    | some z => rw [e3] at h; have h : z = (arc l i).f2 + x := h; rw [h]
   rw [decide_eq_true c] at eu
   refine Ev.pos (by rw [c]; rfl) (Ev.pos (by omega) (Ev.pos (by omega) ?_))
   cases e2 : L g with
   | none =>
    have hre : relax (grS N l (dst N l t)) L i = L := by unfold Sp.relax; rw [if_pos eu, et, e2]
    rw [hre] at hn
    have hle : far (L f) ≤ 99999 := by
     cases e3 : L f with
     | none => exact Int.le_refl _
     | some y => have := hb f y e3; show y ≤ 99999; omega
    have w2 : wrap64 (far none + 1) = 100000 := w64 (by decide) (by decide)
    rw [w2]
    clear w2
    exact Ev.neg (by omega) hn
   | some y =>
    have hy := hb g y e2
    have w2 : wrap64 (far (some y) + 1) = y + 1 := w64 (by show _ ≤ y + 1; omega) (by show y + 1 ≤ _; omega)
    have hre : relax (grS N l (dst N l t)) L i = if lts (y + 1) (L f) = true then put L f (y + 1) else L := by
     unfold Sp.relax
     rw [if_pos eu, et, e2, ef, ew]
    have elt : (y + 1 < far (L f)) ↔ lts (y + 1) (L f) = true := by
     cases e3 : L f with
     | none => exact ⟨fun _ => rfl, fun _ => by show y + 1 < 99999; omega⟩
     | some z => exact ⟨fun h => decide_eq_true h, fun h => of_decide_eq_true h⟩
    rw [hre] at hn
    rw [w2, Int.toNat_natCast, lst_put]
    clear w2 hre
    cases c2 : lts (y + 1) (L f) with
    | true =>
     rw [c2, if_pos rfl] at hn
     exact Ev.pos (elt.2 c2) hn
    | false =>
     rw [c2, if_neg (by simp)] at hn
     exact Ev.neg (fun h => by rw [elt.1 h] at c2; cases c2) hn
theorem l3Steps_rounds : ∀ (m r : Nat), N - r = m → r ≤ N → Ev (fun k => spec_l3Steps.l1 k (lst N (fun v => far (dst N l t v))) (lst N (fun v => far (rounds (grS N l (dst N l t)) t r v))) (r : Int) N l) (lst N (fun v => far (stp N l t v))) := by
 have h8 := hg.n8
 have h16 := hg.len
 intro m
 induction m with
 | zero =>
  intro r hd hr
  obtain rfl : r = N := by omega
  refine Ev.go ?_ (fun k => by rw [spec_l3Steps.l1])
  exact Ev.neg (by omega) (Ev.now _)
 | succ m ih =>
  intro r hd hr
  have hlt : r < N := by omega
  refine Ev.go ?_ (fun k => by rw [spec_l3Steps.l1])
  refine Ev.pos (by omega) ?_
  have hb := Bw.rounds (g := grS N l (dst N l t)) (w := 1) (fun i _ => ⟨by show (0 : Int) ≤ 1; omega, by show (1 : Int) ≤ 1; omega⟩) t r
  have h16r : (grS N l (dst N l t)).m * r ≤ 16 * 8 := Nat.mul_le_mul h16 (by omega)
  exact l3Steps_arcs hg ht r hb (by omega) hlt _ 0 rfl (Nat.zero_le _) (ih (r + 1) (by omega) (by omega))
theorem l3Steps_fill : ∀ (m i : Nat), N - i = m → i ≤ N → Ev (fun k => spec_l3Steps.l0 k (t : Int) (lst N (fun v => far (dst N l t v))) (lst N (fun v => if v < i then 99999 else 0)) (i : Int) N l) (lst N (fun v => far (stp N l t v))) := by
 have h8 := hg.n8
 intro m
 induction m with
 | zero =>
  intro i hd hi
  obtain rfl : i = N := by omega
  refine Ev.go ?_ (fun k => by rw [spec_l3Steps.l0])
  have e : lst i (fun v => if v < i then (99999 : Int) else 0) = lst i (fun _ => 99999) := lst_congr (fun v hv => by rw [if_pos hv])
  rw [e, lst_len]
  refine Ev.neg (by omega) (Ev.pos (by omega) (Ev.pos (by omega) ?_))
  rw [Int.toNat_natCast, start_lst ht]
  exact (l3Steps_rounds hg ht _ 0 rfl (Nat.zero_le _))
 | succ m ih =>
  intro i hd hi
  have hlt : i < N := by omega
  refine Ev.go ?_ (fun k => by rw [spec_l3Steps.l0])
  rw [lst_len, Int.toNat_natCast, lst_fill N i 99999 (fun _ => 0) hlt, up1 hlt (by simp only [maxLen]; omega)]
  exact Ev.pos (by omega) (Ev.pos (by omega) (Ev.pos (by omega) (ih (i + 1) (by omega) (by omega))))
theorem l3All_back : Ev (fun k => spec_l3All.f k N (back l) (t : Int)) (lst N (fun v => far (dst N l t v))) := by
 have := l3All_ev (back_good hg) ht
 rw [back_back] at this
 exact this
theorem l3Steps_ev : Ev (fun k => spec_l3Steps.f k N l (t : Int)) (lst N (fun v => far (stp N l t v))) := by
 have h8 := hg.n8
 have h16 := hg.len
 unfold spec_l3Steps.f
 refine Ev.bind (l1Back_ev _ l (by omega)) (Ev.bind (l3All_back hg ht) (Ev.pos (by omega) (Ev.pos (by omega) ?_)))
 rw [Int.toNat_natCast, zeros_lst hg]
 exact l3Steps_fill hg ht _ 0 rfl (Nat.zero_le _)
theorem l3Walk_scan {u : Nat} (hu : u < N) {d : Int} (hd : dst N l t u = some d) {k : Nat} (hk : stp N l t u = some (k : Int)) (w : List Int) (hw : w.length ≤ 1000) {i0 : Nat} (hi0 : i0 < l.length) (hp : pA N l t u (arc l i0) = true) (hf : ∀ j, j < i0 → pA N l t u (arc l j) = false) {R : List Int × Bool}
  (h : Ev (fun k => spec_l3Walk.l0 k (t : Int) (lst N (fun v => far (dst N l t v))) (lst N (fun v => far (stp N l t v))) (w ++ [(i0 : Int)]) (arc l i0).f1 N l) R) :
  ∀ (m i : Nat), i0 - i = m → i ≤ i0 → Ev (fun k => spec_l3Walk.l1 k (t : Int) (lst N (fun v => far (dst N l t v))) (lst N (fun v => far (stp N l t v))) w (u : Int) (i : Int) N l) R := by
 have h8 := hg.n8
 have h16 := hg.len
 have hdb := dst_bd hg ht hu hd
 have key : ∀ (i : Nat), i < l.length → ∀ (A B : Nat → Option (List Int × Bool)), (pA N l t u (arc l i) = true → Ev A R) → (pA N l t u (arc l i) = false → Ev B R) →
   Ev (fun k => if (arc l i).f0 = (u : Int) then (if 0 ≤ (arc l i).f1 then (if (arc l i).f1 < ((lst N (fun v => far (dst N l t v))).length : Int) then (if (rd (lst N (fun v => far (dst N l t v))) ((arc l i).f1)) < 99999 then (if 0 ≤ (u : Int) then (if (u : Int) < ((lst N (fun v => far (dst N l t v))).length : Int) then (if (rd (lst N (fun v => far (dst N l t v))) (u : Int)) = (wrap64 ((arc l i).f2 + (rd (lst N (fun v => far (dst N l t v))) ((arc l i).f1)))) then (if (u : Int) < ((lst N (fun v => far (stp N l t v))).length : Int) then (if (arc l i).f1 < ((lst N (fun v => far (stp N l t v))).length : Int) then (if (rd (lst N (fun v => far (stp N l t v))) (u : Int)) = (wrap64 ((rd (lst N (fun v => far (stp N l t v))) ((arc l i).f1)) + 1)) then A k else B k) else none) else none) else B k) else none) else none) else B k) else none) else none) else B k) R := by
  intro i hi A B hA hB
  have hok := hg.ok i hi
  obtain ⟨g, hgg⟩ := Int.eq_ofNat_of_zero_le hok.2.1.1
  have hgN : g < N := by omega
  have ep : pA N l t u (arc l i) = (decide ((arc l i).f0 = (u : Int)) && match dst N l t g, stp N l t g with | some x, some k' => decide (dst N l t u = some ((arc l i).f2 + x)) && decide (stp N l t u = some (k' + 1)) | _, _ => false) := by
   unfold pA
   rw [hgg, Int.toNat_natCast]
   all_goals (cases dst N l t g <;> cases stp N l t g <;> rfl)
  by_cases c1 : (arc l i).f0 = (u : Int)
  case neg =>
   rw [decide_eq_false c1, Bool.false_and] at ep
   exact Ev.neg c1 (hB ep)
  rw [decide_eq_true c1, Bool.true_and] at ep
  refine Ev.pos c1 ?_
  rw [hgg, lst_rd _ hgN, lst_rd _ hu, lst_rd _ hgN, lst_rd _ hu, lst_len, lst_len]
  refine Ev.pos (by omega) (Ev.pos (by omega) ?_)
  cases e1 : dst N l t g with
  | none =>
   rw [e1] at ep
   exact Ev.neg (by show ¬ ((99999 : Int) < 99999); omega) (hB ep)
  | some x =>
   obtain ⟨k', e2, h2⟩ := stp_some hg ht hgN e1
   have hx := dst_bd hg ht hgN e1
   rw [e1, e2, hd, hk] at ep
   dsimp only at ep
   have w1 : wrap64 ((arc l i).f2 + far (some x)) = (arc l i).f2 + x := w64 (by show _ ≤ (arc l i).f2 + x; omega) (by show (arc l i).f2 + x ≤ _; omega)
   have w2 : wrap64 (far (some (k' : Int)) + 1) = (k' : Int) + 1 := w64 (by show _ ≤ (k' : Int) + 1; omega) (by show (k' : Int) + 1 ≤ _; omega)
   rw [e2, hd, hk, w1, w2]
   clear w1 w2
   refine Ev.pos (by show x < 99999; omega) (Ev.pos (by omega) (Ev.pos (by omega) ?_))
   by_cases c2 : d = (arc l i).f2 + x
   case neg =>
    refine Ev.neg (show ¬ far (some d) = _ from c2) (hB ?_)
    rw [decide_eq_false (fun h => c2 (Option.some.inj h)), Bool.false_and] at ep
    exact ep
   refine Ev.pos (show far (some d) = _ from c2) (Ev.pos (by omega) (Ev.pos (by omega) ?_))
   rw [decide_eq_true (show some d = some ((arc l i).f2 + x) by rw [c2]), Bool.true_and] at ep
   by_cases c3 : (k : Int) = (k' : Int) + 1
   case pos => exact Ev.pos (show far (some (k : Int)) = _ from c3) (hA (ep.trans (decide_eq_true (by rw [c3]))))
   exact Ev.neg (show ¬ far (some (k : Int)) = _ from c3) (hB (ep.trans (decide_eq_false (fun h => c3 (Option.some.inj h)))))
 intro m
 induction m with
 | zero =>
  intro i hd' hi
  obtain rfl : i = i0 := by omega
  refine Ev.go ?_ (fun k => by rw [spec_l3Walk.l1])
  refine Ev.pos (by omega) (Ev.pos (by omega) ?_)
  rw [rda]
  exact key i hi0 _ _ (fun _ => Ev.pos (by omega) h) (fun hc => by rw [hp] at hc; cases hc)
 | succ m ih =>
  intro i hd' hi
  have hlt : i < l.length := by omega
  have ih := ih (i + 1) (by omega) (by omega)
  rw [← up1 hlt (by simp only [maxLen]; omega)] at ih
  refine Ev.go ?_ (fun k => by rw [spec_l3Walk.l1])
  refine Ev.pos (by omega) (Ev.pos (by omega) ?_)
  rw [rda]
  exact key i hlt _ _ (fun hc => by rw [hf i (by omega)] at hc; cases hc) (fun _ => ih)
theorem l3Walk_l : ∀ (k u : Nat) (d : Int) (w : List Int), u < N → dst N l t u = some d → stp N l t u = some (k : Int) → w.length + k ≤ 100 → Ev (fun q => spec_l3Walk.l0 q (t : Int) (lst N (fun v => far (dst N l t v))) (lst N (fun v => far (stp N l t v))) w (u : Int) N l) (w ++ bestW N l t k u, true)
 | 0, u, d, w, hu, hd, hk, _ => by
  have hut : u = t := by
   apply Classical.byContradiction
   intro hne
   obtain ⟨i, _, _, _, _, _, h0, _⟩ := nx_ok hg ht hu hne hd hk
   omega
  subst hut
  refine Ev.go ?_ (fun k => by rw [spec_l3Walk.l0])
  exact Ev.pos rfl (Ev.is (by simp [bestW]))
 | k + 1, u, d, w, hu, hd, hk, hw => by
  have hne : u ≠ t := by
   rintro rfl
   rw [stp_t hg ht] at hk
   have := Option.some.inj hk
   omega
  obtain ⟨i, e, hi, h1, h2, h3, _, h4, h5, h6⟩ := nx_ok hg ht hu hne hd hk
  have hok := hg.ok i hi
  have ih := l3Walk_l k (arc l i).f1.toNat _ (w ++ [(i : Int)]) h2 h3 h4 (by simp; omega)
  have e0 : bestW N l t (k + 1) u = (i : Int) :: bestW N l t k (arc l i).f1.toNat := by
   show nxA N l t u :: bestW N l t k (arc l (nxA N l t u).toNat).f1.toNat = _
   rw [e, Int.toNat_natCast]
  refine Ev.go ?_ (fun k => by rw [spec_l3Walk.l0])
  refine Ev.neg (by omega) (l3Walk_scan hg ht hu hd hk w (by omega) hi h5 h6 ?_ _ 0 rfl (Nat.zero_le _))
  rw [show (((arc l i).f1.toNat : Nat) : Int) = (arc l i).f1 by omega] at ih
  exact ih.cast (by rw [e0]; simp)
theorem l3Walk_ev {u : Nat} (hu : u < N) : Ev (fun q => spec_l3Walk.f q N l (u : Int) (t : Int)) (walkW N l u t) := by
 have h8 := hg.n8
 have h16 := hg.len
 unfold spec_l3Walk.f walkW
 refine Ev.bind (l1Back_ev _ l (by omega)) (Ev.bind (l3All_back hg ht) (Ev.bind (l3Steps_ev hg ht) (Ev.bind0 rfl ?_)))
 rw [lst_len, lst_rd _ hu]
 refine Ev.pos (by omega) (Ev.pos (by omega) ?_)
 cases e1 : dst N l t u with
 | none => exact Ev.pos (by show (99999 : Int) ≥ 99999; omega) (Ev.now _)
 | some d =>
  obtain ⟨k, e2, h2⟩ := stp_some hg ht hu e1
  have hx := dst_bd hg ht hu e1
  rw [e2]
  dsimp only
  rw [Int.toNat_natCast]
  exact Ev.neg (by show ¬ d ≥ 99999; omega) ((l3Walk_l hg ht k u d [] hu e1 e2 (by simp; omega)).cast (by simp))
end
end Go.Proofs.Ytljdcinpjnijcaa.Pure
end
section
namespace Go.Proofs.Ytljdcinpjnijcaa.Pr
open Go.RowKit Go.Proofs.YtljdcinpjnijcaaW.PrintWords Go.Proofs.YtljdcinpjnijcaaW.PrintLast Go.Proofs.YtljdcinpjnijcaaW.PrintMore
attribute [local go_sem] max2_int min2_int max_two min_two max_three min_three max_four min_four
set_option linter.unusedVariables false
set_option linter.unusedSimpArgs false
mutual
def spec_HubArcs.l0 : Nat → List Int → Int → Int → List (S34) → Option (List Int)
 | 0, _, _, _, _ => none
 | k + 1, x3, x4, p3, p4 => if x4 < p3 then (spec_HubArcs.l1 k x3 x4 0 p3 p4) else (some x3)
def spec_HubArcs.l1 : Nat → List Int → Int → Int → Int → List (S34) → Option (List Int)
 | 0, _, _, _, _, _ => none
 | k + 1, x3, x4, x5, p3, p4 => if x5 < p3 then ((spec_l3Walk.f k p3 p4 x4 x5).bind fun bt626 => (spec_HubArcs.l2 k x3 x4 x5 bt626.1 0 p3 p4)) else (spec_HubArcs.l0 k x3 (wrap64 (x4 + 1)) p3 p4)
def spec_HubArcs.l2 : Nat → List Int → Int → Int → List Int → Int → Int → List (S34) → Option (List Int)
 | 0, _, _, _, _, _, _, _ => none
 | k + 1, x3, x4, x5, x6, x8, p3, p4 => if x8 < (x6.length : Int) then (if 0 ≤ x8 then (if 0 ≤ (rd x6 x8) then (if (rd x6 x8) < (x3.length : Int) then (spec_HubArcs.l2 k (x3.set ((rd x6 x8) : Int).toNat (wrap64 ((rd x3 (rd x6 x8)) + 1))) x4 x5 x6 (wrap64 (x8 + 1)) p3 p4) else (none)) else (none)) else (none)) else (spec_HubArcs.l1 k x3 x4 (wrap64 (x5 + 1)) p3 p4)
end
end Go.Proofs.Ytljdcinpjnijcaa.Pr
end
section
set_option linter.unusedSimpArgs false
set_option linter.unusedVariables false
set_option linter.unusedSectionVars false
namespace Go.Proofs.Ytljdcinpjnijcaa.Pure
open Go.RowKit Go.Proofs.Ytljdcinpjnijcaa.Pr Go.Proofs.YtljdcinpjnijcaaW.PrintWords Go.Proofs.YtljdcinpjnijcaaW.PrintLast Go.Proofs.YtljdcinpjnijcaaW.PrintMore
open Go.Proofs.Ytljdcinpjnijcaa.Sp (G Wk Opt)
def addAt (o : List Int) (i : Int) : List Int := o.set i.toNat (wrap64 (rd o i + 1))
theorem addAt_len (o : List Int) (i : Int) : (addAt o i).length = o.length := by simp [addAt]
def addAll (o : List Int) (x : List Int) : List Int := x.foldl addAt o
theorem addAll_len : ∀ (x o : List Int), (addAll o x).length = o.length
 | [], _ => rfl
 | k :: x, o => (addAll_len x (addAt o k)).trans (addAt_len o k)
def mids (l : List Arc) (x : List Int) : List Int := (x.drop 1).map fun k => (arc l k.toNat).f0
def rowF (st : List Int → List Int → List Int) (N : Nat) (l : List Arc) (a : Nat) : Nat → List Int → List Int
 | 0, o => o
 | d + 1, o => rowF st N l a d (st o (bestV N l a (N - (d + 1))).1)
def allF (st : List Int → List Int → List Int) (N : Nat) (l : List Arc) : Nat → List Int → List Int
 | 0, o => o
 | d + 1, o => allF st N l d (rowF st N l (N - (d + 1)) N o)
section
variable {N : Nat} {l : List Arc} (hg : NetGood N l)
include hg
theorem bestV_ok {a b : Nat} (ha : a < N) (hb : b < N) : (∀ k ∈ (bestV N l a b).1, 0 ≤ k ∧ k < l.length) ∧ (bestV N l a b).1.length ≤ 8 ∧ ((bestV N l a b).2 = false → (bestV N l a b).1 = []) ∧ ((bestV N l a b).2 = true → Chain l (a : Int) (bestV N l a b).1 (b : Int)) ∧ ((bestV N l a b).2 = true → a ≠ b → 1 ≤ (bestV N l a b).1.length) ∧ (a = b → (bestV N l a b).1 = []) := by
 have h8 := hg.n8
 unfold bestV
 cases e1 : dst N l b a with
 | none => simp
 | some d =>
  obtain ⟨k, e2, h2⟩ := stp_some hg hb ha e1
  rw [e2]
  dsimp only
  rw [Int.toNat_natCast]
  obtain ⟨c1, c2, c3⟩ := bestW_ok hg hb k a d ha e1 e2
  refine ⟨c1.rng _ _ _, by omega, fun h => (by cases h), fun _ => c1, fun _ hne => ?_, fun hab => ?_⟩
  ·rw [c2]
   cases k with
   | zero =>
    have e0 : bestW N l b 0 a = [] := rfl
    rw [e0] at c1
    have : (a : Int) = (b : Int) := c1
    omega
   | succ k => omega
  ·subst hab
   rw [stp_t hg ha] at e2
   have := Option.some.inj e2
   have hk : k = 0 := by omega
   subst hk
   rfl
theorem hubRow_ev {st : List Int → List Int → Option (List Int)} {sf : List Int → List Int → List Int} {m : Nat} (hst : ∀ a b, a < N → b < N → a ≠ b → (bestV N l a b).2 = true → ∀ o : List Int, o.length = m → st o (bestV N l a b).1 = some (sf o (bestV N l a b).1)) (hlen : ∀ o x, (sf o x).length = o.length) (hnil : ∀ o, sf o [] = o) {a : Nat} (ha : a < N) :
  ∀ (d : Nat) (o : List Int), d ≤ N → o.length = m → Ev (fun k => hubRow st k N l a d o) (rowF sf N l a d o)
 | 0, o, _, _ => Ev.now _
 | d + 1, o, hd, ho => by
  unfold hubRow rowF
  have hb : N - (d + 1) < N := by omega
  obtain ⟨_, _, h3, _, _, h6⟩ := bestV_ok hg ha hb
  refine Ev.bind (best_ev hg hb ha) ?_
  cases h : (bestV N l a (N - (d + 1))).2 with
  | false =>
   rw [h3 h, hnil]
   exact Ev.neg (by simp) (hubRow_ev hst hlen hnil ha d o (by omega) ho)
  | true =>
   refine Ev.pos rfl ?_
   by_cases hab : a = N - (d + 1)
   case pos =>
    rw [h6 hab, hnil]
    exact Ev.pos hab (hubRow_ev hst hlen hnil ha d o (by omega) ho)
   exact Ev.neg hab (Ev.bind0 (hst a _ ha hb hab h o ho) (hubRow_ev hst hlen hnil ha d _ (by omega) (by rw [hlen]; exact ho)))
theorem rowF_len {sf : List Int → List Int → List Int} (hlen : ∀ o x, (sf o x).length = o.length) (a : Nat) : ∀ (d : Nat) (o : List Int), (rowF sf N l a d o).length = o.length
 | 0, _ => rfl
 | d + 1, o => by
  unfold rowF
  rw [rowF_len hlen a d, hlen]
theorem allF_len {sf : List Int → List Int → List Int} (hlen : ∀ o x, (sf o x).length = o.length) : ∀ (d : Nat) (o : List Int), (allF sf N l d o).length = o.length
 | 0, _ => rfl
 | d + 1, o => by
  unfold allF
  rw [allF_len hlen d, rowF_len hg hlen]
theorem hubAll_ev {st : List Int → List Int → Option (List Int)} {sf : List Int → List Int → List Int} {m : Nat} (hst : ∀ a b, a < N → b < N → a ≠ b → (bestV N l a b).2 = true → ∀ o : List Int, o.length = m → st o (bestV N l a b).1 = some (sf o (bestV N l a b).1)) (hlen : ∀ o x, (sf o x).length = o.length) (hnil : ∀ o, sf o [] = o) :
  ∀ (d : Nat) (o : List Int), d ≤ N → o.length = m → Ev (fun k => hubAll st k N l d o) (allF sf N l d o)
 | 0, o, _, _ => Ev.now _
 | d + 1, o, hd, ho => by
  unfold hubAll allF
  exact Ev.bind (hubRow_ev hg hst hlen hnil (show N - (d + 1) < N by omega) N o (Nat.le_refl _) ho) (hubAll_ev hst hlen hnil d _ (by omega) (by rw [rowF_len hg hlen]; exact ho))
end
theorem incL_eq : ∀ (x o : List Int), (∀ k ∈ x, 0 ≤ k ∧ k < o.length) → incL o x = some (addAll o x)
 | [], o, _ => rfl
 | k :: x, o, h => by
  have hk := h k (List.mem_cons_self ..)
  unfold incL
  rw [if_pos hk.1, if_pos hk.2]
  exact incL_eq x (addAt o k) (fun j hj => by rw [addAt_len]; exact h j (List.mem_cons_of_mem _ hj))
def arcsV (n : Int) (l : List Arc) : List Int := if netOkB n l = true then allF addAll n.toNat l n.toNat (List.replicate l.length 0) else []
theorem implHubArcs_ev (n : Int) (l : List Arc) : Ev (fun k => impl_HubArcs.f k n l) (arcsV n l) := by
 unfold impl_HubArcs.f arcsV
 cases h : netOkB n l with
 | false => exact Ev.neg (by simp) (Ev.is (by simp))
 | true =>
  have hg := (netOkB_iff n l).1 h
  have h1 := hg.n1
  obtain ⟨N, rfl⟩ := Int.eq_ofNat_of_zero_le (show 0 ≤ n by omega)
  rw [if_pos rfl, Int.toNat_natCast]
  refine Ev.pos rfl (hubAll_ev hg (m := l.length) (fun a b ha hb _ _ o ho => ?_) (fun o x => addAll_len x o) (fun o => rfl) N _ (Nat.le_refl _) (by simp))
  obtain ⟨h2, h3, _⟩ := bestV_ok hg ha hb
  unfold stA
  rw [if_pos (by omega)]
  exact incL_eq _ _ (fun k hk => by rw [ho]; exact h2 k hk)
section
variable {N : Nat} {l : List Arc} (hg : NetGood N l)
include hg
theorem specHubArcs_l2 {a b : Nat} (hb : b < N) {x : List Int} (hx : x.length ≤ 8) (hr : ∀ k ∈ x, 0 ≤ k ∧ k < l.length) {R : List Int} : ∀ (m i : Nat) (o : List Int), x.length - i = m → i ≤ x.length → o.length = l.length →
  Ev (fun k => spec_HubArcs.l1 k (addAll o (x.drop i)) (a : Int) ((b + 1 : Nat) : Int) N l) R → Ev (fun k => spec_HubArcs.l2 k o (a : Int) (b : Int) x (i : Int) N l) R := by
 have h8 := hg.n8
 intro m
 induction m with
 | zero =>
  intro i o hd hi ho h
  rw [List.drop_of_length_le (by omega)] at h
  refine Ev.go ?_ (fun k => by rw [spec_HubArcs.l2])
  rw [up1 hb (by simp only [maxLen]; omega)]
  exact Ev.neg (by omega) h
 | succ m ih =>
  intro i o hd hi ho h
  have hlt : i < x.length := by omega
  have hk := hr _ (getD_mem hlt)
  rw [drop_cons hlt, ← nth_get hlt] at h
  refine Ev.go ?_ (fun k => by rw [spec_HubArcs.l2])
  rw [rdg i, up1 hlt (by simp only [maxLen]; omega)]
  exact Ev.pos (by omega) (Ev.pos (by omega) (Ev.pos (by omega) (Ev.pos (by omega) (ih (i + 1) (addAt o (nth x i)) (by omega) (by omega) (by rw [addAt_len]; exact ho) h))))
end
theorem incC_eq {l : List Arc} : ∀ (x o : List Int), (∀ k ∈ x, (0 ≤ k ∧ k < l.length) ∧ 0 ≤ (arc l k.toNat).f0 ∧ (arc l k.toNat).f0 < o.length) → incC l o x = some (addAll o (x.map fun k => (arc l k.toNat).f0))
 | [], o, _ => rfl
 | k :: x, o, h => by
  obtain ⟨⟨k0, k1⟩, k2, k3⟩ := h k (List.mem_cons_self ..)
  have e : rd_T34 l k = arc l k.toNat := by unfold arc; rw [Int.toNat_of_nonneg k0]
  unfold incC
  rw [if_pos k0, if_pos k1, e, if_pos k2, if_pos k3]
  exact incC_eq x (addAt o _) (fun j hj => by rw [addAt_len]; exact h j (List.mem_cons_of_mem _ hj))
def cntF (l : List Arc) (o x : List Int) : List Int := addAll o (mids l x)
def cntV (n : Int) (l : List Arc) : List Int := if netOkB n l = true then allF (cntF l) n.toNat l n.toNat (List.replicate n.toNat 0) else []
theorem implHubCount_ev (n : Int) (l : List Arc) : Ev (fun k => impl_HubCount.f k n l) (cntV n l) := by
 unfold impl_HubCount.f cntV
 cases h : netOkB n l with
 | false => exact Ev.neg (by simp) (Ev.is (by simp))
 | true =>
  have hg := (netOkB_iff n l).1 h
  have h1 := hg.n1
  obtain ⟨N, rfl⟩ := Int.eq_ofNat_of_zero_le (show 0 ≤ n by omega)
  rw [if_pos rfl, Int.toNat_natCast]
  refine Ev.pos rfl (hubAll_ev hg (sf := cntF l) (m := N) (fun a b ha hb hab hq o ho => ?_) (fun o x => addAll_len _ o) (fun o => rfl) N _ (Nat.le_refl _) (by simp))
  obtain ⟨h2, h3, _, _, h5, _⟩ := bestV_ok hg ha hb
  unfold stC
  rw [if_pos (by omega), if_pos (h5 hq hab)]
  refine incC_eq _ _ (fun k hk => ?_)
  have hk' := h2 k (List.mem_of_mem_drop hk)
  obtain ⟨q1, q2, _⟩ := hg.ok k.toNat (by omega)
  exact ⟨hk', q1.1, by rw [ho]; exact q1.2⟩
theorem Chain.next {l : List Arc} : ∀ (x : List Int) (u v : Int), Chain l u x v → ∀ i, i + 1 < x.length → (arc l (nth x (i + 1)).toNat).f0 = (arc l (nth x i).toNat).f1
 | [], _, _, _, i, h => absurd h (by simp)
 | [k], _, _, _, i, h => absurd h (by simp)
 | k :: j :: x, u, v, c, 0, h => c.2.1.2.2
 | k :: j :: x, u, v, c, i + 1, h => Chain.next (j :: x) _ v c.2 i (by simp only [List.length_cons] at h ⊢; omega)
section
variable {N : Nat} {l : List Arc} (hg : NetGood N l)
include hg
theorem specHubCount_l2 {a b : Nat} (hb : b < N) {x : List Int} {t : Bool} (hx : x.length ≤ 8) (hr : ∀ k ∈ x, 0 ≤ k ∧ k < l.length) (hc : t = true → ∃ u v, Chain l u x v) (hf : t = false → x = []) {R : List Int} : ∀ (m i : Nat) (o : List Int), x.length - i = m → i ≤ x.length → o.length = N →
  Ev (fun k => spec_HubCount.l1 k (addAll o ((x.drop (i + 1)).map fun k => (arc l k.toNat).f0)) (a : Int) ((b + 1 : Nat) : Int) N l) R → Ev (fun k => spec_HubCount.l2 k o (a : Int) (b : Int) x t (i : Int) N l) R := by
 have h8 := hg.n8
 intro m
 induction m with
 | zero =>
  intro i o hd hi ho h
  rw [List.drop_of_length_le (by omega)] at h
  refine Ev.go ?_ (fun k => by rw [spec_HubCount.l2])
  rw [up1 hb (by simp only [maxLen]; omega), up1 (show i < 9 by omega) (by simp only [maxLen]; omega)]
  exact Ev.neg (by omega) h
 | succ m ih =>
  intro i o hd hi ho h
  have hlt : i < x.length := by omega
  by_cases hl : i + 1 < x.length
  case neg =>
   rw [List.drop_of_length_le (by omega)] at h
   refine Ev.go ?_ (fun k => by rw [spec_HubCount.l2])
   rw [up1 hb (by simp only [maxLen]; omega), up1 (show i < 9 by omega) (by simp only [maxLen]; omega)]
   exact Ev.neg (by omega) h
  have ht : t = true := by
   cases t with
   | false => rw [hf rfl] at hl; simp at hl
   | true => rfl
  obtain ⟨u, v, c⟩ := hc ht
  have hn := Chain.next _ _ _ c i hl
  have hk := hr _ (getD_mem hlt)
  obtain ⟨q1, q2, _⟩ := hg.ok (nth x i).toNat (by omega)
  have e : rd_T34 l (nth x i) = arc l (nth x i).toNat := by unfold arc; rw [Int.toNat_of_nonneg hk.1]
  rw [drop_cons hl, List.map_cons, ← nth_get hl, hn] at h
  refine Ev.go ?_ (fun k => by rw [spec_HubCount.l2])
  rw [rdg i, e, up1 hlt (by simp only [maxLen]; omega)]
  exact Ev.pos (by omega) (Ev.pos ht (Ev.pos (by omega) (Ev.pos (by omega) (Ev.pos hk.1 (Ev.pos hk.2 (Ev.pos q2.1 (Ev.pos (by rw [ho]; exact q2.2) (ih (i + 1) (addAt o _) (by omega) (by omega) (by rw [addAt_len]; exact ho) h))))))))
theorem specHubCount_l1 {a : Nat} (ha : a < N) {R : List Int} : ∀ (d : Nat) (o : List Int), d ≤ N → o.length = N →
  Ev (fun k => spec_HubCount.l0 k (rowF (cntF l) N l a d o) ((a + 1 : Nat) : Int) N l) R → Ev (fun k => spec_HubCount.l1 k o (a : Int) ((N - d : Nat) : Int) N l) R
 | 0, o, _, ho, h => by
  have h8 := hg.n8
  refine Ev.go ?_ (fun k => by rw [spec_HubCount.l1])
  rw [up1 ha (by simp only [maxLen]; omega)]
  exact Ev.neg (by omega) h
 | d + 1, o, hd, ho, h => by
  have hb : N - (d + 1) < N := by omega
  obtain ⟨h2, h3, hf, hc, _⟩ := bestV_ok hg ha hb
  refine Ev.go ?_ (fun k => by rw [spec_HubCount.l1])
  refine Ev.pos (by omega) (Ev.bind (l3Walk_ev hg hb ha) ?_)
  refine specHubCount_l2 hg hb h3 h2 (fun h => ⟨_, _, hc h⟩) hf _ 0 o rfl (Nat.zero_le _) ho ?_
  rw [show N - (d + 1) + 1 = N - d by omega]
  exact specHubCount_l1 ha d _ (by omega) (by rw [addAll_len]; exact ho) h
theorem specHubCount_l0 : ∀ (d : Nat) (o : List Int), d ≤ N → o.length = N → Ev (fun k => spec_HubCount.l0 k o ((N - d : Nat) : Int) N l) (allF (cntF l) N l d o)
 | 0, o, _, ho => by
  refine Ev.go ?_ (fun k => by rw [spec_HubCount.l0])
  exact Ev.neg (by omega) (Ev.now _)
 | d + 1, o, hd, ho => by
  have ha : N - (d + 1) < N := by omega
  refine Ev.go ?_ (fun k => by rw [spec_HubCount.l0])
  refine Ev.pos (by omega) ?_
  have h := specHubCount_l1 hg ha (R := allF (cntF l) N l (d + 1) o) N o (Nat.le_refl _) ho
  rw [Nat.sub_self] at h
  refine h ?_
  rw [show N - (d + 1) + 1 = N - d by omega]
  exact specHubCount_l0 d _ (by omega) (by rw [rowF_len hg (sf := cntF l) (fun o x => addAll_len _ o)]; exact ho)
end
theorem specHubCount_ev (n : Int) (l : List Arc) (hm : l.length ≤ maxLen) : Ev (fun k => spec_HubCount.f k n l) (cntV n l) := by
 unfold spec_HubCount.f cntV
 refine Ev.bind (l1Ok_ev n l hm) ?_
 cases h : netOkB n l with
 | false => exact Ev.neg (by simp) (Ev.is (by simp))
 | true =>
  have hg := (netOkB_iff n l).1 h
  have h1 := hg.n1
  have h8 := hg.n8
  obtain ⟨N, rfl⟩ := Int.eq_ofNat_of_zero_le (show 0 ≤ n by omega)
  rw [if_pos rfl, Int.toNat_natCast]
  refine Ev.pos rfl (Ev.pos (by omega) (Ev.pos (by omega) ?_))
  have := specHubCount_l0 hg N (List.replicate N 0) (Nat.le_refl _) (by simp)
  rw [Nat.sub_self] at this
  exact this
theorem cntV_len (n : Int) (l : List Arc) : (cntV n l).length ≤ 8 := by
 unfold cntV
 cases h : netOkB n l with
 | false => simp
 | true =>
  have hg := (netOkB_iff n l).1 h
  have h1 := hg.n1
  have h8 := hg.n8
  obtain ⟨N, rfl⟩ := Int.eq_ofNat_of_zero_le (show 0 ≤ n by omega)
  rw [if_pos rfl, Int.toNat_natCast, allF_len hg (sf := cntF l) (fun o x => addAll_len _ o)]
  simp only [List.length_replicate]
  omega
end Go.Proofs.Ytljdcinpjnijcaa.Pure
end
section
set_option linter.unusedSimpArgs false
set_option linter.unusedVariables false
namespace Go.Proofs.Ytljdcinpjnijcaa.Pure
open Go.RowKit Go.Proofs.Ytljdcinpjnijcaa.Pr Go.Proofs.YtljdcinpjnijcaaW.PrintWords Go.Proofs.YtljdcinpjnijcaaW.PrintLast Go.Proofs.YtljdcinpjnijcaaW.PrintMore
def ramp (a : Int) (n : Nat) : List Int := lst n (fun v => a + v)
theorem markIntS_l (x : List Int) (a : Int) (ha : 0 ≤ a) (hm : a + x.length ≤ 1000000000) : ∀ (m i : Nat), x.length - i = m → i ≤ x.length → Ev (fun k => laws_markIntS.l0 k (lst x.length (fun v => if v < i then a + v else nth x v)) (a + i) (i : Int)) (a + x.length, ramp a x.length) := by
 intro m
 induction m with
 | zero =>
  intro i hd hi
  have e : i = x.length := by omega
  refine Ev.go ?_ (fun k => by rw [laws_markIntS.l0])
  refine Ev.neg (by rw [lst_len]; omega) (Ev.is ?_)
  rw [lst_congr (G := fun v => a + v) (fun v hv => if_pos (by omega)), e]
  rfl
 | succ m ih =>
  intro i hd hi
  have hlt : i < x.length := by omega
  have hn := ih (i + 1) (by omega) (by omega)
  refine Ev.go ?_ (fun k => by rw [laws_markIntS.l0])
  refine Ev.pos (by rw [lst_len]; omega) (Ev.pos (by omega) ?_)
  rw [up1 hlt (by simp only [maxLen]; omega), w64 (by omega) (by omega)]
  simp only [Int.toNat_natCast, lst_set]
  rw [show a + (i : Int) + 1 = a + ((i + 1 : Nat) : Int) by omega, lst_congr (G := fun v => if v < i + 1 then a + v else nth x v) ?_]
  ·exact hn
  ·intro v hv
   by_cases e : v = i
   case pos => subst e; rw [upd_same, if_pos (Nat.lt_succ_self _)]
   rw [upd_far _ _ e]
   by_cases h : v < i
   case neg => rw [if_neg h, if_neg (by omega)]
   rw [if_pos h, if_pos (by omega)]
theorem markIntS_ev (x : List Int) (a : Int) (ha : 0 ≤ a) (hm : a + x.length ≤ 1000000000) : Ev (fun k => laws_markIntS.f k x a) (a + x.length, ramp a x.length) := by
 unfold laws_markIntS.f
 have := markIntS_l x a ha hm _ 0 rfl (Nat.zero_le _)
 rw [lst_congr (G := nth x) (fun v hv => if_neg (Nat.not_lt_zero v)), lst_of, show a + ((0 : Nat) : Int) = a by omega] at this
 exact this
theorem heldIntS_l (a : Int) (n : Nat) (ha : 0 ≤ a) (hm : a + n ≤ 1000000000) : ∀ (m i : Nat), n - i = m → i ≤ n → Ev (fun k => laws_heldIntS.l0 k (ramp a n) (a + i) (i : Int)) (a + n) := by
 intro m
 induction m with
 | zero =>
  intro i hd hi
  have e : i = n := by omega
  subst e
  refine Ev.go ?_ (fun k => by rw [laws_heldIntS.l0])
  exact Ev.neg (by rw [ramp, lst_len]; omega) (Ev.now _)
 | succ m ih =>
  intro i hd hi
  have hlt : i < n := by omega
  have hn := ih (i + 1) (by omega) (by omega)
  refine Ev.go ?_ (fun k => by rw [laws_heldIntS.l0])
  refine Ev.pos (by rw [ramp, lst_len]; omega) (Ev.pos (by omega) (Ev.pos (by rw [ramp, lst_rd _ hlt]) ?_))
  rw [up1 hlt (by simp only [maxLen]; omega), w64 (by omega) (by omega), show a + (i : Int) + 1 = a + ((i + 1 : Nat) : Int) by omega]
  exact hn
theorem heldIntS_ev (a : Int) (n : Nat) (ha : 0 ≤ a) (hm : a + n ≤ 1000000000) : Ev (fun k => laws_heldIntS.f k (ramp a n) a) (a + n) := by
 unfold laws_heldIntS.f
 have := heldIntS_l a n ha hm _ 0 rfl (Nat.zero_le _)
 rwa [show a + ((0 : Nat) : Int) = a by omega] at this
theorem markArcS_l (n : Nat) (a : Int) (ha : 0 ≤ a) (hm : a + 5 * n ≤ 1000000000) : ∀ (m i : Nat) (l : List Arc), l.length = n → n - i = m → i ≤ n → Pv (fun k => laws_markArcS.l0 k l (a + 5 * i) (i : Int)) (fun r => r.1 = a + 5 * n) := by
 intro m
 induction m with
 | zero =>
  intro i l hl hd hi
  have e : i = n := by omega
  subst e
  refine Pv.go ?_ (fun k => by rw [laws_markArcS.l0])
  exact Pv.neg (by omega) (Pv.now rfl)
 | succ m ih =>
  intro i l hl hd hi
  have hlt : i < n := by omega
  have hup : wrap64 ((i : Int) + 1) = ((i + 1 : Nat) : Int) := up1 hlt (by simp only [maxLen]; omega)
  have s1 : wrap64 (a + 5 * (i : Int) + 1) = a + 5 * (i : Int) + 1 := w64 (by omega) (by omega)
  have s2 : wrap64 (a + 5 * (i : Int) + 1 + 1) = a + 5 * (i : Int) + 2 := by rw [w64 (by omega) (by omega)]; omega
  have s3 : wrap64 (a + 5 * (i : Int) + 2 + 1) = a + 5 * (i : Int) + 3 := by rw [w64 (by omega) (by omega)]; omega
  have s4 : wrap64 (a + 5 * (i : Int) + 3 + 1) = a + 5 * (i : Int) + 4 := by rw [w64 (by omega) (by omega)]; omega
  have s5 : wrap64 (a + 5 * (i : Int) + 4 + 1) = a + 5 * ((i + 1 : Nat) : Int) := by rw [w64 (by omega) (by omega)]; omega
  refine Pv.go ?_ (fun k => by rw [laws_markArcS.l0])
  simp only [s1, s2, s3, s4, s5, hup, Option.bind_some]
  exact Pv.pos (by omega) (Pv.pos (by omega) (ih (i + 1) _ (by simp [hl]) (by omega) (by omega)))
theorem markNet_pv (n : Int) (l : List Arc) (a : Int) (ha : 0 ≤ a) (hm : a + 5 * l.length ≤ 1000000000) : Pv (fun k => laws_markNet.f k n l a) (fun r => r.1 = a + 5 * l.length) := by
 have h := markArcS_l l.length a ha hm _ 0 l rfl rfl (Nat.zero_le _)
 rw [show a + 5 * ((0 : Nat) : Int) = a by omega] at h
 exact Pv.bind (R := fun r => r.1 = a + 5 * l.length) h (fun r hr => Pv.now hr)
theorem markNet_ev (n : Int) (l : List Arc) (a : Int) (ha : 0 ≤ a) (hm : a + 5 * l.length ≤ 1000000000) : ∃ y, Ev (fun k => laws_markNet.f k n l a) (a + 5 * l.length, y) := by
 obtain ⟨⟨r, y⟩, h, e⟩ := markNet_pv n l a ha hm
 dsimp only at e
 exact ⟨y, e ▸ h⟩
end Go.Proofs.Ytljdcinpjnijcaa.Pure
end
section
set_option linter.unusedSimpArgs false
set_option linter.unusedVariables false
namespace Go.Proofs.Ytljdcinpjnijcaa.Pure
open Go.RowKit Go.Proofs.Ytljdcinpjnijcaa.Pr Go.Proofs.YtljdcinpjnijcaaW.PrintWords Go.Proofs.YtljdcinpjnijcaaW.PrintLast Go.Proofs.YtljdcinpjnijcaaW.PrintMore
theorem eqIntS_l (l : List Int) (hm : l.length ≤ maxLen) : ∀ (d i : Nat), l.length - i = d → i ≤ l.length → Ev (fun k => laws_eqIntS.l0 k l l (i : Int)) true := by
 intro d
 induction d with
 | zero =>
  intro i hd hi
  refine Ev.go ?_ (fun k => by rw [laws_eqIntS.l0])
  exact Ev.neg (by omega) (Ev.now _)
 | succ d ih =>
  intro i hd hi
  have hlt : i < l.length := by omega
  refine Ev.go ?_ (fun k => by rw [laws_eqIntS.l0])
  refine Ev.pos (by omega) (Ev.pos (by omega) (Ev.pos (by omega) (Ev.pos rfl ?_)))
  rw [up1 hlt hm]
  exact ih (i + 1) (by omega) (by omega)
theorem eqIntS_ev (l : List Int) (hm : l.length ≤ maxLen) : Ev (fun k => laws_eqIntS.f k l l) true := by
 unfold laws_eqIntS.f
 exact Ev.pos rfl (eqIntS_l l hm _ 0 rfl (by omega))
end Go.Proofs.Ytljdcinpjnijcaa.Pure
end
section
set_option linter.unusedSimpArgs false
set_option linter.unusedVariables false
namespace Go.Proofs.Ytljdcinpjnijcaa.Pure
open Go.RowKit Go.Proofs.Ytljdcinpjnijcaa.Pr Go.Proofs.YtljdcinpjnijcaaW.PrintWords Go.Proofs.YtljdcinpjnijcaaW.PrintLast Go.Proofs.YtljdcinpjnijcaaW.PrintMore
theorem FnExactHubCount : laws_FnExactHubCount.Asked := by
 intro n l hn hl
 refine Ev.rounds ?_
 unfold laws_FnExactHubCount.f
 refine Ev.bind0 (szNet_eq n l 1048576 (by omega) (by omega) hl.1) ?_
 by_cases hs : (l.length : Int) ≤ 1048576
 case neg =>
  rw [if_pos (by omega)]
  exact Ev.pos (by omega) (Ev.now _)
 rw [if_neg (by omega)]
 have ht := toNet_ev n l (by omega)
 have hm : (l.map toA).length ≤ maxLen := by simpa using hl.1
 have hlen : (l.map toA).length = l.length := by simp
 have hv := cntV_len n (l.map toA)
 have hvm : (cntV n (l.map toA)).length ≤ maxLen := by simp only [maxLen]; omega
 have hq := eqIntS_ev _ hvm
 obtain ⟨y, hy⟩ := markNet_ev n (l.map toA) 1 (by omega) (by omega)
 have hmv := markIntS_ev (cntV n (l.map toA)) 1 (by omega) (by omega)
 have hh := heldIntS_ev 1 (cntV n (l.map toA)).length (by omega) (by omega)
 refine Ev.neg (by omega) (Ev.bind ht (Ev.bind (specHubCount_ev n _ hm) (Ev.bind ht (Ev.bind (implHubCount_ev n _) (Ev.bind hq (Ev.pos rfl (Ev.bind ht (Ev.bind (eqNet_ev n _ hm) (Ev.pos rfl (Ev.bind hy (Ev.neg (by simp only; omega) (Ev.bind hq ?_))))))))))))
 refine Ev.go ?_ (fun k => by rw [laws_FnExactHubCount.j0])
 refine Ev.neg (by simp) (Ev.bind hmv (Ev.bind hh (Ev.neg (by omega) (Ev.pos rfl ?_))))
 exact Ev.bind ht (Ev.bind (implHubCount_ev n _) (Ev.bind hq (Ev.pos rfl (Ev.bind hh (Ev.neg (by omega) (Ev.pos rfl (Ev.now _)))))))
end Go.Proofs.Ytljdcinpjnijcaa.Pure
end
section
namespace Go.Proofs.Ytljdcinpjnijcaa.fnExactHubCount
open Go.ChangeShapes Go.WideShapes Go.ChangeAt Go.RowKit Go.Proofs.YtljdcinpjnijcaaW.PrintWords Go.Proofs.Ytljdcinpjnijcaa.Pr
open Go.ChangeMaps (open_string shut_string)
set_option linter.unusedVariables false
set_option linter.unusedSimpArgs false
theorem own : ownKnob Try.prog.godebug = none := by kernel_rfl
theorem laidOut : laidOutB Try.prog = true := by kernel_rfl
instance inh112 : Inhabited S112 := ⟨z112⟩
theorem opens0 : Opens Try.prog (Kd.pair (Kd.int .i64) (Kd.slice 112 k112)) 38 (fun x => I64 x.1 ∧ (fun l => l.length ≤ maxLen ∧ ∀ x ∈ l, (fun b : S112 => (fun x => I64 x.1 ∧ (fun x => I64 x.1 ∧ (fun x => I64 x.1 ∧ (fun x => I64 x.1 ∧ I64 x.2) x.2) x.2) x.2) (b.f0, b.f1, b.f2, b.f3, b.f4)) x) x.2) := (opens_struct (P := Try.prog) Try.underlying38 (opensF_cons (P := Try.prog) (by kernel_rfl) (opens_i64 (P := Try.prog) Try.underlying3) (opensF_last (P := Try.prog) (by kernel_rfl) (by kernel_rfl) (opens_slice (P := Try.prog) Try.underlying36 (by kernel_rfl) (opens_iso (P := Try.prog) (fun x : S112 => (x.f0, x.f1, x.f2, x.f3, x.f4)) (fun x => (⟨x.1, x.2.1, x.2.2.1, x.2.2.2.1, x.2.2.2.2⟩ : S112)) (fun _ => rfl) (opens_struct (P := Try.prog) Try.underlying112 (opensF_cons (P := Try.prog) (by kernel_rfl) (opens_i64 (P := Try.prog) Try.underlying3) (opensF_cons (P := Try.prog) (by kernel_rfl) (opens_i64 (P := Try.prog) Try.underlying3) (opensF_cons (P := Try.prog) (by kernel_rfl) (opens_i64 (P := Try.prog) Try.underlying3) (opensF_cons (P := Try.prog) (by kernel_rfl) (opens_i64 (P := Try.prog) Try.underlying3) (opensF_last (P := Try.prog) (by kernel_rfl) (by kernel_rfl) (opens_i64 (P := Try.prog) Try.underlying3))))))))))))
set_option maxRecDepth 100000 in
set_option maxHeartbeats 2000000 in
theorem lifted (os : Os) (started : os.Started) (H : Type) (enc : TypeId × Value → H) :
  ReturnsInHanded {} Try.checked os 9 .any (Rows.fnExactHubCountSpec.pre6 enc Try.prog Try.f9 Rows.fnExactHubCountRow.domain false) (Rows.fnExactHubCountSpec.post enc Try.prog Try.f9 false true false false) := by
 refine returnsInHanded_of_change_sized (C := Try.checked) own started (by kernel_rfl) Try.func9
  (ChangeSpec.witness6 (enc := enc) (C := Try.checked) false ⟨#[], #[(.agg #[(.int .i64 0), (.slice none 0 0)])], []⟩ 8 (by kernel_rfl) (by kernel_rfl) (by kernel_rfl) (by kernel_rfl)) ?_
 intro W base args ds gs before hval0 hW hcnd hsz0 _
 have hval : ∀ (j : Nat) t v, Try.f9.params[j]? = some t → args[j]? = some v → Value.okWide Try.prog W .any base t v := hval0
 have hW' := hW
 obtain ⟨p, q, hA0, hV, rfl, hfz, hnd⟩ := hW
 have hA : DataW.TrodAll enc Try.prog W 0 (fun _ => true) true Try.f9.params.toList args.toList ds p := hA0
 rw [Try.params9] at hA hval
 obtain ⟨v0, vs0, d0, ds0, p0, q0, hargs, rfl, rfl, h0, r0⟩ := trodAll_cons hA
 obtain ⟨rfl, rfl, rfl⟩ := trodAll_nil r0
 obtain rfl : args = #[v0] := by cases args; simp_all
 obtain ⟨rfl, rfl⟩ := trodVars_none hV
 have k0 := h0
 have lt0 : ∀ x ∈ p0, x.block < W.heap.size := by obtain ⟨m, hm⟩ := k0; exact DataW.trod_lt m _ _ _ hm
 obtain ⟨cs0, rfl, hsz0⟩ := okWide_struct Try.underlying38 (hval 0 38 v0 rfl rfl)
 obtain ⟨fuel0, hf0⟩ := h0
 obtain ⟨x0, hK0, w0⟩ := opens0 hf0
 obtain ⟨u0_0, v0_0, e0_0, ha0_0, hb0_0⟩ := hK0
 have e0_1 : u0_0 = [.int .i64 x0.1] := ha0_0
 obtain ⟨A0_2, c0_2, e0_2, hc0_2, hr0_2⟩ := hb0_0
 have z0 : cs0 = #[.int .i64 x0.1, .slice A0_2 x0.2.length c0_2] := by
  apply Array.toList_inj.1
  have ee : (Value.agg cs0).cells.toList = cs0.toList := rfl
  rw [← ee]
  rw [e0_0]
  subst e0_1
  subst e0_2
  rfl
 subst z0
 clear e0_2 e0_1 e0_0
 obtain ⟨k, hh⟩ := Pure.FnExactHubCount (x0.1) x0.2 w0.1 w0.2
 refine (laws_FnExactHubCount.calls k (x0.1) A0_2 c0_2 x0.2 true W hr0_2 hc0_2 hh).mono fun e W' ⟨he, bel0⟩ => ?_
 have bel : Below W.heap.size W W' := bel0
 subst he
 exact ⟨_, rfl, _, _, _, [], _, [], hW', trodAll_mk1 (shut_bool Try.underlying4 _), (trodAll_cons_mk (Below.trod laidOut (by kernel_rfl) (of_decide_eq_true (by kernel_rfl)) k0 bel lt0) trodAll_mk0), rfl, bel.frame _, fun h => by cases h⟩
theorem over : Rows.fnExactHubCountRow.holds Try.pinned (OpenSpec.ofChange Rows.fnExactHubCountSpec) :=
 OpenClaim.holds_of_wide 9 Try.f9 rfl rfl rfl rfl rfl rfl rfl ⟨rfl, rfl, rfl, rfl, rfl⟩ rfl rfl rfl rfl rfl (by kernel_rfl) Try.func9 (by kernel_rfl)
  (of_decide_eq_true (by kernel_rfl)) (by unfold Func.isWrapper; first | (rw [if_pos (by decide +kernel)]; kernel_rfl) | (rw [if_neg (by decide +kernel)]; exact ⟨rfl, rfl⟩))
  (fun os started H enc _ => lifted os started H enc)
theorem proved : Rows.FnExactHubCountSaid := over
#print axioms proved
end Go.Proofs.Ytljdcinpjnijcaa.fnExactHubCount
namespace Go.Proofs.Ytljdcinpjnijcaa
theorem fnExactHubCount_holds : Rows.FnExactHubCountSaid := fnExactHubCount.proved
end Go.Proofs.Ytljdcinpjnijcaa
end
