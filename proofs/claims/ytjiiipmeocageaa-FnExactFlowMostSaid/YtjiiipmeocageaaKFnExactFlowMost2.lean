/- For the statement FnExactFlowMost of this seat: it is proved here, with no further conditions (part 3 of its texts: walks of the functions, the plain law, the row). -/
import Derived.Test.YtjiiipmeocageaaRows
import Derived.WalkKit
import Derived.ProofKit
import Derived.OpenShut
import Derived.ShutString
import Derived.ChangeOld
import Derived.Below
import Derived.SizedLaws
import Derived.WideShapes
import Derived.Test.YtjiiipmeocageaaKFnExactFlowMost1
section
set_option linter.unusedSimpArgs false
set_option linter.unusedVariables false
namespace Go.Proofs.Ytjiiipmeocageaa.Pure
open Go.RowKit Go.Proofs.Ytjiiipmeocageaa.Pr Go.Proofs.YtjiiipmeocageaaW.PrintWords Go.Proofs.YtjiiipmeocageaaW.PrintLast Go.Proofs.YtjiiipmeocageaaW.PrintMore
/-- Is node v in the set s. -/
def side (s v : Nat) : Bool := s.testBit v
theorem shr_fin : ∀ (s : Fin 256) (v : Fin 8), ((Int.tmod (shr .i64 ((s.val : Nat) : Int) ((v.val : Nat) : Int)) 2) == 1) = s.val.testBit v.val ∧ Go.bits .and .i64 (shr .i64 ((s.val : Nat) : Int) ((v.val : Nat) : Int)) 1 = (if s.val.testBit v.val then 1 else 0) := by decide +kernel
theorem shl_fin : ∀ (v : Fin 9), shl .i64 1 ((v.val : Nat) : Int) = ((2 ^ v.val : Nat) : Int) := by decide +kernel
theorem two8 {v : Nat} (h : v ≤ 8) : 2 ^ v ≤ 256 := by
  have : (2:Nat) ^ v ≤ 2 ^ 8 := Nat.pow_le_pow_right (by omega) h
  omega
theorem side_spec {s v : Nat} (hs : s < 256) (hv : v < 8) : spec_l25Side.f (s : Int) (v : Int) = some (side s v) := by
  unfold spec_l25Side.f side
  rw [if_pos (by omega), (shr_fin ⟨s, hs⟩ ⟨v, hv⟩).1]
theorem side_bits {s v : Nat} (hs : s < 256) (hv : v < 8) : Go.bits .and .i64 (shr .i64 (s : Int) (v : Int)) 1 = if side s v = true then 1 else 0 := (shr_fin ⟨s, hs⟩ ⟨v, hv⟩).2
/-- Does the arc lead out of the set. -/
def outB (s : Nat) (a : Arc) : Bool := side s a.f0.toNat && !side s a.f1.toNat
/-- What may go over the first i arcs out of the set. -/
def cutTo (l : List Arc) (s : Nat) : Nat → Int
  | 0 => 0
  | i + 1 => cutTo l s i + if outB s (arc l i) = true then (arc l i).f4 else 0
theorem cutTo_bd {n : Int} {l : List Arc} (h : NetGood n l) (s : Nat) : ∀ i, i ≤ l.length → 0 ≤ cutTo l s i ∧ cutTo l s i ≤ 9 * (i : Int) := by
  intro i
  induction i with
  | zero => intro _; simp [cutTo]
  | succ i ih =>
    intro hi
    have h1 := ih (by omega)
    have h2 := (h.ok i (by omega)).2.2.2.2.2
    simp only [cutTo]
    split <;> omega
/-- What may go out of the set. -/
def cutOf (l : List Arc) (s : Nat) : Int := cutTo l s l.length
theorem cutOf_bd {n : Int} {l : List Arc} (h : NetGood n l) (s : Nat) : 0 ≤ cutOf l s ∧ cutOf l s ≤ 144 := by
  have := cutTo_bd h s l.length (by omega)
  have := h.len
  unfold cutOf
  omega
theorem node8 {n : Int} {l : List Arc} (h : NetGood n l) {i : Nat} (hi : i < l.length) : (∃ v : Nat, (arc l i).f0 = (v : Int) ∧ v < 8) ∧ ∃ v : Nat, (arc l i).f1 = (v : Int) ∧ v < 8 := by
  have h1 := h.ok i hi
  have := h.n8
  exact ⟨⟨(arc l i).f0.toNat, by omega, by omega⟩, ⟨(arc l i).f1.toNat, by omega, by omega⟩⟩
theorem specCut_l {n : Int} {l : List Arc} (hg : NetGood n l) {s : Nat} (hs : s < 256) : ∀ (m i : Nat), l.length - i = m → i ≤ l.length → Ev (fun k => spec_l25Cut.l0 k (s : Int) (cutTo l s i) (i : Int) n l) (cutOf l s) := by
  have h16 := hg.len
  intro m
  induction m with
  | zero =>
    intro i hd hi
    refine Ev.go ?_ (fun k => by rw [spec_l25Cut.l0])
    have e : i = l.length := by omega
    subst e
    exact Ev.neg (by omega) (Ev.now _)
  | succ m ih =>
    intro i hd hi
    have hlt : i < l.length := by omega
    have hn := ih (i + 1) (by omega) (by omega)
    refine Ev.go ?_ (fun k => by rw [spec_l25Cut.l0])
    refine Ev.pos (by omega) (Ev.pos (by omega) ?_)
    obtain ⟨⟨v0, e0, h0⟩, v1, e1, h1⟩ := node8 hg hlt
    have hw : wrap64 (cutTo l s i + (arc l i).f4) = cutTo l s i + (arc l i).f4 := by
      have hb := cutTo_bd hg s i (by omega)
      have hf := (hg.ok i hlt).2.2.2.2.2
      clear hn e0 e1
      generalize cutTo l s i = c at *
      generalize (arc l i).f4 = f at *
      exact w64 (by omega) (by omega)
    have hu := up1 hlt (by simp only [maxLen]; omega)
    rw [rda, e0, e1, hu, hw]
    simp only [cutTo, outB, e0, e1, Int.toNat_natCast] at hn
    refine Ev.bind0 (side_spec hs h0) ?_
    cases c0 : side s v0 with
    | false =>
      rw [c0] at hn
      exact Ev.neg (by simp) (by simpa using hn)
    | true =>
      refine Ev.pos rfl (Ev.bind0 (side_spec hs h1) ?_)
      rw [c0] at hn
      cases c1 : side s v1 with
      | true =>
        rw [c1] at hn
        exact Ev.pos rfl (by simpa using hn)
      | false =>
        rw [c1] at hn
        exact Ev.neg (by simp) (by simpa using hn)
theorem specCut_ev {n : Int} {l : List Arc} (hg : NetGood n l) {s : Nat} (hs : s < 256) : Ev (fun k => spec_l25Cut.f k n l (s : Int)) (cutOf l s) := specCut_l hg hs _ 0 rfl (by omega)
theorem implCut_l {n : Int} {l : List Arc} (hg : NetGood n l) {s : Nat} (hs : s < 256) : ∀ (m i : Nat), l.length - i = m → i ≤ l.length → Ev (fun k => impl_Net_cut.l0 k (s : Int) (cutTo l s i) l (l.length : Int) (i : Int)) (cutOf l s) := by
  have h16 := hg.len
  intro m
  induction m with
  | zero =>
    intro i hd hi
    refine Ev.go ?_ (fun k => by rw [impl_Net_cut.l0])
    have e : i = l.length := by omega
    subst e
    exact Ev.neg (by omega) (Ev.now _)
  | succ m ih =>
    intro i hd hi
    have hlt : i < l.length := by omega
    have hn := ih (i + 1) (by omega) (by omega)
    refine Ev.go ?_ (fun k => by rw [impl_Net_cut.l0])
    refine Ev.pos (by omega) (Ev.pos (by omega) (Ev.pos (by omega) ?_))
    obtain ⟨⟨v0, e0, h0⟩, v1, e1, h1⟩ := node8 hg hlt
    have hw : wrap64 (cutTo l s i + (arc l i).f4) = cutTo l s i + (arc l i).f4 := by
      have hb := cutTo_bd hg s i (by omega)
      have hf := (hg.ok i hlt).2.2.2.2.2
      clear hn e0 e1
      generalize cutTo l s i = c at *
      generalize (arc l i).f4 = f at *
      exact w64 (by omega) (by omega)
    have hu := up1 hlt (by simp only [maxLen]; omega)
    rw [rda, e0, e1, hu, hw, side_bits hs h0, side_bits hs h1]
    simp only [cutTo, outB, e0, e1, Int.toNat_natCast] at hn
    refine Ev.pos (by omega) ?_
    cases c0 : side s v0 with
    | false =>
      rw [c0] at hn
      exact Ev.neg (by simp) (by simpa using hn)
    | true =>
      refine Ev.pos rfl (Ev.pos (by omega) ?_)
      rw [c0] at hn
      cases c1 : side s v1 with
      | true =>
        rw [c1] at hn
        exact Ev.neg (by simp) (by simpa using hn)
      | false =>
        rw [c1] at hn
        exact Ev.pos (by simp) (by simpa using hn)
theorem implCut_ev {n : Int} {l : List Arc} (hg : NetGood n l) {s : Nat} (hs : s < 256) : Ev (fun k => impl_Net_cut.f k n l (s : Int)) (cutOf l s) := implCut_l hg hs _ 0 rfl (by omega)
/-- The least that may go out of a set below s that holds a but not b; -1 if there is none. -/
def mostTo (l : List Arc) (a b : Nat) : Nat → Int
  | 0 => -1
  | s + 1 => if side s a = true then (if side s b = true then mostTo l a b s else if mostTo l a b s < 0 then cutOf l s else if cutOf l s < mostTo l a b s then cutOf l s else mostTo l a b s) else mostTo l a b s
theorem specMost_l {n : Int} {l : List Arc} (hg : NetGood n l) {a b : Nat} (ha : a < 8) (hb : b < 8) {N : Nat} (hN : n = (N : Int)) : ∀ (m s : Nat), 2 ^ N - s = m → s ≤ 2 ^ N → Ev (fun k => spec_FlowMost.l0 k (a : Int) (b : Int) (mostTo l a b s) (s : Int) n l) (mostTo l a b (2 ^ N)) := by
  have hN8 : N ≤ 8 := by have := hg.n8; omega
  have h256 := two8 hN8
  have hsh : shl .i64 1 n = ((2 ^ N : Nat) : Int) := by rw [hN]; exact shl_fin ⟨N, by omega⟩
  intro m
  induction m with
  | zero =>
    intro s hd hi
    refine Ev.go ?_ (fun k => by rw [spec_FlowMost.l0])
    have e : s = 2 ^ N := by omega
    refine Ev.pos (by have := hg.n1; omega) ?_
    rw [hsh]
    subst e
    exact Ev.neg (by omega) (Ev.now _)
  | succ m ih =>
    intro s hd hi
    have hlt : s < 2 ^ N := by omega
    have hn := ih (s + 1) (by omega) (by omega)
    have hu : wrap64 ((s : Int) + 1) = ((s + 1 : Nat) : Int) := up1 hlt (by simp only [maxLen]; omega)
    rw [← hu] at hn
    refine Ev.go ?_ (fun k => by rw [spec_FlowMost.l0])
    refine Ev.pos (by have := hg.n1; omega) ?_
    rw [hsh]
    refine Ev.pos (by omega) (Ev.bind0 (side_spec (by omega) ha) ?_)
    simp only [mostTo] at hn
    cases c0 : side s a with
    | false =>
      rw [c0] at hn
      refine Ev.neg (by simp) (Ev.go ?_ (fun k => by rw [spec_FlowMost.j2]))
      exact Ev.neg (by simp) (by simpa using hn)
    | true =>
      rw [c0] at hn
      refine Ev.pos rfl (Ev.bind0 (side_spec (by omega) hb) (Ev.go ?_ (fun k => by rw [spec_FlowMost.j2])))
      cases c1 : side s b with
      | true =>
        rw [c1] at hn
        exact Ev.neg (by simp) (by simpa using hn)
      | false =>
        rw [c1] at hn
        refine Ev.pos (by simp) (Ev.bind (specCut_ev hg (by omega)) ?_)
        simp only [Bool.false_eq_true, if_false, if_true] at hn
        by_cases c2 : mostTo l a b s < 0
        · rw [if_pos c2] at hn
          exact Ev.pos c2 hn
        · rw [if_neg c2] at hn
          refine Ev.neg c2 ?_
          by_cases c3 : cutOf l s < mostTo l a b s
          · rw [if_pos c3] at hn
            exact Ev.pos c3 hn
          · rw [if_neg c3] at hn
            exact Ev.neg c3 hn
theorem implMost_l {n : Int} {l : List Arc} (hg : NetGood n l) {a b : Nat} (ha : a < 8) (hb : b < 8) {N : Nat} (hN : n = (N : Int)) : ∀ (m s : Nat), 2 ^ N - s = m → s ≤ 2 ^ N → Ev (fun k => impl_FlowMost.l0 k (a : Int) (b : Int) (mostTo l a b s) ((2 ^ N : Nat) : Int) (s : Int) n l) (mostTo l a b (2 ^ N)) := by
  have hN8 : N ≤ 8 := by have := hg.n8; omega
  have h256 := two8 hN8
  intro m
  induction m with
  | zero =>
    intro s hd hi
    refine Ev.go ?_ (fun k => by rw [impl_FlowMost.l0])
    have e : s = 2 ^ N := by omega
    subst e
    exact Ev.neg (by omega) (Ev.now _)
  | succ m ih =>
    intro s hd hi
    have hlt : s < 2 ^ N := by omega
    have hn := ih (s + 1) (by omega) (by omega)
    have hu : wrap64 ((s : Int) + 1) = ((s + 1 : Nat) : Int) := up1 hlt (by simp only [maxLen]; omega)
    rw [← hu] at hn
    refine Ev.go ?_ (fun k => by rw [impl_FlowMost.l0])
    rw [side_bits (by omega) ha, side_bits (by omega) hb]
    refine Ev.pos (by omega) (Ev.pos (by omega) ?_)
    simp only [mostTo] at hn
    cases c0 : side s a with
    | false =>
      rw [c0] at hn
      exact Ev.neg (by simp) (by simpa using hn)
    | true =>
      rw [c0] at hn
      refine Ev.pos rfl (Ev.pos (by omega) ?_)
      cases c1 : side s b with
      | true =>
        rw [c1] at hn
        exact Ev.neg (by simp) (by simpa using hn)
      | false =>
        rw [c1] at hn
        refine Ev.pos (by simp) ?_
        simp only [Bool.false_eq_true, if_false, if_true] at hn
        by_cases c2 : mostTo l a b s < 0
        · rw [if_pos c2] at hn
          exact Ev.pos c2 (Ev.bind (implCut_ev hg (by omega)) hn)
        · rw [if_neg c2] at hn
          refine Ev.neg c2 (Ev.bind (implCut_ev hg (by omega)) ?_)
          by_cases c3 : cutOf l s < mostTo l a b s
          · rw [if_pos c3] at hn
            exact Ev.pos c3 (Ev.bind (implCut_ev hg (by omega)) hn)
          · rw [if_neg c3] at hn
            exact Ev.neg c3 hn
/-- What FlowMost answers. -/
def mostB (n : Int) (l : List Arc) (a b : Int) : Bool := netOkB n l && (okN n a && (okN n b && (a != b)))
def mostV (n : Int) (l : List Arc) (a b : Int) : Int := if mostB n l a b = true then mostTo l a.toNat b.toNat (2 ^ n.toNat) else -1
theorem mostB_iff (n : Int) (l : List Arc) (a b : Int) : mostB n l a b = true ↔ NetGood n l ∧ (0 ≤ a ∧ a < n) ∧ (0 ≤ b ∧ b < n) ∧ a ≠ b := by
  simp only [mostB, Bool.and_eq_true, netOkB_iff, okN, decide_eq_true_eq, bne_iff_ne]
  constructor
  · rintro ⟨h1, ⟨h2, h3⟩, ⟨h4, h5⟩, h6⟩
    exact ⟨h1, ⟨h2, by omega⟩, ⟨h4, by omega⟩, h6⟩
  · rintro ⟨h1, ⟨h2, h3⟩, ⟨h4, h5⟩, h6⟩
    exact ⟨h1, ⟨h2, by omega⟩, ⟨h4, by omega⟩, h6⟩
theorem inB_okN {n : Int} {l : List Arc} (h : NetGood n l) (a : Int) : inB a 0 (wrap64 (n - 1)) = okN n a := by
  have := h.n1
  have := h.n8
  rw [w64 (by omega) (by omega)]
  rfl
theorem specMost_ev (n : Int) (l : List Arc) (a b : Int) (hm : l.length ≤ maxLen) : Ev (fun k => spec_FlowMost.f k n l a b) (mostV n l a b) := by
  unfold spec_FlowMost.f
  refine Ev.bind (l1Ok_ev n l hm) ?_
  have key : ∀ x : Bool, x = mostB n l a b → Ev (fun k => spec_FlowMost.j0 k a b (-1) (!x) n l) (mostV n l a b) := by
    intro x hx
    refine Ev.go ?_ (fun k => by rw [spec_FlowMost.j0])
    unfold mostV
    rw [← hx]
    cases x with
    | false => exact Ev.pos rfl (Ev.now _)
    | true =>
      obtain ⟨hg, ha, hb, hne⟩ := (mostB_iff n l a b).1 hx.symm
      have h8 := hg.n8
      refine Ev.neg (by simp) ?_
      rw [if_pos rfl]
      have := specMost_l hg (a := a.toNat) (b := b.toNat) (by omega) (by omega) (N := n.toNat) (by omega) _ 0 rfl (Nat.zero_le _)
      rwa [show ((a.toNat : Nat) : Int) = a by omega, show ((b.toNat : Nat) : Int) = b by omega] at this
  cases c0 : netOkB n l with
  | false => exact Ev.neg (by simp) (key false (by simp [mostB, c0]))
  | true =>
    have hg := (netOkB_iff n l).1 c0
    refine Ev.pos rfl (Ev.bind0 (in1 _ _ _) ?_)
    rw [inB_okN hg]
    cases c1 : okN n a with
    | false => exact Ev.neg (by simp) (key false (by simp [mostB, c1]))
    | true =>
      refine Ev.pos rfl (Ev.bind0 (in1 _ _ _) ?_)
      rw [inB_okN hg]
      cases c2 : okN n b with
      | false => exact Ev.neg (by simp) (key false (by simp [mostB, c2]))
      | true =>
        refine Ev.pos rfl ?_
        have := key (a != b) (by simp [mostB, c0, c1, c2])
        have e : (a == b) = !(a != b) := by simp [bne]
        rw [e]
        exact this
theorem implMost_ev (n : Int) (l : List Arc) (a b : Int) : Ev (fun k => impl_FlowMost.f k n l a b) (mostV n l a b) := by
  unfold impl_FlowMost.f
  refine Ev.bind0 (apart_eq n l a b) ?_
  unfold mostV
  change Ev (fun k => if mostB n l a b = true then _ else _) _
  cases hx : mostB n l a b with
  | false => exact Ev.neg (by simp) (Ev.now _)
  | true =>
    obtain ⟨hg, ha, hb, hne⟩ := (mostB_iff n l a b).1 hx
    have h1 := hg.n1
    have h8 := hg.n8
    refine Ev.pos rfl (Ev.pos (by omega) ?_)
    rw [if_pos rfl]
    have := implMost_l hg (a := a.toNat) (b := b.toNat) (by omega) (by omega) (N := n.toNat) (by omega) _ 0 rfl (Nat.zero_le _)
    rw [show ((a.toNat : Nat) : Int) = a by omega, show ((b.toNat : Nat) : Int) = b by omega] at this
    have hsh : shl .i64 1 n = ((2 ^ n.toNat : Nat) : Int) := by
      have := shl_fin ⟨n.toNat, by omega⟩
      rwa [show ((n.toNat : Nat) : Int) = n by omega] at this
    rw [hsh]
    exact this
end Go.Proofs.Ytjiiipmeocageaa.Pure
end
section
set_option linter.unusedSimpArgs false
set_option linter.unusedVariables false
namespace Go.Proofs.Ytjiiipmeocageaa.Pure
open Go.RowKit Go.Proofs.Ytjiiipmeocageaa.Pr Go.Proofs.YtjiiipmeocageaaW.PrintWords Go.Proofs.YtjiiipmeocageaaW.PrintLast Go.Proofs.YtjiiipmeocageaaW.PrintMore
theorem FnExactFlowMost : laws_FnExactFlowMost.Asked := by
  intro n l a b hn hl ha hb
  refine Ev.rounds ?_
  unfold laws_FnExactFlowMost.f
  refine Ev.bind0 (szNet_eq n l 1048576 (by omega) (by omega) hl.1) ?_
  by_cases hs : (l.length : Int) ≤ 1048576
  · rw [if_neg (by omega)]
    have ht := toNet_ev n l (by omega)
    have hm : (l.map toA).length ≤ maxLen := by simpa using hl.1
    refine Ev.neg (by omega) (Ev.bind ht (Ev.bind (specMost_ev n _ a b hm) (Ev.bind ht (Ev.bind (implMost_ev n _ a b) (Ev.pos rfl (Ev.bind ht (Ev.bind (eqNet_ev n _ hm) (Ev.pos rfl (Ev.now _)))))))))
  · rw [if_pos (by omega)]
    exact Ev.pos (by omega) (Ev.now _)
end Go.Proofs.Ytjiiipmeocageaa.Pure
end
section
namespace Go.Proofs.Ytjiiipmeocageaa.fnExactFlowMost
open Go.ChangeShapes Go.WideShapes Go.ChangeAt Go.RowKit Go.Proofs.YtjiiipmeocageaaW.PrintWords Go.Proofs.Ytjiiipmeocageaa.Pr
open Go.ChangeMaps (open_string shut_string)
set_option linter.unusedVariables false
set_option linter.unusedSimpArgs false
theorem own : ownKnob Try.prog.godebug = none := by kernel_rfl
theorem laidOut : laidOutB Try.prog = true := by kernel_rfl
instance inh104 : Inhabited S104 := ⟨z104⟩
theorem opens0 : Opens Try.prog (Kd.pair (Kd.int .i64) (Kd.slice 104 k104)) 59 (fun x => I64 x.1 ∧ (fun l => l.length ≤ maxLen ∧ ∀ x ∈ l, (fun b : S104 => (fun x => I64 x.1 ∧ (fun x => I64 x.1 ∧ (fun x => I64 x.1 ∧ (fun x => I64 x.1 ∧ I64 x.2) x.2) x.2) x.2) (b.f0, b.f1, b.f2, b.f3, b.f4)) x) x.2) := (opens_struct (P := Try.prog) Try.underlying59 (opensF_cons (P := Try.prog) (by kernel_rfl) (opens_i64 (P := Try.prog) Try.underlying3) (opensF_last (P := Try.prog) (by kernel_rfl) (by kernel_rfl) (opens_slice (P := Try.prog) Try.underlying57 (by kernel_rfl) (opens_iso (P := Try.prog) (fun x : S104 => (x.f0, x.f1, x.f2, x.f3, x.f4)) (fun x => (⟨x.1, x.2.1, x.2.2.1, x.2.2.2.1, x.2.2.2.2⟩ : S104)) (fun _ => rfl) (opens_struct (P := Try.prog) Try.underlying104 (opensF_cons (P := Try.prog) (by kernel_rfl) (opens_i64 (P := Try.prog) Try.underlying3) (opensF_cons (P := Try.prog) (by kernel_rfl) (opens_i64 (P := Try.prog) Try.underlying3) (opensF_cons (P := Try.prog) (by kernel_rfl) (opens_i64 (P := Try.prog) Try.underlying3) (opensF_cons (P := Try.prog) (by kernel_rfl) (opens_i64 (P := Try.prog) Try.underlying3) (opensF_last (P := Try.prog) (by kernel_rfl) (by kernel_rfl) (opens_i64 (P := Try.prog) Try.underlying3))))))))))))
set_option maxRecDepth 100000 in
set_option maxHeartbeats 2000000 in
theorem lifted (os : Os) (started : os.Started) (H : Type) (enc : TypeId × Value → H) :
    ReturnsInHanded {} Try.checked os 8 .any (Rows.fnExactFlowMostSpec.pre6 enc Try.prog Try.f8 Rows.fnExactFlowMostRow.domain false) (Rows.fnExactFlowMostSpec.post enc Try.prog Try.f8 false true false false) := by
  refine returnsInHanded_of_change_sized (C := Try.checked) own started (by kernel_rfl) Try.func8
    (ChangeSpec.witness6 (enc := enc) (C := Try.checked) false ⟨#[], #[(.agg #[(.int .i64 0), (.slice none 0 0)]), (.int .i64 0), (.int .i64 0)], []⟩ 8 (by kernel_rfl) (by kernel_rfl) (by kernel_rfl) (by kernel_rfl)) ?_
  intro W base args ds gs before hval0 hW hcnd hsz0 _
  have hval : ∀ (j : Nat) t v, Try.f8.params[j]? = some t → args[j]? = some v → Value.okWide Try.prog W .any base t v := hval0
  have hW' := hW
  obtain ⟨p, q, hA0, hV, rfl, hfz, hnd⟩ := hW
  have hA : DataW.TrodAll enc Try.prog W 0 (fun _ => true) true Try.f8.params.toList args.toList ds p := hA0
  rw [Try.params8] at hA hval
  obtain ⟨v0, vs0, d0, ds0, p0, q0, hargs, rfl, rfl, h0, r0⟩ := trodAll_cons hA
  obtain ⟨v1, vs1, d1, ds1, p1, q1, rfl, rfl, rfl, h1, r1⟩ := trodAll_cons r0
  obtain ⟨v2, vs2, d2, ds2, p2, q2, rfl, rfl, rfl, h2, r2⟩ := trodAll_cons r1
  obtain ⟨rfl, rfl, rfl⟩ := trodAll_nil r2
  obtain rfl : args = #[v0, v1, v2] := by cases args; simp_all
  obtain ⟨rfl, rfl⟩ := trodVars_none hV
  have k0 := h0
  have lt0 : ∀ x ∈ p0, x.block < W.heap.size := by obtain ⟨m, hm⟩ := k0; exact DataW.trod_lt m _ _ _ hm
  obtain ⟨cs0, rfl, hsz0⟩ := okWide_struct Try.underlying59 (hval 0 59 v0 rfl rfl)
  obtain ⟨fuel0, hf0⟩ := h0
  obtain ⟨x0, hK0, w0⟩ := opens0 hf0
  obtain ⟨u0_0, v0_0, e0_0, ha0_0, hb0_0⟩ := hK0
  have e0_1 : u0_0 = [.int .i64 x0.1] := ha0_0
  obtain ⟨A0_2, c0_2, e0_2, hc0_2, hr0_2⟩ := hb0_0
  have z0 : cs0 = #[.int .i64 x0.1, .slice A0_2 x0.2.length c0_2] := by
    apply Array.toList_inj.1
    have ee : (Value.agg cs0).cells.toList = cs0.toList := rfl
    rw [← ee]
    rw [e0_0]
    subst e0_1
    subst e0_2
    rfl
  subst z0
  clear e0_2 e0_1 e0_0
  obtain ⟨a1, rfl, rfl, rfl, w1⟩ := open_int Try.underlying3 (hval 1 3 v1 rfl rfl) h1
  obtain ⟨a2, rfl, rfl, rfl, w2⟩ := open_int Try.underlying3 (hval 2 3 v2 rfl rfl) h2
  obtain ⟨k, hh⟩ := Pure.FnExactFlowMost (x0.1) x0.2 a1 a2 w0.1 w0.2 (I64_of w1) (I64_of w2)
  refine (laws_FnExactFlowMost.calls k (x0.1) A0_2 c0_2 x0.2 a1 a2 true W hr0_2 hc0_2 hh).mono fun e W' ⟨he, bel0⟩ => ?_
  have bel : Below W.heap.size W W' := bel0
  subst he
  exact ⟨_, rfl, _, _, _, [], _, [], hW', trodAll_mk1 (shut_bool Try.underlying4 _), (trodAll_cons_mk (Below.trod laidOut (by kernel_rfl) (of_decide_eq_true (by kernel_rfl)) k0 bel lt0) (trodAll_cons_mk (shut_int Try.underlying3 w1) (trodAll_cons_mk (shut_int Try.underlying3 w2) trodAll_mk0))), rfl, bel.frame _, fun h => by cases h⟩
theorem over : Rows.fnExactFlowMostRow.holds Try.pinned (OpenSpec.ofChange Rows.fnExactFlowMostSpec) :=
  OpenClaim.holds_of_wide 8 Try.f8 rfl rfl rfl rfl rfl rfl rfl ⟨rfl, rfl, rfl, rfl, rfl⟩ rfl rfl rfl rfl rfl (by kernel_rfl) Try.func8 (by kernel_rfl)
    (of_decide_eq_true (by kernel_rfl)) (by unfold Func.isWrapper; first | (rw [if_pos (by decide +kernel)]; kernel_rfl) | (rw [if_neg (by decide +kernel)]; exact ⟨rfl, rfl⟩))
    (fun os started H enc _ => lifted os started H enc)
theorem proved : Rows.FnExactFlowMostSaid := over
#print axioms proved
end Go.Proofs.Ytjiiipmeocageaa.fnExactFlowMost
namespace Go.Proofs.Ytjiiipmeocageaa
/-- The row, under a short name, for the claim. -/
theorem fnExactFlowMost_holds : Rows.FnExactFlowMostSaid := fnExactFlowMost.proved
end Go.Proofs.Ytjiiipmeocageaa
end
