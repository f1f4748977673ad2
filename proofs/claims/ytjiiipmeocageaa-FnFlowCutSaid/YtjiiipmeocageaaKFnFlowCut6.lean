/- For the statement FnFlowCut of this seat: it is proved here, with no further conditions (part 7 of its texts: words, walks of the functions, the plain law, the row). -/
import Derived.Test.YtjiiipmeocageaaRows
import Derived.WalkKit
import Derived.ProofKit
import Derived.OpenShut
import Derived.ShutString
import Derived.ChangeOld
import Derived.Below
import Derived.SizedLaws
import Derived.WideShapes
import Derived.Test.YtjiiipmeocageaaKFnFlowCut5
section
set_option linter.unusedSimpArgs false
set_option linter.unusedVariables false
namespace Go.Proofs.Ytjiiipmeocageaa.Pure
open Go.RowKit Go.Proofs.Ytjiiipmeocageaa.Pr Go.Proofs.YtjiiipmeocageaaW.PrintWords Go.Proofs.YtjiiipmeocageaaW.PrintLast Go.Proofs.YtjiiipmeocageaaW.PrintMore
def NetSz (p : Int) (r : Int × List Arc × Int) : Prop := (0 ≤ r.1 ∧ r.1 ≤ 9) ∧ r.2.1.length ≤ 13 ∧ (p ≤ r.2.2 ∧ r.2.2 ≤ p + 100)
theorem net_l {b : List Int} (h : Rdr b) (n : Int) (hn : 1 ≤ n ∧ n ≤ 9) : ∀ (m : Nat) (p : Int) (l : List Arc), 0 ≤ p → p + 6 * m ≤ 100000 → m ≤ 13 → l.length ≤ 13 - m → Pv (fun k => spec_l30Net.l0 k (m : Int) b p n l) (fun r => r.1 = n ∧ r.2.1.length ≤ 13 ∧ (p ≤ r.2.2 ∧ r.2.2 ≤ p + 6 * m)) := by
 intro m
 induction m with
 | zero =>
  intro p l hp hp' hm hl
  refine Pv.go ?_ (fun k => by rw [spec_l30Net.l0])
  exact Pv.neg (by omega) (Pv.now ⟨rfl, by dsimp only; omega, by dsimp only; omega⟩)
 | succ m ih =>
  intro p l hp hp' hm hl
  have hw : wrap64 (((m + 1 : Nat) : Int) - 1) = (m : Int) := by rw [w64 (by omega) (by omega)]; omega
  refine Pv.go ?_ (fun k => by rw [spec_l30Net.l0])
  rw [hw]
  refine Pv.pos (by omega) (Pv.bind (pick_pv h hp (by omega)) (fun r1 ⟨a1, e1⟩ => Pv.bind (pick_pv h (p := r1.2) (by omega) (by omega)) (fun r2 ⟨a2, e2⟩ => Pv.bind (pick_pv h (p := r2.2) (by omega) (by omega)) (fun r3 ⟨a3, e3⟩ => Pv.bind (one_pv h (p := r3.2) (by omega) (by omega) (by simp)) (fun r4 ⟨a4, e4⟩ => Pv.bind (one_pv h (p := r4.2) (by omega) (by omega) (by simp)) (fun r5 ⟨a5, e5⟩ => Pv.bind (pick_pv h (p := r5.2) (by omega) (by omega)) (fun r6 ⟨a6, e6⟩ => ?_)))))))
  have step : ∀ x : Arc, Pv (fun k => spec_l30Net.l0 k (m : Int) b r6.2 n (l ++ [x])) (fun r => r.1 = n ∧ r.2.1.length ≤ 13 ∧ (p ≤ r.2.2 ∧ r.2.2 ≤ p + 6 * ((m + 1 : Nat) : Int))) := fun x => (ih r6.2 (l ++ [x]) (by omega) (by omega) (by omega) (by simp; omega)).mono (fun r hr => ⟨hr.1, hr.2.1, by omega, by omega⟩)
  refine Pv.ite (fun _ => Pv.neg (by omega) (Pv.pos (by omega) (step _))) (fun _ => Pv.pos (by omega) (step _))
theorem net_pv {b : List Int} (h : Rdr b) {p : Int} (hp : 0 ≤ p) (hp' : p ≤ 10000) : Pv (fun k => spec_l30Net.f k b p) (fun r => (2 ≤ r.1 ∧ r.1 ≤ 6) ∧ r.2.1.length ≤ 13 ∧ (p ≤ r.2.2 ∧ r.2.2 ≤ p + 90)) := by
 unfold spec_l30Net.f
 refine Pv.bind (pick_pv h hp (by omega)) (fun r1 ⟨a1, e1⟩ => Pv.bind (pick_pv h (p := r1.2) (by omega) (by omega)) (fun r2 ⟨a2, e2⟩ => ?_))
 have b1 := a1.2.2 (by omega)
 have b2 := a2.2.2 (by omega)
 have hw : wrap64 (2 + r1.1) = 2 + r1.1 := w64 (by omega) (by omega)
 rw [hw]
 have := net_l h (2 + r1.1) (by omega) r2.1.toNat r2.2 [] (by omega) (by omega) (by omega) (by simp)
 rw [Int.toNat_of_nonneg a2.1] at this
 exact this.mono (fun r hr => ⟨⟨by omega, by omega⟩, hr.2.1, by omega, by omega⟩)
theorem anyNet_pv {b : List Int} (h : Rdr b) {p : Int} (hp : 0 ≤ p) (hp' : p ≤ 10000) : Pv (fun k => spec_l30AnyNet.f k b p) (NetSz p) := by
 unfold spec_l30AnyNet.f
 refine Pv.bind (net_pv h hp hp') (fun r0 ⟨a0, l0, e0⟩ => ?_)
 refine Pv.ite (fun c => ?_) (fun c => Pv.now ⟨by dsimp only; omega, l0, by dsimp only; omega⟩)
 refine Pv.bind (pick_pv h (p := r0.2.2) (by omega) (by omega)) (fun r1 ⟨a1, e1⟩ => Pv.bind (pick_pv h (p := r1.2) (by omega) (by omega)) (fun r2 ⟨a2, e2⟩ => ?_))
 have b1 := a1.2.2 (by omega)
 refine Pv.ite (fun c1 => Pv.pos a1.1 (Pv.pos b1 (Pv.bind (one_pv h (p := r2.2) (by omega) (by omega) (by simp)) (fun r3 ⟨a3, e3⟩ => Pv.now ⟨by dsimp only; omega, by simpa using l0, by dsimp only; omega⟩)))) (fun c1 => ?_)
 refine Pv.ite (fun c2 => Pv.bind (one_pv h (p := r2.2) (by omega) (by omega) (by simp)) (fun r3 ⟨a3, e3⟩ => Pv.pos a1.1 (Pv.pos b1 (Pv.now ⟨by dsimp only; omega, by simpa using l0, by dsimp only; omega⟩)))) (fun c2 => ?_)
 refine Pv.ite (fun c3 => Pv.bind (one_pv h (p := r2.2) (by omega) (by omega) (by simp)) (fun r3 ⟨a3, e3⟩ => Pv.now ⟨?_, l0, by dsimp only; omega⟩)) (fun c3 => Pv.now ⟨by dsimp only; omega, l0, by dsimp only; omega⟩)
 simp only [List.mem_cons, List.not_mem_nil, or_false] at a3
 dsimp only
 omega
end Go.Proofs.Ytjiiipmeocageaa.Pure
end
section
set_option linter.unusedSimpArgs false
set_option linter.unusedVariables false
namespace Go.Proofs.Ytjiiipmeocageaa.Pure
open Go.RowKit Go.Proofs.Ytjiiipmeocageaa.Pr Go.Proofs.YtjiiipmeocageaaW.PrintWords Go.Proofs.YtjiiipmeocageaaW.PrintLast Go.Proofs.YtjiiipmeocageaaW.PrintMore
theorem drawCut_l {b : List Int} (h : Rdr b) (n : Int) (hn : n ≤ 9) (l : List Arc) : ∀ (m : Nat) (v p : Int) (x : List Int), (n - v).toNat = m → (0 ≤ v ∧ v ≤ 9) → (0 ≤ p ∧ p + m ≤ 100000) → x.length ≤ v.toNat → Pv (fun k => spec_DrawFlowCut.l0 k x v b p n l) (fun r => r.1 = n ∧ r.2.1 = l ∧ r.2.2.length ≤ 10) := by
 intro m
 induction m with
 | zero =>
  intro v p x hv hv9 hp hx
  refine Pv.go ?_ (fun k => by rw [spec_DrawFlowCut.l0])
  refine Pv.neg (by omega) (Pv.bind (pick_pv h (by omega) (by omega)) (fun r1 ⟨a1, e1⟩ => ?_))
  exact Pv.ite (fun _ => Pv.bind (one_pv h (p := r1.2) (by omega) (by omega) (by simp)) (fun r2 _ => Pv.pos (by omega) (Pv.now ⟨rfl, rfl, by simp; omega⟩))) (fun _ => Pv.now ⟨rfl, rfl, by dsimp only; omega⟩)
 | succ m ih =>
  intro v p x hv hv9 hp hx
  refine Pv.go ?_ (fun k => by rw [spec_DrawFlowCut.l0])
  have w2 : wrap64 (v + 1) = v + 1 := w64 (by omega) (by omega)
  rw [w2]
  refine Pv.pos (by omega) (Pv.bind (pick_pv h (by omega) (by omega)) (fun r1 ⟨a1, e1⟩ => ?_))
  exact Pv.ite (fun _ => Pv.pos (by omega) (ih (v + 1) r1.2 (x ++ [v]) (by omega) (by omega) (by omega) (by simp; omega))) (fun _ => ih (v + 1) r1.2 x (by omega) (by omega) (by omega) (by omega))
theorem drawCut_pv {x : List Int} (hx : ∀ c ∈ x, (Lit.int .u8 c).wf = true) : Pv (fun k => spec_DrawFlowCut.f k x) (fun r => (0 ≤ r.1 ∧ r.1 ≤ 9) ∧ r.2.1.length ≤ 13 ∧ r.2.2.length ≤ 10) := by
 unfold spec_DrawFlowCut.f
 obtain ⟨b, e, hb⟩ := open_pv hx
 refine Pv.bind0 e (Pv.bind (anyNet_pv hb (p := 0) (by omega) (by omega)) (fun r1 h1 => ?_))
 have h3 := h1.2.2
 have := drawCut_l hb r1.1 h1.1.2 r1.2.1 _ 0 r1.2.2 [] rfl (by omega) (by have := h1.1; omega) (by simp)
 exact this.mono (fun r hr => ⟨by rw [hr.1]; exact h1.1, by rw [hr.2.1]; exact h1.2.1, hr.2.2⟩)
end Go.Proofs.Ytjiiipmeocageaa.Pure
end
section
namespace Go.Proofs.Ytjiiipmeocageaa.Pr
open Go.RowKit Go.Proofs.YtjiiipmeocageaaW.PrintWords Go.Proofs.YtjiiipmeocageaaW.PrintLast Go.Proofs.YtjiiipmeocageaaW.PrintMore
attribute [local go_sem] max2_int min2_int max_two min_two max_three min_three max_four min_four
set_option linter.unusedVariables false
set_option linter.unusedSimpArgs false
def laws_wkInts.l0 : Nat → List Int → List Int → Int → Option (Bool)
 | 0, _, _, _ => none
 | k + 1, x0, x1, x5 => if x5 < (x0.length : Int) then (if 0 ≤ x5 then (if x5 < (x1.length : Int) then (if (rd x0 x5) = (rd x1 x5) then (laws_wkInts.l0 k x0 x1 (wrap64 (x5 + 1))) else (some false)) else (none)) else (none)) else (some true)
def laws_wkInts.f (k : Nat) (l0 : List Int) (l1 : List Int) : Option (Bool) := if (l0.length : Int) = (l1.length : Int) then (laws_wkInts.l0 k l0 l1 0) else (some false)
theorem laws_wkInts.mono_l : ∀ k, (∀ y0 y1 y2, LeO (laws_wkInts.l0 k y0 y1 y2) (laws_wkInts.l0 (k + 1) y0 y1 y2))
 | 0 => fun _ _ _ r h => by simp [laws_wkInts.l0] at h
 | k + 1 => by
  have ih0 := laws_wkInts.mono_l k
  ·intro y0 y1 y2
   unfold laws_wkInts.l0
   repeat' first
   | (with_reducible exact ih0 _ _ _)
   | (with_reducible exact LeO.refl _)
   | (with_reducible exact LeO.none _)
   | (with_reducible refine LeO.ite ?_ ?_)
   | (with_reducible refine LeO.bind ?_ (fun _ => ?_))
   | exact ih0 _ _ _
   | exact LeO.none _
   | refine LeO.ite ?_ ?_
   | refine LeO.bind ?_ (fun _ => ?_)
theorem laws_wkInts.mono : ∀ a0 a1 k, LeO (laws_wkInts.f k a0 a1) (laws_wkInts.f (k + 1) a0 a1) := by
 intro a0 a1 k
 have ih0 := laws_wkInts.mono_l k
 unfold laws_wkInts.f
 repeat' first
   | (with_reducible exact ih0 _ _ _)
   | (with_reducible exact LeO.refl _)
   | (with_reducible exact LeO.none _)
   | (with_reducible refine LeO.ite ?_ ?_)
   | (with_reducible refine LeO.bind ?_ (fun _ => ?_))
   | exact ih0 _ _ _
   | exact LeO.none _
   | refine LeO.ite ?_ ?_
   | refine LeO.bind ?_ (fun _ => ?_)
set_option maxHeartbeats 8000000 in
set_option maxRecDepth 100000 in
theorem laws_wkInts.calls (k : Nat) (A0 : Option Addr) (c0 : Nat) (l0 : List Int) (A1 : Option Addr) (c1 : Nat) (l1 : List Int) (r : Bool) (w : World) (hr0 : Kd.C (Kd.int .i64) w A0 l0.length l0) (hc0 : l0.length ≤ c0) (hr1 : Kd.C (Kd.int .i64) w A1 l1.length l1) (hc1 : l1.length ≤ c1) (h : laws_wkInts.f k l0 l1 = some r) :
  Calls Try.prog 29 #[.slice A0 l0.length c0, .slice A1 l1.length c1] w fun e w' => e = .returned (.bool r) ∧ Drawn0 w w' := by
 have HR0 := Aside0.mk hr0
 have HC0 := Aside0.mk hc0
 clear hr0 hc0
 have HR1 := Aside0.mk hr1
 have HC1 := Aside0.mk hc1
 clear hr1 hc1
 have H : (if (l0.length : Int) = (l1.length : Int) then (laws_wkInts.l0 k l0 l1 0) else (some false)) = some r := h
 clear h
 by_cases c3 : (l0.length : Int) = (l1.length : Int)
 ·rw [if_pos c3] at H
  have c3b0 : ((l0.length : Int) == (l1.length : Int)) = true := beq_iff_eq.mpr c3
  have c3b1 : ((l0.length : Int) != (l1.length : Int)) = false := bne_eq_false_iff_eq.mpr c3
  have c3b2 : (l0.length == l1.length) = true := by first | simpa using c3 | (simp at c3 ⊢; omega)
  clear c3
  have H' := Aside0.mk H
  clear H
  go_enter Try.func29, Try.ntmps29
  go_wp2
  repeat (go_quiet (fail); try go_wp2)
  go_loopg [5] k (fun kq v5 w' => ∃ (x5_1 : Int), v5 = .int .i64 x5_1 ∧ Aside0 (laws_wkInts.l0 kq l0 l1 x5_1 = some r) ∧ Aside0 (kq ≤ k) ∧ Drawn0 w w')
  case atStart => exact ⟨(0), (by first | rfl | (simp; done) | (simp [*]; done)), H', ⟨Nat.le_refl _⟩, by repeat (first | exact Drawn0.refl _ | apply Drawn0.step)⟩
  case round =>
   clear H'
   try clear c1
   try clear c2
   try clear p2
   try clear c3
   try clear c3b0
   try clear c3b1
   try clear c3b2
   obtain ⟨x5_1, rfl, HA, HK1, ⟨m1, rfl⟩⟩ := hrel
   cases gk with
   | zero => exact absurd HA.out (by simp [laws_wkInts.l0])
   | succ k1 =>
    have H := HA.out
    clear HA
    simp only [laws_wkInts.l0] at H
    by_cases c4 : x5_1 < (l0.length : Int)
    ·rw [if_pos c4] at H
     have c4b0 : decide (x5_1 < (l0.length : Int)) = true := decide_eq_true c4
     clear c4
     by_cases c5 : 0 ≤ x5_1
     ·rw [if_pos c5] at H
      have c5b0 : decide (0 ≤ x5_1) = true := decide_eq_true c5
      clear c5
      by_cases c6 : x5_1 < (l1.length : Int)
      ·rw [if_pos c6] at H
       have c6b0 : decide (x5_1 < (l1.length : Int)) = true := decide_eq_true c6
       clear c6
       by_cases c7 : (rd l0 x5_1) = (rd l1 x5_1)
       ·rw [if_pos c7] at H
        have c7b0 : ((rd l0 x5_1) == (rd l1 x5_1)) = true := beq_iff_eq.mpr c7
        have c7b1 : ((rd l0 x5_1) != (rd l1 x5_1)) = false := bne_eq_false_iff_eq.mpr c7
        clear c7
        have H' := Aside0.mk H
        clear H
        have p445 : 0 ≤ (x5_1 : Int) := of_decide_eq_true (by first | (with_reducible assumption) | assumption)
        have q445 : x5_1 < (l0.length : Int) := of_decide_eq_true (by first | (with_reducible assumption) | assumption)
        obtain ⟨ad445, e445, hx445_0⟩ := Kd.at_int HR0.out x5_1 p445 q445
        cases e445
        replace p445 := eq_true p445
        replace q445 := eq_true q445
        have p446 : 0 ≤ (x5_1 : Int) := of_decide_eq_true (by first | (with_reducible assumption) | assumption)
        have q446 : x5_1 < (l1.length : Int) := of_decide_eq_true (by first | (with_reducible assumption) | assumption)
        obtain ⟨ad446, e446, hx446_0⟩ := Kd.at_int HR1.out x5_1 p446 q446
        cases e446
        replace p446 := eq_true p446
        replace q446 := eq_true q446
        go_wp2
        repeat (go_quiet (fail); try go_wp2)
        go_roundg k1
        case measure => have := HK1.out; omega
        case rel => exact ⟨(wrap64 (x5_1 + 1)), (by first | rfl | (simp; done) | (simp [*]; done)), H', ⟨by have := HK1.out; omega⟩, by repeat (first | exact Drawn0.refl _ | apply Drawn0.step)⟩
       ·rw [if_neg c7] at H
        have c7b0 : ((rd l0 x5_1) == (rd l1 x5_1)) = false := beq_eq_false_iff_ne.mpr c7
        have c7b1 : ((rd l0 x5_1) != (rd l1 x5_1)) = true := bne_iff_ne.mpr c7
        obtain rfl := Option.some.inj H
        have p445 : 0 ≤ (x5_1 : Int) := of_decide_eq_true (by first | (with_reducible assumption) | assumption)
        have q445 : x5_1 < (l0.length : Int) := of_decide_eq_true (by first | (with_reducible assumption) | assumption)
        obtain ⟨ad445, e445, hx445_0⟩ := Kd.at_int HR0.out x5_1 p445 q445
        cases e445
        replace p445 := eq_true p445
        replace q445 := eq_true q445
        have p446 : 0 ≤ (x5_1 : Int) := of_decide_eq_true (by first | (with_reducible assumption) | assumption)
        have q446 : x5_1 < (l1.length : Int) := of_decide_eq_true (by first | (with_reducible assumption) | assumption)
        obtain ⟨ad446, e446, hx446_0⟩ := Kd.at_int HR1.out x5_1 p446 q446
        cases e446
        replace p446 := eq_true p446
        replace q446 := eq_true q446
        go_wp2
        repeat (go_quiet (fail); try go_wp2)
        go_ret
        exact ⟨by first | rfl | (simp; done) | (simp [*]; done), by repeat (first | exact Drawn0.refl _ | apply Drawn0.step)⟩
      ·rw [if_neg c6] at H
       exact absurd H (by simp)
     ·rw [if_neg c5] at H
      exact absurd H (by simp)
    ·rw [if_neg c4] at H
     have c4b0 : decide (x5_1 < (l0.length : Int)) = false := decide_eq_false c4
     clear c4
     obtain rfl := Option.some.inj H
     go_wp2
     repeat (go_quiet (fail); try go_wp2)
     go_ret
     exact ⟨by first | rfl | (simp; done) | (simp [*]; done), by repeat (first | exact Drawn0.refl _ | apply Drawn0.step)⟩
 ·rw [if_neg c3] at H
  have c3b0 : ((l0.length : Int) == (l1.length : Int)) = false := beq_eq_false_iff_ne.mpr c3
  have c3b1 : ((l0.length : Int) != (l1.length : Int)) = true := bne_iff_ne.mpr c3
  have c3b2 : (l0.length == l1.length) = false := by first | simpa using c3 | (simp at c3 ⊢; omega)
  obtain rfl := Option.some.inj H
  go_enter Try.func29, Try.ntmps29
  go_wp2
  repeat (go_quiet (fail); try go_wp2)
  go_ret
  exact ⟨by first | rfl | (simp; done) | (simp [*]; done), by repeat (first | exact Drawn0.refl _ | apply Drawn0.step)⟩
end Go.Proofs.Ytjiiipmeocageaa.Pr
end
section
set_option linter.unusedSimpArgs false
set_option linter.unusedVariables false
namespace Go.Proofs.Ytjiiipmeocageaa.Pure
open Go.RowKit Go.Proofs.Ytjiiipmeocageaa.Pr Go.Proofs.YtjiiipmeocageaaW.PrintWords Go.Proofs.YtjiiipmeocageaaW.PrintLast Go.Proofs.YtjiiipmeocageaaW.PrintMore
theorem wkIn_l (a : List Int) (v : Int) (hm : a.length ≤ maxLen) : ∀ (m i : Nat), a.length - i = m → i ≤ a.length → Ev (fun k => laws_wkIn.l0 k a v (i : Int)) (decide (v ∈ a.drop i)) := by
 intro m
 induction m with
 | zero =>
  intro i hd hi
  refine Ev.go ?_ (fun k => by rw [laws_wkIn.l0])
  refine Ev.neg (by omega) (Ev.is ?_)
  rw [List.drop_of_length_le (by omega)]
  simp
 | succ m ih =>
  intro i hd hi
  have hlt : i < a.length := by omega
  refine Ev.go ?_ (fun k => by rw [laws_wkIn.l0])
  refine Ev.pos (by omega) (Ev.pos (by omega) ?_)
  rw [rdn hlt, up1 hlt hm, drop_cons hlt]
  by_cases c : a[i] = v
  ·exact Ev.pos c (Ev.is (decide_eq_true (List.mem_cons.2 (.inl c.symm))).symm)
  ·exact Ev.neg c ((ih (i + 1) (by omega) (by omega)).cast (by rw [decide_eq_decide]; simp only [List.mem_cons]; exact ⟨.inr, fun h => h.resolve_left (fun e => c e.symm)⟩))
theorem wkIn_ev (a : List Int) (v : Int) (hm : a.length ≤ maxLen) : Ev (fun k => laws_wkIn.f k a v) (decide (v ∈ a)) := by
 unfold laws_wkIn.f
 simpa using wkIn_l a v hm _ 0 rfl (Nat.zero_le _)
end Go.Proofs.Ytjiiipmeocageaa.Pure
end
section
set_option linter.unusedSimpArgs false
set_option linter.unusedVariables false
namespace Go.Proofs.Ytjiiipmeocageaa.Pure
open Go.RowKit Go.Proofs.Ytjiiipmeocageaa.Pr Go.Proofs.YtjiiipmeocageaaW.PrintWords Go.Proofs.YtjiiipmeocageaaW.PrintLast Go.Proofs.YtjiiipmeocageaaW.PrintMore
def flip (a : Arc) : Arc := ⟨a.f1, a.f0, a.f2, a.f3, a.f4⟩
def back (l : List Arc) : List Arc := l.map flip
theorem back_len (l : List Arc) : (back l).length = l.length := by simp [back]
theorem back_arc {l : List Arc} {i : Nat} (h : i < l.length) : arc (back l) i = flip (arc l i) := by
 rw [arc_get (by rw [back_len]; exact h), arc_get h]
 simp [back]
theorem back_good {n : Int} {l : List Arc} (h : NetGood n l) : NetGood n (back l) := by
 refine ⟨h.n1, h.n8, by rw [back_len]; exact h.len, fun i hi => ?_⟩
 rw [back_len] at hi
 obtain ⟨a1, a2, a3, a4⟩ := h.ok i hi
 rw [back_arc hi]
 exact ⟨a2, a1, fun e => a3 e.symm, a4⟩
theorem implBack_l (n : Int) (l : List Arc) (hm : l.length ≤ 1000) : ∀ (m i : Nat), l.length - i = m → i ≤ l.length → Ev (fun k => impl_Net_back.l0 k l (l.length : Int) (i : Int) n ((back l).take i)) (n, back l) := by
 intro m
 induction m with
 | zero =>
  intro i hd hi
  refine Ev.go ?_ (fun k => by rw [impl_Net_back.l0])
  refine Ev.neg (by omega) (Ev.is ?_)
  rw [List.take_of_length_le (by rw [back_len]; omega)]
 | succ m ih =>
  intro i hd hi
  have hlt : i < l.length := by omega
  refine Ev.go ?_ (fun k => by rw [impl_Net_back.l0])
  have ih := ih (i + 1) (by omega) (by omega)
  have hlt2 : i < (back l).length := by rw [back_len]; exact hlt
  rw [List.take_succ_eq_append_getElem hlt2, ← arc_get hlt2, back_arc hlt] at ih
  rw [up1 hlt (by simp only [maxLen]; omega), rda]
  exact Ev.pos (by omega) (Ev.pos (by omega) (Ev.pos (by omega) (Ev.pos (by simp; omega) ih)))
theorem implBack_ev (n : Int) (l : List Arc) (hm : l.length ≤ 1000) : Ev (fun k => impl_Net_back.f k n l) (n, back l) := by
 unfold impl_Net_back.f
 exact Ev.pos (by omega) (Ev.pos (by omega) (by simpa using implBack_l n l hm _ 0 rfl (Nat.zero_le _)))
theorem implNetBack_ev {n : Int} {l : List Arc} (h : NetGood n l) : Ev (fun k => impl_NetBack.f k n l) (n, back l) := by
 unfold impl_NetBack.f
 have := h.len
 exact Ev.bind0 (show impl_NetOk.f n l = some (netOkB n l) from rfl) (Ev.pos ((netOkB_iff n l).2 h) (Ev.bind (implBack_ev n l (by omega)) (Ev.now _)))
end Go.Proofs.Ytjiiipmeocageaa.Pure
end
section
namespace Go.Proofs.Ytjiiipmeocageaa.Pr
open Go.RowKit Go.Proofs.YtjiiipmeocageaaW.PrintWords Go.Proofs.YtjiiipmeocageaaW.PrintLast Go.Proofs.YtjiiipmeocageaaW.PrintMore
attribute [local go_sem] max2_int min2_int max_two min_two max_three min_three max_four min_four
set_option linter.unusedVariables false
set_option linter.unusedSimpArgs false
mutual
def spec_FlowMost.j0 : Nat → Int → Int → Int → Bool → Int → List (S56) → Option (Int)
 | 0, _, _, _, _, _, _ => none
 | k + 1, x1, x2, x7, x33, x521000, x521001 => if x33 = true then (some (-1)) else (spec_FlowMost.l0 k x1 x2 x7 0 x521000 x521001)
def spec_FlowMost.l0 : Nat → Int → Int → Int → Int → Int → List (S56) → Option (Int)
 | 0, _, _, _, _, _, _ => none
 | k + 1, x1, x2, x7, x8, x521000, x521001 => if 0 ≤ x521000 then (if x8 < (shl .i64 1 x521000) then ((spec_l25Side.f x8 x1).bind fun t524 => (if t524 = true then ((spec_l25Side.f x8 x2).bind fun t525 => (spec_FlowMost.j2 k x1 x2 x7 x8 (!t525) x521000 x521001)) else (spec_FlowMost.j2 k x1 x2 x7 x8 false x521000 x521001))) else (some x7)) else (none)
def spec_FlowMost.j2 : Nat → Int → Int → Int → Int → Bool → Int → List (S56) → Option (Int)
 | 0, _, _, _, _, _, _, _ => none
 | k + 1, x1, x2, x7, x8, x49, x521000, x521001 => if x49 = true then ((spec_l25Cut.f k x521000 x521001 x8).bind fun t526 => (if x7 < 0 then (spec_FlowMost.l0 k x1 x2 t526 (wrap64 (x8 + 1)) x521000 x521001) else (if t526 < x7 then (spec_FlowMost.l0 k x1 x2 t526 (wrap64 (x8 + 1)) x521000 x521001) else (spec_FlowMost.l0 k x1 x2 x7 (wrap64 (x8 + 1)) x521000 x521001)))) else (spec_FlowMost.l0 k x1 x2 x7 (wrap64 (x8 + 1)) x521000 x521001)
end
def spec_FlowMost.f (k : Nat) (a0_0 : Int) (l0_1 : List (S56)) (a1 : Int) (a2 : Int) : Option (Int) := (spec_l1Ok.f k a0_0 l0_1).bind fun t521 => (if t521 = true then ((spec_l1In.f a1 0 (wrap64 (a0_0 - 1))).bind fun t522 => (if t522 = true then ((spec_l1In.f a2 0 (wrap64 (a0_0 - 1))).bind fun t523 => (if t523 = true then (spec_FlowMost.j0 k a1 a2 (-1) (a1 == a2) a0_0 l0_1) else (spec_FlowMost.j0 k a1 a2 (-1) true a0_0 l0_1))) else (spec_FlowMost.j0 k a1 a2 (-1) true a0_0 l0_1))) else (spec_FlowMost.j0 k a1 a2 (-1) true a0_0 l0_1))
theorem spec_FlowMost.mono_l : ∀ k, (∀ y0 y1 y2 y3 y4 y5, LeO (spec_FlowMost.j0 k y0 y1 y2 y3 y4 y5) (spec_FlowMost.j0 (k + 1) y0 y1 y2 y3 y4 y5)) ∧ (∀ y0 y1 y2 y3 y4 y5, LeO (spec_FlowMost.l0 k y0 y1 y2 y3 y4 y5) (spec_FlowMost.l0 (k + 1) y0 y1 y2 y3 y4 y5)) ∧ (∀ y0 y1 y2 y3 y4 y5 y6, LeO (spec_FlowMost.j2 k y0 y1 y2 y3 y4 y5 y6) (spec_FlowMost.j2 (k + 1) y0 y1 y2 y3 y4 y5 y6))
 | 0 => ⟨fun _ _ _ _ _ _ r h => by simp [spec_FlowMost.j0] at h, fun _ _ _ _ _ _ r h => by simp [spec_FlowMost.l0] at h, fun _ _ _ _ _ _ _ r h => by simp [spec_FlowMost.j2] at h⟩
 | k + 1 => by
  obtain ⟨ih0, ih1, ih2⟩ := spec_FlowMost.mono_l k
  refine ⟨?_, ?_, ?_⟩
  ·intro y0 y1 y2 y3 y4 y5
   unfold spec_FlowMost.j0
   repeat' first
   | (with_reducible exact ih0 _ _ _ _ _ _)
   | (with_reducible exact ih1 _ _ _ _ _ _)
   | (with_reducible exact ih2 _ _ _ _ _ _ _)
   | (with_reducible exact spec_l1Ok.mono _ _ _)
   | (with_reducible exact spec_l25Cut.mono _ _ _ _)
   | (with_reducible exact LeO.refl _)
   | (with_reducible exact LeO.none _)
   | (with_reducible refine LeO.ite ?_ ?_)
   | (with_reducible refine LeO.bind ?_ (fun _ => ?_))
   | exact ih0 _ _ _ _ _ _
   | exact ih1 _ _ _ _ _ _
   | exact ih2 _ _ _ _ _ _ _
   | exact spec_l1Ok.mono _ _ _
   | exact spec_l25Cut.mono _ _ _ _
   | exact LeO.none _
   | refine LeO.ite ?_ ?_
   | refine LeO.bind ?_ (fun _ => ?_)
  ·intro y0 y1 y2 y3 y4 y5
   unfold spec_FlowMost.l0
   repeat' first
   | (with_reducible exact ih0 _ _ _ _ _ _)
   | (with_reducible exact ih1 _ _ _ _ _ _)
   | (with_reducible exact ih2 _ _ _ _ _ _ _)
   | (with_reducible exact spec_l1Ok.mono _ _ _)
   | (with_reducible exact spec_l25Cut.mono _ _ _ _)
   | (with_reducible exact LeO.refl _)
   | (with_reducible exact LeO.none _)
   | (with_reducible refine LeO.ite ?_ ?_)
   | (with_reducible refine LeO.bind ?_ (fun _ => ?_))
   | exact ih0 _ _ _ _ _ _
   | exact ih1 _ _ _ _ _ _
   | exact ih2 _ _ _ _ _ _ _
   | exact spec_l1Ok.mono _ _ _
   | exact spec_l25Cut.mono _ _ _ _
   | exact LeO.none _
   | refine LeO.ite ?_ ?_
   | refine LeO.bind ?_ (fun _ => ?_)
  ·intro y0 y1 y2 y3 y4 y5 y6
   unfold spec_FlowMost.j2
   repeat' first
   | (with_reducible exact ih0 _ _ _ _ _ _)
   | (with_reducible exact ih1 _ _ _ _ _ _)
   | (with_reducible exact ih2 _ _ _ _ _ _ _)
   | (with_reducible exact spec_l1Ok.mono _ _ _)
   | (with_reducible exact spec_l25Cut.mono _ _ _ _)
   | (with_reducible exact LeO.refl _)
   | (with_reducible exact LeO.none _)
   | (with_reducible refine LeO.ite ?_ ?_)
   | (with_reducible refine LeO.bind ?_ (fun _ => ?_))
   | exact ih0 _ _ _ _ _ _
   | exact ih1 _ _ _ _ _ _
   | exact ih2 _ _ _ _ _ _ _
   | exact spec_l1Ok.mono _ _ _
   | exact spec_l25Cut.mono _ _ _ _
   | exact LeO.none _
   | refine LeO.ite ?_ ?_
   | refine LeO.bind ?_ (fun _ => ?_)
theorem spec_FlowMost.mono : ∀ a0 a1 a2 a3 k, LeO (spec_FlowMost.f k a0 a1 a2 a3) (spec_FlowMost.f (k + 1) a0 a1 a2 a3) := by
 intro a0 a1 a2 a3 k
 obtain ⟨ih0, ih1, ih2⟩ := spec_FlowMost.mono_l k
 unfold spec_FlowMost.f
 repeat' first
   | (with_reducible exact ih0 _ _ _ _ _ _)
   | (with_reducible exact ih1 _ _ _ _ _ _)
   | (with_reducible exact ih2 _ _ _ _ _ _ _)
   | (with_reducible exact spec_l1Ok.mono _ _ _)
   | (with_reducible exact spec_l25Cut.mono _ _ _ _)
   | (with_reducible exact LeO.refl _)
   | (with_reducible exact LeO.none _)
   | (with_reducible refine LeO.ite ?_ ?_)
   | (with_reducible refine LeO.bind ?_ (fun _ => ?_))
   | exact ih0 _ _ _ _ _ _
   | exact ih1 _ _ _ _ _ _
   | exact ih2 _ _ _ _ _ _ _
   | exact spec_l1Ok.mono _ _ _
   | exact spec_l25Cut.mono _ _ _ _
   | exact LeO.none _
   | refine LeO.ite ?_ ?_
   | refine LeO.bind ?_ (fun _ => ?_)
set_option maxHeartbeats 8000000 in
set_option maxRecDepth 100000 in
theorem spec_FlowMost.calls (k : Nat) (a0_0 : Int) (A0_1 : Option Addr) (c0_1 : Nat) (l0_1 : List (S56)) (a1 : Int) (a2 : Int) (r : Int) (w : World) (hr0_1 : Kd.C k56 w A0_1 l0_1.length l0_1) (hc0_1 : l0_1.length ≤ c0_1) (h : spec_FlowMost.f k a0_0 l0_1 a1 a2 = some r) :
  Calls Try.prog 32 #[.agg #[.int .i64 a0_0, .slice A0_1 l0_1.length c0_1], .int .i64 a1, .int .i64 a2] w fun e w' => e = .returned (.int .i64 r) ∧ Below w.heap.size w w' := by
 have hu51 := Try.underlying51
 have HR0_1 := Aside0.mk hr0_1
 have HC0_1 := Aside0.mk hc0_1
 clear hr0_1 hc0_1
 have HB := Aside0.mk (Below.refl w.heap.size w)
 have H : ((spec_l1Ok.f k a0_0 l0_1).bind fun t521 => (if t521 = true then ((spec_l1In.f a1 0 (wrap64 (a0_0 - 1))).bind fun t522 => (if t522 = true then ((spec_l1In.f a2 0 (wrap64 (a0_0 - 1))).bind fun t523 => (if t523 = true then (spec_FlowMost.j0 k a1 a2 (-1) (a1 == a2) a0_0 l0_1) else (spec_FlowMost.j0 k a1 a2 (-1) true a0_0 l0_1))) else (spec_FlowMost.j0 k a1 a2 (-1) true a0_0 l0_1))) else (spec_FlowMost.j0 k a1 a2 (-1) true a0_0 l0_1))) = some r := h
 clear h
 have HC4 := Aside0.mk H
 clear H
 go_enter Try.func32, Try.ntmps32
 go_upto_region 2 with (first | ((with_reducible refine gate_dst (N := 3) rfl ?_); refine box_event ?hg (N := 3) ?hd (cs := #[.int .i64 a0_0, .slice A0_1 l0_1.length c0_1]) (t := 51) ?hr ?_; (case hd => rfl); (case hg => rfl); (case hr => first | (go_simp; done) | (go_simp; rfl)); intro gb520 hg w5 hbox hb; have n0_ := Aside0.mk (below_step (by repeat (first | (with_reducible first | exact HB.out | apply below_alloc | apply pw_below_drewN | apply below_drew1) | exact HB.out)) hb); have n1_ := Aside0.mk (hbox); have n2_ := Aside0.mk ((by rw [hg]; exact (below_size (by repeat (first | (with_reducible first | exact HB.out | apply below_alloc | apply pw_below_drewN | apply below_drew1) | exact HB.out))) : w.heap.size ≤ gb520)); have n3_ := Aside0.mk ((by rw [hg]; exact (below_size (by repeat (first | (with_reducible first | exact HB.out | apply below_alloc | apply pw_below_drewN | apply below_drew1) | exact HB.out))) : w.heap.size ≤ gb520)); clear HB; have HB := n0_; have BK520 := n1_; have GW520 := n2_; have GE520 := n3_; clear n0_ n1_ n2_ n3_; clear hb hbox hg))
 (try simp only [Act.put, List.setIfInBounds_toArray, List.set_cons_zero, List.set_cons_succ])
 go_cut [33] (fun v33 wc => ∃ (kq : Nat) (x33_3 : Bool), v33 = .bool x33_3 ∧ Aside0 (spec_FlowMost.j0 kq a1 a2 (-1) x33_3 a0_0 l0_1 = some r) ∧ Aside0 (kq ≤ k) ∧ Aside0 (wc.heap[gb520]? = some (.cells #[.int .i64 a0_0, (.slice A0_1 l0_1.length c0_1)] 51 (0, 0))) ∧ Aside0 (Below w.heap.size w wc))
 case first =>
  have H := HC4.out
  clear HC4
  replace H := Option.bind_eq_some_iff.mp H
  obtain ⟨t521, A60, H⟩ := H
  replace H : (if t521 = true then ((spec_l1In.f a1 0 (wrap64 (a0_0 - 1))).bind fun t522 => (if t522 = true then ((spec_l1In.f a2 0 (wrap64 (a0_0 - 1))).bind fun t523 => (if t523 = true then (spec_FlowMost.j0 k a1 a2 (-1) (a1 == a2) a0_0 l0_1) else (spec_FlowMost.j0 k a1 a2 (-1) true a0_0 l0_1))) else (spec_FlowMost.j0 k a1 a2 (-1) true a0_0 l0_1))) else (spec_FlowMost.j0 k a1 a2 (-1) true a0_0 l0_1)) = some r := H
  have A6 := Aside0.mk A60
  clear A60
  by_cases c7 : t521 = true
  ·subst c7
   have H1 : ((spec_l1In.f a1 0 (wrap64 (a0_0 - 1))).bind fun t522 => (if t522 = true then ((spec_l1In.f a2 0 (wrap64 (a0_0 - 1))).bind fun t523 => (if t523 = true then (spec_FlowMost.j0 k a1 a2 (-1) (a1 == a2) a0_0 l0_1) else (spec_FlowMost.j0 k a1 a2 (-1) true a0_0 l0_1))) else (spec_FlowMost.j0 k a1 a2 (-1) true a0_0 l0_1))) = some r := by rw [if_pos rfl] at H; exact H
   clear H
   have H := H1
   clear H1
   replace H := Option.bind_eq_some_iff.mp H
   obtain ⟨t522, A80, H⟩ := H
   replace H : (if t522 = true then ((spec_l1In.f a2 0 (wrap64 (a0_0 - 1))).bind fun t523 => (if t523 = true then (spec_FlowMost.j0 k a1 a2 (-1) (a1 == a2) a0_0 l0_1) else (spec_FlowMost.j0 k a1 a2 (-1) true a0_0 l0_1))) else (spec_FlowMost.j0 k a1 a2 (-1) true a0_0 l0_1)) = some r := H
   have A8 := Aside0.mk A80
   clear A80
   by_cases c9 : t522 = true
   ·subst c9
    have H1 : ((spec_l1In.f a2 0 (wrap64 (a0_0 - 1))).bind fun t523 => (if t523 = true then (spec_FlowMost.j0 k a1 a2 (-1) (a1 == a2) a0_0 l0_1) else (spec_FlowMost.j0 k a1 a2 (-1) true a0_0 l0_1))) = some r := by rw [if_pos rfl] at H; exact H
    clear H
    have H := H1
    clear H1
    replace H := Option.bind_eq_some_iff.mp H
    obtain ⟨t523, A100, H⟩ := H
    replace H : (if t523 = true then (spec_FlowMost.j0 k a1 a2 (-1) (a1 == a2) a0_0 l0_1) else (spec_FlowMost.j0 k a1 a2 (-1) true a0_0 l0_1)) = some r := H
    have A10 := Aside0.mk A100
    clear A100
    by_cases c11 : t523 = true
    ·subst c11
     have H1 : (spec_FlowMost.j0 k a1 a2 (-1) (a1 == a2) a0_0 l0_1) = some r := by rw [if_pos rfl] at H; exact H
     clear H
     have H := H1
     clear H1
     have H' := Aside0.mk H
     clear H
     have hcz12_0 : w5.cell? ⟨gb520, 0, none⟩ = some (.int .i64 a0_0) := (blk_cell BK520.out 0).trans rfl
     have hcz12_1 : w5.cell? ⟨gb520, 1, none⟩ = some (.slice A0_1 l0_1.length c0_1) := (blk_cell BK520.out 1).trans rfl
     have hfz12_0 := blk_frozen BK520.out 0
     have hfz12_1 := blk_frozen BK520.out 1
     go_wp2_with (first | ((with_reducible refine gate_callee (f := 65) rfl ?_); refine goesL_ (some 11) rfl rfl Try.func65 (by kernel_rfl) rfl #[.agg #[.int .i64 a0_0, .slice A0_1 l0_1.length c0_1]] rfl (by (try simp only [List.map_toArray, List.map_cons, List.map_nil]); first | done | rfl | (simp only [List.length_drop, List.length_take]; rfl)) ?_; (with_reducible refine (spec_l1Ok.calls k a0_0 _ _ l0_1 true _ ?side1 ?side2 A6.out).mono ?_); (case side1 => repeat (first | exact (Kd.C_below HR0_1.out HB.out) | (with_reducible refine Kd.C_alloc ?_ _) | (with_reducible refine Kd.C_drewN ?_ _) | (with_reducible refine Kd.C_drew ?_))); (case side2 => exact HC0_1.out); rintro e w13 ⟨rfl, hb⟩; refine ⟨_, rfl, ?_⟩; have n0_ := Aside0.mk (blk_below (g := gb520) (o := .cells #[.int .i64 a0_0, .slice A0_1 l0_1.length c0_1] 51 (0, 0)) (by (with_reducible repeat (first | refine blk_drewN ?_ _ | refine blk_drew ?_ | refine blk_alloc ?_ _)); exact BK520.out) hb); have n1_ := Aside0.mk (below_step (by repeat (first | (with_reducible first | exact HB.out | apply below_alloc | apply pw_below_drewN | apply below_drew1 | refine below_set ?_ GE520.out) | exact HB.out)) hb); clear BK520; clear HB; have BK520 := n0_; have HB := n1_; clear n0_ n1_; (try clear hb); (try clear hb2); (try clear hk); (try clear hi); have hcz14_0 : w13.cell? ⟨gb520, 0, none⟩ = some (.int .i64 a0_0) := (blk_cell BK520.out 0).trans rfl; have hcz14_1 : w13.cell? ⟨gb520, 1, none⟩ = some (.slice A0_1 l0_1.length c0_1) := (blk_cell BK520.out 1).trans rfl; have hfz14_0 := blk_frozen BK520.out 0; have hfz14_1 := blk_frozen BK520.out 1) | (go_at_call 64; (with_reducible refine (spec_l1In.calls a1 0 (wrap64 (a0_0 - 1)) true _ A8.out).mono ?_); rintro e w' ⟨rfl, ⟨nd, rfl⟩⟩) | (go_at_call 64; (with_reducible refine (spec_l1In.calls a2 0 (wrap64 (a0_0 - 1)) true _ A10.out).mono ?_); rintro e w' ⟨rfl, ⟨nd, rfl⟩⟩))
     go_meet
     case rel => exact ⟨_, ((a1 == a2)), (by first | rfl | (simp; done) | (simp [*]; done)), H', ⟨by first | omega | exact Nat.le_refl _⟩, ⟨by (with_reducible repeat (first | refine blk_drewN ?_ _ | refine blk_drew ?_ | refine blk_alloc ?_ _)); exact BK520.out⟩, ⟨by repeat (first | (with_reducible first | exact HB.out | apply below_alloc | apply pw_below_drewN | apply below_drew1 | refine below_set ?_ GE520.out) | exact HB.out)⟩⟩
    ·replace c11 := Bool.eq_false_iff.mpr c11
     subst c11
     have H1 : (spec_FlowMost.j0 k a1 a2 (-1) true a0_0 l0_1) = some r := by rw [if_neg (show ¬ (false = true) by decide)] at H; exact H
     clear H
     have H := H1
     clear H1
     have H' := Aside0.mk H
     clear H
     have hcz15_0 : w5.cell? ⟨gb520, 0, none⟩ = some (.int .i64 a0_0) := (blk_cell BK520.out 0).trans rfl
     have hcz15_1 : w5.cell? ⟨gb520, 1, none⟩ = some (.slice A0_1 l0_1.length c0_1) := (blk_cell BK520.out 1).trans rfl
     have hfz15_0 := blk_frozen BK520.out 0
     have hfz15_1 := blk_frozen BK520.out 1
     go_wp2_with (first | ((with_reducible refine gate_callee (f := 65) rfl ?_); refine goesL_ (some 11) rfl rfl Try.func65 (by kernel_rfl) rfl #[.agg #[.int .i64 a0_0, .slice A0_1 l0_1.length c0_1]] rfl (by (try simp only [List.map_toArray, List.map_cons, List.map_nil]); first | done | rfl | (simp only [List.length_drop, List.length_take]; rfl)) ?_; (with_reducible refine (spec_l1Ok.calls k a0_0 _ _ l0_1 true _ ?side1 ?side2 A6.out).mono ?_); (case side1 => repeat (first | exact (Kd.C_below HR0_1.out HB.out) | (with_reducible refine Kd.C_alloc ?_ _) | (with_reducible refine Kd.C_drewN ?_ _) | (with_reducible refine Kd.C_drew ?_))); (case side2 => exact HC0_1.out); rintro e w16 ⟨rfl, hb⟩; refine ⟨_, rfl, ?_⟩; have n0_ := Aside0.mk (blk_below (g := gb520) (o := .cells #[.int .i64 a0_0, .slice A0_1 l0_1.length c0_1] 51 (0, 0)) (by (with_reducible repeat (first | refine blk_drewN ?_ _ | refine blk_drew ?_ | refine blk_alloc ?_ _)); exact BK520.out) hb); have n1_ := Aside0.mk (below_step (by repeat (first | (with_reducible first | exact HB.out | apply below_alloc | apply pw_below_drewN | apply below_drew1 | refine below_set ?_ GE520.out) | exact HB.out)) hb); clear BK520; clear HB; have BK520 := n0_; have HB := n1_; clear n0_ n1_; (try clear hb); (try clear hb2); (try clear hk); (try clear hi); have hcz17_0 : w16.cell? ⟨gb520, 0, none⟩ = some (.int .i64 a0_0) := (blk_cell BK520.out 0).trans rfl; have hcz17_1 : w16.cell? ⟨gb520, 1, none⟩ = some (.slice A0_1 l0_1.length c0_1) := (blk_cell BK520.out 1).trans rfl; have hfz17_0 := blk_frozen BK520.out 0; have hfz17_1 := blk_frozen BK520.out 1) | (go_at_call 64; (with_reducible refine (spec_l1In.calls a1 0 (wrap64 (a0_0 - 1)) true _ A8.out).mono ?_); rintro e w' ⟨rfl, ⟨nd, rfl⟩⟩) | (go_at_call 64; (with_reducible refine (spec_l1In.calls a2 0 (wrap64 (a0_0 - 1)) false _ A10.out).mono ?_); rintro e w' ⟨rfl, ⟨nd, rfl⟩⟩))
     go_meet
     case rel => exact ⟨_, (true), (by first | rfl | (simp; done) | (simp [*]; done)), H', ⟨by first | omega | exact Nat.le_refl _⟩, ⟨by (with_reducible repeat (first | refine blk_drewN ?_ _ | refine blk_drew ?_ | refine blk_alloc ?_ _)); exact BK520.out⟩, ⟨by repeat (first | (with_reducible first | exact HB.out | apply below_alloc | apply pw_below_drewN | apply below_drew1 | refine below_set ?_ GE520.out) | exact HB.out)⟩⟩
   ·replace c9 := Bool.eq_false_iff.mpr c9
    subst c9
    have H1 : (spec_FlowMost.j0 k a1 a2 (-1) true a0_0 l0_1) = some r := by rw [if_neg (show ¬ (false = true) by decide)] at H; exact H
    clear H
    have H := H1
    clear H1
    have H' := Aside0.mk H
    clear H
    have hcz18_0 : w5.cell? ⟨gb520, 0, none⟩ = some (.int .i64 a0_0) := (blk_cell BK520.out 0).trans rfl
    have hcz18_1 : w5.cell? ⟨gb520, 1, none⟩ = some (.slice A0_1 l0_1.length c0_1) := (blk_cell BK520.out 1).trans rfl
    have hfz18_0 := blk_frozen BK520.out 0
    have hfz18_1 := blk_frozen BK520.out 1
    go_wp2_with (first | ((with_reducible refine gate_callee (f := 65) rfl ?_); refine goesL_ (some 11) rfl rfl Try.func65 (by kernel_rfl) rfl #[.agg #[.int .i64 a0_0, .slice A0_1 l0_1.length c0_1]] rfl (by (try simp only [List.map_toArray, List.map_cons, List.map_nil]); first | done | rfl | (simp only [List.length_drop, List.length_take]; rfl)) ?_; (with_reducible refine (spec_l1Ok.calls k a0_0 _ _ l0_1 true _ ?side1 ?side2 A6.out).mono ?_); (case side1 => repeat (first | exact (Kd.C_below HR0_1.out HB.out) | (with_reducible refine Kd.C_alloc ?_ _) | (with_reducible refine Kd.C_drewN ?_ _) | (with_reducible refine Kd.C_drew ?_))); (case side2 => exact HC0_1.out); rintro e w19 ⟨rfl, hb⟩; refine ⟨_, rfl, ?_⟩; have n0_ := Aside0.mk (blk_below (g := gb520) (o := .cells #[.int .i64 a0_0, .slice A0_1 l0_1.length c0_1] 51 (0, 0)) (by (with_reducible repeat (first | refine blk_drewN ?_ _ | refine blk_drew ?_ | refine blk_alloc ?_ _)); exact BK520.out) hb); have n1_ := Aside0.mk (below_step (by repeat (first | (with_reducible first | exact HB.out | apply below_alloc | apply pw_below_drewN | apply below_drew1 | refine below_set ?_ GE520.out) | exact HB.out)) hb); clear BK520; clear HB; have BK520 := n0_; have HB := n1_; clear n0_ n1_; (try clear hb); (try clear hb2); (try clear hk); (try clear hi); have hcz20_0 : w19.cell? ⟨gb520, 0, none⟩ = some (.int .i64 a0_0) := (blk_cell BK520.out 0).trans rfl; have hcz20_1 : w19.cell? ⟨gb520, 1, none⟩ = some (.slice A0_1 l0_1.length c0_1) := (blk_cell BK520.out 1).trans rfl; have hfz20_0 := blk_frozen BK520.out 0; have hfz20_1 := blk_frozen BK520.out 1) | (go_at_call 64; (with_reducible refine (spec_l1In.calls a1 0 (wrap64 (a0_0 - 1)) false _ A8.out).mono ?_); rintro e w' ⟨rfl, ⟨nd, rfl⟩⟩))
    go_meet
    case rel => exact ⟨_, (true), (by first | rfl | (simp; done) | (simp [*]; done)), H', ⟨by first | omega | exact Nat.le_refl _⟩, ⟨by (with_reducible repeat (first | refine blk_drewN ?_ _ | refine blk_drew ?_ | refine blk_alloc ?_ _)); exact BK520.out⟩, ⟨by repeat (first | (with_reducible first | exact HB.out | apply below_alloc | apply pw_below_drewN | apply below_drew1 | refine below_set ?_ GE520.out) | exact HB.out)⟩⟩
  ·replace c7 := Bool.eq_false_iff.mpr c7
   subst c7
   have H1 : (spec_FlowMost.j0 k a1 a2 (-1) true a0_0 l0_1) = some r := by rw [if_neg (show ¬ (false = true) by decide)] at H; exact H
   clear H
   have H := H1
   clear H1
   have H' := Aside0.mk H
   clear H
   have hcz21_0 : w5.cell? ⟨gb520, 0, none⟩ = some (.int .i64 a0_0) := (blk_cell BK520.out 0).trans rfl
   have hcz21_1 : w5.cell? ⟨gb520, 1, none⟩ = some (.slice A0_1 l0_1.length c0_1) := (blk_cell BK520.out 1).trans rfl
   have hfz21_0 := blk_frozen BK520.out 0
   have hfz21_1 := blk_frozen BK520.out 1
   go_wp2_with (first | ((with_reducible refine gate_callee (f := 65) rfl ?_); refine goesL_ (some 11) rfl rfl Try.func65 (by kernel_rfl) rfl #[.agg #[.int .i64 a0_0, .slice A0_1 l0_1.length c0_1]] rfl (by (try simp only [List.map_toArray, List.map_cons, List.map_nil]); first | done | rfl | (simp only [List.length_drop, List.length_take]; rfl)) ?_; (with_reducible refine (spec_l1Ok.calls k a0_0 _ _ l0_1 false _ ?side1 ?side2 A6.out).mono ?_); (case side1 => repeat (first | exact (Kd.C_below HR0_1.out HB.out) | (with_reducible refine Kd.C_alloc ?_ _) | (with_reducible refine Kd.C_drewN ?_ _) | (with_reducible refine Kd.C_drew ?_))); (case side2 => exact HC0_1.out); rintro e w22 ⟨rfl, hb⟩; refine ⟨_, rfl, ?_⟩; have n0_ := Aside0.mk (blk_below (g := gb520) (o := .cells #[.int .i64 a0_0, .slice A0_1 l0_1.length c0_1] 51 (0, 0)) (by (with_reducible repeat (first | refine blk_drewN ?_ _ | refine blk_drew ?_ | refine blk_alloc ?_ _)); exact BK520.out) hb); have n1_ := Aside0.mk (below_step (by repeat (first | (with_reducible first | exact HB.out | apply below_alloc | apply pw_below_drewN | apply below_drew1 | refine below_set ?_ GE520.out) | exact HB.out)) hb); clear BK520; clear HB; have BK520 := n0_; have HB := n1_; clear n0_ n1_; (try clear hb); (try clear hb2); (try clear hk); (try clear hi)))
   go_meet
   case rel => exact ⟨_, (true), (by first | rfl | (simp; done) | (simp [*]; done)), H', ⟨by first | omega | exact Nat.le_refl _⟩, ⟨by (with_reducible repeat (first | refine blk_drewN ?_ _ | refine blk_drew ?_ | refine blk_alloc ?_ _)); exact BK520.out⟩, ⟨by repeat (first | (with_reducible first | exact HB.out | apply below_alloc | apply pw_below_drewN | apply below_drew1 | refine below_set ?_ GE520.out) | exact HB.out)⟩⟩
 case rest =>
  clear HC4
  try clear c1
  try clear p2
  try clear c3
  try clear c6
  try clear p6
  try clear c7
  try clear c9
  try clear c11
  try clear hcz12_0
  try clear hcz12_1
  try clear hcz14_0
  try clear hcz14_1
  try clear hcz15_0
  try clear hcz15_1
  try clear hcz17_0
  try clear hcz17_1
  try clear hcz18_0
  try clear hcz18_1
  try clear hcz20_0
  try clear hcz20_1
  try clear hcz21_0
  try clear hcz21_1
  try clear hfz12_0
  try clear hfz12_1
  try clear hfz14_0
  try clear hfz14_1
  try clear hfz15_0
  try clear hfz15_1
  try clear hfz17_0
  try clear hfz17_1
  try clear hfz18_0
  try clear hfz18_1
  try clear hfz20_0
  try clear hfz20_1
  try clear hfz21_0
  try clear hfz21_1
  obtain ⟨kq, x33_3, rfl, HA, HJ3, BK520, HB⟩ := hcut
  cases kq with
  | zero => exact absurd HA.out (by simp [spec_FlowMost.j0])
  | succ kj3 =>
   have H := HA.out
   clear HA
   simp only [spec_FlowMost.j0] at H
   by_cases c23 : x33_3 = true
   ·subst c23
    have H1 : (some (-1)) = some r := by rw [if_pos rfl] at H; exact H
    clear H
    have H := H1
    clear H1
    obtain rfl := Option.some.inj H
    go_wp2
    go_ret
    exact ⟨by first | rfl | (simp [errW_none, errW_some] <;> rfl) | (simp [*, errW_none, errW_some] <;> rfl), by repeat (first | (with_reducible first | exact HB.out | apply below_alloc | apply pw_below_drewN | apply below_drew1 | refine below_set ?_ GE520.out) | exact HB.out)⟩
   ·replace c23 := Bool.eq_false_iff.mpr c23
    subst c23
    have H1 : (spec_FlowMost.l0 kj3 a1 a2 (-1) 0 a0_0 l0_1) = some r := by rw [if_neg (show ¬ (false = true) by decide)] at H; exact H
    clear H
    have H := H1
    clear H1
    have H' := Aside0.mk H
    clear H
    go_wp2
    go_loopg [7, 8] kj3 (fun kq v7 v8 w' => ∃ (x7_2 : Int) (x8_2 : Int), v7 = .int .i64 x7_2 ∧ v8 = .int .i64 x8_2 ∧ Aside0 (spec_FlowMost.l0 kq a1 a2 x7_2 x8_2 a0_0 l0_1 = some r) ∧ Aside0 (kq ≤ kj3) ∧ Aside0 (w'.heap[gb520]? = some (.cells #[.int .i64 a0_0, (.slice A0_1 l0_1.length c0_1)] 51 (0, 0))) ∧ Aside0 (Below w.heap.size w w'))
    case atStart => exact ⟨((-1)), (0), (by first | rfl | (simp; done) | (simp [*]; done)), (by first | rfl | (simp; done) | (simp [*]; done)), H', ⟨Nat.le_refl _⟩, ⟨by (with_reducible repeat (first | refine blk_drewN ?_ _ | refine blk_drew ?_ | refine blk_alloc ?_ _)); exact BK520.out⟩, ⟨by repeat (first | (with_reducible first | exact HB.out | apply below_alloc | apply pw_below_drewN | apply below_drew1 | refine below_set ?_ GE520.out) | exact HB.out)⟩⟩
    case round =>
     clear H'
     try clear c1
     try clear c2
     try clear p2
     try clear c3
     try clear c6
     try clear p6
     try clear c7
     try clear c9
     try clear c11
     try clear c23
     try clear hcz12_0
     try clear hcz12_1
     try clear hcz14_0
     try clear hcz14_1
     try clear hcz15_0
     try clear hcz15_1
     try clear hcz17_0
     try clear hcz17_1
     try clear hcz18_0
     try clear hcz18_1
     try clear hcz20_0
     try clear hcz20_1
     try clear hcz21_0
     try clear hcz21_1
     try clear hfz12_0
     try clear hfz12_1
     try clear hfz14_0
     try clear hfz14_1
     try clear hfz15_0
     try clear hfz15_1
     try clear hfz17_0
     try clear hfz17_1
     try clear hfz18_0
     try clear hfz18_1
     try clear hfz20_0
     try clear hfz20_1
     try clear hfz21_0
     try clear hfz21_1
     try clear p2
     try clear p6
     obtain ⟨x7_2, x8_2, rfl, rfl, HA, HK2, BK520, HB⟩ := hrel
     cases gk with
     | zero => exact absurd HA.out (by simp [spec_FlowMost.l0])
     | succ k2 =>
      have H := HA.out
      clear HA
      simp only [spec_FlowMost.l0] at H
      by_cases c24 : 0 ≤ a0_0
      ·rw [if_pos c24] at H
       have c24b0 := eq_true c24
       have c24b1 : decide (0 ≤ a0_0) = true := decide_eq_true c24
       clear c24
       obtain ⟨ji25, hji25⟩ : ∃ j_ : Int, (shl .i64 1 a0_0) = j_ := ⟨_, rfl⟩
       replace H : (if x8_2 < (ji25) then ((spec_l25Side.f x8_2 a1).bind fun t524 => (if t524 = true then ((spec_l25Side.f x8_2 a2).bind fun t525 => (spec_FlowMost.j2 k2 a1 a2 x7_2 x8_2 (!t525) a0_0 l0_1)) else (spec_FlowMost.j2 k2 a1 a2 x7_2 x8_2 false a0_0 l0_1))) else (some x7_2)) = some r := by first | (rw [hji25] at H; exact H) | (simp only [hji25] at H ⊢; exact H)
       have hji25_ : (IntKind.i64.wrap (1 * 2 ^ min a0_0.toNat 64)) = ji25 := hji25
       have hji25z : a0_0 ≤ 64 → (IntKind.i64.wrap (1 * 2 ^ a0_0.toNat)) = ji25 := shl_small hji25
       have hji25u : (IntKind.i64.wrap (2 ^ min a0_0.toNat 64)) = ji25 := by have h_ := hji25_; rw [Int.one_mul] at h_; exact h_
       have hji25v : a0_0 ≤ 64 → (IntKind.i64.wrap (2 ^ a0_0.toNat)) = ji25 := fun hle_ => by have h_ := hji25z hle_; rw [Int.one_mul] at h_; exact h_
       have hji25y : (wrap64 (1 * 2 ^ min a0_0.toNat 64)) = ji25 := (i64_w _).symm.trans hji25_
       have hji25x : a0_0 ≤ 64 → (wrap64 (1 * 2 ^ a0_0.toNat)) = ji25 := fun h_ => (i64_w _).symm.trans (hji25z h_)
       by_cases c26 : x8_2 < (ji25)
       ·rw [if_pos c26] at H
        have c26b0 : decide (x8_2 < (ji25)) = true := decide_eq_true c26
        clear c26
        have HC27 := Aside0.mk H
        clear H
        have hcz28_0 : wr.cell? ⟨gb520, 0, none⟩ = some (.int .i64 a0_0) := (blk_cell BK520.out 0).trans rfl
        have hcz28_1 : wr.cell? ⟨gb520, 1, none⟩ = some (.slice A0_1 l0_1.length c0_1) := (blk_cell BK520.out 1).trans rfl
        have hfz28_0 := blk_frozen BK520.out 0
        have hfz28_1 := blk_frozen BK520.out 1
        go_upto_region 7 with (fail)
        go_cut [49] (fun v49 wc => ∃ (kq : Nat) (x49_26 : Bool), v49 = .bool x49_26 ∧ Aside0 (spec_FlowMost.j2 kq a1 a2 x7_2 x8_2 x49_26 a0_0 l0_1 = some r) ∧ Aside0 (kq ≤ k2) ∧ Aside0 (wc.heap[gb520]? = some (.cells #[.int .i64 a0_0, (.slice A0_1 l0_1.length c0_1)] 51 (0, 0))) ∧ Aside0 (Below w.heap.size w wc))
        case first =>
         have H := HC27.out
         clear HC27
         replace H := Option.bind_eq_some_iff.mp H
         obtain ⟨t524, A290, H⟩ := H
         replace H : (if t524 = true then ((spec_l25Side.f x8_2 a2).bind fun t525 => (spec_FlowMost.j2 k2 a1 a2 x7_2 x8_2 (!t525) a0_0 l0_1)) else (spec_FlowMost.j2 k2 a1 a2 x7_2 x8_2 false a0_0 l0_1)) = some r := H
         have A29 := Aside0.mk A290
         clear A290
         by_cases c30 : t524 = true
         ·subst c30
          have H1 : ((spec_l25Side.f x8_2 a2).bind fun t525 => (spec_FlowMost.j2 k2 a1 a2 x7_2 x8_2 (!t525) a0_0 l0_1)) = some r := by rw [if_pos rfl] at H; exact H
          clear H
          have H := H1
          clear H1
          replace H := Option.bind_eq_some_iff.mp H
          obtain ⟨t525, A310, H⟩ := H
          replace H : (spec_FlowMost.j2 k2 a1 a2 x7_2 x8_2 (!t525) a0_0 l0_1) = some r := H
          have A31 := Aside0.mk A310
          clear A310
          have H' := Aside0.mk H
          clear H
          go_wp2_with (first | ((with_reducible refine gate_callee (f := 68) rfl ?_); refine goesL_ (some 43) rfl rfl Try.func68 (by kernel_rfl) rfl #[.int .i64 x8_2, .int .i64 a1] rfl (by (try simp only [List.map_toArray, List.map_cons, List.map_nil]); first | done | rfl | (simp only [List.length_drop, List.length_take]; rfl)) ?_; (with_reducible refine (spec_l25Side.calls x8_2 a1 true _ A29.out).mono ?_); rintro e w' ⟨rfl, ⟨nd, rfl⟩⟩; refine ⟨_, rfl, ?_⟩) | (go_at_call 68; (with_reducible refine (spec_l25Side.calls x8_2 a2 t525 _ A31.out).mono ?_); rintro e w' ⟨rfl, ⟨nd, rfl⟩⟩))
          go_meet
          case rel => exact ⟨_, (!t525), (by first | rfl | (simp; done) | (simp [*]; done)), H', ⟨by have := HJ3.out; have := HK2.out; first | omega | exact Nat.le_refl _⟩, ⟨by (with_reducible repeat (first | refine blk_drewN ?_ _ | refine blk_drew ?_ | refine blk_alloc ?_ _)); exact BK520.out⟩, ⟨by repeat (first | (with_reducible first | exact HB.out | apply below_alloc | apply pw_below_drewN | apply below_drew1 | refine below_set ?_ GE520.out) | exact HB.out)⟩⟩
         ·replace c30 := Bool.eq_false_iff.mpr c30
          subst c30
          have H1 : (spec_FlowMost.j2 k2 a1 a2 x7_2 x8_2 false a0_0 l0_1) = some r := by rw [if_neg (show ¬ (false = true) by decide)] at H; exact H
          clear H
          have H := H1
          clear H1
          have H' := Aside0.mk H
          clear H
          go_wp2_with (first | ((with_reducible refine gate_callee (f := 68) rfl ?_); refine goesL_ (some 43) rfl rfl Try.func68 (by kernel_rfl) rfl #[.int .i64 x8_2, .int .i64 a1] rfl (by (try simp only [List.map_toArray, List.map_cons, List.map_nil]); first | done | rfl | (simp only [List.length_drop, List.length_take]; rfl)) ?_; (with_reducible refine (spec_l25Side.calls x8_2 a1 false _ A29.out).mono ?_); rintro e w' ⟨rfl, ⟨nd, rfl⟩⟩; refine ⟨_, rfl, ?_⟩))
          go_meet
          case rel => exact ⟨_, (false), (by first | rfl | (simp; done) | (simp [*]; done)), H', ⟨by have := HJ3.out; have := HK2.out; first | omega | exact Nat.le_refl _⟩, ⟨by (with_reducible repeat (first | refine blk_drewN ?_ _ | refine blk_drew ?_ | refine blk_alloc ?_ _)); exact BK520.out⟩, ⟨by repeat (first | (with_reducible first | exact HB.out | apply below_alloc | apply pw_below_drewN | apply below_drew1 | refine below_set ?_ GE520.out) | exact HB.out)⟩⟩
        case rest =>
         clear HC27
         try clear c1
         try clear c2
         try clear p2
         try clear c3
         try clear c6
         try clear p6
         try clear c7
         try clear c9
         try clear c11
         try clear c23
         try clear c24
         try clear c24b0
         try clear c24b1
         try clear c26
         try clear c26b0
         try clear c30
         try clear hcz12_0
         try clear hcz12_1
         try clear hcz14_0
         try clear hcz14_1
         try clear hcz15_0
         try clear hcz15_1
         try clear hcz17_0
         try clear hcz17_1
         try clear hcz18_0
         try clear hcz18_1
         try clear hcz20_0
         try clear hcz20_1
         try clear hcz21_0
         try clear hcz21_1
         try clear hcz28_0
         try clear hcz28_1
         try clear hfz12_0
         try clear hfz12_1
         try clear hfz14_0
         try clear hfz14_1
         try clear hfz15_0
         try clear hfz15_1
         try clear hfz17_0
         try clear hfz17_1
         try clear hfz18_0
         try clear hfz18_1
         try clear hfz20_0
         try clear hfz20_1
         try clear hfz21_0
         try clear hfz21_1
         try clear hfz28_0
         try clear hfz28_1
         try clear p2
         try clear p6
         obtain ⟨kq, x49_26, rfl, HA, HJ26, BK520, HB⟩ := hcut
         cases kq with
         | zero => exact absurd HA.out (by simp [spec_FlowMost.j2])
         | succ kj26 =>
          have H := HA.out
          clear HA
          simp only [spec_FlowMost.j2] at H
          by_cases c32 : x49_26 = true
          ·subst c32
           have H1 : ((spec_l25Cut.f kj26 a0_0 l0_1 x8_2).bind fun t526 => (if x7_2 < 0 then (spec_FlowMost.l0 kj26 a1 a2 t526 (wrap64 (x8_2 + 1)) a0_0 l0_1) else (if t526 < x7_2 then (spec_FlowMost.l0 kj26 a1 a2 t526 (wrap64 (x8_2 + 1)) a0_0 l0_1) else (spec_FlowMost.l0 kj26 a1 a2 x7_2 (wrap64 (x8_2 + 1)) a0_0 l0_1)))) = some r := by rw [if_pos rfl] at H; exact H
           clear H
           have H := H1
           clear H1
           replace H := Option.bind_eq_some_iff.mp H
           obtain ⟨t526, A330, H⟩ := H
           replace H : (if x7_2 < 0 then (spec_FlowMost.l0 kj26 a1 a2 t526 (wrap64 (x8_2 + 1)) a0_0 l0_1) else (if t526 < x7_2 then (spec_FlowMost.l0 kj26 a1 a2 t526 (wrap64 (x8_2 + 1)) a0_0 l0_1) else (spec_FlowMost.l0 kj26 a1 a2 x7_2 (wrap64 (x8_2 + 1)) a0_0 l0_1))) = some r := H
           have A33 := Aside0.mk A330
           clear A330
           by_cases c34 : x7_2 < 0
           ·rw [if_pos c34] at H
            have c34b0 : decide (x7_2 < 0) = true := decide_eq_true c34
            clear c34
            have H' := Aside0.mk H
            clear H
            have hcz35_0 : wc.cell? ⟨gb520, 0, none⟩ = some (.int .i64 a0_0) := (blk_cell BK520.out 0).trans rfl
            have hcz35_1 : wc.cell? ⟨gb520, 1, none⟩ = some (.slice A0_1 l0_1.length c0_1) := (blk_cell BK520.out 1).trans rfl
            have hfz35_0 := blk_frozen BK520.out 0
            have hfz35_1 := blk_frozen BK520.out 1
            go_wp2_with (first | ((with_reducible refine gate_callee (f := 69) rfl ?_); refine goesL_ (some 52) rfl rfl Try.func69 (by kernel_rfl) rfl #[.agg #[.int .i64 a0_0, .slice A0_1 l0_1.length c0_1], .int .i64 x8_2] rfl (by (try simp only [List.map_toArray, List.map_cons, List.map_nil]); first | done | rfl | (simp only [List.length_drop, List.length_take]; rfl)) ?_; (with_reducible refine (spec_l25Cut.calls kj26 a0_0 _ _ l0_1 x8_2 t526 _ ?side1 ?side2 A33.out).mono ?_); (case side1 => repeat (first | exact (Kd.C_below HR0_1.out HB.out) | (with_reducible refine Kd.C_alloc ?_ _) | (with_reducible refine Kd.C_drewN ?_ _) | (with_reducible refine Kd.C_drew ?_))); (case side2 => exact HC0_1.out); rintro e w36 ⟨rfl, hb⟩; refine ⟨_, rfl, ?_⟩; have n0_ := Aside0.mk (blk_below (g := gb520) (o := .cells #[.int .i64 a0_0, .slice A0_1 l0_1.length c0_1] 51 (0, 0)) (by (with_reducible repeat (first | refine blk_drewN ?_ _ | refine blk_drew ?_ | refine blk_alloc ?_ _)); exact BK520.out) hb); have n1_ := Aside0.mk (below_step (by repeat (first | (with_reducible first | exact HB.out | apply below_alloc | apply pw_below_drewN | apply below_drew1 | refine below_set ?_ GE520.out) | exact HB.out)) hb); clear BK520; clear HB; have BK520 := n0_; have HB := n1_; clear n0_ n1_; (try clear hb); (try clear hb2); (try clear hk); (try clear hi)))
            go_roundg kj26
            case measure => have := HJ3.out; have := HK2.out; have := HJ26.out; omega
            case rel => exact ⟨(t526), (wrap64 (x8_2 + 1)), (by first | rfl | (simp; done) | (simp [*]; done)), (by first | rfl | (simp; done) | (simp [*]; done)), H', ⟨by have := HJ3.out; have := HK2.out; have := HJ26.out; omega⟩, ⟨by (with_reducible repeat (first | refine blk_drewN ?_ _ | refine blk_drew ?_ | refine blk_alloc ?_ _)); exact BK520.out⟩, ⟨by repeat (first | (with_reducible first | exact HB.out | apply below_alloc | apply pw_below_drewN | apply below_drew1 | refine below_set ?_ GE520.out) | exact HB.out)⟩⟩
           ·rw [if_neg c34] at H
            have c34b0 : decide (x7_2 < 0) = false := decide_eq_false c34
            clear c34
            by_cases c37 : t526 < x7_2
            ·rw [if_pos c37] at H
             have c37b0 : decide (t526 < x7_2) = true := decide_eq_true c37
             clear c37
             have H' := Aside0.mk H
             clear H
             have hcz38_0 : wc.cell? ⟨gb520, 0, none⟩ = some (.int .i64 a0_0) := (blk_cell BK520.out 0).trans rfl
             have hcz38_1 : wc.cell? ⟨gb520, 1, none⟩ = some (.slice A0_1 l0_1.length c0_1) := (blk_cell BK520.out 1).trans rfl
             have hfz38_0 := blk_frozen BK520.out 0
             have hfz38_1 := blk_frozen BK520.out 1
             go_wp2_with (first | ((with_reducible refine gate_callee (f := 69) rfl ?_); refine goesL_ (some 52) rfl rfl Try.func69 (by kernel_rfl) rfl #[.agg #[.int .i64 a0_0, .slice A0_1 l0_1.length c0_1], .int .i64 x8_2] rfl (by (try simp only [List.map_toArray, List.map_cons, List.map_nil]); first | done | rfl | (simp only [List.length_drop, List.length_take]; rfl)) ?_; (with_reducible refine (spec_l25Cut.calls kj26 a0_0 _ _ l0_1 x8_2 t526 _ ?side1 ?side2 A33.out).mono ?_); (case side1 => repeat (first | exact (Kd.C_below HR0_1.out HB.out) | (with_reducible refine Kd.C_alloc ?_ _) | (with_reducible refine Kd.C_drewN ?_ _) | (with_reducible refine Kd.C_drew ?_))); (case side2 => exact HC0_1.out); rintro e w39 ⟨rfl, hb⟩; refine ⟨_, rfl, ?_⟩; have n0_ := Aside0.mk (blk_below (g := gb520) (o := .cells #[.int .i64 a0_0, .slice A0_1 l0_1.length c0_1] 51 (0, 0)) (by (with_reducible repeat (first | refine blk_drewN ?_ _ | refine blk_drew ?_ | refine blk_alloc ?_ _)); exact BK520.out) hb); have n1_ := Aside0.mk (below_step (by repeat (first | (with_reducible first | exact HB.out | apply below_alloc | apply pw_below_drewN | apply below_drew1 | refine below_set ?_ GE520.out) | exact HB.out)) hb); clear BK520; clear HB; have BK520 := n0_; have HB := n1_; clear n0_ n1_; (try clear hb); (try clear hb2); (try clear hk); (try clear hi)))
             go_roundg kj26
             case measure => have := HJ3.out; have := HK2.out; have := HJ26.out; omega
             case rel => exact ⟨(t526), (wrap64 (x8_2 + 1)), (by first | rfl | (simp; done) | (simp [*]; done)), (by first | rfl | (simp; done) | (simp [*]; done)), H', ⟨by have := HJ3.out; have := HK2.out; have := HJ26.out; omega⟩, ⟨by (with_reducible repeat (first | refine blk_drewN ?_ _ | refine blk_drew ?_ | refine blk_alloc ?_ _)); exact BK520.out⟩, ⟨by repeat (first | (with_reducible first | exact HB.out | apply below_alloc | apply pw_below_drewN | apply below_drew1 | refine below_set ?_ GE520.out) | exact HB.out)⟩⟩
            ·rw [if_neg c37] at H
             have c37b0 : decide (t526 < x7_2) = false := decide_eq_false c37
             clear c37
             have H' := Aside0.mk H
             clear H
             have hcz40_0 : wc.cell? ⟨gb520, 0, none⟩ = some (.int .i64 a0_0) := (blk_cell BK520.out 0).trans rfl
             have hcz40_1 : wc.cell? ⟨gb520, 1, none⟩ = some (.slice A0_1 l0_1.length c0_1) := (blk_cell BK520.out 1).trans rfl
             have hfz40_0 := blk_frozen BK520.out 0
             have hfz40_1 := blk_frozen BK520.out 1
             go_wp2_with (first | ((with_reducible refine gate_callee (f := 69) rfl ?_); refine goesL_ (some 52) rfl rfl Try.func69 (by kernel_rfl) rfl #[.agg #[.int .i64 a0_0, .slice A0_1 l0_1.length c0_1], .int .i64 x8_2] rfl (by (try simp only [List.map_toArray, List.map_cons, List.map_nil]); first | done | rfl | (simp only [List.length_drop, List.length_take]; rfl)) ?_; (with_reducible refine (spec_l25Cut.calls kj26 a0_0 _ _ l0_1 x8_2 t526 _ ?side1 ?side2 A33.out).mono ?_); (case side1 => repeat (first | exact (Kd.C_below HR0_1.out HB.out) | (with_reducible refine Kd.C_alloc ?_ _) | (with_reducible refine Kd.C_drewN ?_ _) | (with_reducible refine Kd.C_drew ?_))); (case side2 => exact HC0_1.out); rintro e w41 ⟨rfl, hb⟩; refine ⟨_, rfl, ?_⟩; have n0_ := Aside0.mk (blk_below (g := gb520) (o := .cells #[.int .i64 a0_0, .slice A0_1 l0_1.length c0_1] 51 (0, 0)) (by (with_reducible repeat (first | refine blk_drewN ?_ _ | refine blk_drew ?_ | refine blk_alloc ?_ _)); exact BK520.out) hb); have n1_ := Aside0.mk (below_step (by repeat (first | (with_reducible first | exact HB.out | apply below_alloc | apply pw_below_drewN | apply below_drew1 | refine below_set ?_ GE520.out) | exact HB.out)) hb); clear BK520; clear HB; have BK520 := n0_; have HB := n1_; clear n0_ n1_; (try clear hb); (try clear hb2); (try clear hk); (try clear hi)))
             go_roundg kj26
             case measure => have := HJ3.out; have := HK2.out; have := HJ26.out; omega
             case rel => exact ⟨(x7_2), (wrap64 (x8_2 + 1)), (by first | rfl | (simp; done) | (simp [*]; done)), (by first | rfl | (simp; done) | (simp [*]; done)), H', ⟨by have := HJ3.out; have := HK2.out; have := HJ26.out; omega⟩, ⟨by (with_reducible repeat (first | refine blk_drewN ?_ _ | refine blk_drew ?_ | refine blk_alloc ?_ _)); exact BK520.out⟩, ⟨by repeat (first | (with_reducible first | exact HB.out | apply below_alloc | apply pw_below_drewN | apply below_drew1 | refine below_set ?_ GE520.out) | exact HB.out)⟩⟩
          ·replace c32 := Bool.eq_false_iff.mpr c32
           subst c32
           have H1 : (spec_FlowMost.l0 kj26 a1 a2 x7_2 (wrap64 (x8_2 + 1)) a0_0 l0_1) = some r := by rw [if_neg (show ¬ (false = true) by decide)] at H; exact H
           clear H
           have H := H1
           clear H1
           have H' := Aside0.mk H
           clear H
           go_wp2
           go_roundg kj26
           case measure => have := HJ3.out; have := HK2.out; have := HJ26.out; omega
           case rel => exact ⟨(x7_2), (wrap64 (x8_2 + 1)), (by first | rfl | (simp; done) | (simp [*]; done)), (by first | rfl | (simp; done) | (simp [*]; done)), H', ⟨by have := HJ3.out; have := HK2.out; have := HJ26.out; omega⟩, ⟨by (with_reducible repeat (first | refine blk_drewN ?_ _ | refine blk_drew ?_ | refine blk_alloc ?_ _)); exact BK520.out⟩, ⟨by repeat (first | (with_reducible first | exact HB.out | apply below_alloc | apply pw_below_drewN | apply below_drew1 | refine below_set ?_ GE520.out) | exact HB.out)⟩⟩
       ·rw [if_neg c26] at H
        have c26b0 : decide (x8_2 < (ji25)) = false := decide_eq_false c26
        clear c26
        obtain rfl := Option.some.inj H
        have hcz42_0 : wr.cell? ⟨gb520, 0, none⟩ = some (.int .i64 a0_0) := (blk_cell BK520.out 0).trans rfl
        have hcz42_1 : wr.cell? ⟨gb520, 1, none⟩ = some (.slice A0_1 l0_1.length c0_1) := (blk_cell BK520.out 1).trans rfl
        have hfz42_0 := blk_frozen BK520.out 0
        have hfz42_1 := blk_frozen BK520.out 1
        go_wp2
        go_ret
        exact ⟨by first | rfl | (simp [errW_none, errW_some] <;> rfl) | (simp only [← hji25]; first | rfl | (simp [errW_none, errW_some] <;> rfl)) | (simp [*, errW_none, errW_some] <;> rfl), by repeat (first | (with_reducible first | exact HB.out | apply below_alloc | apply pw_below_drewN | apply below_drew1 | refine below_set ?_ GE520.out) | exact HB.out)⟩
      ·rw [if_neg c24] at H
       exact absurd H (by simp)
end Go.Proofs.Ytjiiipmeocageaa.Pr
end
section
namespace Go.Proofs.Ytjiiipmeocageaa.Pr
open Go.RowKit Go.Proofs.YtjiiipmeocageaaW.PrintWords Go.Proofs.YtjiiipmeocageaaW.PrintLast Go.Proofs.YtjiiipmeocageaaW.PrintMore
attribute [local go_sem] max2_int min2_int max_two min_two max_three min_three max_four min_four
set_option linter.unusedVariables false
set_option linter.unusedSimpArgs false
def impl_FlowMost.l0 : Nat → Int → Int → Int → Int → Int → Int → List (S56) → Option (Int)
 | 0, _, _, _, _, _, _, _ => none
 | k + 1, x1, x2, x7, x16, x17, x558000, x558001 => if x17 < x16 then (if 0 ≤ x1 then (if (Go.bits .and .i64 (shr .i64 x17 x1) 1) = 1 then (if 0 ≤ x2 then (if (Go.bits .and .i64 (shr .i64 x17 x2) 1) = 0 then (if x7 < 0 then ((impl_Net_cut.f k x558000 x558001 x17).bind fun t559 => (impl_FlowMost.l0 k x1 x2 t559 x16 (wrap64 (x17 + 1)) x558000 x558001)) else ((impl_Net_cut.f k x558000 x558001 x17).bind fun t560 => (if t560 < x7 then ((impl_Net_cut.f k x558000 x558001 x17).bind fun t561 => (impl_FlowMost.l0 k x1 x2 t561 x16 (wrap64 (x17 + 1)) x558000 x558001)) else (impl_FlowMost.l0 k x1 x2 x7 x16 (wrap64 (x17 + 1)) x558000 x558001)))) else (impl_FlowMost.l0 k x1 x2 x7 x16 (wrap64 (x17 + 1)) x558000 x558001)) else (none)) else (impl_FlowMost.l0 k x1 x2 x7 x16 (wrap64 (x17 + 1)) x558000 x558001)) else (none)) else (some x7)
def impl_FlowMost.f (k : Nat) (a0_0 : Int) (l0_1 : List (S56)) (a1 : Int) (a2 : Int) : Option (Int) := (impl_apart.f a0_0 l0_1 a1 a2).bind fun t558 => (if t558 = true then (if 0 ≤ a0_0 then (impl_FlowMost.l0 k a1 a2 (-1) (shl .i64 1 a0_0) 0 a0_0 l0_1) else (none)) else (some (-1)))
theorem impl_FlowMost.mono_l : ∀ k, (∀ y0 y1 y2 y3 y4 y5 y6, LeO (impl_FlowMost.l0 k y0 y1 y2 y3 y4 y5 y6) (impl_FlowMost.l0 (k + 1) y0 y1 y2 y3 y4 y5 y6))
 | 0 => fun _ _ _ _ _ _ _ r h => by simp [impl_FlowMost.l0] at h
 | k + 1 => by
  have ih0 := impl_FlowMost.mono_l k
  ·intro y0 y1 y2 y3 y4 y5 y6
   unfold impl_FlowMost.l0
   repeat' first
   | (with_reducible exact ih0 _ _ _ _ _ _ _)
   | (with_reducible exact impl_Net_cut.mono _ _ _ _)
   | (with_reducible exact LeO.refl _)
   | (with_reducible exact LeO.none _)
   | (with_reducible refine LeO.ite ?_ ?_)
   | (with_reducible refine LeO.bind ?_ (fun _ => ?_))
   | exact ih0 _ _ _ _ _ _ _
   | exact impl_Net_cut.mono _ _ _ _
   | exact LeO.none _
   | refine LeO.ite ?_ ?_
   | refine LeO.bind ?_ (fun _ => ?_)
theorem impl_FlowMost.mono : ∀ a0 a1 a2 a3 k, LeO (impl_FlowMost.f k a0 a1 a2 a3) (impl_FlowMost.f (k + 1) a0 a1 a2 a3) := by
 intro a0 a1 a2 a3 k
 have ih0 := impl_FlowMost.mono_l k
 unfold impl_FlowMost.f
 repeat' first
   | (with_reducible exact ih0 _ _ _ _ _ _ _)
   | (with_reducible exact impl_Net_cut.mono _ _ _ _)
   | (with_reducible exact LeO.refl _)
   | (with_reducible exact LeO.none _)
   | (with_reducible refine LeO.ite ?_ ?_)
   | (with_reducible refine LeO.bind ?_ (fun _ => ?_))
   | exact ih0 _ _ _ _ _ _ _
   | exact impl_Net_cut.mono _ _ _ _
   | exact LeO.none _
   | refine LeO.ite ?_ ?_
   | refine LeO.bind ?_ (fun _ => ?_)
set_option maxHeartbeats 8000000 in
set_option maxRecDepth 100000 in
theorem impl_FlowMost.calls (k : Nat) (a0_0 : Int) (A0_1 : Option Addr) (c0_1 : Nat) (l0_1 : List (S56)) (a1 : Int) (a2 : Int) (r : Int) (w : World) (hr0_1 : Kd.C k56 w A0_1 l0_1.length l0_1) (hc0_1 : l0_1.length ≤ c0_1) (h : impl_FlowMost.f k a0_0 l0_1 a1 a2 = some r) :
  Calls Try.prog 34 #[.agg #[.int .i64 a0_0, .slice A0_1 l0_1.length c0_1], .int .i64 a1, .int .i64 a2] w fun e w' => e = .returned (.int .i64 r) ∧ Below w.heap.size w w' := by
 have hu51 := Try.underlying51
 have HR0_1 := Aside0.mk hr0_1
 have HC0_1 := Aside0.mk hc0_1
 clear hr0_1 hc0_1
 have HB := Aside0.mk (Below.refl w.heap.size w)
 have H : ((impl_apart.f a0_0 l0_1 a1 a2).bind fun t558 => (if t558 = true then (if 0 ≤ a0_0 then (impl_FlowMost.l0 k a1 a2 (-1) (shl .i64 1 a0_0) 0 a0_0 l0_1) else (none)) else (some (-1)))) = some r := h
 clear h
 replace H := Option.bind_eq_some_iff.mp H
 obtain ⟨t558, A40, H⟩ := H
 replace H : (if t558 = true then (if 0 ≤ a0_0 then (impl_FlowMost.l0 k a1 a2 (-1) (shl .i64 1 a0_0) 0 a0_0 l0_1) else (none)) else (some (-1))) = some r := H
 have A4 := Aside0.mk A40
 clear A40
 by_cases c5 : t558 = true
 ·subst c5
  have H1 : (if 0 ≤ a0_0 then (impl_FlowMost.l0 k a1 a2 (-1) (shl .i64 1 a0_0) 0 a0_0 l0_1) else (none)) = some r := by rw [if_pos rfl] at H; exact H
  clear H
  have H := H1
  clear H1
  by_cases c6 : 0 ≤ a0_0
  ·rw [if_pos c6] at H
   have c6b0 := eq_true c6
   have c6b1 : decide (0 ≤ a0_0) = true := decide_eq_true c6
   clear c6
   obtain ⟨ji7, hji7⟩ : ∃ j_ : Int, (shl .i64 1 a0_0) = j_ := ⟨_, rfl⟩
   replace H : (impl_FlowMost.l0 k a1 a2 (-1) ji7 0 a0_0 l0_1) = some r := by first | (rw [hji7] at H; exact H) | (simp only [hji7] at H ⊢; exact H)
   (try rw [hji7] at A4)
   have hji7_ : (IntKind.i64.wrap (1 * 2 ^ min a0_0.toNat 64)) = ji7 := hji7
   have hji7z : a0_0 ≤ 64 → (IntKind.i64.wrap (1 * 2 ^ a0_0.toNat)) = ji7 := shl_small hji7
   have hji7u : (IntKind.i64.wrap (2 ^ min a0_0.toNat 64)) = ji7 := by have h_ := hji7_; rw [Int.one_mul] at h_; exact h_
   have hji7v : a0_0 ≤ 64 → (IntKind.i64.wrap (2 ^ a0_0.toNat)) = ji7 := fun hle_ => by have h_ := hji7z hle_; rw [Int.one_mul] at h_; exact h_
   have hji7y : (wrap64 (1 * 2 ^ min a0_0.toNat 64)) = ji7 := (i64_w _).symm.trans hji7_
   have hji7x : a0_0 ≤ 64 → (wrap64 (1 * 2 ^ a0_0.toNat)) = ji7 := fun h_ => (i64_w _).symm.trans (hji7z h_)
   have H' := Aside0.mk H
   clear H
   go_enter Try.func34, Try.ntmps34
   go_wp2_with (first | ((with_reducible refine gate_dst (N := 3) rfl ?_); refine box_event ?hg (N := 3) ?hd (cs := #[.int .i64 a0_0, .slice A0_1 l0_1.length c0_1]) (t := 51) ?hr ?_; (case hd => rfl); (case hg => rfl); (case hr => first | (go_simp; done) | (go_simp; rfl)); intro gb557 hg w8 hbox hb; have n0_ := Aside0.mk (below_step (by repeat (first | (with_reducible first | exact HB.out | apply below_alloc | apply pw_below_drewN | apply below_drew1) | exact HB.out)) hb); have n1_ := Aside0.mk (hbox); have n2_ := Aside0.mk ((by rw [hg]; exact (below_size (by repeat (first | (with_reducible first | exact HB.out | apply below_alloc | apply pw_below_drewN | apply below_drew1) | exact HB.out))) : w.heap.size ≤ gb557)); have n3_ := Aside0.mk ((by rw [hg]; exact (below_size (by repeat (first | (with_reducible first | exact HB.out | apply below_alloc | apply pw_below_drewN | apply below_drew1) | exact HB.out))) : w.heap.size ≤ gb557)); clear HB; have HB := n0_; have BK557 := n1_; have GW557 := n2_; have GE557 := n3_; clear n0_ n1_ n2_ n3_; clear hb hbox hg; have hcz9_0 : w8.cell? ⟨gb557, 0, none⟩ = some (.int .i64 a0_0) := (blk_cell BK557.out 0).trans rfl; have hcz9_1 : w8.cell? ⟨gb557, 1, none⟩ = some (.slice A0_1 l0_1.length c0_1) := (blk_cell BK557.out 1).trans rfl; have hfz9_0 := blk_frozen BK557.out 0; have hfz9_1 := blk_frozen BK557.out 1) | ((with_reducible refine gate_callee (f := 71) rfl ?_); refine goesL_ (some 12) rfl rfl Try.func71 (by kernel_rfl) rfl #[.agg #[.int .i64 a0_0, .slice A0_1 l0_1.length c0_1], .int .i64 a1, .int .i64 a2] rfl (by (try simp only [List.map_toArray, List.map_cons, List.map_nil]); first | done | rfl | (simp only [List.length_drop, List.length_take]; rfl)) ?_; (with_reducible refine (impl_apart.calls a0_0 _ _ l0_1 a1 a2 true _ ?side1 ?side2 A4.out).mono ?_); (case side1 => repeat (first | exact (Kd.C_below HR0_1.out HB.out) | (with_reducible refine Kd.C_alloc ?_ _) | (with_reducible refine Kd.C_drewN ?_ _) | (with_reducible refine Kd.C_drew ?_))); (case side2 => exact HC0_1.out); rintro e w10 ⟨rfl, hb⟩; refine ⟨_, rfl, ?_⟩; have n0_ := Aside0.mk (blk_below (g := gb557) (o := .cells #[.int .i64 a0_0, .slice A0_1 l0_1.length c0_1] 51 (0, 0)) (by (with_reducible repeat (first | refine blk_drewN ?_ _ | refine blk_drew ?_ | refine blk_alloc ?_ _)); exact BK557.out) hb); have n1_ := Aside0.mk (below_step (by repeat (first | (with_reducible first | exact HB.out | apply below_alloc | apply pw_below_drewN | apply below_drew1 | refine below_set ?_ GE557.out) | exact HB.out)) hb); clear BK557; clear HB; have BK557 := n0_; have HB := n1_; clear n0_ n1_; (try clear hb); (try clear hb2); (try clear hk); (try clear hi); have hcz11_0 : w10.cell? ⟨gb557, 0, none⟩ = some (.int .i64 a0_0) := (blk_cell BK557.out 0).trans rfl; have hcz11_1 : w10.cell? ⟨gb557, 1, none⟩ = some (.slice A0_1 l0_1.length c0_1) := (blk_cell BK557.out 1).trans rfl; have hfz11_0 := blk_frozen BK557.out 0; have hfz11_1 := blk_frozen BK557.out 1))
   go_loopg [7, 17] k (fun kq v7 v17 w' => ∃ (x7_1 : Int) (x17_1 : Int), v7 = .int .i64 x7_1 ∧ v17 = .int .i64 x17_1 ∧ Aside0 (impl_FlowMost.l0 kq a1 a2 x7_1 ji7 x17_1 a0_0 l0_1 = some r) ∧ Aside0 (kq ≤ k) ∧ Aside0 (w'.heap[gb557]? = some (.cells #[.int .i64 a0_0, (.slice A0_1 l0_1.length c0_1)] 51 (0, 0))) ∧ Aside0 (Below w.heap.size w w'))
   case atStart => exact ⟨((-1)), (0), (by first | rfl | (simp; done) | (simp [*]; done)), (by first | rfl | (simp; done) | (simp [*]; done)), H', ⟨Nat.le_refl _⟩, ⟨by (with_reducible repeat (first | refine blk_drewN ?_ _ | refine blk_drew ?_ | refine blk_alloc ?_ _)); exact BK557.out⟩, ⟨by repeat (first | (with_reducible first | exact HB.out | apply below_alloc | apply pw_below_drewN | apply below_drew1 | refine below_set ?_ GE557.out) | exact HB.out)⟩⟩
   case round =>
    clear H'
    try clear p2
    try clear c3
    try clear c5
    try clear c6
    try clear c6b0
    try clear c6b1
    try clear p6
    try clear c7
    try clear hcz11_0
    try clear hcz11_1
    try clear hcz9_0
    try clear hcz9_1
    try clear hfz11_0
    try clear hfz11_1
    try clear hfz9_0
    try clear hfz9_1
    obtain ⟨x7_1, x17_1, rfl, rfl, HA, HK1, BK557, HB⟩ := hrel
    cases gk with
    | zero => exact absurd HA.out (by simp [impl_FlowMost.l0])
    | succ k1 =>
     have H := HA.out
     clear HA
     simp only [impl_FlowMost.l0] at H
     by_cases c12 : x17_1 < ji7
     ·rw [if_pos c12] at H
      have c12b0 : decide (x17_1 < ji7) = true := decide_eq_true c12
      clear c12
      by_cases c13 : 0 ≤ a1
      ·rw [if_pos c13] at H
       have c13b0 := eq_true c13
       have c13b1 : decide (0 ≤ a1) = true := decide_eq_true c13
       clear c13
       obtain ⟨ji14, hji14⟩ : ∃ j_ : Int, (shr .i64 x17_1 a1) = j_ := ⟨_, rfl⟩
       replace H : (if (Go.bits .and .i64 (ji14) 1) = 1 then (if 0 ≤ a2 then (if (Go.bits .and .i64 (shr .i64 x17_1 a2) 1) = 0 then (if x7_1 < 0 then ((impl_Net_cut.f k1 a0_0 l0_1 x17_1).bind fun t559 => (impl_FlowMost.l0 k1 a1 a2 t559 ji7 (wrap64 (x17_1 + 1)) a0_0 l0_1)) else ((impl_Net_cut.f k1 a0_0 l0_1 x17_1).bind fun t560 => (if t560 < x7_1 then ((impl_Net_cut.f k1 a0_0 l0_1 x17_1).bind fun t561 => (impl_FlowMost.l0 k1 a1 a2 t561 ji7 (wrap64 (x17_1 + 1)) a0_0 l0_1)) else (impl_FlowMost.l0 k1 a1 a2 x7_1 ji7 (wrap64 (x17_1 + 1)) a0_0 l0_1)))) else (impl_FlowMost.l0 k1 a1 a2 x7_1 ji7 (wrap64 (x17_1 + 1)) a0_0 l0_1)) else (none)) else (impl_FlowMost.l0 k1 a1 a2 x7_1 ji7 (wrap64 (x17_1 + 1)) a0_0 l0_1)) = some r := by first | (rw [hji14] at H; exact H) | (simp only [hji14] at H ⊢; exact H)
       have hji14_ : (x17_1 / 2 ^ min a1.toNat 64) = ji14 := hji14
       have hji14z : a1 ≤ 64 → (x17_1 / 2 ^ a1.toNat) = ji14 := shr_small hji14
       by_cases c15 : (Go.bits .and .i64 (ji14) 1) = 1
       ·rw [if_pos c15] at H
        have c15b0 : ((Go.bits .and .i64 (ji14) 1) == 1) = true := beq_iff_eq.mpr c15
        have c15b1 : ((Go.bits .and .i64 (ji14) 1) != 1) = false := bne_eq_false_iff_eq.mpr c15
        clear c15
        by_cases c16 : 0 ≤ a2
        ·rw [if_pos c16] at H
         have c16b0 := eq_true c16
         have c16b1 : decide (0 ≤ a2) = true := decide_eq_true c16
         clear c16
         obtain ⟨ji17, hji17⟩ : ∃ j_ : Int, (shr .i64 x17_1 a2) = j_ := ⟨_, rfl⟩
         replace H : (if (Go.bits .and .i64 (ji17) 1) = 0 then (if x7_1 < 0 then ((impl_Net_cut.f k1 a0_0 l0_1 x17_1).bind fun t559 => (impl_FlowMost.l0 k1 a1 a2 t559 ji7 (wrap64 (x17_1 + 1)) a0_0 l0_1)) else ((impl_Net_cut.f k1 a0_0 l0_1 x17_1).bind fun t560 => (if t560 < x7_1 then ((impl_Net_cut.f k1 a0_0 l0_1 x17_1).bind fun t561 => (impl_FlowMost.l0 k1 a1 a2 t561 ji7 (wrap64 (x17_1 + 1)) a0_0 l0_1)) else (impl_FlowMost.l0 k1 a1 a2 x7_1 ji7 (wrap64 (x17_1 + 1)) a0_0 l0_1)))) else (impl_FlowMost.l0 k1 a1 a2 x7_1 ji7 (wrap64 (x17_1 + 1)) a0_0 l0_1)) = some r := by first | (rw [hji17] at H; exact H) | (simp only [hji17] at H ⊢; exact H)
         have hji17_ : (x17_1 / 2 ^ min a2.toNat 64) = ji17 := hji17
         have hji17z : a2 ≤ 64 → (x17_1 / 2 ^ a2.toNat) = ji17 := shr_small hji17
         by_cases c18 : (Go.bits .and .i64 (ji17) 1) = 0
         ·rw [if_pos c18] at H
          have c18b0 : ((Go.bits .and .i64 (ji17) 1) == 0) = true := beq_iff_eq.mpr c18
          have c18b1 : ((Go.bits .and .i64 (ji17) 1) != 0) = false := bne_eq_false_iff_eq.mpr c18
          clear c18
          by_cases c19 : x7_1 < 0
          ·rw [if_pos c19] at H
           have c19b0 : decide (x7_1 < 0) = true := decide_eq_true c19
           clear c19
           replace H := Option.bind_eq_some_iff.mp H
           obtain ⟨t559, A200, H⟩ := H
           replace H : (impl_FlowMost.l0 k1 a1 a2 t559 ji7 (wrap64 (x17_1 + 1)) a0_0 l0_1) = some r := H
           have A20 := Aside0.mk A200
           clear A200
           have H' := Aside0.mk H
           clear H
           have hcz21_0 : wr.cell? ⟨gb557, 0, none⟩ = some (.int .i64 a0_0) := (blk_cell BK557.out 0).trans rfl
           have hcz21_1 : wr.cell? ⟨gb557, 1, none⟩ = some (.slice A0_1 l0_1.length c0_1) := (blk_cell BK557.out 1).trans rfl
           have hfz21_0 := blk_frozen BK557.out 0
           have hfz21_1 := blk_frozen BK557.out 1
           go_wp2_with (first | ((with_reducible refine gate_callee (f := 72) rfl ?_); refine goesL_ (some 45) rfl rfl Try.func72 (by kernel_rfl) rfl #[.agg #[.int .i64 a0_0, .slice A0_1 l0_1.length c0_1], .int .i64 x17_1] rfl (by (try simp only [List.map_toArray, List.map_cons, List.map_nil]); first | done | rfl | (simp only [List.length_drop, List.length_take]; rfl)) ?_; (with_reducible refine (impl_Net_cut.calls k1 a0_0 _ _ l0_1 x17_1 t559 _ ?side1 ?side2 A20.out).mono ?_); (case side1 => repeat (first | exact (Kd.C_below HR0_1.out HB.out) | (with_reducible refine Kd.C_alloc ?_ _) | (with_reducible refine Kd.C_drewN ?_ _) | (with_reducible refine Kd.C_drew ?_))); (case side2 => exact HC0_1.out); rintro e w22 ⟨rfl, hb⟩; refine ⟨_, rfl, ?_⟩; have n0_ := Aside0.mk (blk_below (g := gb557) (o := .cells #[.int .i64 a0_0, .slice A0_1 l0_1.length c0_1] 51 (0, 0)) (by (with_reducible repeat (first | refine blk_drewN ?_ _ | refine blk_drew ?_ | refine blk_alloc ?_ _)); exact BK557.out) hb); have n1_ := Aside0.mk (below_step (by repeat (first | (with_reducible first | exact HB.out | apply below_alloc | apply pw_below_drewN | apply below_drew1 | refine below_set ?_ GE557.out) | exact HB.out)) hb); clear BK557; clear HB; have BK557 := n0_; have HB := n1_; clear n0_ n1_; (try clear hb); (try clear hb2); (try clear hk); (try clear hi)))
           go_roundg k1
           case measure => have := HK1.out; omega
           case rel => exact ⟨(t559), (wrap64 (x17_1 + 1)), (by first | rfl | (simp; done) | (simp [*]; done)), (by first | rfl | (simp; done) | (simp [*]; done)), H', ⟨by have := HK1.out; omega⟩, ⟨by (with_reducible repeat (first | refine blk_drewN ?_ _ | refine blk_drew ?_ | refine blk_alloc ?_ _)); exact BK557.out⟩, ⟨by repeat (first | (with_reducible first | exact HB.out | apply below_alloc | apply pw_below_drewN | apply below_drew1 | refine below_set ?_ GE557.out) | exact HB.out)⟩⟩
          ·rw [if_neg c19] at H
           have c19b0 : decide (x7_1 < 0) = false := decide_eq_false c19
           clear c19
           replace H := Option.bind_eq_some_iff.mp H
           obtain ⟨t560, A230, H⟩ := H
           replace H : (if t560 < x7_1 then ((impl_Net_cut.f k1 a0_0 l0_1 x17_1).bind fun t561 => (impl_FlowMost.l0 k1 a1 a2 t561 ji7 (wrap64 (x17_1 + 1)) a0_0 l0_1)) else (impl_FlowMost.l0 k1 a1 a2 x7_1 ji7 (wrap64 (x17_1 + 1)) a0_0 l0_1)) = some r := H
           have A23 := Aside0.mk A230
           clear A230
           by_cases c24 : t560 < x7_1
           ·rw [if_pos c24] at H
            have c24b0 : decide (t560 < x7_1) = true := decide_eq_true c24
            clear c24
            replace H := Option.bind_eq_some_iff.mp H
            obtain ⟨t561, A250, H⟩ := H
            replace H : (impl_FlowMost.l0 k1 a1 a2 t561 ji7 (wrap64 (x17_1 + 1)) a0_0 l0_1) = some r := H
            have A25 := Aside0.mk A250
            clear A250
            have H' := Aside0.mk H
            clear H
            have hcz26_0 : wr.cell? ⟨gb557, 0, none⟩ = some (.int .i64 a0_0) := (blk_cell BK557.out 0).trans rfl
            have hcz26_1 : wr.cell? ⟨gb557, 1, none⟩ = some (.slice A0_1 l0_1.length c0_1) := (blk_cell BK557.out 1).trans rfl
            have hfz26_0 := blk_frozen BK557.out 0
            have hfz26_1 := blk_frozen BK557.out 1
            go_wp2_with (first | (go_at_call 72; (with_reducible refine (impl_Net_cut.calls k1 a0_0 _ _ l0_1 x17_1 t560 _ ?side1 ?side2 A23.out).mono ?_); (case side1 => repeat (first | exact (Kd.C_below HR0_1.out HB.out) | (with_reducible refine Kd.C_alloc ?_ _) | (with_reducible refine Kd.C_drewN ?_ _) | (with_reducible refine Kd.C_drew ?_))); (case side2 => exact HC0_1.out); rintro e w27 ⟨rfl, hb⟩; have n0_ := Aside0.mk (blk_below (g := gb557) (o := .cells #[.int .i64 a0_0, .slice A0_1 l0_1.length c0_1] 51 (0, 0)) (by (with_reducible repeat (first | refine blk_drewN ?_ _ | refine blk_drew ?_ | refine blk_alloc ?_ _)); exact BK557.out) hb); have n1_ := Aside0.mk (below_step (by repeat (first | (with_reducible first | exact HB.out | apply below_alloc | apply pw_below_drewN | apply below_drew1 | refine below_set ?_ GE557.out) | exact HB.out)) hb); clear BK557; clear HB; have BK557 := n0_; have HB := n1_; clear n0_ n1_; (try clear hb); (try clear hb2); (try clear hk); (try clear hi); have hcz28_0 : w27.cell? ⟨gb557, 0, none⟩ = some (.int .i64 a0_0) := (blk_cell BK557.out 0).trans rfl; have hcz28_1 : w27.cell? ⟨gb557, 1, none⟩ = some (.slice A0_1 l0_1.length c0_1) := (blk_cell BK557.out 1).trans rfl; have hfz28_0 := blk_frozen BK557.out 0; have hfz28_1 := blk_frozen BK557.out 1) | ((with_reducible refine gate_callee (f := 72) rfl ?_); refine goesL_ (some 45) rfl rfl Try.func72 (by kernel_rfl) rfl #[.agg #[.int .i64 a0_0, .slice A0_1 l0_1.length c0_1], .int .i64 x17_1] rfl (by (try simp only [List.map_toArray, List.map_cons, List.map_nil]); first | done | rfl | (simp only [List.length_drop, List.length_take]; rfl)) ?_; (with_reducible refine (impl_Net_cut.calls k1 a0_0 _ _ l0_1 x17_1 t561 _ ?side1 ?side2 A25.out).mono ?_); (case side1 => repeat (first | exact (Kd.C_below HR0_1.out HB.out) | (with_reducible refine Kd.C_alloc ?_ _) | (with_reducible refine Kd.C_drewN ?_ _) | (with_reducible refine Kd.C_drew ?_))); (case side2 => exact HC0_1.out); rintro e w29 ⟨rfl, hb⟩; refine ⟨_, rfl, ?_⟩; have n0_ := Aside0.mk (blk_below (g := gb557) (o := .cells #[.int .i64 a0_0, .slice A0_1 l0_1.length c0_1] 51 (0, 0)) (by (with_reducible repeat (first | refine blk_drewN ?_ _ | refine blk_drew ?_ | refine blk_alloc ?_ _)); exact BK557.out) hb); have n1_ := Aside0.mk (below_step (by repeat (first | (with_reducible first | exact HB.out | apply below_alloc | apply pw_below_drewN | apply below_drew1 | refine below_set ?_ GE557.out) | exact HB.out)) hb); clear BK557; clear HB; have BK557 := n0_; have HB := n1_; clear n0_ n1_; (try clear hb); (try clear hb2); (try clear hk); (try clear hi)))
            go_roundg k1
            case measure => have := HK1.out; omega
            case rel => exact ⟨(t561), (wrap64 (x17_1 + 1)), (by first | rfl | (simp; done) | (simp [*]; done)), (by first | rfl | (simp; done) | (simp [*]; done)), H', ⟨by have := HK1.out; omega⟩, ⟨by (with_reducible repeat (first | refine blk_drewN ?_ _ | refine blk_drew ?_ | refine blk_alloc ?_ _)); exact BK557.out⟩, ⟨by repeat (first | (with_reducible first | exact HB.out | apply below_alloc | apply pw_below_drewN | apply below_drew1 | refine below_set ?_ GE557.out) | exact HB.out)⟩⟩
           ·rw [if_neg c24] at H
            have c24b0 : decide (t560 < x7_1) = false := decide_eq_false c24
            clear c24
            have H' := Aside0.mk H
            clear H
            have hcz30_0 : wr.cell? ⟨gb557, 0, none⟩ = some (.int .i64 a0_0) := (blk_cell BK557.out 0).trans rfl
            have hcz30_1 : wr.cell? ⟨gb557, 1, none⟩ = some (.slice A0_1 l0_1.length c0_1) := (blk_cell BK557.out 1).trans rfl
            have hfz30_0 := blk_frozen BK557.out 0
            have hfz30_1 := blk_frozen BK557.out 1
            go_wp2_with (first | (go_at_call 72; (with_reducible refine (impl_Net_cut.calls k1 a0_0 _ _ l0_1 x17_1 t560 _ ?side1 ?side2 A23.out).mono ?_); (case side1 => repeat (first | exact (Kd.C_below HR0_1.out HB.out) | (with_reducible refine Kd.C_alloc ?_ _) | (with_reducible refine Kd.C_drewN ?_ _) | (with_reducible refine Kd.C_drew ?_))); (case side2 => exact HC0_1.out); rintro e w31 ⟨rfl, hb⟩; have n0_ := Aside0.mk (blk_below (g := gb557) (o := .cells #[.int .i64 a0_0, .slice A0_1 l0_1.length c0_1] 51 (0, 0)) (by (with_reducible repeat (first | refine blk_drewN ?_ _ | refine blk_drew ?_ | refine blk_alloc ?_ _)); exact BK557.out) hb); have n1_ := Aside0.mk (below_step (by repeat (first | (with_reducible first | exact HB.out | apply below_alloc | apply pw_below_drewN | apply below_drew1 | refine below_set ?_ GE557.out) | exact HB.out)) hb); clear BK557; clear HB; have BK557 := n0_; have HB := n1_; clear n0_ n1_; (try clear hb); (try clear hb2); (try clear hk); (try clear hi)))
            go_roundg k1
            case measure => have := HK1.out; omega
            case rel => exact ⟨(x7_1), (wrap64 (x17_1 + 1)), (by first | rfl | (simp; done) | (simp [*]; done)), (by first | rfl | (simp; done) | (simp [*]; done)), H', ⟨by have := HK1.out; omega⟩, ⟨by (with_reducible repeat (first | refine blk_drewN ?_ _ | refine blk_drew ?_ | refine blk_alloc ?_ _)); exact BK557.out⟩, ⟨by repeat (first | (with_reducible first | exact HB.out | apply below_alloc | apply pw_below_drewN | apply below_drew1 | refine below_set ?_ GE557.out) | exact HB.out)⟩⟩
         ·rw [if_neg c18] at H
          have c18b0 : ((Go.bits .and .i64 (ji17) 1) == 0) = false := beq_eq_false_iff_ne.mpr c18
          have c18b1 : ((Go.bits .and .i64 (ji17) 1) != 0) = true := bne_iff_ne.mpr c18
          have H' := Aside0.mk H
          clear H
          go_wp2
          go_roundg k1
          case measure => have := HK1.out; omega
          case rel => exact ⟨(x7_1), (wrap64 (x17_1 + 1)), (by first | rfl | (simp; done) | (simp [*]; done)), (by first | rfl | (simp; done) | (simp [*]; done)), H', ⟨by have := HK1.out; omega⟩, ⟨by (with_reducible repeat (first | refine blk_drewN ?_ _ | refine blk_drew ?_ | refine blk_alloc ?_ _)); exact BK557.out⟩, ⟨by repeat (first | (with_reducible first | exact HB.out | apply below_alloc | apply pw_below_drewN | apply below_drew1 | refine below_set ?_ GE557.out) | exact HB.out)⟩⟩
        ·rw [if_neg c16] at H
         exact absurd H (by simp)
       ·rw [if_neg c15] at H
        have c15b0 : ((Go.bits .and .i64 (ji14) 1) == 1) = false := beq_eq_false_iff_ne.mpr c15
        have c15b1 : ((Go.bits .and .i64 (ji14) 1) != 1) = true := bne_iff_ne.mpr c15
        have H' := Aside0.mk H
        clear H
        go_wp2
        go_roundg k1
        case measure => have := HK1.out; omega
        case rel => exact ⟨(x7_1), (wrap64 (x17_1 + 1)), (by first | rfl | (simp; done) | (simp [*]; done)), (by first | rfl | (simp; done) | (simp [*]; done)), H', ⟨by have := HK1.out; omega⟩, ⟨by (with_reducible repeat (first | refine blk_drewN ?_ _ | refine blk_drew ?_ | refine blk_alloc ?_ _)); exact BK557.out⟩, ⟨by repeat (first | (with_reducible first | exact HB.out | apply below_alloc | apply pw_below_drewN | apply below_drew1 | refine below_set ?_ GE557.out) | exact HB.out)⟩⟩
      ·rw [if_neg c13] at H
       exact absurd H (by simp)
     ·rw [if_neg c12] at H
      have c12b0 : decide (x17_1 < ji7) = false := decide_eq_false c12
      clear c12
      obtain rfl := Option.some.inj H
      go_wp2
      go_ret
      exact ⟨by first | rfl | (simp [errW_none, errW_some] <;> rfl) | (simp only [← hji7]; first | rfl | (simp [errW_none, errW_some] <;> rfl)) | (simp [*, errW_none, errW_some] <;> rfl), by repeat (first | (with_reducible first | exact HB.out | apply below_alloc | apply pw_below_drewN | apply below_drew1 | refine below_set ?_ GE557.out) | exact HB.out)⟩
  ·rw [if_neg c6] at H
   exact absurd H (by simp)
 ·replace c5 := Bool.eq_false_iff.mpr c5
  subst c5
  have H1 : (some (-1)) = some r := by rw [if_neg (show ¬ (false = true) by decide)] at H; exact H
  clear H
  have H := H1
  clear H1
  obtain rfl := Option.some.inj H
  go_enter Try.func34, Try.ntmps34
  go_wp2_with (first | ((with_reducible refine gate_dst (N := 3) rfl ?_); refine box_event ?hg (N := 3) ?hd (cs := #[.int .i64 a0_0, .slice A0_1 l0_1.length c0_1]) (t := 51) ?hr ?_; (case hd => rfl); (case hg => rfl); (case hr => first | (go_simp; done) | (go_simp; rfl)); intro gb557 hg w32 hbox hb; have n0_ := Aside0.mk (below_step (by repeat (first | (with_reducible first | exact HB.out | apply below_alloc | apply pw_below_drewN | apply below_drew1) | exact HB.out)) hb); have n1_ := Aside0.mk (hbox); have n2_ := Aside0.mk ((by rw [hg]; exact (below_size (by repeat (first | (with_reducible first | exact HB.out | apply below_alloc | apply pw_below_drewN | apply below_drew1) | exact HB.out))) : w.heap.size ≤ gb557)); have n3_ := Aside0.mk ((by rw [hg]; exact (below_size (by repeat (first | (with_reducible first | exact HB.out | apply below_alloc | apply pw_below_drewN | apply below_drew1) | exact HB.out))) : w.heap.size ≤ gb557)); clear HB; have HB := n0_; have BK557 := n1_; have GW557 := n2_; have GE557 := n3_; clear n0_ n1_ n2_ n3_; clear hb hbox hg; have hcz33_0 : w32.cell? ⟨gb557, 0, none⟩ = some (.int .i64 a0_0) := (blk_cell BK557.out 0).trans rfl; have hcz33_1 : w32.cell? ⟨gb557, 1, none⟩ = some (.slice A0_1 l0_1.length c0_1) := (blk_cell BK557.out 1).trans rfl; have hfz33_0 := blk_frozen BK557.out 0; have hfz33_1 := blk_frozen BK557.out 1) | ((with_reducible refine gate_callee (f := 71) rfl ?_); refine goesL_ (some 12) rfl rfl Try.func71 (by kernel_rfl) rfl #[.agg #[.int .i64 a0_0, .slice A0_1 l0_1.length c0_1], .int .i64 a1, .int .i64 a2] rfl (by (try simp only [List.map_toArray, List.map_cons, List.map_nil]); first | done | rfl | (simp only [List.length_drop, List.length_take]; rfl)) ?_; (with_reducible refine (impl_apart.calls a0_0 _ _ l0_1 a1 a2 false _ ?side1 ?side2 A4.out).mono ?_); (case side1 => repeat (first | exact (Kd.C_below HR0_1.out HB.out) | (with_reducible refine Kd.C_alloc ?_ _) | (with_reducible refine Kd.C_drewN ?_ _) | (with_reducible refine Kd.C_drew ?_))); (case side2 => exact HC0_1.out); rintro e w34 ⟨rfl, hb⟩; refine ⟨_, rfl, ?_⟩; have n0_ := Aside0.mk (blk_below (g := gb557) (o := .cells #[.int .i64 a0_0, .slice A0_1 l0_1.length c0_1] 51 (0, 0)) (by (with_reducible repeat (first | refine blk_drewN ?_ _ | refine blk_drew ?_ | refine blk_alloc ?_ _)); exact BK557.out) hb); have n1_ := Aside0.mk (below_step (by repeat (first | (with_reducible first | exact HB.out | apply below_alloc | apply pw_below_drewN | apply below_drew1 | refine below_set ?_ GE557.out) | exact HB.out)) hb); clear BK557; clear HB; have BK557 := n0_; have HB := n1_; clear n0_ n1_; (try clear hb); (try clear hb2); (try clear hk); (try clear hi)))
  go_ret
  exact ⟨by first | rfl | (simp [errW_none, errW_some] <;> rfl) | (simp [*, errW_none, errW_some] <;> rfl), by repeat (first | (with_reducible first | exact HB.out | apply below_alloc | apply pw_below_drewN | apply below_drew1 | refine below_set ?_ GE557.out) | exact HB.out)⟩
end Go.Proofs.Ytjiiipmeocageaa.Pr
end
section
set_option linter.unusedSimpArgs false
set_option linter.unusedVariables false
namespace Go.Proofs.Ytjiiipmeocageaa.Pure
open Go.RowKit Go.Proofs.Ytjiiipmeocageaa.Pr Go.Proofs.YtjiiipmeocageaaW.PrintWords Go.Proofs.YtjiiipmeocageaaW.PrintLast Go.Proofs.YtjiiipmeocageaaW.PrintMore
def side (s v : Nat) : Bool := s.testBit v
theorem shr_fin : ∀ (s : Fin 256) (v : Fin 8), ((Int.tmod (shr .i64 ((s.val : Nat) : Int) ((v.val : Nat) : Int)) 2) == 1) = s.val.testBit v.val ∧ Go.bits .and .i64 (shr .i64 ((s.val : Nat) : Int) ((v.val : Nat) : Int)) 1 = (if s.val.testBit v.val then 1 else 0) := by decide +kernel
theorem shl_fin : ∀ (v : Fin 9), shl .i64 1 ((v.val : Nat) : Int) = ((2 ^ v.val : Nat) : Int) := by decide +kernel
theorem side_spec {s v : Nat} (hs : s < 256) (hv : v < 8) : spec_l25Side.f (s : Int) (v : Int) = some (side s v) := by
 unfold spec_l25Side.f side
 rw [if_pos (by omega), (shr_fin ⟨s, hs⟩ ⟨v, hv⟩).1]
theorem side_bits {s v : Nat} (hs : s < 256) (hv : v < 8) : Go.bits .and .i64 (shr .i64 (s : Int) (v : Int)) 1 = if side s v = true then 1 else 0 := (shr_fin ⟨s, hs⟩ ⟨v, hv⟩).2
def outB (s : Nat) (a : Arc) : Bool := side s a.f0.toNat && !side s a.f1.toNat
def cutTo (l : List Arc) (s : Nat) : Nat → Int
 | 0 => 0
 | i + 1 => cutTo l s i + if outB s (arc l i) = true then (arc l i).f4 else 0
theorem cutTo_bd {n : Int} {l : List Arc} (h : NetGood n l) (s : Nat) : ∀ i, i ≤ l.length → 0 ≤ cutTo l s i ∧ cutTo l s i ≤ 9 * (i : Int) := by
 intro i
 induction i with
 | zero => intro _; simp [cutTo]
 | succ i ih =>
  intro hi
  have h1 := ih (by omega)
  have h2 := (h.ok i (by omega)).2.2.2.2.2
  simp only [cutTo]
  split <;> omega
def cutOf (l : List Arc) (s : Nat) : Int := cutTo l s l.length
theorem node8 {n : Int} {l : List Arc} (h : NetGood n l) {i : Nat} (hi : i < l.length) : (∃ v : Nat, (arc l i).f0 = (v : Int) ∧ v < 8) ∧ ∃ v : Nat, (arc l i).f1 = (v : Int) ∧ v < 8 := by
 have h1 := h.ok i hi
 have := h.n8
 exact ⟨⟨(arc l i).f0.toNat, by omega, by omega⟩, ⟨(arc l i).f1.toNat, by omega, by omega⟩⟩
theorem specCut_l {n : Int} {l : List Arc} (hg : NetGood n l) {s : Nat} (hs : s < 256) : ∀ (m i : Nat), l.length - i = m → i ≤ l.length → Ev (fun k => spec_l25Cut.l0 k (s : Int) (cutTo l s i) (i : Int) n l) (cutOf l s) := by
 have h16 := hg.len
 intro m
 induction m with
 | zero =>
  intro i hd hi
  refine Ev.go ?_ (fun k => by rw [spec_l25Cut.l0])
  have e : i = l.length := by omega
  subst e
  exact Ev.neg (by omega) (Ev.now _)
 | succ m ih =>
  intro i hd hi
  have hlt : i < l.length := by omega
  have hn := ih (i + 1) (by omega) (by omega)
  refine Ev.go ?_ (fun k => by rw [spec_l25Cut.l0])
  refine Ev.pos (by omega) (Ev.pos (by omega) ?_)
  obtain ⟨⟨v0, e0, h0⟩, v1, e1, h1⟩ := node8 hg hlt
  have hw : wrap64 (cutTo l s i + (arc l i).f4) = cutTo l s i + (arc l i).f4 := by
   have hb := cutTo_bd hg s i (by omega)
   have hf := (hg.ok i hlt).2.2.2.2.2
   clear hn e0 e1
   generalize cutTo l s i = c at *
   generalize (arc l i).f4 = f at *
   exact w64 (by omega) (by omega)
  have hu := up1 hlt (by simp only [maxLen]; omega)
  rw [rda, e0, e1, hu, hw]
  simp only [cutTo, outB, e0, e1, Int.toNat_natCast] at hn
  refine Ev.bind0 (side_spec hs h0) ?_
  cases c0 : side s v0 with
  | false =>
   rw [c0] at hn
   exact Ev.neg (by simp) (by simpa using hn)
  | true =>
   refine Ev.pos rfl (Ev.bind0 (side_spec hs h1) ?_)
   rw [c0] at hn
   cases c1 : side s v1 with
   | true =>
    rw [c1] at hn
    exact Ev.pos rfl (by simpa using hn)
   | false =>
    rw [c1] at hn
    exact Ev.neg (by simp) (by simpa using hn)
theorem specCut_ev {n : Int} {l : List Arc} (hg : NetGood n l) {s : Nat} (hs : s < 256) : Ev (fun k => spec_l25Cut.f k n l (s : Int)) (cutOf l s) := specCut_l hg hs _ 0 rfl (by omega)
theorem implCut_l {n : Int} {l : List Arc} (hg : NetGood n l) {s : Nat} (hs : s < 256) : ∀ (m i : Nat), l.length - i = m → i ≤ l.length → Ev (fun k => impl_Net_cut.l0 k (s : Int) (cutTo l s i) l (l.length : Int) (i : Int)) (cutOf l s) := by
 have h16 := hg.len
 intro m
 induction m with
 | zero =>
  intro i hd hi
  refine Ev.go ?_ (fun k => by rw [impl_Net_cut.l0])
  have e : i = l.length := by omega
  subst e
  exact Ev.neg (by omega) (Ev.now _)
 | succ m ih =>
  intro i hd hi
  have hlt : i < l.length := by omega
  have hn := ih (i + 1) (by omega) (by omega)
  refine Ev.go ?_ (fun k => by rw [impl_Net_cut.l0])
  refine Ev.pos (by omega) (Ev.pos (by omega) (Ev.pos (by omega) ?_))
  obtain ⟨⟨v0, e0, h0⟩, v1, e1, h1⟩ := node8 hg hlt
  have hw : wrap64 (cutTo l s i + (arc l i).f4) = cutTo l s i + (arc l i).f4 := by
   have hb := cutTo_bd hg s i (by omega)
   have hf := (hg.ok i hlt).2.2.2.2.2
   clear hn e0 e1
   generalize cutTo l s i = c at *
   generalize (arc l i).f4 = f at *
   exact w64 (by omega) (by omega)
  have hu := up1 hlt (by simp only [maxLen]; omega)
  rw [rda, e0, e1, hu, hw, side_bits hs h0, side_bits hs h1]
  simp only [cutTo, outB, e0, e1, Int.toNat_natCast] at hn
  refine Ev.pos (by omega) ?_
  cases c0 : side s v0 with
  | false =>
   rw [c0] at hn
   exact Ev.neg (by simp) (by simpa using hn)
  | true =>
   refine Ev.pos rfl (Ev.pos (by omega) ?_)
   rw [c0] at hn
   cases c1 : side s v1 with
   | true =>
    rw [c1] at hn
    exact Ev.neg (by simp) (by simpa using hn)
   | false =>
    rw [c1] at hn
    exact Ev.pos (by simp) (by simpa using hn)
theorem implCut_ev {n : Int} {l : List Arc} (hg : NetGood n l) {s : Nat} (hs : s < 256) : Ev (fun k => impl_Net_cut.f k n l (s : Int)) (cutOf l s) := implCut_l hg hs _ 0 rfl (by omega)
end Go.Proofs.Ytjiiipmeocageaa.Pure
end
section
namespace Go.Proofs.Ytjiiipmeocageaa.Pr
open Go.RowKit Go.Proofs.YtjiiipmeocageaaW.PrintWords Go.Proofs.YtjiiipmeocageaaW.PrintLast Go.Proofs.YtjiiipmeocageaaW.PrintMore
attribute [local go_sem] max2_int min2_int max_two min_two max_three min_three max_four min_four
set_option linter.unusedVariables false
set_option linter.unusedSimpArgs false
def laws_szIntS.f (l0 : List Int) (a1 : Int) : Option (Int) := if (wrap64 (a1 - (l0.length : Int))) < 0 then (some (-1)) else (some (wrap64 (a1 - (l0.length : Int))))
set_option maxHeartbeats 8000000 in
set_option maxRecDepth 100000 in
theorem laws_szIntS.calls (A0 : Option Addr) (c0 : Nat) (l0 : List Int) (a1 : Int) (r : Int) (w : World) (hr0 : Kd.C (Kd.int .i64) w A0 l0.length l0) (hc0 : l0.length ≤ c0) (h : laws_szIntS.f l0 a1 = some r) :
  Calls Try.prog 49 #[.slice A0 l0.length c0, .int .i64 a1] w fun e w' => e = .returned (.int .i64 r) ∧ Drawn0 w w' := by
 have HR0 := Aside0.mk hr0
 have HC0 := Aside0.mk hc0
 clear hr0 hc0
 have H : (if (wrap64 (a1 - (l0.length : Int))) < 0 then (some (-1)) else (some (wrap64 (a1 - (l0.length : Int))))) = some r := h
 clear h
 by_cases c3 : (wrap64 (a1 - (l0.length : Int))) < 0
 ·rw [if_pos c3] at H
  have c3b0 : decide ((wrap64 (a1 - (l0.length : Int))) < 0) = true := decide_eq_true c3
  clear c3
  obtain rfl := Option.some.inj H
  go_enter Try.func49, Try.ntmps49
  go_wp2
  go_ret
  exact ⟨by first | rfl | (simp; done) | (simp [*]; done), by repeat (first | exact Drawn0.refl _ | apply Drawn0.step)⟩
 ·rw [if_neg c3] at H
  have c3b0 : decide ((wrap64 (a1 - (l0.length : Int))) < 0) = false := decide_eq_false c3
  clear c3
  obtain rfl := Option.some.inj H
  go_enter Try.func49, Try.ntmps49
  go_wp2
  go_ret
  exact ⟨by first | rfl | (simp; done) | (simp [*]; done), by repeat (first | exact Drawn0.refl _ | apply Drawn0.step)⟩
end Go.Proofs.Ytjiiipmeocageaa.Pr
end
section
namespace Go.Proofs.Ytjiiipmeocageaa.Pr
open Go.RowKit Go.Proofs.YtjiiipmeocageaaW.PrintWords Go.Proofs.YtjiiipmeocageaaW.PrintLast Go.Proofs.YtjiiipmeocageaaW.PrintMore
attribute [local go_sem] max2_int min2_int max_two min_two max_three min_three max_four min_four
set_option linter.unusedVariables false
set_option linter.unusedSimpArgs false
def laws_szFare.f (l0_0 : List Int) (a0_1 : Int) (a0_2 : Int) (a1 : Int) : Option (Int) := (laws_szIntS.f l0_0 a1).bind fun t135 => (if t135 < 0 then (some (-1)) else (some t135))
set_option maxHeartbeats 8000000 in
set_option maxRecDepth 100000 in
theorem laws_szFare.calls (A0_0 : Option Addr) (c0_0 : Nat) (l0_0 : List Int) (a0_1 : Int) (a0_2 : Int) (a1 : Int) (r : Int) (w : World) (hr0_0 : Kd.C (Kd.int .i64) w A0_0 l0_0.length l0_0) (hc0_0 : l0_0.length ≤ c0_0) (h : laws_szFare.f l0_0 a0_1 a0_2 a1 = some r) :
  Calls Try.prog 17 #[.agg #[.slice A0_0 l0_0.length c0_0, .int .i64 a0_1, .int .i64 a0_2], .int .i64 a1] w fun e w' => e = .returned (.int .i64 r) ∧ Below w.heap.size w w' := by
 have hu34 := Try.underlying34
 have HR0_0 := Aside0.mk hr0_0
 have HC0_0 := Aside0.mk hc0_0
 clear hr0_0 hc0_0
 have HB := Aside0.mk (Below.refl w.heap.size w)
 have H : ((laws_szIntS.f l0_0 a1).bind fun t135 => (if t135 < 0 then (some (-1)) else (some t135))) = some r := h
 clear h
 replace H := Option.bind_eq_some_iff.mp H
 obtain ⟨t135, A30, H⟩ := H
 replace H : (if t135 < 0 then (some (-1)) else (some t135)) = some r := H
 have A3 := Aside0.mk A30
 clear A30
 by_cases c4 : t135 < 0
 ·rw [if_pos c4] at H
  have c4b0 : decide (t135 < 0) = true := decide_eq_true c4
  clear c4
  obtain rfl := Option.some.inj H
  go_enter Try.func17, Try.ntmps17
  go_wp2_with (first | ((with_reducible refine gate_dst (N := 2) rfl ?_); refine box_event ?hg (N := 2) ?hd (cs := #[.slice A0_0 l0_0.length c0_0, .int .i64 a0_1, .int .i64 a0_2]) (t := 34) ?hr ?_; (case hd => rfl); (case hg => rfl); (case hr => first | (go_simp; done) | (go_simp; rfl)); intro gb134 hg w5 hbox hb; have n0_ := Aside0.mk (below_step (by repeat (first | (with_reducible first | exact HB.out | apply below_alloc | apply pw_below_drewN | apply below_drew1) | exact HB.out)) hb); have n1_ := Aside0.mk (hbox); have n2_ := Aside0.mk ((by rw [hg]; exact (below_size (by repeat (first | (with_reducible first | exact HB.out | apply below_alloc | apply pw_below_drewN | apply below_drew1) | exact HB.out))) : w.heap.size ≤ gb134)); have n3_ := Aside0.mk ((by rw [hg]; exact (below_size (by repeat (first | (with_reducible first | exact HB.out | apply below_alloc | apply pw_below_drewN | apply below_drew1) | exact HB.out))) : w.heap.size ≤ gb134)); clear HB; have HB := n0_; have BK134 := n1_; have GW134 := n2_; have GE134 := n3_; clear n0_ n1_ n2_ n3_; clear hb hbox hg; have hcz6_0 : w5.cell? ⟨gb134, 0, none⟩ = some (.slice A0_0 l0_0.length c0_0) := (blk_cell BK134.out 0).trans rfl; have hcz6_1 : w5.cell? ⟨gb134, 1, none⟩ = some (.int .i64 a0_1) := (blk_cell BK134.out 1).trans rfl; have hcz6_2 : w5.cell? ⟨gb134, 2, none⟩ = some (.int .i64 a0_2) := (blk_cell BK134.out 2).trans rfl; have hfz6_0 := blk_frozen BK134.out 0; have hfz6_1 := blk_frozen BK134.out 1; have hfz6_2 := blk_frozen BK134.out 2) | ((with_reducible refine gate_callee (f := 49) rfl ?_); refine goesL_ (some 8) rfl rfl Try.func49 (by kernel_rfl) rfl #[.slice A0_0 l0_0.length c0_0, .int .i64 a1] rfl (by (try simp only [List.map_toArray, List.map_cons, List.map_nil]); first | done | rfl | (simp only [List.length_drop, List.length_take]; rfl)) ?_; (with_reducible refine (laws_szIntS.calls _ _ l0_0 a1 t135 _ ?side1 ?side2 A3.out).mono ?_); (case side1 => repeat (first | exact (Kd.C_below HR0_0.out HB.out) | (with_reducible refine Kd.C_alloc ?_ _) | (with_reducible refine Kd.C_drewN ?_ _) | (with_reducible refine Kd.C_drew ?_))); (case side2 => exact HC0_0.out); rintro e w' ⟨rfl, ⟨nd, rfl⟩⟩; refine ⟨_, rfl, ?_⟩))
  go_ret
  exact ⟨by first | rfl | (simp [errW_none, errW_some] <;> rfl) | (simp [*, errW_none, errW_some] <;> rfl), by repeat (first | (with_reducible first | exact HB.out | apply below_alloc | apply pw_below_drewN | apply below_drew1 | refine below_set ?_ GE134.out) | exact HB.out)⟩
 ·rw [if_neg c4] at H
  have c4b0 : decide (t135 < 0) = false := decide_eq_false c4
  clear c4
  obtain rfl := Option.some.inj H
  go_enter Try.func17, Try.ntmps17
  go_wp2_with (first | ((with_reducible refine gate_dst (N := 2) rfl ?_); refine box_event ?hg (N := 2) ?hd (cs := #[.slice A0_0 l0_0.length c0_0, .int .i64 a0_1, .int .i64 a0_2]) (t := 34) ?hr ?_; (case hd => rfl); (case hg => rfl); (case hr => first | (go_simp; done) | (go_simp; rfl)); intro gb134 hg w7 hbox hb; have n0_ := Aside0.mk (below_step (by repeat (first | (with_reducible first | exact HB.out | apply below_alloc | apply pw_below_drewN | apply below_drew1) | exact HB.out)) hb); have n1_ := Aside0.mk (hbox); have n2_ := Aside0.mk ((by rw [hg]; exact (below_size (by repeat (first | (with_reducible first | exact HB.out | apply below_alloc | apply pw_below_drewN | apply below_drew1) | exact HB.out))) : w.heap.size ≤ gb134)); have n3_ := Aside0.mk ((by rw [hg]; exact (below_size (by repeat (first | (with_reducible first | exact HB.out | apply below_alloc | apply pw_below_drewN | apply below_drew1) | exact HB.out))) : w.heap.size ≤ gb134)); clear HB; have HB := n0_; have BK134 := n1_; have GW134 := n2_; have GE134 := n3_; clear n0_ n1_ n2_ n3_; clear hb hbox hg; have hcz8_0 : w7.cell? ⟨gb134, 0, none⟩ = some (.slice A0_0 l0_0.length c0_0) := (blk_cell BK134.out 0).trans rfl; have hcz8_1 : w7.cell? ⟨gb134, 1, none⟩ = some (.int .i64 a0_1) := (blk_cell BK134.out 1).trans rfl; have hcz8_2 : w7.cell? ⟨gb134, 2, none⟩ = some (.int .i64 a0_2) := (blk_cell BK134.out 2).trans rfl; have hfz8_0 := blk_frozen BK134.out 0; have hfz8_1 := blk_frozen BK134.out 1; have hfz8_2 := blk_frozen BK134.out 2) | ((with_reducible refine gate_callee (f := 49) rfl ?_); refine goesL_ (some 8) rfl rfl Try.func49 (by kernel_rfl) rfl #[.slice A0_0 l0_0.length c0_0, .int .i64 a1] rfl (by (try simp only [List.map_toArray, List.map_cons, List.map_nil]); first | done | rfl | (simp only [List.length_drop, List.length_take]; rfl)) ?_; (with_reducible refine (laws_szIntS.calls _ _ l0_0 a1 t135 _ ?side1 ?side2 A3.out).mono ?_); (case side1 => repeat (first | exact (Kd.C_below HR0_0.out HB.out) | (with_reducible refine Kd.C_alloc ?_ _) | (with_reducible refine Kd.C_drewN ?_ _) | (with_reducible refine Kd.C_drew ?_))); (case side2 => exact HC0_0.out); rintro e w' ⟨rfl, ⟨nd, rfl⟩⟩; refine ⟨_, rfl, ?_⟩))
  go_ret
  exact ⟨by first | rfl | (simp [errW_none, errW_some] <;> rfl) | (simp [*, errW_none, errW_some] <;> rfl), by repeat (first | (with_reducible first | exact HB.out | apply below_alloc | apply pw_below_drewN | apply below_drew1 | refine below_set ?_ GE134.out) | exact HB.out)⟩
end Go.Proofs.Ytjiiipmeocageaa.Pr
end
section
set_option linter.unusedSimpArgs false
set_option linter.unusedVariables false
end
section
set_option linter.unusedSimpArgs false
set_option linter.unusedVariables false
namespace Go.Proofs.Ytjiiipmeocageaa.Pure
open Go.RowKit Go.Proofs.Ytjiiipmeocageaa.Pr Go.Proofs.YtjiiipmeocageaaW.PrintWords Go.Proofs.YtjiiipmeocageaaW.PrintLast Go.Proofs.YtjiiipmeocageaaW.PrintMore
def setTo (x : List Int) : Nat → Nat
 | 0 => 0
 | i + 1 => setTo x i + 2 ^ (nth x i).toNat
def FreshFrom (n : Int) (x : List Int) (i : Nat) : Prop := ∀ j, j < x.length → i ≤ j → okN n (nth x j) = true ∧ ∀ h, h < j → nth x h ≠ nth x j
def FreshTo (n : Int) (x : List Int) (i : Nat) : Prop := ∀ j, j < x.length → j < i → okN n (nth x j) = true ∧ ∀ h, h < j → nth x h ≠ nth x j
theorem l12In_l (x : List Int) (v : Int) (hm : x.length ≤ maxLen) : ∀ (m i : Nat), x.length - i = m → i ≤ x.length → Ev (fun k => spec_l12In.l0 k x v (i : Int)) (Bp (∃ j, j < x.length ∧ i ≤ j ∧ nth x j = v)) := by
 intro m
 induction m with
 | zero =>
  intro i hd hi
  refine Ev.go ?_ (fun k => by rw [spec_l12In.l0])
  exact Ev.neg (by omega) (Ev.is (Bp_false (fun ⟨j, h1, h2, _⟩ => by omega)).symm)
 | succ m ih =>
  intro i hd hi
  have hlt : i < x.length := by omega
  have hn := ih (i + 1) (by omega) (by omega)
  rw [← up1 hlt hm] at hn
  refine Ev.go ?_ (fun k => by rw [spec_l12In.l0])
  refine Ev.pos (by omega) (Ev.pos (by omega) ?_)
  rw [rdg i]
  by_cases c : nth x i = v
  ·exact Ev.pos c (Ev.is (Bp_true ⟨i, hlt, Nat.le_refl _, c⟩).symm)
  ·refine Ev.neg c (hn.cast (Bp_congr ?_))
   constructor
   ·rintro ⟨j, h1, h2, h3⟩
    exact ⟨j, h1, by omega, h3⟩
   ·rintro ⟨j, h1, h2, h3⟩
    by_cases e : j = i
    ·subst e; exact absurd h3 c
    ·exact ⟨j, h1, by omega, h3⟩
theorem nth_take {x : List Int} {i j : Nat} (h : j < i) : nth (x.take i) j = nth x j := by
 simp [nth, List.getD_eq_getElem?_getD, List.getElem?_take, h]
theorem l12In_take (x : List Int) (v : Int) (i : Nat) (hi : i ≤ x.length) (hm : x.length ≤ maxLen) : Ev (fun k => spec_l12In.f k (x.take i) v) (Bp (∃ h, h < i ∧ nth x h = v)) := by
 refine (l12In_l (x.take i) v (by rw [List.length_take]; omega) _ 0 rfl (Nat.zero_le _)).cast (Bp_congr ?_)
 have hl : (x.take i).length = i := by rw [List.length_take]; omega
 constructor
 ·rintro ⟨j, h1, _, h3⟩
  rw [hl] at h1
  rw [nth_take h1] at h3
  exact ⟨j, h1, h3⟩
 ·rintro ⟨j, h1, h3⟩
  exact ⟨j, by rw [hl]; exact h1, Nat.zero_le _, by rw [nth_take h1]; exact h3⟩
theorem setTo_bits {n : Int} (hn8 : n ≤ 8) (x : List Int) : ∀ i, i ≤ x.length → FreshTo n x i → setTo x i < 256 ∧ ∀ v, v < 8 → ((setTo x i).testBit v = true ↔ ∃ h, h < i ∧ nth x h = (v : Int)) := by
 intro i
 induction i with
 | zero =>
  intro _ _
  refine ⟨by simp [setTo], fun v hv => ?_⟩
  simp [setTo]
 | succ i ih =>
  intro hi hf
  obtain ⟨h1, h2⟩ := ih (by omega) (fun j hj hji => hf j hj (by omega))
  have hx := hf i (by omega) (by omega)
  have hok := hx.1
  simp only [okN, Bool.and_eq_true, decide_eq_true_eq] at hok
  obtain ⟨w, hw, hw8⟩ : ∃ w : Nat, nth x i = (w : Int) ∧ w < 8 := ⟨(nth x i).toNat, by omega, by omega⟩
  have hnew : (setTo x i).testBit w = false := by
   cases c : (setTo x i).testBit w with
   | false => rfl
   | true =>
    obtain ⟨h, hh, e⟩ := (h2 w hw8).1 c
    exact absurd (e.trans hw.symm) (hx.2 h hh)
  have hadd : ∀ (s : Fin 256) (w : Fin 8), s.val.testBit w.val = false → s.val + 2 ^ w.val < 256 ∧ ∀ v : Fin 8, (s.val + 2 ^ w.val).testBit v.val = (s.val.testBit v.val || decide (v.val = w.val)) := by decide +kernel
  obtain ⟨h3, h4⟩ := hadd ⟨setTo x i, h1⟩ ⟨w, hw8⟩ hnew
  have e : setTo x (i + 1) = setTo x i + 2 ^ w := by simp only [setTo, hw, Int.toNat_natCast]
  rw [e]
  refine ⟨h3, fun v hv => ?_⟩
  rw [h4 ⟨v, hv⟩, Bool.or_eq_true, h2 v hv, decide_eq_true_eq]
  constructor
  ·rintro (⟨h, hh, e⟩ | e)
   ·exact ⟨h, by omega, e⟩
   ·exact ⟨i, by omega, by have e2 : v = w := e; rw [hw, e2]⟩
  ·rintro ⟨h, hh, e3⟩
   by_cases c : h = i
   ·subst c; rw [hw] at e3; exact .inr (show v = w by omega)
   ·exact .inl ⟨h, by omega, e3⟩
open Classical in
noncomputable def cutV (n : Int) (l : List Arc) (x : List Int) : Int := if netOkB n l = true ∧ FreshFrom n x 0 then cutOf l (setTo x x.length) else -1
theorem fresh_step {n : Int} {x : List Int} {i : Nat} (hlt : i < x.length) : FreshFrom n x i ↔ (okN n (nth x i) = true ∧ ∀ h, h < i → nth x h ≠ nth x i) ∧ FreshFrom n x (i + 1) := by
 constructor
 ·exact fun h => ⟨h i hlt (Nat.le_refl _), fun j hj hij => h j hj (by omega)⟩
 ·intro h j hj hij
  by_cases e : j = i
  ·subst e; exact h.1
  ·exact h.2 j hj (by omega)
theorem freshTo_step {n : Int} {x : List Int} {i : Nat} (h : FreshTo n x i) (h1 : okN n (nth x i) = true ∧ ∀ h, h < i → nth x h ≠ nth x i) : FreshTo n x (i + 1) := by
 intro j hj hij
 by_cases e : j = i
 ·subst e; exact h1
 ·exact h j hj (by omega)
theorem shl8 {v : Int} (h : 0 ≤ v) (h8 : v < 8) : shl .i64 1 v = ((2 ^ v.toNat : Nat) : Int) := by
 have := shl_fin ⟨v.toNat, by omega⟩
 rwa [show ((v.toNat : Nat) : Int) = v by omega] at this
theorem specFlowCut_none {n : Int} (hn : n ≤ 0) (l : List Arc) (x : List Int) (hm : x.length ≤ maxLen) (hl : l.length ≤ maxLen) : ∀ (m i : Nat) (s : Int), x.length - i = m → i ≤ x.length → Ev (fun k => spec_FlowCut.l0 k x s (i : Int) n l) (-1) := by
 intro m
 induction m with
 | zero =>
  intro i s hd hi
  refine Ev.go ?_ (fun k => by rw [spec_FlowCut.l0])
  refine Ev.neg (by omega) (Ev.bind (l1Ok_ev n l hl) ?_)
  cases hB : netOkB n l with
  | false => exact Ev.neg (by simp) (Ev.now _)
  | true => exact absurd ((netOkB_iff n l).1 hB).n1 (by omega)
 | succ m ih =>
  intro i s hd hi
  have hlt : i < x.length := by omega
  refine Ev.go ?_ (fun k => by rw [spec_FlowCut.l0])
  refine Ev.pos (by omega) (Ev.pos (by omega) (Ev.bind0 (in1 _ _ _) ?_))
  rw [rdg i]
  cases c0 : inB (nth x i) 0 (wrap64 (n - 1)) with
  | false => exact Ev.neg (by simp) (Ev.now _)
  | true =>
   have hin := inB_iff.1 c0
   have hp : 0 ≤ nth x i := hin.1
   clear hin c0
   refine Ev.pos rfl (Ev.pos (by omega) ?_)
   rw [Int.toNat_natCast]
   refine Ev.bind (l12In_take x (nth x i) i (by omega) hm) ?_
   by_cases c1 : ∃ h, h < i ∧ nth x h = nth x i
   ·rw [Bp_true c1]
    exact Ev.pos rfl (Ev.now _)
   ·rw [Bp_false c1]
    refine Ev.neg (by simp) (Ev.neg (by omega) (Ev.pos hp ?_))
    rw [up1 hlt hm]
    exact ih (i + 1) _ (by omega) (by omega)
open Classical in
theorem specFlowCut_l {n : Int} (hnI : I64 n) (hn1 : 1 ≤ n) (l : List Arc) (x : List Int) (hm : x.length ≤ maxLen) (hl : l.length ≤ maxLen) : ∀ (m i : Nat), x.length - i = m → i ≤ x.length → FreshTo n x i → Ev (fun k => spec_FlowCut.l0 k x ((setTo x i : Nat) : Int) (i : Int) n l) (if netOkB n l = true ∧ FreshFrom n x i then cutOf l (setTo x x.length) else -1) := by
 intro m
 have hw : wrap64 (n - 1) = n - 1 := w64 (by omega) (by have := hnI.2; omega)
 induction m with
 | zero =>
  intro i hd hi hf
  have e : i = x.length := by omega
  subst e
  refine Ev.go ?_ (fun k => by rw [spec_FlowCut.l0])
  refine Ev.neg (by omega) (Ev.bind (l1Ok_ev n l hl) ?_)
  cases hB : netOkB n l with
  | false => exact Ev.neg (by simp) (Ev.is (by simp))
  | true =>
   have hg := (netOkB_iff n l).1 hB
   have hfr : FreshFrom n x x.length := fun j h1 h2 => absurd h1 (by omega)
   rw [if_pos ⟨rfl, hfr⟩]
   exact Ev.pos rfl (Ev.bind (specCut_ev hg (setTo_bits hg.n8 x _ (Nat.le_refl _) hf).1) (Ev.now _))
 | succ m ih =>
  intro i hd hi hf
  have hlt : i < x.length := by omega
  have step := fresh_step (n := n) hlt
  refine Ev.go ?_ (fun k => by rw [spec_FlowCut.l0])
  refine Ev.pos (by omega) (Ev.pos (by omega) (Ev.bind0 (in1 _ _ _) ?_))
  rw [rdg i, hw]
  have bad : ¬ (okN n (nth x i) = true ∧ ∀ h, h < i → nth x h ≠ nth x i) → (if netOkB n l = true ∧ FreshFrom n x i then cutOf l (setTo x x.length) else -1) = -1 := fun h => if_neg (fun hh => h (step.1 hh.2).1)
  have bad2 : ¬ n ≤ 8 → (if netOkB n l = true ∧ FreshFrom n x i then cutOf l (setTo x x.length) else -1) = -1 := fun h => if_neg (fun hh => h ((netOkB_iff n l).1 hh.1).n8)
  cases c0 : inB (nth x i) 0 (n - 1) with
  | false =>
   refine Ev.neg (by simp) (Ev.is (bad (fun h => ?_)).symm)
   have h1 : inB (nth x i) 0 (n - 1) = true := h.1
   rw [c0] at h1
   simp at h1
  | true =>
   have hin := inB_iff.1 c0
   refine Ev.pos rfl (Ev.pos (by omega) ?_)
   have ht := l12In_take x (nth x i) i (by omega) hm
   rw [Int.toNat_natCast]
   refine Ev.bind ht ?_
   by_cases c1 : ∃ h, h < i ∧ nth x h = nth x i
   ·rw [Bp_true c1]
    exact Ev.pos rfl (Ev.is (bad (fun h => by obtain ⟨j, h1, h2⟩ := c1; exact h.2 j h1 h2)).symm)
   ·rw [Bp_false c1]
    refine Ev.neg (by simp) ?_
    by_cases c2 : n ≤ 8
    ·refine Ev.neg (by omega) (Ev.pos hin.1 ?_)
     have hfr : okN n (nth x i) = true ∧ ∀ h, h < i → nth x h ≠ nth x i := ⟨c0, fun h h1 h2 => c1 ⟨h, h1, h2⟩⟩
     have hf' := freshTo_step hf hfr
     have hb := (setTo_bits c2 x i (by omega) hf).1
     have hb' := (setTo_bits c2 x (i + 1) (by omega) hf').1
     have hn := ih (i + 1) (by omega) (by omega) hf'
     rw [← up1 hlt hm] at hn
     have e : wrap64 (((setTo x i : Nat) : Int) + shl .i64 1 (nth x i)) = ((setTo x (i + 1) : Nat) : Int) := by
      rw [shl8 hin.1 (by omega)]
      have e1 : setTo x (i + 1) = setTo x i + 2 ^ (nth x i).toNat := rfl
      rw [e1] at hb' ⊢
      clear hn ht hf hf' hfr c1 bad bad2 step ih
      generalize 2 ^ (nth x i).toNat = p at *
      rw [w64 (by omega) (by omega)]
      omega
     rw [e]
     refine hn.cast ?_
     have hp : FreshFrom n x i = FreshFrom n x (i + 1) := propext ⟨fun h => (step.1 h).2, fun h => step.2 ⟨hfr, h⟩⟩
     rw [hp]
    ·exact Ev.pos (by omega) (Ev.is (bad2 c2).symm)
theorem specFlowCut_ev {n : Int} (hnI : I64 n) (l : List Arc) (x : List Int) (hm : x.length ≤ maxLen) (hl : l.length ≤ maxLen) : Ev (fun k => spec_FlowCut.f k n l x) (cutV n l x) := by
 unfold spec_FlowCut.f
 by_cases h : 1 ≤ n
 ·exact specFlowCut_l hnI h l x hm hl _ 0 rfl (Nat.zero_le _) (fun j h1 h2 => absurd h2 (by omega))
 ·refine (specFlowCut_none (by omega) l x hm hl _ 0 0 rfl (Nat.zero_le _)).cast ?_
  unfold cutV
  rw [if_neg (fun hh => h ((netOkB_iff n l).1 hh.1).n1)]
theorem or_fin : ∀ (s : Fin 256) (v : Fin 8), s.val.testBit v.val = false → Go.bits .or .i64 ((s.val : Nat) : Int) ((2 ^ v.val : Nat) : Int) = ((s.val + 2 ^ v.val : Nat) : Int) := by decide +kernel
open Classical in
theorem implFlowCut_l {n : Int} {l : List Arc} (hg : NetGood n l) (x : List Int) (hm : x.length ≤ maxLen) (hx : ∀ j, j < x.length → okN n (nth x j) = true) : ∀ (m i : Nat), x.length - i = m → i ≤ x.length → FreshTo n x i → Ev (fun k => impl_FlowCut.l0 k ((setTo x i : Nat) : Int) x (x.length : Int) (i : Int) n l) (if FreshFrom n x i then cutOf l (setTo x x.length) else -1) := by
 have h8 := hg.n8
 intro m
 induction m with
 | zero =>
  intro i hd hi hf
  have e : i = x.length := by omega
  subst e
  refine Ev.go ?_ (fun k => by rw [impl_FlowCut.l0])
  have hfr : FreshFrom n x x.length := fun j h1 h2 => absurd h1 (by omega)
  rw [if_pos hfr]
  exact Ev.neg (by omega) (Ev.bind (implCut_ev hg (setTo_bits hg.n8 x _ (Nat.le_refl _) hf).1) (Ev.now _))
 | succ m ih =>
  intro i hd hi hf
  have hlt : i < x.length := by omega
  have step := fresh_step (n := n) hlt
  have hok := hx i hlt
  have hin := hok
  simp only [okN, Bool.and_eq_true, decide_eq_true_eq] at hin
  obtain ⟨hb, hbits⟩ := setTo_bits h8 x i (by omega) hf
  obtain ⟨w, hw, hw8⟩ : ∃ w : Nat, nth x i = (w : Int) ∧ w < 8 := ⟨(nth x i).toNat, by omega, by omega⟩
  have hsb := side_bits hb hw8
  rw [← hw] at hsb
  refine Ev.go ?_ (fun k => by rw [impl_FlowCut.l0])
  refine Ev.pos (by omega) (Ev.pos (by omega) (Ev.pos (by omega) ?_))
  rw [rdg i, hsb]
  refine Ev.pos hin.1 ?_
  cases c : side (setTo x i) w with
  | true =>
   refine Ev.pos rfl (Ev.is (if_neg (fun h => ?_)).symm)
   obtain ⟨j, h1, h2⟩ := (hbits w hw8).1 c
   exact (step.1 h).1.2 j h1 (h2.trans hw.symm)
  | false =>
   refine Ev.neg (by simp) ?_
   have hfr : okN n (nth x i) = true ∧ ∀ h, h < i → nth x h ≠ nth x i := by
    refine ⟨hok, fun j h1 h2 => ?_⟩
    have : side (setTo x i) w = true := (hbits w hw8).2 ⟨j, h1, h2.trans hw⟩
    rw [c] at this
    simp at this
   have hf' := freshTo_step hf hfr
   have hn := ih (i + 1) (by omega) (by omega) hf'
   rw [← up1 hlt hm] at hn
   have e : Go.bits .or .i64 ((setTo x i : Nat) : Int) (shl .i64 1 (nth x i)) = ((setTo x (i + 1) : Nat) : Int) := by
    rw [shl8 hin.1 (by omega), hw, Int.toNat_natCast, or_fin ⟨_, hb⟩ ⟨w, hw8⟩ c]
    simp only [setTo, hw, Int.toNat_natCast]
   rw [e]
   refine hn.cast ?_
   have hp : FreshFrom n x i = FreshFrom n x (i + 1) := propext ⟨fun h => (step.1 h).2, fun h => step.2 ⟨hfr, h⟩⟩
   rw [hp]
theorem implFlowCut_ev (n : Int) (l : List Arc) (x : List Int) (hm : x.length ≤ maxLen) : Ev (fun k => impl_FlowCut.f k n l x) (cutV n l x) := by
 unfold impl_FlowCut.f
 refine Ev.bind0 (nodesIn_eq n l x) ?_
 unfold cutV
 cases hB : netOkB n l with
 | false => exact Ev.neg (by simp) (Ev.is (by simp))
 | true =>
  have hg := (netOkB_iff n l).1 hB
  cases hx : x.all (okN n) with
  | false =>
   refine Ev.neg (by simp) (Ev.is (if_neg (fun h => ?_)).symm)
   have : x.all (okN n) = true := List.all_eq_true.2 (fun c hc => by
    obtain ⟨j, hj, rfl⟩ := mem_getD hc
    exact (h.2 j hj (Nat.zero_le _)).1)
   rw [hx] at this
   simp at this
  | true =>
   refine Ev.pos rfl ((implFlowCut_l hg x hm (fun j hj => List.all_eq_true.1 hx _ (getD_mem hj)) _ 0 rfl (Nat.zero_le _) (fun j h1 h2 => absurd h2 (by omega))).cast ?_)
   by_cases hv : FreshFrom n x 0
   ·rw [if_pos hv, if_pos ⟨rfl, hv⟩]
   ·rw [if_neg hv, if_neg (fun h => hv h.2)]
end Go.Proofs.Ytjiiipmeocageaa.Pure
end
section
set_option linter.unusedSimpArgs false
set_option linter.unusedVariables false
namespace Go.Proofs.Ytjiiipmeocageaa.Pure
open Go.RowKit Go.Proofs.Ytjiiipmeocageaa.Pr Go.Proofs.YtjiiipmeocageaaW.PrintWords Go.Proofs.YtjiiipmeocageaaW.PrintLast Go.Proofs.YtjiiipmeocageaaW.PrintMore
theorem cutTo_congr {l l' : List Arc} {s s' : Nat} : ∀ i, (∀ j, j < i → outB s (arc l j) = outB s' (arc l' j) ∧ (arc l j).f4 = (arc l' j).f4) → cutTo l s i = cutTo l' s' i := by
 intro i
 induction i with
 | zero => intro _; rfl
 | succ i ih =>
  intro h
  simp only [cutTo]
  rw [ih (fun j hj => h j (by omega)), (h i (by omega)).1, (h i (by omega)).2]
theorem cutTo_none {l : List Arc} {s : Nat} : ∀ i, (∀ j, j < i → outB s (arc l j) = false) → cutTo l s i = 0 := by
 intro i
 induction i with
 | zero => intro _; rfl
 | succ i ih =>
  intro h
  simp only [cutTo]
  rw [ih (fun j hj => h j (by omega)), h i (by omega)]
  rfl
def upto (v : Nat) : List Int := (List.range v).map (fun i : Nat => (i : Int))
def rest (x : List Int) (v : Nat) : List Int := (upto v).filter (fun i => !decide (i ∈ x))
theorem upto_succ (v : Nat) : upto (v + 1) = upto v ++ [(v : Int)] := by simp [upto, List.range_succ]
theorem mem_upto {v : Nat} {y : Int} : y ∈ upto v ↔ 0 ≤ y ∧ y < v := by
 simp only [upto, List.mem_map, List.mem_range]
 constructor
 ·rintro ⟨i, hi, rfl⟩; omega
 ·rintro ⟨h1, h2⟩; exact ⟨y.toNat, by omega, by omega⟩
theorem upto_len (v : Nat) : (upto v).length = v := by simp [upto]
theorem upto_nodup (v : Nat) : (upto v).Nodup := by
 unfold upto
 rw [List.nodup_iff_pairwise_ne, List.pairwise_map]
 exact List.Pairwise.imp (fun h e => h (by omega)) (List.nodup_iff_pairwise_ne.1 List.nodup_range)
theorem fresh_of {n : Int} {x : List Int} (hn : x.Nodup) (hx : ∀ y ∈ x, 0 ≤ y ∧ y < n) : FreshFrom n x 0 := by
 intro j hj _
 refine ⟨?_, fun h hh e => ?_⟩
 ·have := hx _ (getD_mem hj)
  simp only [okN, Bool.and_eq_true, decide_eq_true_eq]
  omega
 ·rw [nth_get (by omega), nth_get hj] at e
  have := (List.getElem?_inj (i := h) (j := j) (by omega) hn).1 (by rw [List.getElem?_eq_getElem (by omega), List.getElem?_eq_getElem hj, e])
  omega
theorem cutV_fresh {n : Int} {l : List Arc} {x : List Int} (hg : NetGood n l) (hf : FreshFrom n x 0) : cutV n l x = cutOf l (setTo x x.length) := by
 unfold cutV
 rw [if_pos ⟨(netOkB_iff n l).2 hg, hf⟩]
theorem side_mem {n : Int} (h8 : n ≤ 8) {x : List Int} (hf : FreshFrom n x 0) {v : Nat} (hv : v < 8) : side (setTo x x.length) v = decide ((v : Int) ∈ x) := by
 have hb := setTo_bits h8 x x.length (Nat.le_refl _) (fun j hj _ => hf j hj (Nat.zero_le _))
 rw [Bool.eq_iff_iff, decide_eq_true_eq]
 refine (hb.2 v hv).trans ⟨?_, ?_⟩
 ·rintro ⟨h, hh, e⟩
  rw [← e]
  exact getD_mem hh
 ·intro hm
  obtain ⟨i, hi, e⟩ := mem_getD hm
  exact ⟨i, hi, e⟩
theorem flowCut_l {n : Int} {l : List Arc} (hg : NetGood n l) (x : List Int) (hxm : x.length ≤ maxLen) (hf : FreshFrom n x 0) : ∀ (m v : Nat), n.toNat - v = m → v ≤ n.toNat → Ev (fun k => laws_FnFlowCut.l0 k x (cutV n l x) (rest x v) (upto v) (v : Int) n l) true := by
 have h1 := hg.n1
 have h8 := hg.n8
 intro m
 induction m with
 | zero =>
  intro v hd hv
  have ev : v = n.toNat := by omega
  subst ev
  refine Ev.go ?_ (fun k => by rw [laws_FnFlowCut.l0])
  refine Ev.neg (by omega) (Ev.bind (implNetBack_ev hg) ?_)
  have fr : FreshFrom n (rest x n.toNat) 0 := fresh_of (List.Pairwise.filter _ (upto_nodup _)) (fun y hy => by
   have := mem_upto.1 (List.mem_filter.1 hy).1
   omega)
  have fu : FreshFrom n (upto n.toNat) 0 := fresh_of (upto_nodup _) (fun y hy => by have := mem_upto.1 hy; omega)
  have fn : FreshFrom n [] 0 := fun j hj => by simp at hj
  have lr : (rest x n.toNat).length ≤ 8 := by
   have h2 := List.length_filter_le (fun i : Int => !decide (i ∈ x)) (upto n.toNat)
   have h3 := upto_len n.toNat
   unfold rest
   omega
  have e1 := implFlowCut_ev n (back l) (rest x n.toNat) (by simp only [maxLen]; omega)
  have e2 := implFlowCut_ev n l (upto n.toNat) (by rw [upto_len]; simp only [maxLen]; omega)
  have e3 := implFlowCut_ev n l [] (by simp [maxLen])
  rw [cutV_fresh (back_good hg) fr] at e1
  rw [cutV_fresh hg fu] at e2
  rw [cutV_fresh hg fn] at e3
  have node : ∀ {y : Int}, 0 ≤ y → y < n → ∃ v : Nat, y = v ∧ v < 8 ∧ v < n.toNat := fun h0 h => ⟨_, (Int.toNat_of_nonneg h0).symm, by omega, by omega⟩
  have c1 : cutOf (back l) (setTo (rest x n.toNat) (rest x n.toNat).length) = cutV n l x := by
   rw [cutV_fresh hg hf]
   unfold cutOf
   rw [back_len]
   refine cutTo_congr _ (fun j hj => ?_)
   obtain ⟨⟨a0, a1⟩, ⟨b0, b1⟩, _⟩ := hg.ok j hj
   obtain ⟨u, eu, u8, un⟩ := node a0 a1
   obtain ⟨w, ew, w8, wn⟩ := node b0 b1
   rw [back_arc hj]
   refine ⟨?_, rfl⟩
   simp only [outB, flip, eu, ew, Int.toNat_natCast, side_mem h8 fr u8, side_mem h8 fr w8, side_mem h8 hf u8, side_mem h8 hf w8]
   have ru : ((u : Int) ∈ rest x n.toNat) ↔ ¬ (u : Int) ∈ x := by
    simp only [rest, List.mem_filter, mem_upto]
    constructor
    ·rintro ⟨_, h⟩; simpa using h
    ·intro h; exact ⟨by omega, by simpa using h⟩
   have rw_ : ((w : Int) ∈ rest x n.toNat) ↔ ¬ (w : Int) ∈ x := by
    simp only [rest, List.mem_filter, mem_upto]
    constructor
    ·rintro ⟨_, h⟩; simpa using h
    ·intro h; exact ⟨by omega, by simpa using h⟩
   by_cases p : (u : Int) ∈ x <;> by_cases q : (w : Int) ∈ x <;> simp [ru, rw_, p, q]
  have c2 : cutOf l (setTo (upto n.toNat) (upto n.toNat).length) = 0 := by
   refine cutTo_none _ (fun j hj => ?_)
   obtain ⟨⟨a0, a1⟩, ⟨b0, b1⟩, _⟩ := hg.ok j hj
   obtain ⟨w, ew, w8, wn⟩ := node b0 b1
   simp only [outB, ew, Int.toNat_natCast, side_mem h8 fu w8]
   have : (w : Int) ∈ upto n.toNat := mem_upto.2 (by omega)
   simp [this]
  have c3 : cutOf l (setTo [] ([] : List Int).length) = 0 := by
   refine cutTo_none _ (fun j hj => ?_)
   obtain ⟨⟨a0, a1⟩, ⟨b0, b1⟩, _⟩ := hg.ok j hj
   obtain ⟨u, eu, u8, un⟩ := node a0 a1
   simp only [outB, eu, Int.toNat_natCast, side_mem h8 fn u8]
   simp
  rw [c1] at e1
  rw [c2] at e2
  rw [c3] at e3
  exact Ev.bind e1 (Ev.pos rfl (Ev.bind e2 (Ev.pos rfl (Ev.bind e3 (Ev.is (by simp))))))
 | succ m ih =>
  intro v hd hv
  refine Ev.go ?_ (fun k => by rw [laws_FnFlowCut.l0])
  have ih := ih (v + 1) (by omega) (by omega)
  rw [up1 (show v < n.toNat by omega) (by simp only [maxLen]; omega), ← upto_succ]
  have lr : (rest x v).length ≤ v := by
   have h2 := List.length_filter_le (fun i : Int => !decide (i ∈ x)) (upto v)
   have h3 := upto_len v
   unfold rest
   omega
  refine Ev.pos (by omega) (Ev.pos (by rw [upto_len]; omega) (Ev.bind0 rfl (Ev.bind (wkIn_ev x v hxm) ?_)))
  by_cases c : (v : Int) ∈ x
  ·have e : rest x (v + 1) = rest x v := by unfold rest; rw [upto_succ, List.filter_append]; simp [c]
   rw [e] at ih
   exact Ev.pos (decide_eq_true c) ih
  ·have e : rest x (v + 1) = rest x v ++ [(v : Int)] := by unfold rest; rw [upto_succ, List.filter_append]; simp [c]
   rw [e] at ih
   exact Ev.neg (by simpa using c) (Ev.pos (by omega) ih)
theorem FnFlowCut : laws_FnFlowCut.Asked := by
 intro c hc
 refine Pv.rounds ?_
 unfold laws_FnFlowCut.f
 refine Pv.ite (fun _ => Pv.now rfl) (fun _ => Pv.bind (drawCut_pv hc.2) (fun r ⟨h0, h1, h2⟩ => ?_))
 obtain ⟨n, l, x⟩ := r
 dsimp only at h0 h1 h2 ⊢
 have hI : I64 n := ⟨by omega, by omega⟩
 have hi := implFlowCut_ev n l x (by simp only [maxLen]; omega)
 have hs := specFlowCut_ev hI l x (by simp only [maxLen]; omega) (by simp only [maxLen]; omega)
 refine Pv.of (Ev.bind hi (Ev.bind hs (Ev.pos rfl (Ev.go (r := true) ?_ (fun k => by rw [laws_FnFlowCut.j0]))))) rfl
 by_cases c1 : cutV n l x < 0
 ·exact Ev.pos (by simpa using c1) (Ev.bind hs (Ev.cast (Ev.now _) (beq_self_eq_true _)))
 ·refine Ev.neg (by simpa using c1) ?_
  have hcv : netOkB n l = true ∧ FreshFrom n x 0 := by
   apply Classical.byContradiction
   intro h
   apply c1
   unfold cutV
   rw [if_neg h]
   omega
  have := flowCut_l ((netOkB_iff n l).1 hcv.1) x (by simp only [maxLen]; omega) hcv.2 _ 0 rfl (Nat.zero_le _)
  simpa [rest, upto] using this
end Go.Proofs.Ytjiiipmeocageaa.Pure
end
section
namespace Go.Proofs.Ytjiiipmeocageaa.fnFlowCut
open Go.ChangeShapes Go.WideShapes Go.ChangeAt Go.RowKit Go.Proofs.YtjiiipmeocageaaW.PrintWords Go.Proofs.Ytjiiipmeocageaa.Pr
open Go.ChangeMaps (open_string shut_string)
set_option linter.unusedVariables false
set_option linter.unusedSimpArgs false
theorem own : ownKnob Try.prog.godebug = none := by kernel_rfl
theorem laidOut : laidOutB Try.prog = true := by kernel_rfl
theorem opens0 : Opens Try.prog (Kd.slice 5 (Kd.int .u8)) 45 (fun l => l.length ≤ maxLen ∧ ∀ x ∈ l, (fun n => (Lit.int .u8 n).wf = true) x) := (opens_slice (P := Try.prog) Try.underlying45 (by kernel_rfl) (opens_int (P := Try.prog) (k := .u8) Try.underlying5))
set_option maxRecDepth 100000 in
set_option maxHeartbeats 2000000 in
theorem lifted (os : Os) (started : os.Started) (H : Type) (enc : TypeId × Value → H) :
  ReturnsInHanded {} Try.checked os 12 .any (Rows.fnFlowCutSpec.pre6 enc Try.prog Try.f12 Rows.fnFlowCutRow.domain false) (Rows.fnFlowCutSpec.post enc Try.prog Try.f12 false true false false) := by
 refine returnsInHanded_of_change_sized (C := Try.checked) own started (by kernel_rfl) Try.func12
  (ChangeSpec.witness6 (enc := enc) (C := Try.checked) false ⟨#[], #[(.slice none 0 0)], []⟩ 8 (by kernel_rfl) (by kernel_rfl) (by kernel_rfl) (by kernel_rfl)) ?_
 intro W base args ds gs before hval0 hW hcnd hsz0 _
 have hval : ∀ (j : Nat) t v, Try.f12.params[j]? = some t → args[j]? = some v → Value.okWide Try.prog W .any base t v := hval0
 have hW' := hW
 obtain ⟨p, q, hA0, hV, rfl, hfz, hnd⟩ := hW
 have hA : DataW.TrodAll enc Try.prog W 0 (fun _ => true) true Try.f12.params.toList args.toList ds p := hA0
 rw [Try.params12] at hA hval
 obtain ⟨v0, vs0, d0, ds0, p0, q0, hargs, rfl, rfl, h0, r0⟩ := trodAll_cons hA
 obtain ⟨rfl, rfl, rfl⟩ := trodAll_nil r0
 obtain rfl : args = #[v0] := by cases args; simp_all
 obtain ⟨rfl, rfl⟩ := trodVars_none hV
 have k0 := h0
 have lt0 : ∀ x ∈ p0, x.block < W.heap.size := by obtain ⟨m, hm⟩ := k0; exact DataW.trod_lt m _ _ _ hm
 obtain ⟨a0, len0, cap0, rfl⟩ := okWide_slice Try.underlying45 (hval 0 45 v0 rfl rfl)
 obtain ⟨fuel0, hf0⟩ := h0
 obtain ⟨l0, ⟨A0, c0, e0, hc0, hr0⟩, w0⟩ := opens0 hf0
 have e0' : (Value.slice a0 len0 cap0) = .slice A0 l0.length c0 := (List.cons.inj e0).1
 injection e0' with e0a e0b e0c
 subst e0a e0b e0c
 obtain ⟨k, hh⟩ := Pure.FnFlowCut l0 w0
 refine (laws_FnFlowCut.calls k _ _ l0 true W hr0 hc0 hh).mono fun e W' ⟨he, bel0⟩ => ?_
 have bel : Below W.heap.size W W' := bel0
 subst he
 exact ⟨_, rfl, _, _, _, [], _, [], hW', trodAll_mk1 (shut_bool Try.underlying4 _), (trodAll_cons_mk (Below.trod laidOut (by kernel_rfl) (of_decide_eq_true (by kernel_rfl)) k0 bel lt0) trodAll_mk0), rfl, bel.frame _, fun h => by cases h⟩
theorem over : Rows.fnFlowCutRow.holds Try.pinned (OpenSpec.ofChange Rows.fnFlowCutSpec) :=
 OpenClaim.holds_of_wide 12 Try.f12 rfl rfl rfl rfl rfl rfl rfl ⟨rfl, rfl, rfl, rfl, rfl⟩ rfl rfl rfl rfl rfl (by kernel_rfl) Try.func12 (by kernel_rfl)
  (of_decide_eq_true (by kernel_rfl)) (by unfold Func.isWrapper; first | (rw [if_pos (by decide +kernel)]; kernel_rfl) | (rw [if_neg (by decide +kernel)]; exact ⟨rfl, rfl⟩))
  (fun os started H enc _ => lifted os started H enc)
theorem proved : Rows.FnFlowCutSaid := over
#print axioms proved
end Go.Proofs.Ytjiiipmeocageaa.fnFlowCut
namespace Go.Proofs.Ytjiiipmeocageaa
theorem fnFlowCut_holds : Rows.FnFlowCutSaid := fnFlowCut.proved
end Go.Proofs.Ytjiiipmeocageaa
end
