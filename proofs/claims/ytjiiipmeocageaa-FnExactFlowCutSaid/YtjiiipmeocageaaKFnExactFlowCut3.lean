/- For the statement FnExactFlowCut of this seat: it is proved here, with no further conditions (part 4 of its texts: walks of the functions, the plain law, the row). -/
import Derived.Test.YtjiiipmeocageaaRows
import Derived.WalkKit
import Derived.ProofKit
import Derived.OpenShut
import Derived.ShutString
import Derived.ChangeOld
import Derived.Below
import Derived.SizedLaws
import Derived.WideShapes
import Derived.Test.YtjiiipmeocageaaKFnExactFlowCut2
section
namespace Go.Proofs.Ytjiiipmeocageaa.Pr
open Go.RowKit Go.Proofs.YtjiiipmeocageaaW.PrintWords Go.Proofs.YtjiiipmeocageaaW.PrintLast Go.Proofs.YtjiiipmeocageaaW.PrintMore
attribute [local go_sem] max2_int min2_int max_two min_two max_three min_three max_four min_four   -- for this text's walks alone
set_option linter.unusedVariables false
set_option linter.unusedSimpArgs false

/-! ### laws_szFare: function 17 -/
def laws_szFare.f (l0_0 : List Int) (a0_1 : Int) (a0_2 : Int) (a1 : Int) : Option (Int) := (laws_szIntS.f l0_0 a1).bind fun t135 => (if t135 < 0 then (some (-1)) else (some t135))
set_option maxHeartbeats 8000000 in
set_option maxRecDepth 100000 in
theorem laws_szFare.calls (A0_0 : Option Addr) (c0_0 : Nat) (l0_0 : List Int) (a0_1 : Int) (a0_2 : Int) (a1 : Int) (r : Int) (w : World) (hr0_0 : Kd.C (Kd.int .i64) w A0_0 l0_0.length l0_0) (hc0_0 : l0_0.length ≤ c0_0) (h : laws_szFare.f l0_0 a0_1 a0_2 a1 = some r) :
    Calls Try.prog 17 #[.agg #[.slice A0_0 l0_0.length c0_0, .int .i64 a0_1, .int .i64 a0_2], .int .i64 a1] w fun e w' => e = .returned (.int .i64 r) ∧ Below w.heap.size w w' := by
  have hu34 := Try.underlying34
  have HR0_0 := Aside0.mk hr0_0
  have HC0_0 := Aside0.mk hc0_0
  clear hr0_0 hc0_0
  have HB := Aside0.mk (Below.refl w.heap.size w)
  have H : ((laws_szIntS.f l0_0 a1).bind fun t135 => (if t135 < 0 then (some (-1)) else (some t135))) = some r := h
  clear h
  replace H := Option.bind_eq_some_iff.mp H
  obtain ⟨t135, A30, H⟩ := H
  replace H : (if t135 < 0 then (some (-1)) else (some t135)) = some r := H
  have A3 := Aside0.mk A30
  clear A30
  by_cases c4 : t135 < 0
  · rw [if_pos c4] at H
    have c4b0 : decide (t135 < 0) = true := decide_eq_true c4
    clear c4
    obtain rfl := Option.some.inj H
    go_enter Try.func17, Try.ntmps17
    go_wp2_with (first | ((with_reducible refine gate_dst (N := 2) rfl ?_); refine box_event ?hg (N := 2) ?hd (cs := #[.slice A0_0 l0_0.length c0_0, .int .i64 a0_1, .int .i64 a0_2]) (t := 34) ?hr ?_; (case hd => rfl); (case hg => rfl); (case hr => first | (go_simp; done) | (go_simp; rfl)); intro gb134 hg w5 hbox hb; have n0_ := Aside0.mk (below_step (by repeat (first | (with_reducible first | exact HB.out | apply below_alloc | apply pw_below_drewN | apply below_drew1) | exact HB.out)) hb); have n1_ := Aside0.mk (hbox); have n2_ := Aside0.mk ((by rw [hg]; exact (below_size (by repeat (first | (with_reducible first | exact HB.out | apply below_alloc | apply pw_below_drewN | apply below_drew1) | exact HB.out))) : w.heap.size ≤ gb134)); have n3_ := Aside0.mk ((by rw [hg]; exact (below_size (by repeat (first | (with_reducible first | exact HB.out | apply below_alloc | apply pw_below_drewN | apply below_drew1) | exact HB.out))) : w.heap.size ≤ gb134)); clear HB; have HB := n0_; have BK134 := n1_; have GW134 := n2_; have GE134 := n3_; clear n0_ n1_ n2_ n3_; clear hb hbox hg; have hcz6_0 : w5.cell? ⟨gb134, 0, none⟩ = some (.slice A0_0 l0_0.length c0_0) := (blk_cell BK134.out 0).trans rfl; have hcz6_1 : w5.cell? ⟨gb134, 1, none⟩ = some (.int .i64 a0_1) := (blk_cell BK134.out 1).trans rfl; have hcz6_2 : w5.cell? ⟨gb134, 2, none⟩ = some (.int .i64 a0_2) := (blk_cell BK134.out 2).trans rfl; have hfz6_0 := blk_frozen BK134.out 0; have hfz6_1 := blk_frozen BK134.out 1; have hfz6_2 := blk_frozen BK134.out 2) | ((with_reducible refine gate_callee (f := 49) rfl ?_); refine goesL_ (some 8) rfl rfl Try.func49 (by kernel_rfl) rfl #[.slice A0_0 l0_0.length c0_0, .int .i64 a1] rfl (by (try simp only [List.map_toArray, List.map_cons, List.map_nil]); first | done | rfl | (simp only [List.length_drop, List.length_take]; rfl)) ?_; (with_reducible refine (laws_szIntS.calls _ _ l0_0 a1 t135 _ ?side1 ?side2 A3.out).mono ?_); (case side1 => repeat (first | exact (Kd.C_below HR0_0.out HB.out) | (with_reducible refine Kd.C_alloc ?_ _) | (with_reducible refine Kd.C_drewN ?_ _) | (with_reducible refine Kd.C_drew ?_))); (case side2 => exact HC0_0.out); rintro e w' ⟨rfl, ⟨nd, rfl⟩⟩; refine ⟨_, rfl, ?_⟩))
    go_ret
    exact ⟨by first | rfl | (simp [errW_none, errW_some] <;> rfl) | (simp [*, errW_none, errW_some] <;> rfl), by repeat (first | (with_reducible first | exact HB.out | apply below_alloc | apply pw_below_drewN | apply below_drew1 | refine below_set ?_ GE134.out) | exact HB.out)⟩
  · rw [if_neg c4] at H
    have c4b0 : decide (t135 < 0) = false := decide_eq_false c4
    clear c4
    obtain rfl := Option.some.inj H
    go_enter Try.func17, Try.ntmps17
    go_wp2_with (first | ((with_reducible refine gate_dst (N := 2) rfl ?_); refine box_event ?hg (N := 2) ?hd (cs := #[.slice A0_0 l0_0.length c0_0, .int .i64 a0_1, .int .i64 a0_2]) (t := 34) ?hr ?_; (case hd => rfl); (case hg => rfl); (case hr => first | (go_simp; done) | (go_simp; rfl)); intro gb134 hg w7 hbox hb; have n0_ := Aside0.mk (below_step (by repeat (first | (with_reducible first | exact HB.out | apply below_alloc | apply pw_below_drewN | apply below_drew1) | exact HB.out)) hb); have n1_ := Aside0.mk (hbox); have n2_ := Aside0.mk ((by rw [hg]; exact (below_size (by repeat (first | (with_reducible first | exact HB.out | apply below_alloc | apply pw_below_drewN | apply below_drew1) | exact HB.out))) : w.heap.size ≤ gb134)); have n3_ := Aside0.mk ((by rw [hg]; exact (below_size (by repeat (first | (with_reducible first | exact HB.out | apply below_alloc | apply pw_below_drewN | apply below_drew1) | exact HB.out))) : w.heap.size ≤ gb134)); clear HB; have HB := n0_; have BK134 := n1_; have GW134 := n2_; have GE134 := n3_; clear n0_ n1_ n2_ n3_; clear hb hbox hg; have hcz8_0 : w7.cell? ⟨gb134, 0, none⟩ = some (.slice A0_0 l0_0.length c0_0) := (blk_cell BK134.out 0).trans rfl; have hcz8_1 : w7.cell? ⟨gb134, 1, none⟩ = some (.int .i64 a0_1) := (blk_cell BK134.out 1).trans rfl; have hcz8_2 : w7.cell? ⟨gb134, 2, none⟩ = some (.int .i64 a0_2) := (blk_cell BK134.out 2).trans rfl; have hfz8_0 := blk_frozen BK134.out 0; have hfz8_1 := blk_frozen BK134.out 1; have hfz8_2 := blk_frozen BK134.out 2) | ((with_reducible refine gate_callee (f := 49) rfl ?_); refine goesL_ (some 8) rfl rfl Try.func49 (by kernel_rfl) rfl #[.slice A0_0 l0_0.length c0_0, .int .i64 a1] rfl (by (try simp only [List.map_toArray, List.map_cons, List.map_nil]); first | done | rfl | (simp only [List.length_drop, List.length_take]; rfl)) ?_; (with_reducible refine (laws_szIntS.calls _ _ l0_0 a1 t135 _ ?side1 ?side2 A3.out).mono ?_); (case side1 => repeat (first | exact (Kd.C_below HR0_0.out HB.out) | (with_reducible refine Kd.C_alloc ?_ _) | (with_reducible refine Kd.C_drewN ?_ _) | (with_reducible refine Kd.C_drew ?_))); (case side2 => exact HC0_0.out); rintro e w' ⟨rfl, ⟨nd, rfl⟩⟩; refine ⟨_, rfl, ?_⟩))
    go_ret
    exact ⟨by first | rfl | (simp [errW_none, errW_some] <;> rfl) | (simp [*, errW_none, errW_some] <;> rfl), by repeat (first | (with_reducible first | exact HB.out | apply below_alloc | apply pw_below_drewN | apply below_drew1 | refine below_set ?_ GE134.out) | exact HB.out)⟩

end Go.Proofs.Ytjiiipmeocageaa.Pr
end
section
set_option linter.unusedSimpArgs false
set_option linter.unusedVariables false
namespace Go.Proofs.Ytjiiipmeocageaa.Pure
open Go.RowKit Go.Proofs.Ytjiiipmeocageaa.Pr Go.Proofs.YtjiiipmeocageaaW.PrintWords Go.Proofs.YtjiiipmeocageaaW.PrintLast Go.Proofs.YtjiiipmeocageaaW.PrintMore
theorem toIntS_l (l : List Int) (hm : l.length ≤ maxLen) : ∀ (d i : Nat) (x : List Int), l.length - i = d → i ≤ l.length → x.length = l.length → x.take i = l.take i → Ev (fun k => laws_toIntS.l0 k l x (i : Int)) l := by
  intro d
  induction d with
  | zero =>
    intro i x hd hi hx ht
    refine Ev.go ?_ (fun k => by rw [laws_toIntS.l0])
    refine Ev.neg (by omega) (Ev.is ?_)
    have e : i = l.length := by omega
    subst e
    rwa [List.take_of_length_le (by omega), List.take_of_length_le (by omega)] at ht
  | succ d ih =>
    intro i x hd hi hx ht
    have hlt : i < l.length := by omega
    refine Ev.go ?_ (fun k => by rw [laws_toIntS.l0])
    refine Ev.pos (by omega) (Ev.pos (by omega) (Ev.pos (by omega) ?_))
    rw [up1 hlt hm, rdn hlt]
    refine ih (i + 1) _ (by omega) (by omega) (by simp [hx]) ?_
    simp only [Int.toNat_natCast]
    rw [List.take_succ_eq_append_getElem hlt, List.take_succ_eq_append_getElem (by simp; omega), List.take_set_of_le (Nat.le_refl _), ht]
    simp
theorem toIntS_ev (l : List Int) (hm : l.length ≤ 35184372088832) : Ev (fun k => laws_toIntS.f k l) l := by
  unfold laws_toIntS.f
  refine Ev.pos (by omega) (Ev.pos (by simp; omega) ?_)
  exact toIntS_l l (by simp only [maxLen]; omega) _ 0 _ rfl (by omega) (by simp) (by simp)
theorem eqIntS_l (l : List Int) (hm : l.length ≤ maxLen) : ∀ (d i : Nat), l.length - i = d → i ≤ l.length → Ev (fun k => laws_eqIntS.l0 k l l (i : Int)) true := by
  intro d
  induction d with
  | zero =>
    intro i hd hi
    refine Ev.go ?_ (fun k => by rw [laws_eqIntS.l0])
    exact Ev.neg (by omega) (Ev.now _)
  | succ d ih =>
    intro i hd hi
    have hlt : i < l.length := by omega
    refine Ev.go ?_ (fun k => by rw [laws_eqIntS.l0])
    refine Ev.pos (by omega) (Ev.pos (by omega) (Ev.pos (by omega) (Ev.pos rfl ?_)))
    rw [up1 hlt hm]
    exact ih (i + 1) (by omega) (by omega)
theorem eqIntS_ev (l : List Int) (hm : l.length ≤ maxLen) : Ev (fun k => laws_eqIntS.f k l l) true := by
  unfold laws_eqIntS.f
  exact Ev.pos rfl (eqIntS_l l hm _ 0 rfl (by omega))
theorem szIntS_eq (l : List Int) (a : Int) (ha : -1 ≤ a) (ha' : a ≤ 1048576) (hm : l.length ≤ maxLen) : laws_szIntS.f l a = some (if a - (l.length : Int) < 0 then -1 else a - (l.length : Int)) := by
  simp only [maxLen] at hm
  unfold laws_szIntS.f
  rw [w64 (by omega) (by omega)]
  split <;> rfl
theorem szFare_eq (l : List Int) (d w a : Int) (ha : -1 ≤ a) (ha' : a ≤ 1048576) (hm : l.length ≤ maxLen) : laws_szFare.f l d w a = some (if a - (l.length : Int) < 0 then -1 else a - (l.length : Int)) := by
  unfold laws_szFare.f
  rw [szIntS_eq l a ha ha' hm]
  simp only [Option.bind_some]
  split <;> simp <;> omega
end Go.Proofs.Ytjiiipmeocageaa.Pure
end
section
set_option linter.unusedSimpArgs false
set_option linter.unusedVariables false
namespace Go.Proofs.Ytjiiipmeocageaa.Pure
open Go.RowKit Go.Proofs.Ytjiiipmeocageaa.Pr Go.Proofs.YtjiiipmeocageaaW.PrintWords Go.Proofs.YtjiiipmeocageaaW.PrintLast Go.Proofs.YtjiiipmeocageaaW.PrintMore
/-- The set of the first i nodes of x. -/
def setTo (x : List Int) : Nat → Nat
  | 0 => 0
  | i + 1 => setTo x i + 2 ^ (nth x i).toNat
/-- From i on: every node is one of the net's and stands nowhere ahead. -/
def FreshFrom (n : Int) (x : List Int) (i : Nat) : Prop := ∀ j, j < x.length → i ≤ j → okN n (nth x j) = true ∧ ∀ h, h < j → nth x h ≠ nth x j
def FreshTo (n : Int) (x : List Int) (i : Nat) : Prop := ∀ j, j < x.length → j < i → okN n (nth x j) = true ∧ ∀ h, h < j → nth x h ≠ nth x j
theorem l12In_l (x : List Int) (v : Int) (hm : x.length ≤ maxLen) : ∀ (m i : Nat), x.length - i = m → i ≤ x.length → Ev (fun k => spec_l12In.l0 k x v (i : Int)) (Bp (∃ j, j < x.length ∧ i ≤ j ∧ nth x j = v)) := by
  intro m
  induction m with
  | zero =>
    intro i hd hi
    refine Ev.go ?_ (fun k => by rw [spec_l12In.l0])
    exact Ev.neg (by omega) (Ev.is (Bp_false (fun ⟨j, h1, h2, _⟩ => by omega)).symm)
  | succ m ih =>
    intro i hd hi
    have hlt : i < x.length := by omega
    have hn := ih (i + 1) (by omega) (by omega)
    rw [← up1 hlt hm] at hn
    refine Ev.go ?_ (fun k => by rw [spec_l12In.l0])
    refine Ev.pos (by omega) (Ev.pos (by omega) ?_)
    rw [rdg i]
    by_cases c : nth x i = v
    · exact Ev.pos c (Ev.is (Bp_true ⟨i, hlt, Nat.le_refl _, c⟩).symm)
    · refine Ev.neg c (hn.cast (Bp_congr ?_))
      constructor
      · rintro ⟨j, h1, h2, h3⟩
        exact ⟨j, h1, by omega, h3⟩
      · rintro ⟨j, h1, h2, h3⟩
        by_cases e : j = i
        · subst e; exact absurd h3 c
        · exact ⟨j, h1, by omega, h3⟩
theorem nth_take {x : List Int} {i j : Nat} (h : j < i) : nth (x.take i) j = nth x j := by
  simp [nth, List.getD_eq_getElem?_getD, List.getElem?_take, h]
theorem l12In_take (x : List Int) (v : Int) (i : Nat) (hi : i ≤ x.length) (hm : x.length ≤ maxLen) : Ev (fun k => spec_l12In.f k (x.take i) v) (Bp (∃ h, h < i ∧ nth x h = v)) := by
  refine (l12In_l (x.take i) v (by rw [List.length_take]; omega) _ 0 rfl (Nat.zero_le _)).cast (Bp_congr ?_)
  have hl : (x.take i).length = i := by rw [List.length_take]; omega
  constructor
  · rintro ⟨j, h1, _, h3⟩
    rw [hl] at h1
    rw [nth_take h1] at h3
    exact ⟨j, h1, h3⟩
  · rintro ⟨j, h1, h3⟩
    exact ⟨j, by rw [hl]; exact h1, Nat.zero_le _, by rw [nth_take h1]; exact h3⟩
/-- A set of numbers below 8 stays below 256, and its bits are its numbers. -/
theorem setTo_bits {n : Int} (hn8 : n ≤ 8) (x : List Int) : ∀ i, i ≤ x.length → FreshTo n x i → setTo x i < 256 ∧ ∀ v, v < 8 → ((setTo x i).testBit v = true ↔ ∃ h, h < i ∧ nth x h = (v : Int)) := by
  intro i
  induction i with
  | zero =>
    intro _ _
    refine ⟨by simp [setTo], fun v hv => ?_⟩
    simp [setTo]
  | succ i ih =>
    intro hi hf
    obtain ⟨h1, h2⟩ := ih (by omega) (fun j hj hji => hf j hj (by omega))
    have hx := hf i (by omega) (by omega)
    have hok := hx.1
    simp only [okN, Bool.and_eq_true, decide_eq_true_eq] at hok
    obtain ⟨w, hw, hw8⟩ : ∃ w : Nat, nth x i = (w : Int) ∧ w < 8 := ⟨(nth x i).toNat, by omega, by omega⟩
    have hnew : (setTo x i).testBit w = false := by
      cases c : (setTo x i).testBit w with
      | false => rfl
      | true =>
        obtain ⟨h, hh, e⟩ := (h2 w hw8).1 c
        exact absurd (e.trans hw.symm) (hx.2 h hh)
    have hadd : ∀ (s : Fin 256) (w : Fin 8), s.val.testBit w.val = false → s.val + 2 ^ w.val < 256 ∧ ∀ v : Fin 8, (s.val + 2 ^ w.val).testBit v.val = (s.val.testBit v.val || decide (v.val = w.val)) := by decide +kernel
    obtain ⟨h3, h4⟩ := hadd ⟨setTo x i, h1⟩ ⟨w, hw8⟩ hnew
    have e : setTo x (i + 1) = setTo x i + 2 ^ w := by simp only [setTo, hw, Int.toNat_natCast]
    rw [e]
    refine ⟨h3, fun v hv => ?_⟩
    rw [h4 ⟨v, hv⟩, Bool.or_eq_true, h2 v hv, decide_eq_true_eq]
    constructor
    · rintro (⟨h, hh, e⟩ | e)
      · exact ⟨h, by omega, e⟩
      · exact ⟨i, by omega, by have e2 : v = w := e; rw [hw, e2]⟩
    · rintro ⟨h, hh, e3⟩
      by_cases c : h = i
      · subst c; rw [hw] at e3; exact .inr (show v = w by omega)
      · exact .inl ⟨h, by omega, e3⟩
open Classical in
noncomputable def cutV (n : Int) (l : List Arc) (x : List Int) : Int := if netOkB n l = true ∧ FreshFrom n x 0 then cutOf l (setTo x x.length) else -1
theorem fresh_step {n : Int} {x : List Int} {i : Nat} (hlt : i < x.length) : FreshFrom n x i ↔ (okN n (nth x i) = true ∧ ∀ h, h < i → nth x h ≠ nth x i) ∧ FreshFrom n x (i + 1) := by
  constructor
  · exact fun h => ⟨h i hlt (Nat.le_refl _), fun j hj hij => h j hj (by omega)⟩
  · intro h j hj hij
    by_cases e : j = i
    · subst e; exact h.1
    · exact h.2 j hj (by omega)
theorem freshTo_step {n : Int} {x : List Int} {i : Nat} (h : FreshTo n x i) (h1 : okN n (nth x i) = true ∧ ∀ h, h < i → nth x h ≠ nth x i) : FreshTo n x (i + 1) := by
  intro j hj hij
  by_cases e : j = i
  · subst e; exact h1
  · exact h j hj (by omega)
theorem shl8 {v : Int} (h : 0 ≤ v) (h8 : v < 8) : shl .i64 1 v = ((2 ^ v.toNat : Nat) : Int) := by
  have := shl_fin ⟨v.toNat, by omega⟩
  rwa [show ((v.toNat : Nat) : Int) = v by omega] at this
theorem specFlowCut_none {n : Int} (hn : n ≤ 0) (l : List Arc) (x : List Int) (hm : x.length ≤ maxLen) (hl : l.length ≤ maxLen) : ∀ (m i : Nat) (s : Int), x.length - i = m → i ≤ x.length → Ev (fun k => spec_FlowCut.l0 k x s (i : Int) n l) (-1) := by
  intro m
  induction m with
  | zero =>
    intro i s hd hi
    refine Ev.go ?_ (fun k => by rw [spec_FlowCut.l0])
    refine Ev.neg (by omega) (Ev.bind (l1Ok_ev n l hl) ?_)
    cases hB : netOkB n l with
    | false => exact Ev.neg (by simp) (Ev.now _)
    | true => exact absurd ((netOkB_iff n l).1 hB).n1 (by omega)
  | succ m ih =>
    intro i s hd hi
    have hlt : i < x.length := by omega
    refine Ev.go ?_ (fun k => by rw [spec_FlowCut.l0])
    refine Ev.pos (by omega) (Ev.pos (by omega) (Ev.bind0 (in1 _ _ _) ?_))
    rw [rdg i]
    cases c0 : inB (nth x i) 0 (wrap64 (n - 1)) with
    | false => exact Ev.neg (by simp) (Ev.now _)
    | true =>
      have hin := inB_iff.1 c0
      have hp : 0 ≤ nth x i := hin.1
      clear hin c0
      refine Ev.pos rfl (Ev.pos (by omega) ?_)
      rw [Int.toNat_natCast]
      refine Ev.bind (l12In_take x (nth x i) i (by omega) hm) ?_
      by_cases c1 : ∃ h, h < i ∧ nth x h = nth x i
      · rw [Bp_true c1]
        exact Ev.pos rfl (Ev.now _)
      · rw [Bp_false c1]
        refine Ev.neg (by simp) (Ev.neg (by omega) (Ev.pos hp ?_))
        rw [up1 hlt hm]
        exact ih (i + 1) _ (by omega) (by omega)
open Classical in
theorem specFlowCut_l {n : Int} (hnI : I64 n) (hn1 : 1 ≤ n) (l : List Arc) (x : List Int) (hm : x.length ≤ maxLen) (hl : l.length ≤ maxLen) : ∀ (m i : Nat), x.length - i = m → i ≤ x.length → FreshTo n x i → Ev (fun k => spec_FlowCut.l0 k x ((setTo x i : Nat) : Int) (i : Int) n l) (if netOkB n l = true ∧ FreshFrom n x i then cutOf l (setTo x x.length) else -1) := by
  intro m
  have hw : wrap64 (n - 1) = n - 1 := w64 (by omega) (by have := hnI.2; omega)
  induction m with
  | zero =>
    intro i hd hi hf
    have e : i = x.length := by omega
    subst e
    refine Ev.go ?_ (fun k => by rw [spec_FlowCut.l0])
    refine Ev.neg (by omega) (Ev.bind (l1Ok_ev n l hl) ?_)
    cases hB : netOkB n l with
    | false => exact Ev.neg (by simp) (Ev.is (by simp))
    | true =>
      have hg := (netOkB_iff n l).1 hB
      have hfr : FreshFrom n x x.length := fun j h1 h2 => absurd h1 (by omega)
      rw [if_pos ⟨rfl, hfr⟩]
      exact Ev.pos rfl (Ev.bind (specCut_ev hg (setTo_bits hg.n8 x _ (Nat.le_refl _) hf).1) (Ev.now _))
  | succ m ih =>
    intro i hd hi hf
    have hlt : i < x.length := by omega
    have step := fresh_step (n := n) hlt
    refine Ev.go ?_ (fun k => by rw [spec_FlowCut.l0])
    refine Ev.pos (by omega) (Ev.pos (by omega) (Ev.bind0 (in1 _ _ _) ?_))
    rw [rdg i, hw]
    have bad : ¬ (okN n (nth x i) = true ∧ ∀ h, h < i → nth x h ≠ nth x i) → (if netOkB n l = true ∧ FreshFrom n x i then cutOf l (setTo x x.length) else -1) = -1 := fun h => if_neg (fun hh => h (step.1 hh.2).1)
    have bad2 : ¬ n ≤ 8 → (if netOkB n l = true ∧ FreshFrom n x i then cutOf l (setTo x x.length) else -1) = -1 := fun h => if_neg (fun hh => h ((netOkB_iff n l).1 hh.1).n8)
    cases c0 : inB (nth x i) 0 (n - 1) with
    | false =>
      refine Ev.neg (by simp) (Ev.is (bad (fun h => ?_)).symm)
      have h1 : inB (nth x i) 0 (n - 1) = true := h.1
      rw [c0] at h1
      simp at h1
    | true =>
      have hin := inB_iff.1 c0
      refine Ev.pos rfl (Ev.pos (by omega) ?_)
      have ht := l12In_take x (nth x i) i (by omega) hm
      rw [Int.toNat_natCast]
      refine Ev.bind ht ?_
      by_cases c1 : ∃ h, h < i ∧ nth x h = nth x i
      · rw [Bp_true c1]
        exact Ev.pos rfl (Ev.is (bad (fun h => by obtain ⟨j, h1, h2⟩ := c1; exact h.2 j h1 h2)).symm)
      · rw [Bp_false c1]
        refine Ev.neg (by simp) ?_
        by_cases c2 : n ≤ 8
        · refine Ev.neg (by omega) (Ev.pos hin.1 ?_)
          have hfr : okN n (nth x i) = true ∧ ∀ h, h < i → nth x h ≠ nth x i := ⟨c0, fun h h1 h2 => c1 ⟨h, h1, h2⟩⟩
          have hf' := freshTo_step hf hfr
          have hb := (setTo_bits c2 x i (by omega) hf).1
          have hb' := (setTo_bits c2 x (i + 1) (by omega) hf').1
          have hn := ih (i + 1) (by omega) (by omega) hf'
          rw [← up1 hlt hm] at hn
          have e : wrap64 (((setTo x i : Nat) : Int) + shl .i64 1 (nth x i)) = ((setTo x (i + 1) : Nat) : Int) := by
            rw [shl8 hin.1 (by omega)]
            have e1 : setTo x (i + 1) = setTo x i + 2 ^ (nth x i).toNat := rfl
            rw [e1] at hb' ⊢
            clear hn ht hf hf' hfr c1 bad bad2 step ih
            generalize 2 ^ (nth x i).toNat = p at *
            rw [w64 (by omega) (by omega)]
            omega
          rw [e]
          refine hn.cast ?_
          have hp : FreshFrom n x i = FreshFrom n x (i + 1) := propext ⟨fun h => (step.1 h).2, fun h => step.2 ⟨hfr, h⟩⟩
          rw [hp]
        · exact Ev.pos (by omega) (Ev.is (bad2 c2).symm)
theorem specFlowCut_ev {n : Int} (hnI : I64 n) (l : List Arc) (x : List Int) (hm : x.length ≤ maxLen) (hl : l.length ≤ maxLen) : Ev (fun k => spec_FlowCut.f k n l x) (cutV n l x) := by
  unfold spec_FlowCut.f
  by_cases h : 1 ≤ n
  · exact specFlowCut_l hnI h l x hm hl _ 0 rfl (Nat.zero_le _) (fun j h1 h2 => absurd h2 (by omega))
  · refine (specFlowCut_none (by omega) l x hm hl _ 0 0 rfl (Nat.zero_le _)).cast ?_
    unfold cutV
    rw [if_neg (fun hh => h ((netOkB_iff n l).1 hh.1).n1)]
theorem or_fin : ∀ (s : Fin 256) (v : Fin 8), s.val.testBit v.val = false → Go.bits .or .i64 ((s.val : Nat) : Int) ((2 ^ v.val : Nat) : Int) = ((s.val + 2 ^ v.val : Nat) : Int) := by decide +kernel
open Classical in
theorem implFlowCut_l {n : Int} {l : List Arc} (hg : NetGood n l) (x : List Int) (hm : x.length ≤ maxLen) (hx : ∀ j, j < x.length → okN n (nth x j) = true) : ∀ (m i : Nat), x.length - i = m → i ≤ x.length → FreshTo n x i → Ev (fun k => impl_FlowCut.l0 k ((setTo x i : Nat) : Int) x (x.length : Int) (i : Int) n l) (if FreshFrom n x i then cutOf l (setTo x x.length) else -1) := by
  have h8 := hg.n8
  intro m
  induction m with
  | zero =>
    intro i hd hi hf
    have e : i = x.length := by omega
    subst e
    refine Ev.go ?_ (fun k => by rw [impl_FlowCut.l0])
    have hfr : FreshFrom n x x.length := fun j h1 h2 => absurd h1 (by omega)
    rw [if_pos hfr]
    exact Ev.neg (by omega) (Ev.bind (implCut_ev hg (setTo_bits hg.n8 x _ (Nat.le_refl _) hf).1) (Ev.now _))
  | succ m ih =>
    intro i hd hi hf
    have hlt : i < x.length := by omega
    have step := fresh_step (n := n) hlt
    have hok := hx i hlt
    have hin := hok
    simp only [okN, Bool.and_eq_true, decide_eq_true_eq] at hin
    obtain ⟨hb, hbits⟩ := setTo_bits h8 x i (by omega) hf
    obtain ⟨w, hw, hw8⟩ : ∃ w : Nat, nth x i = (w : Int) ∧ w < 8 := ⟨(nth x i).toNat, by omega, by omega⟩
    have hsb := side_bits hb hw8
    rw [← hw] at hsb
    refine Ev.go ?_ (fun k => by rw [impl_FlowCut.l0])
    refine Ev.pos (by omega) (Ev.pos (by omega) (Ev.pos (by omega) ?_))
    rw [rdg i, hsb]
    refine Ev.pos hin.1 ?_
    cases c : side (setTo x i) w with
    | true =>
      refine Ev.pos rfl (Ev.is (if_neg (fun h => ?_)).symm)
      obtain ⟨j, h1, h2⟩ := (hbits w hw8).1 c
      exact (step.1 h).1.2 j h1 (h2.trans hw.symm)
    | false =>
      refine Ev.neg (by simp) ?_
      have hfr : okN n (nth x i) = true ∧ ∀ h, h < i → nth x h ≠ nth x i := by
        refine ⟨hok, fun j h1 h2 => ?_⟩
        have : side (setTo x i) w = true := (hbits w hw8).2 ⟨j, h1, h2.trans hw⟩
        rw [c] at this
        simp at this
      have hf' := freshTo_step hf hfr
      have hn := ih (i + 1) (by omega) (by omega) hf'
      rw [← up1 hlt hm] at hn
      have e : Go.bits .or .i64 ((setTo x i : Nat) : Int) (shl .i64 1 (nth x i)) = ((setTo x (i + 1) : Nat) : Int) := by
        rw [shl8 hin.1 (by omega), hw, Int.toNat_natCast, or_fin ⟨_, hb⟩ ⟨w, hw8⟩ c]
        simp only [setTo, hw, Int.toNat_natCast]
      rw [e]
      refine hn.cast ?_
      have hp : FreshFrom n x i = FreshFrom n x (i + 1) := propext ⟨fun h => (step.1 h).2, fun h => step.2 ⟨hfr, h⟩⟩
      rw [hp]
theorem implFlowCut_ev (n : Int) (l : List Arc) (x : List Int) (hm : x.length ≤ maxLen) : Ev (fun k => impl_FlowCut.f k n l x) (cutV n l x) := by
  unfold impl_FlowCut.f
  refine Ev.bind0 (nodesIn_eq n l x) ?_
  unfold cutV
  cases hB : netOkB n l with
  | false => exact Ev.neg (by simp) (Ev.is (by simp))
  | true =>
    have hg := (netOkB_iff n l).1 hB
    cases hx : x.all (okN n) with
    | false =>
      refine Ev.neg (by simp) (Ev.is (if_neg (fun h => ?_)).symm)
      have : x.all (okN n) = true := List.all_eq_true.2 (fun c hc => by
        obtain ⟨j, hj, rfl⟩ := mem_getD hc
        exact (h.2 j hj (Nat.zero_le _)).1)
      rw [hx] at this
      simp at this
    | true =>
      refine Ev.pos rfl ((implFlowCut_l hg x hm (fun j hj => List.all_eq_true.1 hx _ (getD_mem hj)) _ 0 rfl (Nat.zero_le _) (fun j h1 h2 => absurd h2 (by omega))).cast ?_)
      by_cases hv : FreshFrom n x 0
      · rw [if_pos hv, if_pos ⟨rfl, hv⟩]
      · rw [if_neg hv, if_neg (fun h => hv h.2)]
end Go.Proofs.Ytjiiipmeocageaa.Pure
end
section
set_option linter.unusedSimpArgs false
set_option linter.unusedVariables false
namespace Go.Proofs.Ytjiiipmeocageaa.Pure
open Go.RowKit Go.Proofs.Ytjiiipmeocageaa.Pr Go.Proofs.YtjiiipmeocageaaW.PrintWords Go.Proofs.YtjiiipmeocageaaW.PrintLast Go.Proofs.YtjiiipmeocageaaW.PrintMore
theorem FnExactFlowCut : laws_FnExactFlowCut.Asked := by
  intro n l x hn hl hx
  refine Ev.rounds ?_
  unfold laws_FnExactFlowCut.f
  by_cases hx2 : (x.length : Int) ≤ 1048576
  · refine Ev.neg (by omega) ?_
    refine Ev.bind0 (szNet_eq n l 1048576 (by omega) (by omega) hl.1) ?_
    by_cases hs : (l.length : Int) ≤ 1048576
    · rw [if_neg (by omega)]
      have ht := toNet_ev n l (by omega)
      have hi := toIntS_ev x (by omega)
      have hm : (l.map toA).length ≤ maxLen := by simpa using hl.1
      refine Ev.neg (by omega) (Ev.bind ht (Ev.bind hi (Ev.bind (specFlowCut_ev hn _ x hx.1 hm) (Ev.bind ht (Ev.bind hi (Ev.bind (implFlowCut_ev n _ x hx.1) (Ev.pos rfl ?_)))))))
      exact Ev.bind ht (Ev.bind (eqNet_ev n _ hm) (Ev.pos rfl (Ev.bind hi (Ev.bind (eqIntS_ev x hx.1) (Ev.pos rfl (Ev.now _))))))
    · rw [if_pos (by omega)]
      exact Ev.pos (by omega) (Ev.now _)
  · exact Ev.pos (by omega) (Ev.now _)
end Go.Proofs.Ytjiiipmeocageaa.Pure
end
section
namespace Go.Proofs.Ytjiiipmeocageaa.fnExactFlowCut
open Go.ChangeShapes Go.WideShapes Go.ChangeAt Go.RowKit Go.Proofs.YtjiiipmeocageaaW.PrintWords Go.Proofs.Ytjiiipmeocageaa.Pr
open Go.ChangeMaps (open_string shut_string)
set_option linter.unusedVariables false
set_option linter.unusedSimpArgs false
theorem own : ownKnob Try.prog.godebug = none := by kernel_rfl
theorem laidOut : laidOutB Try.prog = true := by kernel_rfl
instance inh104 : Inhabited S104 := ⟨z104⟩
theorem opens0 : Opens Try.prog (Kd.pair (Kd.int .i64) (Kd.slice 104 k104)) 59 (fun x => I64 x.1 ∧ (fun l => l.length ≤ maxLen ∧ ∀ x ∈ l, (fun b : S104 => (fun x => I64 x.1 ∧ (fun x => I64 x.1 ∧ (fun x => I64 x.1 ∧ (fun x => I64 x.1 ∧ I64 x.2) x.2) x.2) x.2) (b.f0, b.f1, b.f2, b.f3, b.f4)) x) x.2) := (opens_struct (P := Try.prog) Try.underlying59 (opensF_cons (P := Try.prog) (by kernel_rfl) (opens_i64 (P := Try.prog) Try.underlying3) (opensF_last (P := Try.prog) (by kernel_rfl) (by kernel_rfl) (opens_slice (P := Try.prog) Try.underlying57 (by kernel_rfl) (opens_iso (P := Try.prog) (fun x : S104 => (x.f0, x.f1, x.f2, x.f3, x.f4)) (fun x => (⟨x.1, x.2.1, x.2.2.1, x.2.2.2.1, x.2.2.2.2⟩ : S104)) (fun _ => rfl) (opens_struct (P := Try.prog) Try.underlying104 (opensF_cons (P := Try.prog) (by kernel_rfl) (opens_i64 (P := Try.prog) Try.underlying3) (opensF_cons (P := Try.prog) (by kernel_rfl) (opens_i64 (P := Try.prog) Try.underlying3) (opensF_cons (P := Try.prog) (by kernel_rfl) (opens_i64 (P := Try.prog) Try.underlying3) (opensF_cons (P := Try.prog) (by kernel_rfl) (opens_i64 (P := Try.prog) Try.underlying3) (opensF_last (P := Try.prog) (by kernel_rfl) (by kernel_rfl) (opens_i64 (P := Try.prog) Try.underlying3))))))))))))
theorem opens1 : Opens Try.prog (Kd.slice 3 (Kd.int .i64)) 32 (fun l => l.length ≤ maxLen ∧ ∀ x ∈ l, I64 x) := (opens_slice (P := Try.prog) Try.underlying32 (by kernel_rfl) (opens_i64 (P := Try.prog) Try.underlying3))
set_option maxRecDepth 100000 in
set_option maxHeartbeats 2000000 in
theorem lifted (os : Os) (started : os.Started) (H : Type) (enc : TypeId × Value → H) :
    ReturnsInHanded {} Try.checked os 13 .any (Rows.fnExactFlowCutSpec.pre6 enc Try.prog Try.f13 Rows.fnExactFlowCutRow.domain false) (Rows.fnExactFlowCutSpec.post enc Try.prog Try.f13 false true false false) := by
  refine returnsInHanded_of_change_sized (C := Try.checked) own started (by kernel_rfl) Try.func13
    (ChangeSpec.witness6 (enc := enc) (C := Try.checked) false ⟨#[], #[(.agg #[(.int .i64 0), (.slice none 0 0)]), (.slice none 0 0)], []⟩ 8 (by kernel_rfl) (by kernel_rfl) (by kernel_rfl) (by kernel_rfl)) ?_
  intro W base args ds gs before hval0 hW hcnd hsz0 _
  have hval : ∀ (j : Nat) t v, Try.f13.params[j]? = some t → args[j]? = some v → Value.okWide Try.prog W .any base t v := hval0
  have hW' := hW
  obtain ⟨p, q, hA0, hV, rfl, hfz, hnd⟩ := hW
  have hA : DataW.TrodAll enc Try.prog W 0 (fun _ => true) true Try.f13.params.toList args.toList ds p := hA0
  rw [Try.params13] at hA hval
  obtain ⟨v0, vs0, d0, ds0, p0, q0, hargs, rfl, rfl, h0, r0⟩ := trodAll_cons hA
  obtain ⟨v1, vs1, d1, ds1, p1, q1, rfl, rfl, rfl, h1, r1⟩ := trodAll_cons r0
  obtain ⟨rfl, rfl, rfl⟩ := trodAll_nil r1
  obtain rfl : args = #[v0, v1] := by cases args; simp_all
  obtain ⟨rfl, rfl⟩ := trodVars_none hV
  have k0 := h0
  have lt0 : ∀ x ∈ p0, x.block < W.heap.size := by obtain ⟨m, hm⟩ := k0; exact DataW.trod_lt m _ _ _ hm
  obtain ⟨cs0, rfl, hsz0⟩ := okWide_struct Try.underlying59 (hval 0 59 v0 rfl rfl)
  obtain ⟨fuel0, hf0⟩ := h0
  obtain ⟨x0, hK0, w0⟩ := opens0 hf0
  obtain ⟨u0_0, v0_0, e0_0, ha0_0, hb0_0⟩ := hK0
  have e0_1 : u0_0 = [.int .i64 x0.1] := ha0_0
  obtain ⟨A0_2, c0_2, e0_2, hc0_2, hr0_2⟩ := hb0_0
  have z0 : cs0 = #[.int .i64 x0.1, .slice A0_2 x0.2.length c0_2] := by
    apply Array.toList_inj.1
    have ee : (Value.agg cs0).cells.toList = cs0.toList := rfl
    rw [← ee]
    rw [e0_0]
    subst e0_1
    subst e0_2
    rfl
  subst z0
  clear e0_2 e0_1 e0_0
  have k1 := h1
  have lt1 : ∀ x ∈ p1, x.block < W.heap.size := by obtain ⟨m, hm⟩ := k1; exact DataW.trod_lt m _ _ _ hm
  obtain ⟨a1, len1, cap1, rfl⟩ := okWide_slice Try.underlying32 (hval 1 32 v1 rfl rfl)
  obtain ⟨fuel1, hf1⟩ := h1
  obtain ⟨l1, ⟨A1, c1, e1, hc1, hr1⟩, w1⟩ := opens1 hf1
  have e1' : (Value.slice a1 len1 cap1) = .slice A1 l1.length c1 := (List.cons.inj e1).1
  injection e1' with e1a e1b e1c
  subst e1a e1b e1c
  obtain ⟨k, hh⟩ := Pure.FnExactFlowCut (x0.1) x0.2 l1 w0.1 w0.2 w1
  refine (laws_FnExactFlowCut.calls k (x0.1) A0_2 c0_2 x0.2 _ _ l1 true W hr0_2 hc0_2 hr1 hc1 hh).mono fun e W' ⟨he, bel0⟩ => ?_
  have bel : Below W.heap.size W W' := bel0
  subst he
  exact ⟨_, rfl, _, _, _, [], _, [], hW', trodAll_mk1 (shut_bool Try.underlying4 _), (trodAll_cons_mk (Below.trod laidOut (by kernel_rfl) (of_decide_eq_true (by kernel_rfl)) k0 bel lt0) (trodAll_cons_mk (Below.trod laidOut (by kernel_rfl) (of_decide_eq_true (by kernel_rfl)) k1 bel lt1) trodAll_mk0)), rfl, bel.frame _, fun h => by cases h⟩
theorem over : Rows.fnExactFlowCutRow.holds Try.pinned (OpenSpec.ofChange Rows.fnExactFlowCutSpec) :=
  OpenClaim.holds_of_wide 13 Try.f13 rfl rfl rfl rfl rfl rfl rfl ⟨rfl, rfl, rfl, rfl, rfl⟩ rfl rfl rfl rfl rfl (by kernel_rfl) Try.func13 (by kernel_rfl)
    (of_decide_eq_true (by kernel_rfl)) (by unfold Func.isWrapper; first | (rw [if_pos (by decide +kernel)]; kernel_rfl) | (rw [if_neg (by decide +kernel)]; exact ⟨rfl, rfl⟩))
    (fun os started H enc _ => lifted os started H enc)
theorem proved : Rows.FnExactFlowCutSaid := over
#print axioms proved
end Go.Proofs.Ytjiiipmeocageaa.fnExactFlowCut
namespace Go.Proofs.Ytjiiipmeocageaa
/-- The row, under a short name, for the claim. -/
theorem fnExactFlowCut_holds : Rows.FnExactFlowCutSaid := fnExactFlowCut.proved
end Go.Proofs.Ytjiiipmeocageaa
end
