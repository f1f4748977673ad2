/- For the statement FnExactRingBest of this seat: it is proved here, with no further conditions (part 4 of its texts: words, walks of the functions, the plain law, the row). -/
import Derived.Deep.RegionLaw
import Derived.Test.YtljdcinpjnijcaaKFnExactRingBest2
section
namespace Go.Proofs.Ytljdcinpjnijcaa.Pr
open Go.RowKit Go.Proofs.YtljdcinpjnijcaaW.PrintWords Go.Proofs.YtljdcinpjnijcaaW.PrintLast Go.Proofs.YtljdcinpjnijcaaW.PrintMore
attribute [local go_sem] max2_int min2_int max_two min_two max_three min_three max_four min_four
set_option linter.unusedVariables false
set_option linter.unusedSimpArgs false
def laws_markArcS.l0 : Nat → List (S34) → Int → Int → Option (Int × (List (S34)))
 | 0, _, _, _ => none
 | k + 1, x0, x1, x5 => if x5 < (x0.length : Int) then (if 0 ≤ x5 then ((some (x0.set (x5 : Int).toNat (⟨x1, (rd_T34 x0 x5).f1, (rd_T34 x0 x5).f2, (rd_T34 x0 x5).f3, (rd_T34 x0 x5).f4⟩ : S34) : List (S34))).bind fun y675 => ((some (y675.set (x5 : Int).toNat (⟨(rd_T34 y675 x5).f0, wrap64 (x1 + 1), (rd_T34 y675 x5).f2, (rd_T34 y675 x5).f3, (rd_T34 y675 x5).f4⟩ : S34) : List (S34))).bind fun y676 => ((some (y676.set (x5 : Int).toNat (⟨(rd_T34 y676 x5).f0, (rd_T34 y676 x5).f1, wrap64 ((wrap64 (x1 + 1)) + 1), (rd_T34 y676 x5).f3, (rd_T34 y676 x5).f4⟩ : S34) : List (S34))).bind fun y677 => ((some (y677.set (x5 : Int).toNat (⟨(rd_T34 y677 x5).f0, (rd_T34 y677 x5).f1, (rd_T34 y677 x5).f2, wrap64 ((wrap64 ((wrap64 (x1 + 1)) + 1)) + 1), (rd_T34 y677 x5).f4⟩ : S34) : List (S34))).bind fun y678 => (laws_markArcS.l0 k (y678.set (x5 : Int).toNat (⟨(rd_T34 y678 x5).f0, (rd_T34 y678 x5).f1, (rd_T34 y678 x5).f2, (rd_T34 y678 x5).f3, wrap64 ((wrap64 ((wrap64 ((wrap64 (x1 + 1)) + 1)) + 1)) + 1)⟩ : S34)) (wrap64 ((wrap64 ((wrap64 ((wrap64 ((wrap64 (x1 + 1)) + 1)) + 1)) + 1)) + 1)) (wrap64 (x5 + 1))))))) else (none)) else (some (x1, x0))
def laws_markArcS.f (k : Nat) (l0 : List (S34)) (a1 : Int) : Option (Int × (List (S34))) := laws_markArcS.l0 k l0 a1 0
set_option maxHeartbeats 8000000 in
set_option maxRecDepth 100000 in
theorem laws_markArcS.calls (k : Nat) (P0_ : Nat → Prop) (p0 : Value) (l0 : List (S34)) (a1 : Int) (r1 : Int) (r2 : List (S34)) (w0 w : World) (hB : Below w0.heap.size w0 w) (ho0 : Kd.R k34 34 w w0.heap.size P0_ p0 l0) (h : laws_markArcS.f k l0 a1 = some (r1, r2)) :
  Calls Try.prog 68 #[p0, .int .i64 a1] w fun e w' => e = .returned (.int .i64 r1) ∧ Kd.R k34 34 w' w0.heap.size (fun k_ => (P0_ k_ ∨ w.heap.size ≤ k_)) p0 r2 ∧ Below w0.heap.size w0 w' ∧ Kept w w' (fun k_ => P0_ k_) := by
 have HO0 := Aside0.mk (show Kd.R k34 34 w w0.heap.size (fun k_ => (P0_ k_ ∨ w.heap.size ≤ k_)) p0 l0 from Kd.R_mono ho0 (fun k_ hk => (.inl hk)))
 have HK := Aside0.mk (Kept.refl w (fun k_ => P0_ k_))
 have HW0 := Aside0.mk hB.size
 have HB := Aside0.mk hB
 clear hB
 have H : (laws_markArcS.l0 k l0 a1 0) = some (r1, r2) := h
 clear h
 have H' := Aside0.mk H
 clear H
 go_enter Try.func68, Try.ntmps68
 go_wp2
 go_loopg [1, 5] k (fun kq v1 v5 w' => ∃ (x0_1 : List (S34)) (x1_1 : Int) (x5_1 : Int), v1 = .int .i64 x1_1 ∧ v5 = .int .i64 x5_1 ∧ Aside0 (laws_markArcS.l0 kq x0_1 x1_1 x5_1 = some (r1, r2)) ∧ Aside0 (kq ≤ k) ∧ Aside0 (Kd.R k34 34 w' w0.heap.size (fun k_ => (P0_ k_ ∨ w.heap.size ≤ k_)) p0 x0_1) ∧ Aside0 (Kept w w' (fun k_ => P0_ k_)) ∧ Aside0 (Below w0.heap.size w0 w'))
 case atStart => exact ⟨(l0), (a1), (0), (by first | rfl | (simp; done) | (simp [*]; done)), (by first | rfl | (simp; done) | (simp [*]; done)), H', ⟨Nat.le_refl _⟩, ⟨by (with_reducible repeat (first | apply Kd.R_alloc | apply Kd.R_drewN | apply Kd.R_drew)); exact HO0.out⟩, ⟨by repeat (first | (with_reducible first | exact HK.out | apply Kept.alloc | apply Kept.drewN | apply Kept.drew) | exact HK.out)⟩, ⟨by repeat (first | (with_reducible first | exact HB.out | apply below_alloc | apply pw_below_drewN | apply below_drew1) | exact HB.out)⟩⟩
 case round =>
  clear H'
  try clear p2
  obtain ⟨x0_1, x1_1, x5_1, rfl, rfl, HA, HK1, HO_0, HK, HB⟩ := hrel
  cases gk with
  | zero => exact absurd HA.out (by simp [laws_markArcS.l0])
  | succ k1 =>
   have H := HA.out
   clear HA
   simp only [laws_markArcS.l0] at H
   by_cases c3 : x5_1 < (x0_1.length : Int)
   case neg =>
    rw [if_neg c3] at H
    have c3b0 : decide (x5_1 < (x0_1.length : Int)) = false := decide_eq_false c3
    clear c3
    simp only [Option.some.injEq, Prod.mk.injEq] at H
    obtain ⟨rfl, rfl⟩ := H
    obtain ⟨Ao21, co21, eo21⟩ := Kd.R_slice HO_0.out
    subst eo21
    go_wp2
    go_ret
    exact ⟨by first | rfl | (simp [errW_none, errW_some] <;> rfl) | (simp [*, errW_none, errW_some] <;> rfl), by (with_reducible repeat (first | apply Kd.R_alloc | apply Kd.R_drewN | apply Kd.R_drew)); exact HO_0.out, by repeat (first | (with_reducible first | exact HB.out | apply below_alloc | apply pw_below_drewN | apply below_drew1) | exact HB.out), by repeat (first | (with_reducible first | exact HK.out | apply Kept.alloc | apply Kept.drewN | apply Kept.drew) | exact HK.out)⟩
   rw [if_pos c3] at H
   have c3b0 : decide (x5_1 < (x0_1.length : Int)) = true := decide_eq_true c3
   clear c3
   by_cases c4 : 0 ≤ x5_1
   case neg =>
    rw [if_neg c4] at H
    exact absurd H (by simp)
   rw [if_pos c4] at H
   have c4b0 : decide (0 ≤ x5_1) = true := decide_eq_true c4
   clear c4
   obtain ⟨y675, hy675⟩ : ∃ y_ : List (S34), y_ = (x0_1.set (x5_1 : Int).toNat (⟨x1_1, (rd_T34 x0_1 x5_1).f1, (rd_T34 x0_1 x5_1).f2, (rd_T34 x0_1 x5_1).f3, (rd_T34 x0_1 x5_1).f4⟩ : S34)) := ⟨_, rfl⟩
   replace H : ((some (y675.set (x5_1 : Int).toNat (⟨(rd_T34 y675 x5_1).f0, wrap64 (x1_1 + 1), (rd_T34 y675 x5_1).f2, (rd_T34 y675 x5_1).f3, (rd_T34 y675 x5_1).f4⟩ : S34) : List (S34))).bind fun y676 => ((some (y676.set (x5_1 : Int).toNat (⟨(rd_T34 y676 x5_1).f0, (rd_T34 y676 x5_1).f1, wrap64 ((wrap64 (x1_1 + 1)) + 1), (rd_T34 y676 x5_1).f3, (rd_T34 y676 x5_1).f4⟩ : S34) : List (S34))).bind fun y677 => ((some (y677.set (x5_1 : Int).toNat (⟨(rd_T34 y677 x5_1).f0, (rd_T34 y677 x5_1).f1, (rd_T34 y677 x5_1).f2, wrap64 ((wrap64 ((wrap64 (x1_1 + 1)) + 1)) + 1), (rd_T34 y677 x5_1).f4⟩ : S34) : List (S34))).bind fun y678 => (laws_markArcS.l0 k1 (y678.set (x5_1 : Int).toNat (⟨(rd_T34 y678 x5_1).f0, (rd_T34 y678 x5_1).f1, (rd_T34 y678 x5_1).f2, (rd_T34 y678 x5_1).f3, wrap64 ((wrap64 ((wrap64 ((wrap64 (x1_1 + 1)) + 1)) + 1)) + 1)⟩ : S34)) (wrap64 ((wrap64 ((wrap64 ((wrap64 ((wrap64 (x1_1 + 1)) + 1)) + 1)) + 1)) + 1)) (wrap64 (x5_1 + 1)))))) = some (r1, r2) := by first | (rw [hy675]; with_reducible exact H) | (have H2_ := (Option.bind_some _ _).symm.trans H; rw [hy675]; with_reducible exact H2_) | (have H2_ := (Option.bind_some _ _).symm.trans H; with_reducible exact H2_) | with_reducible exact H | (rw [hy675]; exact H) | exact H
   have Ny675 := Aside0.mk hy675
   clear hy675
   obtain ⟨y676, hy676⟩ : ∃ y_ : List (S34), y_ = (y675.set (x5_1 : Int).toNat (⟨(rd_T34 y675 x5_1).f0, wrap64 (x1_1 + 1), (rd_T34 y675 x5_1).f2, (rd_T34 y675 x5_1).f3, (rd_T34 y675 x5_1).f4⟩ : S34)) := ⟨_, rfl⟩
   replace H : ((some (y676.set (x5_1 : Int).toNat (⟨(rd_T34 y676 x5_1).f0, (rd_T34 y676 x5_1).f1, wrap64 ((wrap64 (x1_1 + 1)) + 1), (rd_T34 y676 x5_1).f3, (rd_T34 y676 x5_1).f4⟩ : S34) : List (S34))).bind fun y677 => ((some (y677.set (x5_1 : Int).toNat (⟨(rd_T34 y677 x5_1).f0, (rd_T34 y677 x5_1).f1, (rd_T34 y677 x5_1).f2, wrap64 ((wrap64 ((wrap64 (x1_1 + 1)) + 1)) + 1), (rd_T34 y677 x5_1).f4⟩ : S34) : List (S34))).bind fun y678 => (laws_markArcS.l0 k1 (y678.set (x5_1 : Int).toNat (⟨(rd_T34 y678 x5_1).f0, (rd_T34 y678 x5_1).f1, (rd_T34 y678 x5_1).f2, (rd_T34 y678 x5_1).f3, wrap64 ((wrap64 ((wrap64 ((wrap64 (x1_1 + 1)) + 1)) + 1)) + 1)⟩ : S34)) (wrap64 ((wrap64 ((wrap64 ((wrap64 ((wrap64 (x1_1 + 1)) + 1)) + 1)) + 1)) + 1)) (wrap64 (x5_1 + 1))))) = some (r1, r2) := by first | (rw [hy676]; with_reducible exact H) | (have H2_ := (Option.bind_some _ _).symm.trans H; rw [hy676]; with_reducible exact H2_) | (have H2_ := (Option.bind_some _ _).symm.trans H; with_reducible exact H2_) | with_reducible exact H | (rw [hy676]; exact H) | exact H
   have Ny676 := Aside0.mk hy676
   clear hy676
   obtain ⟨y677, hy677⟩ : ∃ y_ : List (S34), y_ = (y676.set (x5_1 : Int).toNat (⟨(rd_T34 y676 x5_1).f0, (rd_T34 y676 x5_1).f1, wrap64 ((wrap64 (x1_1 + 1)) + 1), (rd_T34 y676 x5_1).f3, (rd_T34 y676 x5_1).f4⟩ : S34)) := ⟨_, rfl⟩
   replace H : ((some (y677.set (x5_1 : Int).toNat (⟨(rd_T34 y677 x5_1).f0, (rd_T34 y677 x5_1).f1, (rd_T34 y677 x5_1).f2, wrap64 ((wrap64 ((wrap64 (x1_1 + 1)) + 1)) + 1), (rd_T34 y677 x5_1).f4⟩ : S34) : List (S34))).bind fun y678 => (laws_markArcS.l0 k1 (y678.set (x5_1 : Int).toNat (⟨(rd_T34 y678 x5_1).f0, (rd_T34 y678 x5_1).f1, (rd_T34 y678 x5_1).f2, (rd_T34 y678 x5_1).f3, wrap64 ((wrap64 ((wrap64 ((wrap64 (x1_1 + 1)) + 1)) + 1)) + 1)⟩ : S34)) (wrap64 ((wrap64 ((wrap64 ((wrap64 ((wrap64 (x1_1 + 1)) + 1)) + 1)) + 1)) + 1)) (wrap64 (x5_1 + 1)))) = some (r1, r2) := by first | (rw [hy677]; with_reducible exact H) | (have H2_ := (Option.bind_some _ _).symm.trans H; rw [hy677]; with_reducible exact H2_) | (have H2_ := (Option.bind_some _ _).symm.trans H; with_reducible exact H2_) | with_reducible exact H | (rw [hy677]; exact H) | exact H
   have Ny677 := Aside0.mk hy677
   clear hy677
   obtain ⟨y678, hy678⟩ : ∃ y_ : List (S34), y_ = (y677.set (x5_1 : Int).toNat (⟨(rd_T34 y677 x5_1).f0, (rd_T34 y677 x5_1).f1, (rd_T34 y677 x5_1).f2, wrap64 ((wrap64 ((wrap64 (x1_1 + 1)) + 1)) + 1), (rd_T34 y677 x5_1).f4⟩ : S34)) := ⟨_, rfl⟩
   replace H : (laws_markArcS.l0 k1 (y678.set (x5_1 : Int).toNat (⟨(rd_T34 y678 x5_1).f0, (rd_T34 y678 x5_1).f1, (rd_T34 y678 x5_1).f2, (rd_T34 y678 x5_1).f3, wrap64 ((wrap64 ((wrap64 ((wrap64 (x1_1 + 1)) + 1)) + 1)) + 1)⟩ : S34)) (wrap64 ((wrap64 ((wrap64 ((wrap64 ((wrap64 (x1_1 + 1)) + 1)) + 1)) + 1)) + 1)) (wrap64 (x5_1 + 1))) = some (r1, r2) := by first | (rw [hy678]; with_reducible exact H) | (have H2_ := (Option.bind_some _ _).symm.trans H; rw [hy678]; with_reducible exact H2_) | (have H2_ := (Option.bind_some _ _).symm.trans H; with_reducible exact H2_) | with_reducible exact H | (rw [hy678]; exact H) | exact H
   have Ny678 := Aside0.mk hy678
   clear hy678
   obtain ⟨y679, hy679⟩ : ∃ y_ : List (S34), y_ = (y678.set (x5_1 : Int).toNat (⟨(rd_T34 y678 x5_1).f0, (rd_T34 y678 x5_1).f1, (rd_T34 y678 x5_1).f2, (rd_T34 y678 x5_1).f3, wrap64 ((wrap64 ((wrap64 ((wrap64 (x1_1 + 1)) + 1)) + 1)) + 1)⟩ : S34)) := ⟨_, rfl⟩
   replace H : (laws_markArcS.l0 k1 y679 (wrap64 ((wrap64 ((wrap64 ((wrap64 ((wrap64 (x1_1 + 1)) + 1)) + 1)) + 1)) + 1)) (wrap64 (x5_1 + 1))) = some (r1, r2) := by first | (rw [hy679]; with_reducible exact H) | (have H2_ := (Option.bind_some _ _).symm.trans H; rw [hy679]; with_reducible exact H2_) | (have H2_ := (Option.bind_some _ _).symm.trans H; with_reducible exact H2_) | with_reducible exact H | (rw [hy679]; exact H) | exact H
   have Ny679 := Aside0.mk hy679
   clear hy679
   have H' := Aside0.mk H
   clear H
   obtain ⟨Ao10, co10, eo10⟩ := Kd.R_slice HO_0.out
   subst eo10
   have p5 : 0 ≤ (x5_1 : Int) := of_decide_eq_true (by first | (with_reducible assumption) | assumption)
   have q5 : (x5_1 : Int) < ((x0_1.length : Int) : Int) := of_decide_eq_true (by first | (with_reducible assumption) | assumption)
   obtain ⟨go5, co5, eo5, gb5, gl5, cl5, HG5⟩ := Kd.R_form HO_0.out (by omega)
   (first | cases eo5 | (injection eo5 with ea_ en_ ec_; (first | subst ea_ | (injection ea_ with ea_; subst ea_)); subst ec_; clear en_))
   have GB5 := Aside0.mk gb5
   have GG5 := Aside0.mk HG5
   clear gb5 gl5 HG5
   have HMgo5 := Aside0.mk (show (P0_ go5 ∨ w.heap.size ≤ go5) from (HO_0.out.1 _ rfl))
   obtain ⟨ce5, hcl5, hM5, hcc5, hfr5⟩ := Kd.R_elem HO_0.out z34 (x5_1 : Int) p5 q5
   obtain rfl := k34_openM hM5
   have hx5_0 : wr.cell? ⟨go5, (x5_1 : Int).toNat * 5, none⟩ = some (.int .i64 ((rd_T34 x0_1 x5_1).f0)) := hcc5 0 _ rfl
   have hx5_1 : wr.cell? ⟨go5, (x5_1 : Int).toNat * 5 + 1, none⟩ = some (.int .i64 ((rd_T34 x0_1 x5_1).f1)) := hcc5 1 _ rfl
   have hx5_2 : wr.cell? ⟨go5, (x5_1 : Int).toNat * 5 + 2, none⟩ = some (.int .i64 ((rd_T34 x0_1 x5_1).f2)) := hcc5 2 _ rfl
   have hx5_3 : wr.cell? ⟨go5, (x5_1 : Int).toNat * 5 + 3, none⟩ = some (.int .i64 ((rd_T34 x0_1 x5_1).f3)) := hcc5 3 _ rfl
   have hx5_4 : wr.cell? ⟨go5, (x5_1 : Int).toNat * 5 + 4, none⟩ = some (.int .i64 ((rd_T34 x0_1 x5_1).f4)) := hcc5 4 _ rfl
   have hf5_0 : wr.frozen? ⟨go5, (x5_1 : Int).toNat * 5, none⟩ = false := hfr5 0
   have hf5_1 : wr.frozen? ⟨go5, (x5_1 : Int).toNat * 5 + 1, none⟩ = false := hfr5 1
   have hf5_2 : wr.frozen? ⟨go5, (x5_1 : Int).toNat * 5 + 2, none⟩ = false := hfr5 2
   have hf5_3 : wr.frozen? ⟨go5, (x5_1 : Int).toNat * 5 + 3, none⟩ = false := hfr5 3
   have hf5_4 : wr.frozen? ⟨go5, (x5_1 : Int).toNat * 5 + 4, none⟩ = false := hfr5 4
   clear hcl5 hcc5 hfr5; (try clear hM5)
   replace p5 := eq_true p5
   replace q5 := eq_true q5
   have HX11 := Aside0.mk (show Kd.R k34 34 wr w0.heap.size (fun k_ => (P0_ k_ ∨ w.heap.size ≤ k_)) (.slice (some ⟨go5, 0, none⟩) x0_1.length co10) x0_1 from HO_0.out)
   obtain ⟨ce11, hcl11, hM11, p1, hfr11⟩ := Kd.R_elem HX11.out z34 (x5_1 : Int) (of_decide_eq_true (by first | (with_reducible assumption) | assumption)) (by have h_ : (x5_1 : Int) < ((x0_1.length : Int) : Int) := of_decide_eq_true (by first | (with_reducible assumption) | assumption); first | exact h_ | (have e_ := (Kd.R_reads' HO_0.out).1; omega) | simpa using h_)
   obtain rfl := k34_openM hM11
   have HP11 := Kd.R_seg HX11.out (x5_1 : Int) (of_decide_eq_true (by first | (with_reducible assumption) | assumption)) (by have h_ : (x5_1 : Int) < ((x0_1.length : Int) : Int) := of_decide_eq_true (by first | (with_reducible assumption) | assumption); first | exact h_ | (have e_ := (Kd.R_reads' HO_0.out).1; omega) | simpa using h_) (seg := [.int .i64 x1_1]) (j := 0) hcl11 p1 (show 1 ≤ 5 from by decide) (x' := (⟨x1_1, (rd_T34 x0_1 x5_1).f1, (rd_T34 x0_1 x5_1).f2, (rd_T34 x0_1 x5_1).f3, (rd_T34 x0_1 x5_1).f4⟩ : S34)) (k34_mkM _ _ _ (⟨x1_1, (rd_T34 x0_1 x5_1).f1, (rd_T34 x0_1 x5_1).f2, (rd_T34 x0_1 x5_1).f3, (rd_T34 x0_1 x5_1).f4⟩ : S34) ) (fun _ hk => hk)
   have hx11_0 := p1 0 _ rfl
   (try simp only [show (k34).sz = 5 from rfl, Nat.mul_one, Nat.add_zero] at hx11_0)
   have hf11_0 := hfr11 0
   (try simp only [show (k34).sz = 5 from rfl, Nat.mul_one, Nat.add_zero] at hf11_0)
   clear hcl11 p1 hfr11; (try clear hM11)
   go_wp2_with (first | ((with_reducible refine gate_store (t := 3) (p := 16) rfl ?_); refine store_event (t := 3) (p := 16) (v := ?vo_w12) (w1 := (wr.setCell ⟨go5, (x5_1 : Int).toNat * 5, none⟩ (.int .i64 x1_1))) ?hg ?ho ?hn ?hr ?_; (case ho => rfl); (case hg => rfl); (case hn => rfl); (case hr => first | (go_simp; done) | (go_simp; rfl)); intro w12 hw; have hg : wr.grownBy w12 (some go5) := (by rw [hw]; exact HP11.2); have hp_ : Kd.R k34 34 w12 w0.heap.size (fun k_ => (P0_ k_ ∨ w.heap.size ≤ k_)) (.slice (some ⟨go5, 0, none⟩) x0_1.length co10) y675 := (by rw [hw, Ny675.out]; exact HP11.1); clear HP11; have n0_ := Aside0.mk (hp_); have n1_ := Aside0.mk ((by rw [hw]; exact below_set (HB.out) GB5.out : Below w0.heap.size w0 w12)); have n2_ := Aside0.mk (Kept.of_grown (S := (fun k_ => P0_ k_)) hg HK.out (fun k_ e_ => (HO_0.out.1 k_ e_))); clear HO_0; clear HB; clear HK; have HO_0 := n0_; have HB := n1_; have HK := n2_; clear n0_ n1_ n2_; clear hg hw hp_; have p6 : 0 ≤ (x5_1 : Int) := of_decide_eq_true (by first | (with_reducible assumption) | assumption); have q6 : (x5_1 : Int) < ((x0_1.length : Int) : Int) := of_decide_eq_true (by first | (with_reducible assumption) | assumption); obtain ⟨ce6, hcl6, hM6, hcc6, hfr6⟩ := Kd.R_elem HO_0.out z34 (x5_1 : Int) p6 q6; obtain rfl := k34_openM hM6; have hx6_0 : w12.cell? ⟨go5, (x5_1 : Int).toNat * 5, none⟩ = some (.int .i64 ((rd_T34 y675 x5_1).f0)) := hcc6 0 _ rfl; have hx6_1 : w12.cell? ⟨go5, (x5_1 : Int).toNat * 5 + 1, none⟩ = some (.int .i64 ((rd_T34 y675 x5_1).f1)) := hcc6 1 _ rfl; have hx6_2 : w12.cell? ⟨go5, (x5_1 : Int).toNat * 5 + 2, none⟩ = some (.int .i64 ((rd_T34 y675 x5_1).f2)) := hcc6 2 _ rfl; have hx6_3 : w12.cell? ⟨go5, (x5_1 : Int).toNat * 5 + 3, none⟩ = some (.int .i64 ((rd_T34 y675 x5_1).f3)) := hcc6 3 _ rfl; have hx6_4 : w12.cell? ⟨go5, (x5_1 : Int).toNat * 5 + 4, none⟩ = some (.int .i64 ((rd_T34 y675 x5_1).f4)) := hcc6 4 _ rfl; have hf6_0 : w12.frozen? ⟨go5, (x5_1 : Int).toNat * 5, none⟩ = false := hfr6 0; have hf6_1 : w12.frozen? ⟨go5, (x5_1 : Int).toNat * 5 + 1, none⟩ = false := hfr6 1; have hf6_2 : w12.frozen? ⟨go5, (x5_1 : Int).toNat * 5 + 2, none⟩ = false := hfr6 2; have hf6_3 : w12.frozen? ⟨go5, (x5_1 : Int).toNat * 5 + 3, none⟩ = false := hfr6 3; have hf6_4 : w12.frozen? ⟨go5, (x5_1 : Int).toNat * 5 + 4, none⟩ = false := hfr6 4; clear hcl6 hcc6 hfr6; (try clear hM6); replace p6 := eq_true p6; replace q6 := eq_true q6; have HX13 := Aside0.mk (show Kd.R k34 34 w12 w0.heap.size (fun k_ => (P0_ k_ ∨ w.heap.size ≤ k_)) (.slice (some ⟨go5, 0, none⟩) x0_1.length co10) y675 from HO_0.out); obtain ⟨ce13, hcl13, hM13, p3, hfr13⟩ := Kd.R_elem HX13.out z34 (x5_1 : Int) (of_decide_eq_true (by first | (with_reducible assumption) | assumption)) (by have h_ : (x5_1 : Int) < ((x0_1.length : Int) : Int) := of_decide_eq_true (by first | (with_reducible assumption) | assumption); first | exact h_ | (have e_ := (Kd.R_reads' HO_0.out).1; omega) | simpa using h_); obtain rfl := k34_openM hM13; have HP13 := Kd.R_seg HX13.out (x5_1 : Int) (of_decide_eq_true (by first | (with_reducible assumption) | assumption)) (by have h_ : (x5_1 : Int) < ((x0_1.length : Int) : Int) := of_decide_eq_true (by first | (with_reducible assumption) | assumption); first | exact h_ | (have e_ := (Kd.R_reads' HO_0.out).1; omega) | simpa using h_) (seg := [.int .i64 (wrap64 (x1_1 + 1))]) (j := 1) hcl13 p3 (show 2 ≤ 5 from by decide) (x' := (⟨(rd_T34 y675 x5_1).f0, wrap64 (x1_1 + 1), (rd_T34 y675 x5_1).f2, (rd_T34 y675 x5_1).f3, (rd_T34 y675 x5_1).f4⟩ : S34)) (k34_mkM _ _ _ (⟨(rd_T34 y675 x5_1).f0, wrap64 (x1_1 + 1), (rd_T34 y675 x5_1).f2, (rd_T34 y675 x5_1).f3, (rd_T34 y675 x5_1).f4⟩ : S34) ) (fun _ hk => hk); have hx13_1 := p3 1 _ rfl; (try simp only [show (k34).sz = 5 from rfl, Nat.mul_one, Nat.add_zero] at hx13_1); have hf13_1 := hfr13 1; (try simp only [show (k34).sz = 5 from rfl, Nat.mul_one, Nat.add_zero] at hf13_1); clear hcl13 p3 hfr13; (try clear hM13)) | ((with_reducible refine gate_store (t := 3) (p := 23) rfl ?_); refine store_event (t := 3) (p := 23) (v := ?vo_w14) (w1 := (w12.setCell ⟨go5, (x5_1 : Int).toNat * 5 + 1, none⟩ (.int .i64 (wrap64 (x1_1 + 1))))) ?hg ?ho ?hn ?hr ?_; (case ho => rfl); (case hg => rfl); (case hn => rfl); (case hr => first | (go_simp; done) | (go_simp; rfl)); intro w14 hw; have hg : w12.grownBy w14 (some go5) := (by rw [hw]; exact HP13.2); have hp_ : Kd.R k34 34 w14 w0.heap.size (fun k_ => (P0_ k_ ∨ w.heap.size ≤ k_)) (.slice (some ⟨go5, 0, none⟩) x0_1.length co10) y676 := (by rw [hw, Ny676.out]; exact HP13.1); clear HP13; have n0_ := Aside0.mk (hp_); have n1_ := Aside0.mk ((by rw [hw]; exact below_set (HB.out) GB5.out : Below w0.heap.size w0 w14)); have n2_ := Aside0.mk (Kept.of_grown (S := (fun k_ => P0_ k_)) hg HK.out (fun k_ e_ => (HO_0.out.1 k_ e_))); clear HO_0; clear HB; clear HK; have HO_0 := n0_; have HB := n1_; have HK := n2_; clear n0_ n1_ n2_; clear hg hw hp_; have p7 : 0 ≤ (x5_1 : Int) := of_decide_eq_true (by first | (with_reducible assumption) | assumption); have q7 : (x5_1 : Int) < ((x0_1.length : Int) : Int) := of_decide_eq_true (by first | (with_reducible assumption) | assumption); obtain ⟨ce7, hcl7, hM7, hcc7, hfr7⟩ := Kd.R_elem HO_0.out z34 (x5_1 : Int) p7 q7; obtain rfl := k34_openM hM7; have hx7_0 : w14.cell? ⟨go5, (x5_1 : Int).toNat * 5, none⟩ = some (.int .i64 ((rd_T34 y676 x5_1).f0)) := hcc7 0 _ rfl; have hx7_1 : w14.cell? ⟨go5, (x5_1 : Int).toNat * 5 + 1, none⟩ = some (.int .i64 ((rd_T34 y676 x5_1).f1)) := hcc7 1 _ rfl; have hx7_2 : w14.cell? ⟨go5, (x5_1 : Int).toNat * 5 + 2, none⟩ = some (.int .i64 ((rd_T34 y676 x5_1).f2)) := hcc7 2 _ rfl; have hx7_3 : w14.cell? ⟨go5, (x5_1 : Int).toNat * 5 + 3, none⟩ = some (.int .i64 ((rd_T34 y676 x5_1).f3)) := hcc7 3 _ rfl; have hx7_4 : w14.cell? ⟨go5, (x5_1 : Int).toNat * 5 + 4, none⟩ = some (.int .i64 ((rd_T34 y676 x5_1).f4)) := hcc7 4 _ rfl; have hf7_0 : w14.frozen? ⟨go5, (x5_1 : Int).toNat * 5, none⟩ = false := hfr7 0; have hf7_1 : w14.frozen? ⟨go5, (x5_1 : Int).toNat * 5 + 1, none⟩ = false := hfr7 1; have hf7_2 : w14.frozen? ⟨go5, (x5_1 : Int).toNat * 5 + 2, none⟩ = false := hfr7 2; have hf7_3 : w14.frozen? ⟨go5, (x5_1 : Int).toNat * 5 + 3, none⟩ = false := hfr7 3; have hf7_4 : w14.frozen? ⟨go5, (x5_1 : Int).toNat * 5 + 4, none⟩ = false := hfr7 4; clear hcl7 hcc7 hfr7; (try clear hM7); replace p7 := eq_true p7; replace q7 := eq_true q7; have HX15 := Aside0.mk (show Kd.R k34 34 w14 w0.heap.size (fun k_ => (P0_ k_ ∨ w.heap.size ≤ k_)) (.slice (some ⟨go5, 0, none⟩) x0_1.length co10) y676 from HO_0.out); obtain ⟨ce15, hcl15, hM15, p4, hfr15⟩ := Kd.R_elem HX15.out z34 (x5_1 : Int) (of_decide_eq_true (by first | (with_reducible assumption) | assumption)) (by have h_ : (x5_1 : Int) < ((x0_1.length : Int) : Int) := of_decide_eq_true (by first | (with_reducible assumption) | assumption); first | exact h_ | (have e_ := (Kd.R_reads' HO_0.out).1; omega) | simpa using h_); obtain rfl := k34_openM hM15; have HP15 := Kd.R_seg HX15.out (x5_1 : Int) (of_decide_eq_true (by first | (with_reducible assumption) | assumption)) (by have h_ : (x5_1 : Int) < ((x0_1.length : Int) : Int) := of_decide_eq_true (by first | (with_reducible assumption) | assumption); first | exact h_ | (have e_ := (Kd.R_reads' HO_0.out).1; omega) | simpa using h_) (seg := [.int .i64 (wrap64 ((wrap64 (x1_1 + 1)) + 1))]) (j := 2) hcl15 p4 (show 3 ≤ 5 from by decide) (x' := (⟨(rd_T34 y676 x5_1).f0, (rd_T34 y676 x5_1).f1, wrap64 ((wrap64 (x1_1 + 1)) + 1), (rd_T34 y676 x5_1).f3, (rd_T34 y676 x5_1).f4⟩ : S34)) (k34_mkM _ _ _ (⟨(rd_T34 y676 x5_1).f0, (rd_T34 y676 x5_1).f1, wrap64 ((wrap64 (x1_1 + 1)) + 1), (rd_T34 y676 x5_1).f3, (rd_T34 y676 x5_1).f4⟩ : S34) ) (fun _ hk => hk); have hx15_2 := p4 2 _ rfl; (try simp only [show (k34).sz = 5 from rfl, Nat.mul_one, Nat.add_zero] at hx15_2); have hf15_2 := hfr15 2; (try simp only [show (k34).sz = 5 from rfl, Nat.mul_one, Nat.add_zero] at hf15_2); clear hcl15 p4 hfr15; (try clear hM15)) | ((with_reducible refine gate_store (t := 3) (p := 30) rfl ?_); refine store_event (t := 3) (p := 30) (v := ?vo_w16) (w1 := (w14.setCell ⟨go5, (x5_1 : Int).toNat * 5 + 2, none⟩ (.int .i64 (wrap64 ((wrap64 (x1_1 + 1)) + 1))))) ?hg ?ho ?hn ?hr ?_; (case ho => rfl); (case hg => rfl); (case hn => rfl); (case hr => first | (go_simp; done) | (go_simp; rfl)); intro w16 hw; have hg : w14.grownBy w16 (some go5) := (by rw [hw]; exact HP15.2); have hp_ : Kd.R k34 34 w16 w0.heap.size (fun k_ => (P0_ k_ ∨ w.heap.size ≤ k_)) (.slice (some ⟨go5, 0, none⟩) x0_1.length co10) y677 := (by rw [hw, Ny677.out]; exact HP15.1); clear HP15; have n0_ := Aside0.mk (hp_); have n1_ := Aside0.mk ((by rw [hw]; exact below_set (HB.out) GB5.out : Below w0.heap.size w0 w16)); have n2_ := Aside0.mk (Kept.of_grown (S := (fun k_ => P0_ k_)) hg HK.out (fun k_ e_ => (HO_0.out.1 k_ e_))); clear HO_0; clear HB; clear HK; have HO_0 := n0_; have HB := n1_; have HK := n2_; clear n0_ n1_ n2_; clear hg hw hp_; have p8 : 0 ≤ (x5_1 : Int) := of_decide_eq_true (by first | (with_reducible assumption) | assumption); have q8 : (x5_1 : Int) < ((x0_1.length : Int) : Int) := of_decide_eq_true (by first | (with_reducible assumption) | assumption); obtain ⟨ce8, hcl8, hM8, hcc8, hfr8⟩ := Kd.R_elem HO_0.out z34 (x5_1 : Int) p8 q8; obtain rfl := k34_openM hM8; have hx8_0 : w16.cell? ⟨go5, (x5_1 : Int).toNat * 5, none⟩ = some (.int .i64 ((rd_T34 y677 x5_1).f0)) := hcc8 0 _ rfl; have hx8_1 : w16.cell? ⟨go5, (x5_1 : Int).toNat * 5 + 1, none⟩ = some (.int .i64 ((rd_T34 y677 x5_1).f1)) := hcc8 1 _ rfl; have hx8_2 : w16.cell? ⟨go5, (x5_1 : Int).toNat * 5 + 2, none⟩ = some (.int .i64 ((rd_T34 y677 x5_1).f2)) := hcc8 2 _ rfl; have hx8_3 : w16.cell? ⟨go5, (x5_1 : Int).toNat * 5 + 3, none⟩ = some (.int .i64 ((rd_T34 y677 x5_1).f3)) := hcc8 3 _ rfl; have hx8_4 : w16.cell? ⟨go5, (x5_1 : Int).toNat * 5 + 4, none⟩ = some (.int .i64 ((rd_T34 y677 x5_1).f4)) := hcc8 4 _ rfl; have hf8_0 : w16.frozen? ⟨go5, (x5_1 : Int).toNat * 5, none⟩ = false := hfr8 0; have hf8_1 : w16.frozen? ⟨go5, (x5_1 : Int).toNat * 5 + 1, none⟩ = false := hfr8 1; have hf8_2 : w16.frozen? ⟨go5, (x5_1 : Int).toNat * 5 + 2, none⟩ = false := hfr8 2; have hf8_3 : w16.frozen? ⟨go5, (x5_1 : Int).toNat * 5 + 3, none⟩ = false := hfr8 3; have hf8_4 : w16.frozen? ⟨go5, (x5_1 : Int).toNat * 5 + 4, none⟩ = false := hfr8 4; clear hcl8 hcc8 hfr8; (try clear hM8); replace p8 := eq_true p8; replace q8 := eq_true q8; have HX17 := Aside0.mk (show Kd.R k34 34 w16 w0.heap.size (fun k_ => (P0_ k_ ∨ w.heap.size ≤ k_)) (.slice (some ⟨go5, 0, none⟩) x0_1.length co10) y677 from HO_0.out); obtain ⟨ce17, hcl17, hM17, q0, hfr17⟩ := Kd.R_elem HX17.out z34 (x5_1 : Int) (of_decide_eq_true (by first | (with_reducible assumption) | assumption)) (by have h_ : (x5_1 : Int) < ((x0_1.length : Int) : Int) := of_decide_eq_true (by first | (with_reducible assumption) | assumption); first | exact h_ | (have e_ := (Kd.R_reads' HO_0.out).1; omega) | simpa using h_); obtain rfl := k34_openM hM17; have HP17 := Kd.R_seg HX17.out (x5_1 : Int) (of_decide_eq_true (by first | (with_reducible assumption) | assumption)) (by have h_ : (x5_1 : Int) < ((x0_1.length : Int) : Int) := of_decide_eq_true (by first | (with_reducible assumption) | assumption); first | exact h_ | (have e_ := (Kd.R_reads' HO_0.out).1; omega) | simpa using h_) (seg := [.int .i64 (wrap64 ((wrap64 ((wrap64 (x1_1 + 1)) + 1)) + 1))]) (j := 3) hcl17 q0 (show 4 ≤ 5 from by decide) (x' := (⟨(rd_T34 y677 x5_1).f0, (rd_T34 y677 x5_1).f1, (rd_T34 y677 x5_1).f2, wrap64 ((wrap64 ((wrap64 (x1_1 + 1)) + 1)) + 1), (rd_T34 y677 x5_1).f4⟩ : S34)) (k34_mkM _ _ _ (⟨(rd_T34 y677 x5_1).f0, (rd_T34 y677 x5_1).f1, (rd_T34 y677 x5_1).f2, wrap64 ((wrap64 ((wrap64 (x1_1 + 1)) + 1)) + 1), (rd_T34 y677 x5_1).f4⟩ : S34) ) (fun _ hk => hk); have hx17_3 := q0 3 _ rfl; (try simp only [show (k34).sz = 5 from rfl, Nat.mul_one, Nat.add_zero] at hx17_3); have hf17_3 := hfr17 3; (try simp only [show (k34).sz = 5 from rfl, Nat.mul_one, Nat.add_zero] at hf17_3); clear hcl17 q0 hfr17; (try clear hM17)) | ((with_reducible refine gate_store (t := 3) (p := 37) rfl ?_); refine store_event (t := 3) (p := 37) (v := ?vo_w18) (w1 := (w16.setCell ⟨go5, (x5_1 : Int).toNat * 5 + 3, none⟩ (.int .i64 (wrap64 ((wrap64 ((wrap64 (x1_1 + 1)) + 1)) + 1))))) ?hg ?ho ?hn ?hr ?_; (case ho => rfl); (case hg => rfl); (case hn => rfl); (case hr => first | (go_simp; done) | (go_simp; rfl)); intro w18 hw; have hg : w16.grownBy w18 (some go5) := (by rw [hw]; exact HP17.2); have hp_ : Kd.R k34 34 w18 w0.heap.size (fun k_ => (P0_ k_ ∨ w.heap.size ≤ k_)) (.slice (some ⟨go5, 0, none⟩) x0_1.length co10) y678 := (by rw [hw, Ny678.out]; exact HP17.1); clear HP17; have n0_ := Aside0.mk (hp_); have n1_ := Aside0.mk ((by rw [hw]; exact below_set (HB.out) GB5.out : Below w0.heap.size w0 w18)); have n2_ := Aside0.mk (Kept.of_grown (S := (fun k_ => P0_ k_)) hg HK.out (fun k_ e_ => (HO_0.out.1 k_ e_))); clear HO_0; clear HB; clear HK; have HO_0 := n0_; have HB := n1_; have HK := n2_; clear n0_ n1_ n2_; clear hg hw hp_; have p9 : 0 ≤ (x5_1 : Int) := of_decide_eq_true (by first | (with_reducible assumption) | assumption); have q9 : (x5_1 : Int) < ((x0_1.length : Int) : Int) := of_decide_eq_true (by first | (with_reducible assumption) | assumption); obtain ⟨ce9, hcl9, hM9, hcc9, hfr9⟩ := Kd.R_elem HO_0.out z34 (x5_1 : Int) p9 q9; obtain rfl := k34_openM hM9; have hx9_0 : w18.cell? ⟨go5, (x5_1 : Int).toNat * 5, none⟩ = some (.int .i64 ((rd_T34 y678 x5_1).f0)) := hcc9 0 _ rfl; have hx9_1 : w18.cell? ⟨go5, (x5_1 : Int).toNat * 5 + 1, none⟩ = some (.int .i64 ((rd_T34 y678 x5_1).f1)) := hcc9 1 _ rfl; have hx9_2 : w18.cell? ⟨go5, (x5_1 : Int).toNat * 5 + 2, none⟩ = some (.int .i64 ((rd_T34 y678 x5_1).f2)) := hcc9 2 _ rfl; have hx9_3 : w18.cell? ⟨go5, (x5_1 : Int).toNat * 5 + 3, none⟩ = some (.int .i64 ((rd_T34 y678 x5_1).f3)) := hcc9 3 _ rfl; have hx9_4 : w18.cell? ⟨go5, (x5_1 : Int).toNat * 5 + 4, none⟩ = some (.int .i64 ((rd_T34 y678 x5_1).f4)) := hcc9 4 _ rfl; have hf9_0 : w18.frozen? ⟨go5, (x5_1 : Int).toNat * 5, none⟩ = false := hfr9 0; have hf9_1 : w18.frozen? ⟨go5, (x5_1 : Int).toNat * 5 + 1, none⟩ = false := hfr9 1; have hf9_2 : w18.frozen? ⟨go5, (x5_1 : Int).toNat * 5 + 2, none⟩ = false := hfr9 2; have hf9_3 : w18.frozen? ⟨go5, (x5_1 : Int).toNat * 5 + 3, none⟩ = false := hfr9 3; have hf9_4 : w18.frozen? ⟨go5, (x5_1 : Int).toNat * 5 + 4, none⟩ = false := hfr9 4; clear hcl9 hcc9 hfr9; (try clear hM9); replace p9 := eq_true p9; replace q9 := eq_true q9; have HX19 := Aside0.mk (show Kd.R k34 34 w18 w0.heap.size (fun k_ => (P0_ k_ ∨ w.heap.size ≤ k_)) (.slice (some ⟨go5, 0, none⟩) x0_1.length co10) y678 from HO_0.out); obtain ⟨ce19, hcl19, hM19, q1, hfr19⟩ := Kd.R_elem HX19.out z34 (x5_1 : Int) (of_decide_eq_true (by first | (with_reducible assumption) | assumption)) (by have h_ : (x5_1 : Int) < ((x0_1.length : Int) : Int) := of_decide_eq_true (by first | (with_reducible assumption) | assumption); first | exact h_ | (have e_ := (Kd.R_reads' HO_0.out).1; omega) | simpa using h_); obtain rfl := k34_openM hM19; have HP19 := Kd.R_seg HX19.out (x5_1 : Int) (of_decide_eq_true (by first | (with_reducible assumption) | assumption)) (by have h_ : (x5_1 : Int) < ((x0_1.length : Int) : Int) := of_decide_eq_true (by first | (with_reducible assumption) | assumption); first | exact h_ | (have e_ := (Kd.R_reads' HO_0.out).1; omega) | simpa using h_) (seg := [.int .i64 (wrap64 ((wrap64 ((wrap64 ((wrap64 (x1_1 + 1)) + 1)) + 1)) + 1))]) (j := 4) hcl19 q1 (show 5 ≤ 5 from by decide) (x' := (⟨(rd_T34 y678 x5_1).f0, (rd_T34 y678 x5_1).f1, (rd_T34 y678 x5_1).f2, (rd_T34 y678 x5_1).f3, wrap64 ((wrap64 ((wrap64 ((wrap64 (x1_1 + 1)) + 1)) + 1)) + 1)⟩ : S34)) (k34_mkM _ _ _ (⟨(rd_T34 y678 x5_1).f0, (rd_T34 y678 x5_1).f1, (rd_T34 y678 x5_1).f2, (rd_T34 y678 x5_1).f3, wrap64 ((wrap64 ((wrap64 ((wrap64 (x1_1 + 1)) + 1)) + 1)) + 1)⟩ : S34) ) (fun _ hk => hk); have hx19_4 := q1 4 _ rfl; (try simp only [show (k34).sz = 5 from rfl, Nat.mul_one, Nat.add_zero] at hx19_4); have hf19_4 := hfr19 4; (try simp only [show (k34).sz = 5 from rfl, Nat.mul_one, Nat.add_zero] at hf19_4); clear hcl19 q1 hfr19; (try clear hM19)) | ((with_reducible refine gate_store (t := 3) (p := 44) rfl ?_); refine store_event (t := 3) (p := 44) (v := ?vo_w20) (w1 := (w18.setCell ⟨go5, (x5_1 : Int).toNat * 5 + 4, none⟩ (.int .i64 (wrap64 ((wrap64 ((wrap64 ((wrap64 (x1_1 + 1)) + 1)) + 1)) + 1))))) ?hg ?ho ?hn ?hr ?_; (case ho => rfl); (case hg => rfl); (case hn => rfl); (case hr => first | (go_simp; done) | (go_simp; rfl)); intro w20 hw; have hg : w18.grownBy w20 (some go5) := (by rw [hw]; exact HP19.2); have hp_ : Kd.R k34 34 w20 w0.heap.size (fun k_ => (P0_ k_ ∨ w.heap.size ≤ k_)) (.slice (some ⟨go5, 0, none⟩) x0_1.length co10) y679 := (by rw [hw, Ny679.out]; exact HP19.1); clear HP19; have n0_ := Aside0.mk (hp_); have n1_ := Aside0.mk ((by rw [hw]; exact below_set (HB.out) GB5.out : Below w0.heap.size w0 w20)); have n2_ := Aside0.mk (Kept.of_grown (S := (fun k_ => P0_ k_)) hg HK.out (fun k_ e_ => (HO_0.out.1 k_ e_))); clear HO_0; clear HB; clear HK; have HO_0 := n0_; have HB := n1_; have HK := n2_; clear n0_ n1_ n2_; clear hg hw hp_))
   go_roundg k1
   case measure => have := HK1.out; omega
   case rel => exact ⟨(y679), (wrap64 ((wrap64 ((wrap64 ((wrap64 ((wrap64 (x1_1 + 1)) + 1)) + 1)) + 1)) + 1)), (wrap64 (x5_1 + 1)), (by first | rfl | (simp; done) | (simp [*]; done)), (by first | rfl | (simp; done) | (simp [*]; done)), H', ⟨by have := HK1.out; omega⟩, ⟨by (with_reducible repeat (first | apply Kd.R_alloc | apply Kd.R_drewN | apply Kd.R_drew)); exact HO_0.out⟩, ⟨by repeat (first | (with_reducible first | exact HK.out | apply Kept.alloc | apply Kept.drewN | apply Kept.drew) | exact HK.out)⟩, ⟨by repeat (first | (with_reducible first | exact HB.out | apply below_alloc | apply pw_below_drewN | apply below_drew1) | exact HB.out)⟩⟩
end Go.Proofs.Ytljdcinpjnijcaa.Pr
end
section
namespace Go.Proofs.Ytljdcinpjnijcaa.Pr
open Go.RowKit Go.Proofs.YtljdcinpjnijcaaW.PrintWords Go.Proofs.YtljdcinpjnijcaaW.PrintLast Go.Proofs.YtljdcinpjnijcaaW.PrintMore
attribute [local go_sem] max2_int min2_int max_two min_two max_three min_three max_four min_four
set_option linter.unusedVariables false
set_option linter.unusedSimpArgs false
def laws_markNet.f (k : Nat) (a0_0 : Int) (l0_1 : List (S34)) (a1 : Int) : Option (Int × (List (S34))) := (laws_markArcS.f k l0_1 a1).bind fun bt681 => (some (bt681.1, bt681.2))
set_option maxHeartbeats 8000000 in
set_option maxRecDepth 100000 in
theorem laws_markNet.calls (k : Nat) (a0_0 : Int) (P0_1_ : Nat → Prop) (u9000_ : Value) (l0_1 : List (S34)) (a1 : Int) (r1 : Int) (r2 : List (S34)) (w0 w : World) (hB : Below w0.heap.size w0 w) (ho0_1 : Kd.R k34 34 w w0.heap.size P0_1_ u9000_ l0_1) (h : laws_markNet.f k a0_0 l0_1 a1 = some (r1, r2)) :
  Calls Try.prog 33 #[.agg #[.int .i64 a0_0, u9000_], .int .i64 a1] w fun e w' => e = .returned (.int .i64 r1) ∧ Kd.R k34 34 w' w0.heap.size (fun k_ => (P0_1_ k_ ∨ w.heap.size ≤ k_)) u9000_ r2 ∧ Below w0.heap.size w0 w' ∧ Kept w w' (fun k_ => P0_1_ k_) := by
 have hu25 := Try.underlying25
 have HO0_1 := Aside0.mk (show Kd.R k34 34 w w0.heap.size (fun k_ => (P0_1_ k_ ∨ w.heap.size ≤ k_)) u9000_ l0_1 from Kd.R_mono ho0_1 (fun k_ hk => (.inl hk)))
 have HK := Aside0.mk (Kept.refl w (fun k_ => P0_1_ k_))
 have HW0 := Aside0.mk hB.size
 have HB := Aside0.mk hB
 clear hB
 have H : ((laws_markArcS.f k l0_1 a1).bind fun bt681 => (some (bt681.1, bt681.2))) = some (r1, r2) := h
 clear h
 replace H := Option.bind_eq_some_iff.mp H
 obtain ⟨⟨t681, t682⟩, A30, H⟩ := H
 replace H : (some (t681, t682)) = some (r1, r2) := H
 have A3 := Aside0.mk A30
 clear A30
 simp only [Option.some.injEq, Prod.mk.injEq] at H
 obtain ⟨rfl, rfl⟩ := H
 obtain ⟨Ao4, co4, eo4⟩ := Kd.R_slice HO0_1.out
 subst eo4
 go_enter Try.func33, Try.ntmps33
 go_wp2_with (first | ((with_reducible refine gate_dst (N := 2) rfl ?_); refine box_event ?hg (N := 2) ?hd (cs := #[.int .i64 a0_0, .slice Ao4 l0_1.length co4]) (t := 25) ?hr ?_; (case hd => rfl); (case hg => rfl); (case hr => first | (go_simp; done) | (go_simp; rfl)); intro gb680 hg w5 hbox hb; have n0_ := Aside0.mk (Kd.R_below (by (with_reducible repeat (first | apply Kd.R_alloc | apply Kd.R_drewN | apply Kd.R_drew)); exact HO0_1.out) hb); have n1_ := Aside0.mk (Kept.below (S := (fun k_ => P0_1_ k_)) (by repeat (first | (with_reducible first | exact HK.out | apply Kept.alloc | apply Kept.drewN | apply Kept.drew) | exact HK.out)) hb); have n2_ := Aside0.mk (below_step (by repeat (first | (with_reducible first | exact HB.out | apply below_alloc | apply pw_below_drewN | apply below_drew1) | exact HB.out)) hb); have n3_ := Aside0.mk (hbox); have n4_ := Aside0.mk ((by rw [hg]; exact (by first | exact HK.out.1 | exact (show Kept w _ (fun k_ => P0_1_ k_) from by repeat (first | (with_reducible first | exact HK.out | apply Kept.alloc | apply Kept.drewN | apply Kept.drew) | exact HK.out)).1) : w.heap.size ≤ gb680)); have n5_ := Aside0.mk ((by rw [hg]; exact (below_size (by repeat (first | (with_reducible first | exact HB.out | apply below_alloc | apply pw_below_drewN | apply below_drew1) | exact HB.out))) : w0.heap.size ≤ gb680)); clear HO0_1; clear HK; clear HB; have HO0_1 := n0_; have HK := n1_; have HB := n2_; have BK680 := n3_; have GW680 := n4_; have GE680 := n5_; clear n0_ n1_ n2_ n3_ n4_ n5_; clear hb hbox hg; have hcz6_0 : w5.cell? ⟨gb680, 0, none⟩ = some (.int .i64 a0_0) := (blk_cell BK680.out 0).trans rfl; have hcz6_1 : w5.cell? ⟨gb680, 1, none⟩ = some (.slice Ao4 l0_1.length co4) := (blk_cell BK680.out 1).trans rfl; have hfz6_0 := blk_frozen BK680.out 0; have hfz6_1 := blk_frozen BK680.out 1) | ((with_reducible refine gate_callee (f := 68) rfl ?_); refine goesL_ (some 8) rfl rfl Try.func68 (by kernel_rfl) rfl #[.slice Ao4 l0_1.length co4, .int .i64 a1] rfl (by (try simp only [List.map_toArray, List.map_cons, List.map_nil]); first | done | rfl | (simp only [List.length_drop, List.length_take]; rfl)) ?_; (with_reducible refine (laws_markArcS.calls k (fun k_ => some k_ = (.slice Ao4 l0_1.length co4 : Value).ownBlock) (.slice Ao4 l0_1.length co4) l0_1 a1 t681 t682 w0 _ ?side1 ?side2 A3.out).mono ?_); (case side1 => repeat (first | (with_reducible first | exact HB.out | apply below_alloc | apply pw_below_drewN | apply below_drew1 | refine below_set ?_ GE680.out) | exact HB.out)); (case side2 => exact Kd.R_tight rfl HO0_1.out); rintro e w7 ⟨rfl, hy0, hb, hkp⟩; refine ⟨_, rfl, ?_⟩; have n0_ := Aside0.mk (Kd.R_reok rfl hy0 (fun k_ e_ => HO0_1.out.1 k_ e_)); have n1_ := Aside0.mk (blk_kept (by (with_reducible repeat (first | refine blk_drewN ?_ _ | refine blk_drew ?_ | refine blk_alloc ?_ _)); exact BK680.out) hkp (fun hs_ => (fun e_ => (Kd.R_ne HO0_1.out BK680.out (by decide)) e_) hs_)); have n2_ := Aside0.mk (Kept.then_ (S := (fun k_ => P0_1_ k_)) (by repeat (first | (with_reducible first | exact HK.out | apply Kept.alloc | apply Kept.drewN | apply Kept.drew | refine Kept.setCell ?_ (.inr GW680.out) _) | exact HK.out)) hkp (fun k_ hs_ => (fun e_ => (HO0_1.out.1 k_ e_.symm)) hs_)); have n3_ := Aside0.mk (hb); clear HO0_1; clear BK680; clear HK; clear HB; have HO0_1 := n0_; have BK680 := n1_; have HK := n2_; have HB := n3_; clear n0_ n1_ n2_ n3_; (try clear hb); (try clear hkp); (try clear hy0)))
 go_ret
 exact ⟨by first | rfl | (simp [errW_none, errW_some] <;> rfl) | (simp [*, errW_none, errW_some] <;> rfl), by (with_reducible repeat (first | apply Kd.R_alloc | apply Kd.R_drewN | apply Kd.R_drew)); exact HO0_1.out, by repeat (first | (with_reducible first | exact HB.out | apply below_alloc | apply pw_below_drewN | apply below_drew1 | refine below_set ?_ GE680.out) | exact HB.out), by repeat (first | (with_reducible first | exact HK.out | apply Kept.alloc | apply Kept.drewN | apply Kept.drew | refine Kept.setCell ?_ (.inr GW680.out) _) | exact HK.out)⟩
end Go.Proofs.Ytljdcinpjnijcaa.Pr
end
section
namespace Go.Proofs.Ytljdcinpjnijcaa.Pr
open Go.RowKit Go.Proofs.YtljdcinpjnijcaaW.PrintWords Go.Proofs.YtljdcinpjnijcaaW.PrintLast Go.Proofs.YtljdcinpjnijcaaW.PrintMore
attribute [local go_sem] max2_int min2_int max_two min_two max_three min_three max_four min_four
set_option linter.unusedVariables false
set_option linter.unusedSimpArgs false
def laws_markIntS.l0 : Nat → List Int → Int → Int → Option (Int × List Int)
 | 0, _, _, _ => none
 | k + 1, x0, x1, x5 => if x5 < (x0.length : Int) then (if 0 ≤ x5 then (laws_markIntS.l0 k (x0.set (x5 : Int).toNat x1) (wrap64 (x1 + 1)) (wrap64 (x5 + 1))) else (none)) else (some (x1, x0))
def laws_markIntS.f (k : Nat) (l0 : List Int) (a1 : Int) : Option (Int × List Int) := laws_markIntS.l0 k l0 a1 0
set_option maxHeartbeats 8000000 in
set_option maxRecDepth 100000 in
theorem laws_markIntS.calls (k : Nat) (P0_ : Nat → Prop) (p0 : Value) (l0 : List Int) (a1 : Int) (r1 : Int) (r2 : List Int) (w0 w : World) (hB : Below w0.heap.size w0 w) (ho0 : Kd.R (Kd.int .i64) 3 w w0.heap.size P0_ p0 l0) (h : laws_markIntS.f k l0 a1 = some (r1, r2)) :
  Calls Try.prog 34 #[p0, .int .i64 a1] w fun e w' => e = .returned (.int .i64 r1) ∧ Kd.R (Kd.int .i64) 3 w' w0.heap.size (fun k_ => (P0_ k_ ∨ w.heap.size ≤ k_)) p0 r2 ∧ Below w0.heap.size w0 w' ∧ Kept w w' (fun k_ => P0_ k_) := by
 have HO0 := Aside0.mk (show Kd.R (Kd.int .i64) 3 w w0.heap.size (fun k_ => (P0_ k_ ∨ w.heap.size ≤ k_)) p0 l0 from Kd.R_mono ho0 (fun k_ hk => (.inl hk)))
 have HK := Aside0.mk (Kept.refl w (fun k_ => P0_ k_))
 have HW0 := Aside0.mk hB.size
 have HB := Aside0.mk hB
 clear hB
 have H : (laws_markIntS.l0 k l0 a1 0) = some (r1, r2) := h
 clear h
 have H' := Aside0.mk H
 clear H
 go_enter Try.func34, Try.ntmps34
 go_wp2
 go_loopg [1, 5] k (fun kq v1 v5 w' => ∃ (x0_1 : List Int) (x1_1 : Int) (x5_1 : Int), v1 = .int .i64 x1_1 ∧ v5 = .int .i64 x5_1 ∧ Aside0 (laws_markIntS.l0 kq x0_1 x1_1 x5_1 = some (r1, r2)) ∧ Aside0 (kq ≤ k) ∧ Aside0 (Kd.R (Kd.int .i64) 3 w' w0.heap.size (fun k_ => (P0_ k_ ∨ w.heap.size ≤ k_)) p0 x0_1) ∧ Aside0 (Kept w w' (fun k_ => P0_ k_)) ∧ Aside0 (Below w0.heap.size w0 w'))
 case atStart => exact ⟨(l0), (a1), (0), (by first | rfl | (simp; done) | (simp [*]; done)), (by first | rfl | (simp; done) | (simp [*]; done)), H', ⟨Nat.le_refl _⟩, ⟨by (with_reducible repeat (first | apply Kd.R_alloc | apply Kd.R_drewN | apply Kd.R_drew)); exact HO0.out⟩, ⟨by repeat (first | (with_reducible first | exact HK.out | apply Kept.alloc | apply Kept.drewN | apply Kept.drew) | exact HK.out)⟩, ⟨by repeat (first | (with_reducible first | exact HB.out | apply below_alloc | apply pw_below_drewN | apply below_drew1) | exact HB.out)⟩⟩
 case round =>
  clear H'
  try clear p2
  obtain ⟨x0_1, x1_1, x5_1, rfl, rfl, HA, HK1, HO_0, HK, HB⟩ := hrel
  cases gk with
  | zero => exact absurd HA.out (by simp [laws_markIntS.l0])
  | succ k1 =>
   have H := HA.out
   clear HA
   simp only [laws_markIntS.l0] at H
   by_cases c3 : x5_1 < (x0_1.length : Int)
   case neg =>
    rw [if_neg c3] at H
    have c3b0 : decide (x5_1 < (x0_1.length : Int)) = false := decide_eq_false c3
    clear c3
    simp only [Option.some.injEq, Prod.mk.injEq] at H
    obtain ⟨rfl, rfl⟩ := H
    obtain ⟨Ao9, co9, eo9⟩ := Kd.R_slice HO_0.out
    subst eo9
    go_wp2
    go_ret
    exact ⟨by first | rfl | (simp [errW_none, errW_some] <;> rfl) | (simp [*, errW_none, errW_some] <;> rfl), by (with_reducible repeat (first | apply Kd.R_alloc | apply Kd.R_drewN | apply Kd.R_drew)); exact HO_0.out, by repeat (first | (with_reducible first | exact HB.out | apply below_alloc | apply pw_below_drewN | apply below_drew1) | exact HB.out), by repeat (first | (with_reducible first | exact HK.out | apply Kept.alloc | apply Kept.drewN | apply Kept.drew) | exact HK.out)⟩
   rw [if_pos c3] at H
   have c3b0 : decide (x5_1 < (x0_1.length : Int)) = true := decide_eq_true c3
   clear c3
   by_cases c4 : 0 ≤ x5_1
   case neg =>
    rw [if_neg c4] at H
    exact absurd H (by simp)
   rw [if_pos c4] at H
   have c4b0 : decide (0 ≤ x5_1) = true := decide_eq_true c4
   clear c4
   obtain ⟨y683, hy683⟩ : ∃ y_ : List Int, y_ = (x0_1.set (x5_1 : Int).toNat x1_1) := ⟨_, rfl⟩
   replace H : (laws_markIntS.l0 k1 y683 (wrap64 (x1_1 + 1)) (wrap64 (x5_1 + 1))) = some (r1, r2) := by first | (rw [hy683]; with_reducible exact H) | (have H2_ := (Option.bind_some _ _).symm.trans H; rw [hy683]; with_reducible exact H2_) | (have H2_ := (Option.bind_some _ _).symm.trans H; with_reducible exact H2_) | with_reducible exact H | (rw [hy683]; exact H) | exact H
   have Ny683 := Aside0.mk hy683
   clear hy683
   have H' := Aside0.mk H
   clear H
   obtain ⟨Ao6, co6, eo6⟩ := Kd.R_slice HO_0.out
   subst eo6
   have p5 : 0 ≤ (x5_1 : Int) := of_decide_eq_true (by first | (with_reducible assumption) | assumption)
   have q5 : (x5_1 : Int) < ((x0_1.length : Int) : Int) := of_decide_eq_true (by first | (with_reducible assumption) | assumption)
   obtain ⟨go5, co5, eo5, gb5, gl5, cl5, HG5⟩ := Kd.R_form HO_0.out (by omega)
   (first | cases eo5 | (injection eo5 with ea_ en_ ec_; (first | subst ea_ | (injection ea_ with ea_; subst ea_)); subst ec_; clear en_))
   have GB5 := Aside0.mk gb5
   have GG5 := Aside0.mk HG5
   clear gb5 gl5 HG5
   have HMgo5 := Aside0.mk (show (P0_ go5 ∨ w.heap.size ≤ go5) from (HO_0.out.1 _ rfl))
   obtain ⟨hx5_0, hf5_0⟩ := Kd.R_celln 0 HO_0.out (x5_1 : Int) p5 q5
   replace p5 := eq_true p5
   replace q5 := eq_true q5
   have HP7 := Kd.R_putg HO_0.out (x5_1 : Int) x1_1
   go_wp2_with (first | ((with_reducible refine gate_store (t := 3) (p := 15) rfl ?_); refine store_event (t := 3) (p := 15) (v := ?vo_w8) (w1 := (wr.setCell ⟨go5, (x5_1 : Int).toNat, none⟩ (.int .i64 x1_1))) ?hg ?ho ?hn ?hr ?_; (case ho => rfl); (case hg => rfl); (case hn => rfl); (case hr => first | (go_simp; done) | (go_simp; rfl)); intro w8 hw; have hg : wr.grownBy w8 (some go5) := (by rw [hw]; exact HP7.2); have hp_ : Kd.R (Kd.int .i64) 3 w8 w0.heap.size (fun k_ => (P0_ k_ ∨ w.heap.size ≤ k_)) (.slice (some ⟨go5, 0, none⟩) x0_1.length co6) y683 := (by rw [hw, Ny683.out]; exact HP7.1); clear HP7; have n0_ := Aside0.mk (hp_); have n1_ := Aside0.mk ((by rw [hw]; exact below_set (HB.out) GB5.out : Below w0.heap.size w0 w8)); have n2_ := Aside0.mk (Kept.of_grown (S := (fun k_ => P0_ k_)) hg HK.out (fun k_ e_ => (HO_0.out.1 k_ e_))); clear HO_0; clear HB; clear HK; have HO_0 := n0_; have HB := n1_; have HK := n2_; clear n0_ n1_ n2_; clear hg hw hp_))
   go_roundg k1
   case measure => have := HK1.out; omega
   case rel => exact ⟨(y683), (wrap64 (x1_1 + 1)), (wrap64 (x5_1 + 1)), (by first | rfl | (simp; done) | (simp [*]; done)), (by first | rfl | (simp; done) | (simp [*]; done)), H', ⟨by have := HK1.out; omega⟩, ⟨by (with_reducible repeat (first | apply Kd.R_alloc | apply Kd.R_drewN | apply Kd.R_drew)); exact HO_0.out⟩, ⟨by repeat (first | (with_reducible first | exact HK.out | apply Kept.alloc | apply Kept.drewN | apply Kept.drew) | exact HK.out)⟩, ⟨by repeat (first | (with_reducible first | exact HB.out | apply below_alloc | apply pw_below_drewN | apply below_drew1) | exact HB.out)⟩⟩
end Go.Proofs.Ytljdcinpjnijcaa.Pr
end
section
namespace Go.Proofs.Ytljdcinpjnijcaa.Pr
open Go.RowKit Go.Proofs.YtljdcinpjnijcaaW.PrintWords Go.Proofs.YtljdcinpjnijcaaW.PrintLast Go.Proofs.YtljdcinpjnijcaaW.PrintMore
attribute [local go_sem] max2_int min2_int max_two min_two max_three min_three max_four min_four
set_option linter.unusedVariables false
set_option linter.unusedSimpArgs false
def laws_heldIntS.l0 : Nat → List Int → Int → Int → Option (Int)
 | 0, _, _, _ => none
 | k + 1, x0, x1, x5 => if x5 < (x0.length : Int) then (if 0 ≤ x5 then (if (rd x0 x5) = x1 then (laws_heldIntS.l0 k x0 (wrap64 (x1 + 1)) (wrap64 (x5 + 1))) else (some (-1))) else (none)) else (some x1)
def laws_heldIntS.f (k : Nat) (l0 : List Int) (a1 : Int) : Option (Int) := laws_heldIntS.l0 k l0 a1 0
set_option maxHeartbeats 8000000 in
set_option maxRecDepth 100000 in
theorem laws_heldIntS.calls (k : Nat) (A0 : Option Addr) (c0 : Nat) (l0 : List Int) (a1 : Int) (r : Int) (w : World) (hr0 : Kd.C (Kd.int .i64) w A0 l0.length l0) (hc0 : l0.length ≤ c0) (h : laws_heldIntS.f k l0 a1 = some r) :
  Calls Try.prog 35 #[.slice A0 l0.length c0, .int .i64 a1] w fun e w' => e = .returned (.int .i64 r) ∧ Drawn0 w w' := by
 have HR0 := Aside0.mk hr0
 have HC0 := Aside0.mk hc0
 clear hr0 hc0
 have H : (laws_heldIntS.l0 k l0 a1 0) = some r := h
 clear h
 have H' := Aside0.mk H
 clear H
 go_enter Try.func35, Try.ntmps35
 go_wp2
 go_loopg [1, 5] k (fun kq v1 v5 w' => ∃ (x1_1 : Int) (x5_1 : Int), v1 = .int .i64 x1_1 ∧ v5 = .int .i64 x5_1 ∧ Aside0 (laws_heldIntS.l0 kq l0 x1_1 x5_1 = some r) ∧ Aside0 (kq ≤ k) ∧ Drawn0 w w')
 case atStart => exact ⟨(a1), (0), (by first | rfl | (simp; done) | (simp [*]; done)), (by first | rfl | (simp; done) | (simp [*]; done)), H', ⟨Nat.le_refl _⟩, by repeat (first | exact Drawn0.refl _ | apply Drawn0.step)⟩
 case round =>
  clear H'
  try clear p2
  obtain ⟨x1_1, x5_1, rfl, rfl, HA, HK1, ⟨m1, rfl⟩⟩ := hrel
  cases gk with
  | zero => exact absurd HA.out (by simp [laws_heldIntS.l0])
  | succ k1 =>
   have H := HA.out
   clear HA
   simp only [laws_heldIntS.l0] at H
   by_cases c3 : x5_1 < (l0.length : Int)
   case neg =>
    rw [if_neg c3] at H
    have c3b0 : decide (x5_1 < (l0.length : Int)) = false := decide_eq_false c3
    clear c3
    obtain rfl := Option.some.inj H
    go_wp2
    go_ret
    exact ⟨by first | rfl | (simp; done) | (simp [*]; done), by repeat (first | exact Drawn0.refl _ | apply Drawn0.step)⟩
   rw [if_pos c3] at H
   have c3b0 : decide (x5_1 < (l0.length : Int)) = true := decide_eq_true c3
   clear c3
   by_cases c4 : 0 ≤ x5_1
   case neg =>
    rw [if_neg c4] at H
    exact absurd H (by simp)
   rw [if_pos c4] at H
   have c4b0 : decide (0 ≤ x5_1) = true := decide_eq_true c4
   clear c4
   by_cases c5 : (rd l0 x5_1) = x1_1
   case neg =>
    rw [if_neg c5] at H
    have c5b0 : ((rd l0 x5_1) == x1_1) = false := beq_eq_false_iff_ne.mpr c5
    have c5b1 : ((rd l0 x5_1) != x1_1) = true := bne_iff_ne.mpr c5
    obtain rfl := Option.some.inj H
    have p684 : 0 ≤ (x5_1 : Int) := of_decide_eq_true (by first | (with_reducible assumption) | assumption)
    have q684 : x5_1 < (l0.length : Int) := of_decide_eq_true (by first | (with_reducible assumption) | assumption)
    obtain ⟨ad684, e684, hx684_0⟩ := Kd.at_int HR0.out x5_1 p684 q684
    cases e684
    replace p684 := eq_true p684
    replace q684 := eq_true q684
    go_wp2
    go_ret
    exact ⟨by first | rfl | (simp; done) | (simp [*]; done), by repeat (first | exact Drawn0.refl _ | apply Drawn0.step)⟩
   rw [if_pos c5] at H
   have c5b0 : ((rd l0 x5_1) == x1_1) = true := beq_iff_eq.mpr c5
   have c5b1 : ((rd l0 x5_1) != x1_1) = false := bne_eq_false_iff_eq.mpr c5
   clear c5
   have H' := Aside0.mk H
   clear H
   have p684 : 0 ≤ (x5_1 : Int) := of_decide_eq_true (by first | (with_reducible assumption) | assumption)
   have q684 : x5_1 < (l0.length : Int) := of_decide_eq_true (by first | (with_reducible assumption) | assumption)
   obtain ⟨ad684, e684, hx684_0⟩ := Kd.at_int HR0.out x5_1 p684 q684
   cases e684
   replace p684 := eq_true p684
   replace q684 := eq_true q684
   go_wp2
   go_roundg k1
   case measure => have := HK1.out; omega
   case rel => exact ⟨(wrap64 (x1_1 + 1)), (wrap64 (x5_1 + 1)), (by first | rfl | (simp; done) | (simp [*]; done)), (by first | rfl | (simp; done) | (simp [*]; done)), H', ⟨by have := HK1.out; omega⟩, by repeat (first | exact Drawn0.refl _ | apply Drawn0.step)⟩
end Go.Proofs.Ytljdcinpjnijcaa.Pr
end
section
set_option linter.unusedVariables false
set_option linter.unusedSimpArgs false
namespace Go.Proofs.YtljdcinpjnijcaaW.PrintWords
open Go.RowKit
section
variable {P : Program} {ops : Array Oper} {rest : List Oper} {o : Oper} {a : Act} {Q : Exit → Act → World → Prop}
theorem run_copy_sz (w : World) (dT sT ty elem : TypeId) (sz : Nat) (b o dLen dCap : Nat) (a : Addr) (sLen sCap : Nat) (cs : List Value)
  (hu : P.underlying dT = some (.slice elem)) (hs : (P.info? elem).map (·.size) = some sz) (hn : cs.length = Nat.min sLen dLen * sz)
  (hsrc : ∀ j v, cs[j]? = some v → w.cell? (a.add j) = some v) (hc : ∀ j, j < cs.length → (w.cell? ⟨b, o + j, none⟩).isSome = true) (hf : ∀ j, j < cs.length → w.frozen? ⟨b, o + j, none⟩ = false) (h1 : ∀ v ∈ cs, v.oneCell' = true) :
  (Builtin.copy_ #[dT, sT] ty #[.slice (some ⟨b, o, none⟩) dLen dCap, .slice (some a) sLen sCap]).run P w = .ok (goInt (Nat.min sLen dLen)) (w.setCells b o cs) := by
 have hl := run_loadCells_list (P := P) w a cs hsrc
 have hst := run_storeCells_cells (P := P) b o cs 0 w (by simpa using hc) (by simpa using hf) h1
 cases hq : P.info? elem with
 | none => simp [hq] at hs
 | some i =>
  have hi : i.size = sz := by simpa [hq] using hs
  simp [Builtin.copy_, run_underlying hu, Builtin.lenOf, Builtin.firstCells, sizeOf, typeInfo, hq, hi, ← hn, hl, hst]
theorem run_copy_none_sz (w : World) (dT sT ty elem : TypeId) (sz : Nat) (d a : Option Addr) (dLen dCap sLen sCap : Nat) (hu : P.underlying dT = some (.slice elem)) (hs : (P.info? elem).map (·.size) = some sz) (hn : Nat.min sLen dLen = 0) :
  (Builtin.copy_ #[dT, sT] ty #[.slice d dLen dCap, .slice a sLen sCap]).run P w = .ok (goInt 0) w := by
 cases hq : P.info? elem with
 | none => simp [hq] at hs
 | some i =>
  have hn' : min sLen dLen = 0 := hn
  cases d <;> cases a <;> simp [Builtin.copy_, run_underlying hu, Builtin.lenOf, Builtin.firstCells, sizeOf, typeInfo, hq, hn', loadCells, loadCellsFrom, storeCells]
theorem copy_run {W : World} (sz : Nat) (d s : Operand) (dT sT : TypeId) (ho : o.op = .call { callee := .builtin .copy, args := #[d, s], argTypes := #[dT, sT] }) (elem : TypeId) (hu : P.underlying dT = some (.slice elem)) (hsz : (P.info? elem).map (·.size) = some sz)
  (dp sp : Option Addr) (dLen dCap sLen sCap : Nat) (hd : a.eval d = .slice dp dLen dCap) (hs : a.eval s = .slice sp sLen sCap)
  (g off : Nat) (cur : Array Value) (t : TypeId) (hg : W.heap[g]? = some (.cells cur t (0, 0))) (cs : List Value) (k : Nat) (hk : Nat.min sLen dLen = k) (hn : cs.length = k * sz)
  (hpos : 0 < cs.length → dp = some ⟨g, off, none⟩ ∧ ∃ ad, sp = some ad ∧ ∀ j v, cs[j]? = some v → W.cell? (ad.add j) = some v)
  (hfit : off + cs.length ≤ cur.size) (h1 : ∀ v ∈ cs, v.oneCell' = true) (hz : 0 < sz) :
  ∃ w', (execOp a.eval o).run P W = .ok (.value (goInt k)) w' ∧ (∃ cur', w'.heap[g]? = some (.cells cur' t (0, 0)) ∧ cur'.size = cur.size ∧ cur'.toList = cur.toList.take off ++ cs ++ cur.toList.drop (off + cs.length)) ∧ W.grownBy w' (some g) := by
 subst hk
 by_cases h0 : Nat.min sLen dLen = 0
 case pos =>
  obtain rfl : cs = [] := List.eq_nil_of_length_eq_zero (by rw [hn, h0, Nat.zero_mul])
  have hrun := run_copy_none_sz (P := P) W dT sT o.type elem sz dp sp dLen dCap sLen sCap hu hsz h0
  refine ⟨W, by simp [execOp, ho, resolve, invoke, builtin, hd, hs, hrun, Result.andThen, h0], ⟨cur, hg, rfl, by simp⟩, ⟨rfl, rfl, rfl, Nat.le_refl _, fun _ _ _ => rfl⟩⟩
 have hp : 0 < cs.length := by rw [hn]; exact Nat.mul_pos (by omega) hz
 obtain ⟨rfl, ad, rfl, hsrc⟩ := hpos hp
 obtain ⟨c2, hh2, hs2, hl2⟩ := setCells_row cs off W cur hg hfit
 obtain ⟨s1, s2, s3, s4⟩ := setCells_same g cs off W
 have hrun := run_copy_sz (P := P) W dT sT o.type elem sz g off dLen dCap ad sLen sCap cs hu hsz hn hsrc (fun j hj => by rw [cell_of_row W g _ cur t (0, 0) hg]; simp; omega) (fun j _ => blk_frozen hg _) h1
 exact ⟨_, by simp [execOp, ho, resolve, invoke, builtin, hd, hs, hrun, Result.andThen], ⟨c2, hh2, hs2, hl2⟩, ⟨s1, s2, s3, by rw [s4]; exact Nat.le_refl _, fun k _ hk => setCells_far cs off k (fun he => hk (by rw [he]))⟩⟩
theorem copy_event {W : World} (hgd : o.guard = none) (sz : Nat) (d s : Operand) (dT sT : TypeId) (ho : o.op = .call { callee := .builtin .copy, args := #[d, s], argTypes := #[dT, sT] }) (elem : TypeId) (hu : P.underlying dT = some (.slice elem)) (hsz : (P.info? elem).map (·.size) = some sz)
  (dp sp : Option Addr) (dLen dCap sLen sCap : Nat) (hd : a.eval d = .slice dp dLen dCap) (hs : a.eval s = .slice sp sLen sCap)
  (g off : Nat) (cur : Array Value) (t : TypeId) (hg : W.heap[g]? = some (.cells cur t (0, 0))) (cs : List Value) (k : Nat) (hk : Nat.min sLen dLen = k) (hn : cs.length = k * sz)
  (hpos : 0 < cs.length → dp = some ⟨g, off, none⟩ ∧ ∃ ad, sp = some ad ∧ ∀ j v, cs[j]? = some v → W.cell? (ad.add j) = some v)
  (hfit : off + cs.length ≤ cur.size) (h1 : ∀ v ∈ cs, v.oneCell' = true) (hz : 0 < sz)
  (h : ∀ w', (∃ cur', w'.heap[g]? = some (.cells cur' t (0, 0)) ∧ cur'.size = cur.size ∧ cur'.toList = cur.toList.take off ++ cs ++ cur.toList.drop (off + cs.length)) → W.grownBy w' (some g) → wpList P ops Q rest (a.put o.dst (goInt k)) w') : wpList P ops Q (o :: rest) a W := by
 obtain ⟨w', hr, h2, h3⟩ := copy_run sz d s dT sT ho elem hu hsz dp sp dLen dCap sLen sCap hd hs g off cur t hg cs k hk hn hpos hfit h1 hz
 refine wpList_plain hgd fun K hK => ?_
 unfold Oper.wp
 rw [hr]
 exact hK _ _ (h w' h2 h3)
theorem copy_step {W : World} {K : Act → World → Prop} {E : Prop} (hgd : o.guard = none) (sz : Nat) (d s : Operand) (dT sT : TypeId) (ho : o.op = .call { callee := .builtin .copy, args := #[d, s], argTypes := #[dT, sT] }) (elem : TypeId) (hu : P.underlying dT = some (.slice elem)) (hsz : (P.info? elem).map (·.size) = some sz)
  (dp sp : Option Addr) (dLen dCap sLen sCap : Nat) (hd : a.eval d = .slice dp dLen dCap) (hs : a.eval s = .slice sp sLen sCap)
  (g off : Nat) (cur : Array Value) (t : TypeId) (hg : W.heap[g]? = some (.cells cur t (0, 0))) (cs : List Value) (k : Nat) (hk : Nat.min sLen dLen = k) (hn : cs.length = k * sz)
  (hpos : 0 < cs.length → dp = some ⟨g, off, none⟩ ∧ ∃ ad, sp = some ad ∧ ∀ j v, cs[j]? = some v → W.cell? (ad.add j) = some v)
  (hfit : off + cs.length ≤ cur.size) (h1 : ∀ v ∈ cs, v.oneCell' = true) (hz : 0 < sz)
  (h : ∀ w', (∃ cur', w'.heap[g]? = some (.cells cur' t (0, 0)) ∧ cur'.size = cur.size ∧ cur'.toList = cur.toList.take off ++ cs ++ cur.toList.drop (off + cs.length)) → W.grownBy w' (some g) → K (a.put o.dst (goInt k)) w') : if Region.wanted o (yielded ops a.tmps) = true then Oper.wp P o a W K Q else E := by
 obtain ⟨w', hr, h2, h3⟩ := copy_run sz d s dT sT ho elem hu hsz dp sp dLen dCap sLen sCap hd hs g off cur t hg cs k hk hn hpos hfit h1 hz
 rw [if_pos (show Region.wanted o (yielded ops a.tmps) = true by simp [Region.wanted, hgd])]
 unfold Oper.wp
 rw [hr]
 exact h w' h2 h3
theorem made_take (z : Array Value) (m n : Nat) (h : m ≤ n) : (madeCells z n).toList.take m = (madeCells z m).toList := by
 apply List.ext_getElem
 ·simp [size_madeCells]; omega
 ·intro i h1 h2
  simp [madeCells]
theorem made_mem (z : Array Value) (n : Nat) (hz : 0 < z.size) : ∀ v ∈ (madeCells z n).toList, v ∈ z.toList := by
 intro v hv
 simp only [madeCells, Array.toList_map, List.mem_map] at hv
 obtain ⟨i, _, rfl⟩ := hv
 have h : i % z.size < z.size := Nat.mod_lt _ hz
 rw [getElem!_pos z _ h]
 exact Array.getElem_mem_toList h
theorem made_append (z : Array Value) (sz m n : Nat) (hz : z.size = sz) : (madeCells z (m * sz)).toList ++ (madeCells z (n * sz)).toList = (madeCells z ((m + n) * sz)).toList := by
 apply List.ext_getElem
 ·simp [size_madeCells, Nat.add_mul]
 ·intro i h1 h2
  by_cases c : i < m * sz
  case pos =>
   rw [List.getElem_append_left (by simpa [size_madeCells] using c)]
   simp [madeCells]
  rw [List.getElem_append_right (by simpa [size_madeCells] using Nat.le_of_not_lt c)]
  have e : (i - m * sz) % sz = i % sz := by
   have : i = (i - m * sz) + m * sz := by omega
   conv => rhs; rw [this, Nat.add_mul_mod_self_right]
  simp [madeCells, size_madeCells, hz, e]
theorem make_event {W : World} (hgd : o.guard = none) {cs : Array Value} {t : TypeId} {n : Nat}
  (hrun : (execOp a.eval o).run P W = .ok (.value (.slice (some ⟨W.heap.size, 0, none⟩) n n)) (W.alloc (.cells cs t)))
  (h : ∀ g, g = W.heap.size → ∀ w1, w1.heap[g]? = some (.cells cs t (0, 0)) → Below W.heap.size W w1 → wpList P ops Q rest (a.put o.dst (.slice (some ⟨g, 0, none⟩) n n)) w1) : wpList P ops Q (o :: rest) a W :=
 Kd.event_run hgd hrun (h _ rfl _ (blk_new W _) (below_alloc (Below.refl _ _) _))
theorem cut_cap (t e : TypeId) (kh : IntKind) {i : TypeInfo} (ht : P.underlying t = some (.slice e)) (hi : P.info? e = some i) (A : Option Addr) (n c : Nat) (j : Int) (h0 : 0 ≤ j) (hm : j ≤ n) (hc : n ≤ c) :
  ∀ W : World, (Instr.slice t (.slice A n c) none (some (.int kh j)) (some (.int kh j))).run P W = .ok (.slice A j.toNat j.toNat) W := by
 intro W
 have hel : P.elem t = e := by simp [Program.elem, ht]
 have hu : P.underlying t = some (.slice (P.elem t)) := by rw [hel]; exact ht
 have ha : (A.map fun x => x.add 0) = A := by cases A <;> simp [Addr.add]
 rw [run_slice_hm W t A n c hu kh kh j j h0 (Int.le_refl _) (by omega), hel]
 simp [sizeOf, typeInfo, hi, sliced, Result.andThen, ha]
theorem own_clip {w : World} {base n m c size : Nat} {e : TypeId} {A : Option Addr} {xs : List Value} (h : w.ownsRow2 base e size (.slice A n c) n xs) (hm : m ≤ n) : w.ownsRow2 base e size (.slice A m m) m (xs.take (m * size)) := by
 obtain ⟨h1, h2⟩ := h
 refine ⟨by rw [List.length_take, h1]; exact Nat.min_eq_left (Nat.mul_le_mul_right _ hm), ?_⟩
 rcases h2 with ⟨he, h0⟩ | ⟨g, cap, cur, he, hb, hh, hnc, hcm, hcs, ht⟩
 ·injection he with ha _ hc
  subst ha
  obtain rfl : m = 0 := by omega
  exact .inl ⟨rfl, rfl⟩
 ·injection he with ha _ hc
  subst ha; subst hc
  refine .inr ⟨g, m, cur, rfl, hb, hh, Nat.le_refl _, by omega, Nat.le_trans (Nat.mul_le_mul_right _ (by omega)) hcs, ?_⟩
  rw [← ht, List.take_take, Nat.min_eq_left (Nat.mul_le_mul_right _ hm)]
namespace Kd
section
variable {α : Type} {d : Kd α} {e m n c : Nat} {w : World} {base : Nat} {ok : Nat → Prop} {A : Option Addr} {xs : List α}
theorem R_cap (h : d.R e w base ok (.slice A n c) xs) (hm : m ≤ xs.length) : d.R e w base ok (.slice A m m) (xs.take m) := by
 obtain ⟨h0, inner, ho, hr⟩ := h
 have hn : n = xs.length := by
  obtain ⟨A', c', he⟩ := own_slice ho
  injection he
 subst hn
 have hb : ∀ x y a b : Nat, (Value.slice A x a).ownBlock = (Value.slice A y b).ownBlock := by
  intro x y a b
  cases A <;> rfl
 refine ⟨fun k hk => h0 k (by rw [hb _ m _ m]; exact hk), inner.take (m * d.sz), ?_, ?_⟩
 ·rw [List.length_take, Nat.min_eq_left hm]
  exact own_clip ho hm
 ·rw [hb m xs.length m c]
  exact reps_take hr hm
theorem R_cap1 (h : d.R e w base ok (.slice A n c) xs) : d.R e w base ok (.slice A n n) xs := by
 obtain ⟨rfl, _⟩ := R_reads' h
 have := R_cap (m := xs.length) h (Nat.le_refl _)
 rwa [List.take_length] at this
end
end Kd
end
end Go.Proofs.YtljdcinpjnijcaaW.PrintWords
end
section
namespace Go.Proofs.Ytljdcinpjnijcaa.Pr
open Go.RowKit Go.Proofs.YtljdcinpjnijcaaW.PrintWords Go.Proofs.YtljdcinpjnijcaaW.PrintLast Go.Proofs.YtljdcinpjnijcaaW.PrintMore
attribute [local go_sem] max2_int min2_int max_two min_two max_three min_three max_four min_four
set_option linter.unusedVariables false
set_option linter.unusedSimpArgs false
def impl_within.f (a0 : Int) (a1 : Int) (a2 : Int) : Option (Bool) := if a0 ≥ a1 then (some (decide (a0 ≤ a2))) else (some false)
set_option maxHeartbeats 8000000 in
set_option maxRecDepth 100000 in
theorem impl_within.calls (a0 : Int) (a1 : Int) (a2 : Int) (r : Bool) (w : World) (h : impl_within.f a0 a1 a2 = some r) :
  Calls Try.prog 74 #[.int .i64 a0, .int .i64 a1, .int .i64 a2] w fun e w' => e = .returned (.bool r) ∧ Drawn0 w w' := by
 have H : (if a0 ≥ a1 then (some (decide (a0 ≤ a2))) else (some false)) = some r := h
 clear h
 by_cases c4 : a0 ≥ a1
 case pos =>
  rw [if_pos c4] at H
  have c4b0 : decide (a1 ≤ a0) = true := decide_eq_true c4
  clear c4
  obtain rfl := Option.some.inj H
  go_enter Try.func74, Try.ntmps74
  go_wp2
  go_ret
  exact ⟨by first | rfl | (simp; done) | (simp [*]; done), by repeat (first | exact Drawn0.refl _ | apply Drawn0.step)⟩
 rw [if_neg c4] at H
 have c4b0 : decide (a1 ≤ a0) = false := decide_eq_false c4
 clear c4
 obtain rfl := Option.some.inj H
 go_enter Try.func74, Try.ntmps74
 go_wp2
 go_ret
 exact ⟨by first | rfl | (simp; done) | (simp [*]; done), by repeat (first | exact Drawn0.refl _ | apply Drawn0.step)⟩
end Go.Proofs.Ytljdcinpjnijcaa.Pr
end
section
namespace Go.Proofs.Ytljdcinpjnijcaa.Pr
open Go.RowKit Go.Proofs.YtljdcinpjnijcaaW.PrintWords Go.Proofs.YtljdcinpjnijcaaW.PrintLast Go.Proofs.YtljdcinpjnijcaaW.PrintMore
attribute [local go_sem] max2_int min2_int max_two min_two max_three min_three max_four min_four
set_option linter.unusedVariables false
set_option linter.unusedSimpArgs false
def idxI {α : Type} (p : α → Bool) (l : List α) : Int := match l.findIdx? p with | some i => (i : Int) | none => -1
theorem idxI_hit {α : Type} {p : α → Bool} {l : List α} (k : Nat) (hk : k < l.length) (h : p l[k] = true) (hne : ∀ j (hj : j < k), p (l[j]'(by omega)) = false) : idxI p l = k := by
 have : l.findIdx? p = some k := by
  rw [List.findIdx?_eq_some_iff_getElem]
  exact ⟨hk, h, fun j hj => by rw [hne j hj]; simp⟩
 simp [idxI, this]
theorem idxI_miss {α : Type} {p : α → Bool} {l : List α} (h : ∀ x ∈ l, p x = false) : idxI p l = -1 := by
 have : l.findIdx? p = none := by
  rw [List.findIdx?_eq_none_iff]
  exact h
 simp [idxI, this]
theorem idxI_any {α : Type} (p : α → Bool) (l : List α) : decide (idxI p l ≥ 0) = l.any p := by
 cases h : l.findIdx? p with
 | none =>
  rw [List.findIdx?_eq_none_iff] at h
  simp only [idxI, List.findIdx?_eq_none_iff.2 h]
  rw [eq_comm]
  simpa using h
 | some i =>
  have h' := h
  rw [List.findIdx?_eq_some_iff_getElem] at h'
  obtain ⟨hi, hp, _⟩ := h'
  simp only [idxI, h]
  have : l.any p = true := List.any_eq_true.2 ⟨_, List.getElem_mem hi, hp⟩
  rw [this]
  simp
set_option maxHeartbeats 8000000 in
set_option maxRecDepth 100000 in
theorem slices_IndexFunc_int_int.calls (p : Int → Bool) (g : Nat) (lb : Array Value) (eg : ∀ args w, (callFunc g args).run Try.prog w = .ok (.enter g args) w) (A0 : Option Addr) (c0 : Nat) (l0 : List Int) (w : World) (hr0 : Kd.C (Kd.int .i64) w A0 l0.length l0) (_hc0 : l0.length ≤ c0)
  (hp : ∀ (W : World) (x : Int), x ∈ l0 → Below w.heap.size w W → Calls Try.prog g (#[.int .i64 x] ++ lb) W fun e w' => e = .returned (.bool (p x)) ∧ Below W.heap.size W w') :
  Calls Try.prog 131 #[.slice A0 l0.length c0, .func (.func g) #[] lb] w fun e w' => e = .returned (.int .i64 (idxI p l0)) ∧ Below w.heap.size w w' := by
 have HR0 := Aside0.mk hr0
 have hlen := hr0.2.1
 clear hr0
 go_enter Try.func131, Try.ntmps131
 go_wp2
 go_loopg [5, 8] l0.length (fun gg _ s8 wr => ∃ x : Int, s8 = .int .i64 x ∧ Aside0 (0 ≤ x) ∧ Aside0 (x ≤ (l0.length : Int)) ∧ Aside0 ((l0.length : Int) - x ≤ gg) ∧ Aside0 (Below w.heap.size w wr) ∧ Aside0 (∀ j (hl : j < l0.length), (j : Int) < x → p l0[j] = false))
 case atStart => exact ⟨0, rfl, ⟨by omega⟩, ⟨by omega⟩, ⟨by omega⟩, ⟨Below.refl _ w⟩, ⟨fun j hj h => absurd h (by omega)⟩⟩
 case round =>
  obtain ⟨x, rfl, X0, X1, X2, BW, AA⟩ := hrel
  by_cases c2 : x < (l0.length : Int)
  case neg =>
   have c2b0 : decide (x < (l0.length : Int)) = false := decide_eq_false c2
   have E1 := Aside0.mk c2
   clear c2 hp
   go_wp2
   go_ret
   refine ⟨?_, BW.out⟩
   rw [idxI_miss (fun y hy => by
    obtain ⟨j, hj, rfl⟩ := List.getElem_of_mem hy
    have h1 := E1.out
    exact AA.out j hj (by omega))]
   rfl
  have c2b0 : decide (x < (l0.length : Int)) = true := decide_eq_true c2
  have h0 := X0.out
  have hg := X2.out
  have hlt : x.toNat < l0.length := by omega
  obtain ⟨ad, e, hx⟩ := Kd.at_int (Kd.C_below HR0.out BW.out) x h0 c2
  cases e
  have hw : wrap64 (x + 1) = x + 1 := by unfold wrap64; omega
  have HW := Aside0.mk hw
  clear hw
  have hcall := hp wr l0[x.toNat] (List.getElem_mem hlt) BW.out
  clear hp
  have hrd : rd l0 x = l0[x.toNat] := by simp [rd, hlt]
  rw [← hrd] at hcall
  have B : Aside0 (∀ h : x.toNat < l0.length, rd l0 x = l0[x.toNat]) := ⟨fun _ => hrd⟩
  clear hrd
  generalize hy : rd l0 x = y at hx hcall B
  clear hy
  have p108 := eq_true h0
  have q108 := eq_true c2
  have E0 := Aside0.mk h0
  have E1 := Aside0.mk c2
  have E2 := Aside0.mk hg
  have E3 := Aside0.mk hlt
  clear h0 hg hlt c2
  cases hq : p y with
  | true =>
   rw [hq] at hcall
   have HQ := Aside0.mk hq
   clear hq
   go_wp2_with (go_at_fn g; refine hcall.mono ?_; rintro e w' ⟨rfl, hb'⟩)
   go_ret
   refine ⟨?_, below_then BW.out BW.out.size hb'⟩
   have h0 := E0.out
   rw [idxI_hit x.toNat E3.out (by rw [← B.out E3.out]; exact HQ.out) (fun j hj => AA.out j _ (by omega))]
   rw [Int.toNat_of_nonneg h0]
   rfl
  | false =>
   rw [hq] at hcall
   have HQ := Aside0.mk hq
   clear hq
   go_wp2_with (go_at_fn g; refine hcall.mono ?_; rintro e w' ⟨rfl, hb'⟩)
   have h0 := E0.out
   have h1 := E1.out
   have h2 := E2.out
   go_roundg (l0.length - (x.toNat + 1))
   case measure => omega
   case rel =>
    refine ⟨x + 1, by first | rfl | rw [HW.out], ⟨by omega⟩, ⟨by omega⟩, ⟨by omega⟩, ⟨below_then BW.out BW.out.size hb'⟩, ⟨fun j hj hl => ?_⟩⟩
    by_cases e : (j : Int) = x
    case neg => exact AA.out j hj (by omega)
    have e' : j = x.toNat := by omega
    subst e'
    rw [← B.out E3.out]; exact HQ.out
end Go.Proofs.Ytljdcinpjnijcaa.Pr
end
section
namespace Go.Proofs.Ytljdcinpjnijcaa.Pr
open Go.RowKit Go.Proofs.YtljdcinpjnijcaaW.PrintWords Go.Proofs.YtljdcinpjnijcaaW.PrintLast Go.Proofs.YtljdcinpjnijcaaW.PrintMore
attribute [local go_sem] max2_int min2_int max_two min_two max_three min_three max_four min_four
set_option linter.unusedVariables false
set_option linter.unusedSimpArgs false
set_option maxHeartbeats 8000000 in
theorem slices_ContainsFunc_int_int.calls (p : Int → Bool) (g : Nat) (lb : Array Value) (eg : ∀ args w, (callFunc g args).run Try.prog w = .ok (.enter g args) w) (A0 : Option Addr) (c0 : Nat) (l0 : List Int) (w : World) (hr0 : Kd.C (Kd.int .i64) w A0 l0.length l0) (hc0 : l0.length ≤ c0)
  (hp : ∀ (W : World) (x : Int), x ∈ l0 → Below w.heap.size w W → Calls Try.prog g (#[.int .i64 x] ++ lb) W fun e w' => e = .returned (.bool (p x)) ∧ Below W.heap.size W w') :
  Calls Try.prog 114 #[.slice A0 l0.length c0, .func (.func g) #[] lb] w fun e w' => e = .returned (.bool (l0.any p)) ∧ Below w.heap.size w w' := by
 rw [← idxI_any]
 have hcall := slices_IndexFunc_int_int.calls p g lb eg A0 c0 l0 w hr0 hc0 hp
 clear hp eg hr0
 go_enter Try.func114, Try.ntmps114
 go_wp2_with (go_at_call 131; refine hcall.mono ?_; rintro e w' ⟨rfl, hb'⟩)
 go_ret
 exact ⟨rfl, hb'⟩
end Go.Proofs.Ytljdcinpjnijcaa.Pr
end
section
namespace Go.Proofs.Ytljdcinpjnijcaa.Pr
open Go.RowKit Go.Proofs.YtljdcinpjnijcaaW.PrintWords Go.Proofs.YtljdcinpjnijcaaW.PrintLast Go.Proofs.YtljdcinpjnijcaaW.PrintMore
attribute [local go_sem] max2_int min2_int max_two min_two max_three min_three max_four min_four
set_option linter.unusedVariables false
set_option linter.unusedSimpArgs false
def okN (n v : Int) : Bool := decide (0 ≤ v) && decide (v ≤ n - 1)
theorem okN_within (n x : Int) : impl_within.f x 0 (n - 1) = some (okN n x) := by
 unfold impl_within.f okN
 by_cases h : x ≥ 0
 case pos => rw [if_pos h]; simp [show (0 : Int) ≤ x from h]
 rw [if_neg h]; simp [show ¬ (0 : Int) ≤ x from h]
def impl_Net_has.f (a0_0 : Int) (_l0_1 : List S34) (l1 : List Int) : Option Bool := if -9223372036854775807 ≤ a0_0 then if a0_0 ≤ 9223372036854775807 then some (l1.all (okN a0_0)) else none else none
set_option maxHeartbeats 8000000 in
set_option maxRecDepth 100000 in
theorem has_closure (x n : Int) (g : Nat) (v : Value) (w : World) (hn : -9223372036854775807 ≤ n) (hn2 : n ≤ 9223372036854775807) (hb : w.heap[g]? = some (.cells #[.int .i64 n, v] 25 (0, 0))) :
  Calls Try.prog 115 #[.int .i64 x, .pointer (some ⟨g, 0, none⟩)] w fun e w' => e = .returned (.bool (!okN n x)) ∧ Below w.heap.size w w' := by
 have hcell : w.cell? ⟨g, 0, none⟩ = some (.int .i64 n) := (blk_cell hb 0).trans rfl
 have hcall := impl_within.calls x 0 (n - 1) (okN n x) w (okN_within n x)
 have hu := Try.underlying25
 generalize okN n x = b at hcall
 clear hb
 go_enter Try.func115, Try.ntmps115
 go_wp2_with (go_at_call 74; refine hcall.mono ?_; rintro e w' ⟨rfl, ⟨nd, rfl⟩⟩)
 go_ret
 exact ⟨rfl, pw_below_drewN (Below.refl _ _) _⟩
set_option maxHeartbeats 8000000 in
set_option maxRecDepth 100000 in
theorem impl_Net_has.calls (a0_0 : Int) (A0_1 : Option Addr) (c0_1 : Nat) (l0_1 : List S34) (A1 : Option Addr) (c1 : Nat) (l1 : List Int) (r : Bool) (w : World) (_hr0_1 : Kd.C k34 w A0_1 l0_1.length l0_1) (_hc0_1 : l0_1.length ≤ c0_1) (hr1 : Kd.C (Kd.int .i64) w A1 l1.length l1) (hc1 : l1.length ≤ c1) (h : impl_Net_has.f a0_0 l0_1 l1 = some r) :
  Calls Try.prog 77 #[.agg #[.int .i64 a0_0, .slice A0_1 l0_1.length c0_1], .slice A1 l1.length c1] w fun e w' => e = .returned (.bool r) ∧ Below w.heap.size w w' := by
 have hn : -9223372036854775807 ≤ a0_0 := by
  apply Decidable.byContradiction
  intro c
  unfold impl_Net_has.f at h
  rw [if_neg c] at h
  exact absurd h (by simp)
 have hn2 : a0_0 ≤ 9223372036854775807 := by
  apply Decidable.byContradiction
  intro c
  unfold impl_Net_has.f at h
  rw [if_pos hn, if_neg c] at h
  exact absurd h (by simp)
 have hr : l1.all (okN a0_0) = r := by
  unfold impl_Net_has.f at h
  rw [if_pos hn, if_pos hn2] at h
  exact Option.some.inj h
 clear h
 have hr' : (!(l1.any fun v => !okN a0_0 v)) = r := by
  rw [← hr, List.not_any_eq_all_not]
  congr 1
  funext v
  simp
 have hcall := slices_ContainsFunc_int_int.calls (fun v => !okN a0_0 v) 115 #[.pointer (some ⟨w.heap.size, 0, none⟩)] (enters_of Try.func115 (by kernel_rfl) rfl) A1 c1 l1 (w.alloc (.cells #[.int .i64 a0_0, .slice A0_1 l0_1.length c0_1] 25)) (Kd.C_below hr1 (below_alloc (Below.refl _ _) _)) hc1
  (fun W x _ hB => has_closure x a0_0 w.heap.size (.slice A0_1 l0_1.length c0_1) W hn hn2 ((hB.block w.heap.size (by simp)).trans (heap_alloc_new w _)))
 have HN := Aside0.mk hn
 have HR := Aside0.mk hr'
 clear hr1 hr hr' hn hn2
 generalize l1.any (fun v => !okN a0_0 v) = b at hcall HR
 go_enter Try.func77, Try.ntmps77
 go_wp2_with (go_at_call 114; refine hcall.mono ?_; rintro e w' ⟨rfl, hb'⟩)
 go_ret
 exact ⟨by rw [← HR.out]; rfl, below_then (below_alloc (Below.refl _ _) _) (by simp) hb'⟩
end Go.Proofs.Ytljdcinpjnijcaa.Pr
end
section
namespace Go.Proofs.Ytljdcinpjnijcaa.Pr
open Go.RowKit Go.Proofs.YtljdcinpjnijcaaW.PrintWords Go.Proofs.YtljdcinpjnijcaaW.PrintLast Go.Proofs.YtljdcinpjnijcaaW.PrintMore
attribute [local go_sem] max2_int min2_int max_two min_two max_three min_three max_four min_four
set_option linter.unusedVariables false
set_option linter.unusedSimpArgs false
theorem rd_at_T {l : List S34} {k : Int} (h : k.toNat < l.length) : rd_T34 l k = l[k.toNat] := by
 simp [rd_T34, h]
def encA (x : S34) : Value := .agg #[.int .i64 x.f0, .int .i64 x.f1, .int .i64 x.f2, .int .i64 x.f3, .int .i64 x.f4]
set_option maxHeartbeats 8000000 in
set_option maxRecDepth 100000 in
theorem slices_IndexFunc_Arc.calls (p : S34 → Bool) (g : Nat) (lb : Array Value) (eg : ∀ args w, (callFunc g args).run Try.prog w = .ok (.enter g args) w) (A0 : Option Addr) (c0 : Nat) (l0 : List S34) (w : World) (hr0 : Kd.C k34 w A0 l0.length l0) (_hc0 : l0.length ≤ c0)
  (hp : ∀ (W : World) (x : S34), x ∈ l0 → Below w.heap.size w W → Calls Try.prog g (#[encA x] ++ lb) W fun e w' => e = .returned (.bool (p x)) ∧ Below W.heap.size W w') :
  Calls Try.prog 128 #[.slice A0 l0.length c0, .func (.func g) #[] lb] w fun e w' => e = .returned (.int .i64 (idxI p l0)) ∧ Below w.heap.size w w' := by
 have HR0 := Aside0.mk hr0
 have hlen := hr0.2.1
 clear hr0
 have hu := Try.underlying34
 go_enter Try.func128, Try.ntmps128
 go_wp2
 go_loopg [5, 8] l0.length (fun gg _ s8 wr => ∃ x : Int, s8 = .int .i64 x ∧ Aside0 (0 ≤ x) ∧ Aside0 (x ≤ (l0.length : Int)) ∧ Aside0 ((l0.length : Int) - x ≤ gg) ∧ Aside0 (Below w.heap.size w wr) ∧ Aside0 (∀ j (hl : j < l0.length), (j : Int) < x → p l0[j] = false))
 case atStart => exact ⟨0, rfl, ⟨by omega⟩, ⟨by omega⟩, ⟨by omega⟩, ⟨Below.refl _ w⟩, ⟨fun j hj h => absurd h (by omega)⟩⟩
 case round =>
  obtain ⟨x, rfl, X0, X1, X2, BW, AA⟩ := hrel
  by_cases c2 : x < (l0.length : Int)
  case neg =>
   have c2b0 : decide (x < (l0.length : Int)) = false := decide_eq_false c2
   have E1 := Aside0.mk c2
   clear c2 hp
   go_wp2
   go_ret
   refine ⟨?_, BW.out⟩
   rw [idxI_miss (fun y hy => by
    obtain ⟨j, hj, rfl⟩ := List.getElem_of_mem hy
    have h1 := E1.out
    exact AA.out j hj (by omega))]
   rfl
  have c2b0 : decide (x < (l0.length : Int)) = true := decide_eq_true c2
  have h0 := X0.out
  have hg := X2.out
  have hlt : x.toNat < l0.length := by omega
  obtain ⟨ad, e, hx0, hx1, hx2, hx3, hx4⟩ := at_T34 (Kd.C_below HR0.out BW.out) x h0 c2
  cases e
  have hw : wrap64 (x + 1) = x + 1 := by unfold wrap64; omega
  have HW := Aside0.mk hw
  clear hw
  have hcall := hp wr l0[x.toNat] (List.getElem_mem hlt) BW.out
  clear hp
  have hrd : rd_T34 l0 x = l0[x.toNat] := rd_at_T hlt
  rw [← hrd] at hcall
  have B : Aside0 (∀ h : x.toNat < l0.length, rd_T34 l0 x = l0[x.toNat]) := ⟨fun _ => hrd⟩
  clear hrd
  generalize hy : rd_T34 l0 x = y at hx0 hx1 hx2 hx3 hx4 hcall B
  clear hy
  unfold encA at hcall
  have p108 := eq_true h0
  have q108 := eq_true c2
  have E0 := Aside0.mk h0
  have E1 := Aside0.mk c2
  have E2 := Aside0.mk hg
  have E3 := Aside0.mk hlt
  clear h0 hg hlt c2
  cases hq : p y with
  | true =>
   rw [hq] at hcall
   have HQ := Aside0.mk hq
   clear hq
   go_wp2_with (go_at_fn g; refine hcall.mono ?_; rintro e w' ⟨rfl, hb'⟩)
   go_ret
   refine ⟨?_, below_then BW.out BW.out.size hb'⟩
   have h0 := E0.out
   rw [idxI_hit x.toNat E3.out (by rw [← B.out E3.out]; exact HQ.out) (fun j hj => AA.out j _ (by omega))]
   rw [Int.toNat_of_nonneg h0]
   rfl
  | false =>
   rw [hq] at hcall
   have HQ := Aside0.mk hq
   clear hq
   go_wp2_with (go_at_fn g; refine hcall.mono ?_; rintro e w' ⟨rfl, hb'⟩)
   have h0 := E0.out
   have h1 := E1.out
   have h2 := E2.out
   go_roundg (l0.length - (x.toNat + 1))
   case measure => omega
   case rel =>
    refine ⟨x + 1, by first | rfl | rw [HW.out], ⟨by omega⟩, ⟨by omega⟩, ⟨by omega⟩, ⟨below_then BW.out BW.out.size hb'⟩, ⟨fun j hj hl => ?_⟩⟩
    by_cases e : (j : Int) = x
    case neg => exact AA.out j hj (by omega)
    have e' : j = x.toNat := by omega
    subst e'
    rw [← B.out E3.out]; exact HQ.out
end Go.Proofs.Ytljdcinpjnijcaa.Pr
end
section
namespace Go.Proofs.Ytljdcinpjnijcaa.Pr
open Go.RowKit Go.Proofs.YtljdcinpjnijcaaW.PrintWords Go.Proofs.YtljdcinpjnijcaaW.PrintLast Go.Proofs.YtljdcinpjnijcaaW.PrintMore
attribute [local go_sem] max2_int min2_int max_two min_two max_three min_three max_four min_four
set_option linter.unusedVariables false
set_option linter.unusedSimpArgs false
set_option maxHeartbeats 8000000 in
theorem slices_ContainsFunc_Arc.calls (p : S34 → Bool) (g : Nat) (lb : Array Value) (eg : ∀ args w, (callFunc g args).run Try.prog w = .ok (.enter g args) w) (A0 : Option Addr) (c0 : Nat) (l0 : List S34) (w : World) (hr0 : Kd.C k34 w A0 l0.length l0) (hc0 : l0.length ≤ c0)
  (hp : ∀ (W : World) (x : S34), x ∈ l0 → Below w.heap.size w W → Calls Try.prog g (#[encA x] ++ lb) W fun e w' => e = .returned (.bool (p x)) ∧ Below W.heap.size W w') :
  Calls Try.prog 105 #[.slice A0 l0.length c0, .func (.func g) #[] lb] w fun e w' => e = .returned (.bool (l0.any p)) ∧ Below w.heap.size w w' := by
 rw [← idxI_any]
 have hcall := slices_IndexFunc_Arc.calls p g lb eg A0 c0 l0 w hr0 hc0 hp
 clear hp eg hr0
 have hu := Try.underlying34
 go_enter Try.func105, Try.ntmps105
 go_wp2_with (go_at_call 128; refine hcall.mono ?_; rintro e w' ⟨rfl, hb'⟩)
 go_ret
 exact ⟨rfl, hb'⟩
end Go.Proofs.Ytljdcinpjnijcaa.Pr
end
section
namespace Go.Proofs.Ytljdcinpjnijcaa.Pr
open Go.RowKit Go.Proofs.YtljdcinpjnijcaaW.PrintWords Go.Proofs.YtljdcinpjnijcaaW.PrintLast Go.Proofs.YtljdcinpjnijcaaW.PrintMore
attribute [local go_sem] max2_int min2_int max_two min_two max_three min_three max_four min_four
set_option linter.unusedVariables false
set_option linter.unusedSimpArgs false
def impl_costOk.f (a0 : Int) : Option (Bool) := (impl_within.f a0 0 99).bind fun t196 => (some t196)
set_option maxHeartbeats 8000000 in
set_option maxRecDepth 100000 in
theorem impl_costOk.calls (a0 : Int) (r : Bool) (w : World) (h : impl_costOk.f a0 = some r) :
  Calls Try.prog 107 #[.int .i64 a0] w fun e w' => e = .returned (.bool r) ∧ Drawn0 w w' := by
 have H : ((impl_within.f a0 0 99).bind fun t196 => (some t196)) = some r := h
 clear h
 replace H := Option.bind_eq_some_iff.mp H
 obtain ⟨t196, A20, H⟩ := H
 replace H : (some t196) = some r := H
 have A2 := Aside0.mk A20
 clear A20
 obtain rfl := Option.some.inj H
 go_enter Try.func107, Try.ntmps107
 go_wp2_with (first | ((with_reducible refine gate_callee (f := 74) rfl ?_); refine goesL_ (some 4) rfl rfl Try.func74 (by kernel_rfl) rfl #[.int .i64 a0, .int .i64 0, .int .i64 99] rfl (by (try simp only [List.map_toArray, List.map_cons, List.map_nil]); first | done | rfl | (simp only [List.length_drop, List.length_take]; rfl)) ?_; (with_reducible refine (impl_within.calls a0 0 99 t196 _ A2.out).mono ?_); rintro e w' ⟨rfl, ⟨nd, rfl⟩⟩; refine ⟨_, rfl, ?_⟩))
 go_ret
 exact ⟨by first | rfl | (simp; done) | (simp [*]; done), by repeat (first | exact Drawn0.refl _ | apply Drawn0.step)⟩
end Go.Proofs.Ytljdcinpjnijcaa.Pr
end
section
namespace Go.Proofs.Ytljdcinpjnijcaa.Pr
open Go.RowKit Go.Proofs.YtljdcinpjnijcaaW.PrintWords Go.Proofs.YtljdcinpjnijcaaW.PrintLast Go.Proofs.YtljdcinpjnijcaaW.PrintMore
attribute [local go_sem] max2_int min2_int max_two min_two max_three min_three max_four min_four
set_option linter.unusedVariables false
set_option linter.unusedSimpArgs false
def okC (c : Int) : Bool := decide (0 ≤ c) && decide (c ≤ 99)
theorem okC_costOk (c : Int) : impl_costOk.f c = some (okC c) := by
 unfold impl_costOk.f impl_within.f okC
 by_cases h : c ≥ 0
 case pos => rw [if_pos h]; simp [show (0 : Int) ≤ c from h]
 rw [if_neg h]; simp [show ¬ (0 : Int) ≤ c from h]
def okArc (n : Int) (a : S34) : Bool := okN n a.f0 && okN n a.f1 && !(a.f0 == a.f1) && okC a.f2 && okC a.f3 && okN 10 a.f4
def netOkB (n : Int) (l : List S34) : Bool := decide (1 ≤ n) && decide (n ≤ 8) && decide ((l.length : Int) ≤ 16) && l.all (okArc n)
def impl_NetOk.f (a0_0 : Int) (l0_1 : List S34) : Option Bool := some (decide (1 ≤ a0_0) && decide (a0_0 ≤ 8) && decide ((l0_1.length : Int) ≤ 16) && l0_1.all (okArc a0_0))
theorem heap_alloc_at {W : World} {o : Obj} {k : Nat} (h : k = W.heap.size) : (W.alloc o).heap[k]? = some o := by subst h; exact heap_alloc_new W o
theorem two_reads (W : World) (b : Nat) (x y : Int) (h : W.heap[b]? = some (.cells #[.int .i64 x, .int .i64 y] 3 (0, 0))) : Kd.C (Kd.int .i64) W (some ⟨b, 0, none⟩) [x, y].length [x, y] :=
 Kd.C_of_reads (d := (0 : Int)) (h1 := fun _ => rfl) ⟨rfl, by simp, fun _ => ⟨_, rfl, fun j hj => by
  have h0 : W.cell? ⟨b, 0, none⟩ = some (.int .i64 x) := (blk_cell h 0).trans rfl
  have h1 : W.cell? ⟨b, 1, none⟩ = some (.int .i64 y) := (blk_cell h 1).trans rfl
  match j, hj with
  | 0, _ => rw [add_plain]; exact h0
  | 1, _ => rw [add_plain]; exact h1⟩⟩
set_option maxHeartbeats 8000000 in
set_option maxRecDepth 100000 in
theorem NetOk_closure (x : S34) (n : Int) (g : Nat) (A : Option Addr) (c : Nat) (l : List S34) (w : World) (hn : 1 ≤ n) (hn2 : n ≤ 8) (hr : Kd.C k34 w A l.length l) (hc : l.length ≤ c) (hb : w.heap[g]? = some (.cells #[.int .i64 n, .slice A l.length c] 25 (0, 0))) :
  Calls Try.prog 106 #[encA x, .pointer (some ⟨g, 0, none⟩)] w fun e w' => e = .returned (.bool (!okArc n x)) ∧ Below w.heap.size w w' := by
 have hcell : w.cell? ⟨g, 0, none⟩ = some (.int .i64 n) := (blk_cell hb 0).trans rfl
 have hcell1 : w.cell? ⟨g, 1, none⟩ = some (.slice A l.length c) := (blk_cell hb 1).trans rfl
 have hhas := fun (W : World) (a0 : Nat) (h1 : Below w.heap.size w W) (h2 : W.heap[a0]? = some (.cells #[.int .i64 x.f0, .int .i64 x.f1] 3 (0, 0))) => impl_Net_has.calls n A c l (some ⟨a0, 0, none⟩) 2 [x.f0, x.f1] ([x.f0, x.f1].all (okN n)) W (Kd.C_below hr h1) hc (two_reads W a0 x.f0 x.f1 h2) (by simp) (by unfold impl_Net_has.f; rw [if_pos (by omega), if_pos (by omega)])
 have hbl := World.block_lt_of_cell? _ _ hcell
 have hu := Try.underlying25
 have hu2 := Try.underlying34
 have hc2 := fun (W : World) => impl_costOk.calls x.f2 (okC x.f2) W (okC_costOk x.f2)
 have hc3 := fun (W : World) => impl_costOk.calls x.f3 (okC x.f3) W (okC_costOk x.f3)
 have hload := fun (W : World) => impl_within.calls x.f4 0 9 (okN 10 x.f4) W (okN_within 10 x.f4)
 clear hb hr
 unfold encA
 have hall : [x.f0, x.f1].all (okN n) = (okN n x.f0 && okN n x.f1) := by simp
 rw [hall] at hhas
 clear hall
 unfold okArc
 generalize hA : (okN n x.f0 && okN n x.f1) = b1 at hhas
 clear hA
 generalize okN 10 x.f4 = b5 at hload
 generalize okC x.f2 = b2 at hc2
 generalize okC x.f3 = b3 at hc3
 have HB := Aside0.mk (Below.refl w.heap.size w)
 have HN := Aside0.mk hn
 have HC := Aside0.mk hc
 clear hn hn2 hc
 have bcell : ∀ {W w1 : World}, Below W.heap.size W w1 → (∀ b o, b < W.heap.size → w1.cell? ⟨b, o, none⟩ = W.cell? ⟨b, o, none⟩) := fun hb b o h => hb.cell (p := ⟨b, o, none⟩) h
 have HCELL := Aside0.mk @bcell
 clear bcell
 have hcN := hbl
 cases b1 with
 | false =>
  go_enter Try.func106, Try.ntmps106
  go_wp2_with (go_at_call 77; refine (hhas _ _ ?h1 ?h2).mono ?_; (case h1 => repeat (first | exact Below.refl _ _ | apply below_alloc)); (case h2 => exact heap_alloc_at (by simp)); rintro e w1 ⟨rfl, hb'⟩)
  go_ret
  exact ⟨rfl, below_then (below_alloc (below_alloc (Below.refl _ _) _) _) (by simp; omega) hb'⟩
 | true =>
  by_cases hft : x.f0 = x.f1
  case pos =>
   have e1 : (x.f0 == x.f1) = true := by simpa using hft
   clear hft
   rw [e1]
   go_enter Try.func106, Try.ntmps106
   go_wp2_with (go_at_call 77; refine (hhas _ _ ?h1 ?h2).mono ?_; (case h1 => repeat (first | exact Below.refl _ _ | apply below_alloc)); (case h2 => exact heap_alloc_at (by simp)); rintro e w1 ⟨rfl, hb'⟩; have hc1 := HCELL.out hb'; have HB1 := Aside0.mk hb'; clear hb')
   go_ret
   exact ⟨rfl, by repeat (first | apply pw_below_drewN | exact below_then (below_alloc (below_alloc (Below.refl _ _) _) _) (by simp; omega) HB1.out)⟩
  have e1 : (x.f0 == x.f1) = false := by simpa using hft
  clear hft
  rw [e1]
  cases b2 with
  | false =>
   go_enter Try.func106, Try.ntmps106
   go_wp2_with (first | (go_at_call 77; refine (hhas _ _ ?h1 ?h2).mono ?_; (case h1 => repeat (first | exact Below.refl _ _ | apply below_alloc)); (case h2 => exact heap_alloc_at (by simp)); rintro e w1 ⟨rfl, hb'⟩; have hc1 := HCELL.out hb'; have HB1 := Aside0.mk hb'; clear hb') | (go_at_call 107; (with_reducible refine (hc2 _).mono ?_); rintro e w2 ⟨rfl, ⟨nd2, rfl⟩⟩))
   go_ret
   exact ⟨rfl, by repeat (first | apply pw_below_drewN | exact below_then (below_alloc (below_alloc (Below.refl _ _) _) _) (by simp; omega) HB1.out)⟩
  | true =>
   cases b3 with
   | false =>
    go_enter Try.func106, Try.ntmps106
    go_wp2_with (first | (go_at_call 77; refine (hhas _ _ ?h1 ?h2).mono ?_; (case h1 => repeat (first | exact Below.refl _ _ | apply below_alloc)); (case h2 => exact heap_alloc_at (by simp)); rintro e w1 ⟨rfl, hb'⟩; have hc1 := HCELL.out hb'; have HB1 := Aside0.mk hb'; clear hb') | (go_at_call 107; (with_reducible refine (hc2 _).mono ?_); rintro e w2 ⟨rfl, ⟨nd2, rfl⟩⟩) | (go_at_call 107; (with_reducible refine (hc3 _).mono ?_); rintro e w3 ⟨rfl, ⟨nd3, rfl⟩⟩))
    go_ret
    exact ⟨rfl, by repeat (first | apply pw_below_drewN | exact below_then (below_alloc (below_alloc (Below.refl _ _) _) _) (by simp; omega) HB1.out)⟩
   | true =>
    go_enter Try.func106, Try.ntmps106
    go_wp2_with (first | (go_at_call 77; refine (hhas _ _ ?h1 ?h2).mono ?_; (case h1 => repeat (first | exact Below.refl _ _ | apply below_alloc)); (case h2 => exact heap_alloc_at (by simp)); rintro e w1 ⟨rfl, hb'⟩; have hc1 := HCELL.out hb'; have HB1 := Aside0.mk hb'; clear hb') | (go_at_call 107; (with_reducible refine (hc2 _).mono ?_); rintro e w2 ⟨rfl, ⟨nd2, rfl⟩⟩) | (go_at_call 107; (with_reducible refine (hc3 _).mono ?_); rintro e w3 ⟨rfl, ⟨nd3, rfl⟩⟩) | (go_at_call 74; refine (hload _).mono ?_; rintro e w4 ⟨rfl, ⟨nd4, rfl⟩⟩))
    go_ret
    exact ⟨by cases b5 <;> rfl, by repeat (first | apply pw_below_drewN | exact below_then (below_alloc (below_alloc (Below.refl _ _) _) _) (by simp; omega) HB1.out)⟩
set_option maxHeartbeats 8000000 in
set_option maxRecDepth 100000 in
theorem impl_NetOk.calls (a0_0 : Int) (A0_1 : Option Addr) (c0_1 : Nat) (l0_1 : List S34) (r : Bool) (w : World) (p0 : Kd.C k34 w A0_1 l0_1.length l0_1) (p1 : l0_1.length ≤ c0_1) (h : impl_NetOk.f a0_0 l0_1 = some r) :
  Calls Try.prog 63 #[.agg #[.int .i64 a0_0, .slice A0_1 l0_1.length c0_1]] w fun e w' => e = .returned (.bool r) ∧ Below w.heap.size w w' := by
 have hw1 := fun (W : World) => impl_within.calls a0_0 1 8 (decide (1 ≤ a0_0) && decide (a0_0 ≤ 8)) W (by
  unfold impl_within.f
  by_cases h : a0_0 ≥ 1
  case pos => rw [if_pos h]; simp [show (1 : Int) ≤ a0_0 from h]
  rw [if_neg h]; simp [show ¬ (1 : Int) ≤ a0_0 from h])
 obtain rfl := Option.some.inj h
 clear h
 have hu := Try.underlying25
 by_cases hn : 1 ≤ a0_0 ∧ a0_0 ≤ 8
 case neg =>
  have e0 : (decide (1 ≤ a0_0) && decide (a0_0 ≤ 8)) = false := by
   rw [Bool.and_eq_false_iff]
   by_cases h1 : 1 ≤ a0_0
   case neg => exact .inl (decide_eq_false h1)
   exact .inr (decide_eq_false (fun h2 => hn ⟨h1, h2⟩))
  rw [e0] at hw1 ⊢
  clear hn e0
  go_enter Try.func63, Try.ntmps63
  go_wp2_with (first | (go_at_call 74; refine (hw1 _).mono ?_; rintro e w1 ⟨rfl, ⟨nd, rfl⟩⟩))
  go_ret
  exact ⟨by simp, pw_below_drewN (below_alloc (Below.refl _ _) _) _⟩
 obtain ⟨hn1, hn2⟩ := hn
 rw [decide_eq_true hn1, decide_eq_true hn2] at hw1
 rw [decide_eq_true hn1, decide_eq_true hn2]
 have hbox := fun (nd : Nat) => slices_ContainsFunc_Arc.calls (fun v => !okArc a0_0 v) 106 #[.pointer (some ⟨w.heap.size, 0, none⟩)] (enters_of Try.func106 (by kernel_rfl) rfl) A0_1 c0_1 l0_1 ((w.alloc (.cells #[.int .i64 a0_0, .slice A0_1 l0_1.length c0_1] 25)).drewN nd) (Kd.C_below p0 (pw_below_drewN (below_alloc (Below.refl _ _) _) nd)) p1
  (fun W x _ hB => NetOk_closure x a0_0 w.heap.size A0_1 c0_1 l0_1 W hn1 hn2 (Kd.C_below p0 (below_then (pw_below_drewN (below_alloc (Below.refl _ _) _) nd) (by simp) hB)) p1 ((hB.block w.heap.size (by simp)).trans (heap_alloc_new w _)))
 have hall : (!(l0_1.any fun v => !okArc a0_0 v)) = l0_1.all (okArc a0_0) := by
  rw [List.not_any_eq_all_not]
  congr 1
  funext v
  simp
 rw [← hall]
 clear hall p0 p1 hn1 hn2
 generalize (l0_1.any fun v => !okArc a0_0 v) = b at hbox
 by_cases hl : (l0_1.length : Int) ≤ 16
 case neg =>
  have e1 : decide ((l0_1.length : Int) ≤ 16) = false := decide_eq_false hl
  have e2 : decide (l0_1.length ≤ 16) = false := decide_eq_false (by omega)
  rw [e1]
  clear hl
  go_enter Try.func63, Try.ntmps63
  go_wp2_with (first | (go_at_call 74; refine (hw1 _).mono ?_; rintro e w1 ⟨rfl, ⟨nd, rfl⟩⟩))
  go_ret
  exact ⟨rfl, pw_below_drewN (below_alloc (Below.refl _ _) _) _⟩
 have e1 : decide ((l0_1.length : Int) ≤ 16) = true := decide_eq_true hl
 have e2 : decide (l0_1.length ≤ 16) = true := decide_eq_true (by omega)
 rw [e1]
 clear hl
 go_enter Try.func63, Try.ntmps63
 go_wp2_with (first | (go_at_call 74; refine (hw1 _).mono ?_; rintro e w1 ⟨rfl, ⟨nd, rfl⟩⟩) | (go_at_call 105; refine (hbox _).mono ?_; rintro e w2 ⟨rfl, hb'⟩))
 go_ret
 exact ⟨by cases b <;> rfl, below_then (pw_below_drewN (below_alloc (Below.refl _ _) _) _) (by simp) hb'⟩
end Go.Proofs.Ytljdcinpjnijcaa.Pr
end
section
namespace Go.Proofs.Ytljdcinpjnijcaa.Pr
open Go.RowKit Go.Proofs.YtljdcinpjnijcaaW.PrintWords Go.Proofs.YtljdcinpjnijcaaW.PrintLast Go.Proofs.YtljdcinpjnijcaaW.PrintMore
attribute [local go_sem] max2_int min2_int max_two min_two max_three min_three max_four min_four
set_option linter.unusedVariables false
set_option linter.unusedSimpArgs false
def bits_Mul64.f (a0 : Int) (a1 : Int) : Option (Int × Int) := some (IntKind.u64.wrap ((IntKind.u64.wrap ((IntKind.u64.wrap ((a0 / 4294967296) * (a1 / 4294967296))) + ((IntKind.u64.wrap ((IntKind.u64.wrap ((a0 / 4294967296) * (Go.bits .and .u64 a1 4294967295))) + ((IntKind.u64.wrap ((Go.bits .and .u64 a0 4294967295) * (Go.bits .and .u64 a1 4294967295))) / 4294967296))) / 4294967296))) + ((IntKind.u64.wrap ((Go.bits .and .u64 (IntKind.u64.wrap ((IntKind.u64.wrap ((a0 / 4294967296) * (Go.bits .and .u64 a1 4294967295))) + ((IntKind.u64.wrap ((Go.bits .and .u64 a0 4294967295) * (Go.bits .and .u64 a1 4294967295))) / 4294967296))) 4294967295) + (IntKind.u64.wrap ((Go.bits .and .u64 a0 4294967295) * (a1 / 4294967296))))) / 4294967296)), IntKind.u64.wrap (a0 * a1))
set_option maxHeartbeats 8000000 in
set_option maxRecDepth 100000 in
theorem bits_Mul64.calls (a0 : Int) (a1 : Int) (r1 : Int) (r2 : Int) (w : World) (h : bits_Mul64.f a0 a1 = some (r1, r2)) :
  Calls Try.prog 138 #[.int .u64 a0, .int .u64 a1] w fun e w' => e = .returned (.tuple #[.int .u64 r1, .int .u64 r2]) ∧ Drawn0 w w' := by
 have H : (some (IntKind.u64.wrap ((IntKind.u64.wrap ((IntKind.u64.wrap ((a0 / 4294967296) * (a1 / 4294967296))) + ((IntKind.u64.wrap ((IntKind.u64.wrap ((a0 / 4294967296) * (Go.bits .and .u64 a1 4294967295))) + ((IntKind.u64.wrap ((Go.bits .and .u64 a0 4294967295) * (Go.bits .and .u64 a1 4294967295))) / 4294967296))) / 4294967296))) + ((IntKind.u64.wrap ((Go.bits .and .u64 (IntKind.u64.wrap ((IntKind.u64.wrap ((a0 / 4294967296) * (Go.bits .and .u64 a1 4294967295))) + ((IntKind.u64.wrap ((Go.bits .and .u64 a0 4294967295) * (Go.bits .and .u64 a1 4294967295))) / 4294967296))) 4294967295) + (IntKind.u64.wrap ((Go.bits .and .u64 a0 4294967295) * (a1 / 4294967296))))) / 4294967296)), IntKind.u64.wrap (a0 * a1))) = some (r1, r2) := h
 clear h
 simp only [Option.some.injEq, Prod.mk.injEq] at H
 obtain ⟨rfl, rfl⟩ := H
 go_enter Try.func138, Try.ntmps138
 go_wp2
 go_ret2
 exact ⟨by first | rfl | (simp; done) | (simp [*]; done), by repeat (first | exact Drawn0.refl _ | apply Drawn0.step)⟩
end Go.Proofs.Ytljdcinpjnijcaa.Pr
end
section
namespace Go.Proofs.Ytljdcinpjnijcaa.Pr
open Go.RowKit Go.Proofs.YtljdcinpjnijcaaW.PrintWords Go.Proofs.YtljdcinpjnijcaaW.PrintLast Go.Proofs.YtljdcinpjnijcaaW.PrintMore
attribute [local go_sem] max2_int min2_int max_two min_two max_three min_three max_four min_four
set_option linter.unusedVariables false
set_option linter.unusedSimpArgs false
def bits_Mul.f (a0 : Int) (a1 : Int) : Option (Int × Int) := (bits_Mul64.f a0 a1).bind fun bt219 => (some (bt219.1, bt219.2))
set_option maxHeartbeats 8000000 in
set_option maxRecDepth 100000 in
theorem bits_Mul.calls (a0 : Int) (a1 : Int) (r1 : Int) (r2 : Int) (w : World) (h : bits_Mul.f a0 a1 = some (r1, r2)) :
  Calls Try.prog 132 #[.int .u64 a0, .int .u64 a1] w fun e w' => e = .returned (.tuple #[.int .u64 r1, .int .u64 r2]) ∧ Drawn0 w w' := by
 have H : ((bits_Mul64.f a0 a1).bind fun bt219 => (some (bt219.1, bt219.2))) = some (r1, r2) := h
 clear h
 replace H := Option.bind_eq_some_iff.mp H
 obtain ⟨⟨t219, t220⟩, A30, H⟩ := H
 replace H : (some (t219, t220)) = some (r1, r2) := H
 have A3 := Aside0.mk A30
 clear A30
 simp only [Option.some.injEq, Prod.mk.injEq] at H
 obtain ⟨rfl, rfl⟩ := H
 go_enter Try.func132, Try.ntmps132
 go_wp2_with (first | ((with_reducible refine gate_callee (f := 138) rfl ?_); refine goesL_ (some 25) rfl rfl Try.func138 (by kernel_rfl) rfl #[.int .u64 a0, .int .u64 a1] rfl (by (try simp only [List.map_toArray, List.map_cons, List.map_nil]); first | done | rfl | (simp only [List.length_drop, List.length_take]; rfl)) ?_; (with_reducible refine (bits_Mul64.calls a0 a1 t219 t220 _ A3.out).mono ?_); rintro e w' ⟨rfl, ⟨nd, rfl⟩⟩; refine ⟨_, rfl, ?_⟩))
 go_ret2
 exact ⟨by first | rfl | (simp; done) | (simp [*]; done), by repeat (first | exact Drawn0.refl _ | apply Drawn0.step)⟩
end Go.Proofs.Ytljdcinpjnijcaa.Pr
end
section
namespace Go.Proofs.Ytljdcinpjnijcaa.Pr
open Go.RowKit Go.Proofs.YtljdcinpjnijcaaW.PrintWords Go.Proofs.YtljdcinpjnijcaaW.PrintLast Go.Proofs.YtljdcinpjnijcaaW.PrintMore
attribute [local go_sem] max2_int min2_int max_two min_two max_three min_three max_four min_four
set_option linter.unusedVariables false
set_option linter.unusedSimpArgs false
def impl_measure.f (l0 : List S104) (a1 : Int) : Option (List S104) := if l0.length = 1 then if 0 ≤ a1 then if a1 ≤ 64 then some (List.replicate a1.toNat (l0.getD 0 z104)) else none else none else none
theorem mul1_126 : ∀ n : Fin 65, bits_Mul.f 1 ((n.val : Nat) : Int) = some (0, ((n.val : Nat) : Int)) := by decide +kernel
set_option maxHeartbeats 4000000 in
set_option maxRecDepth 100000 in
theorem rep126 (N : Nat) (hN : N ≤ 64) (x : S104) (A0 : Option Addr) (c0 : Nat) (w : World) (hr0 : Kd.C k104 w A0 1 [x]) (hc0 : 1 ≤ c0) :
  Calls Try.prog 126 #[.slice A0 1 c0, .int .i64 (N : Int)] w fun e w' => ∃ v0_, e = .returned v0_ ∧ Kd.R k104 104 w' w.heap.size (fun _ => True) v0_ (List.replicate N x) ∧ Below w.heap.size w w' := by
 obtain ⟨ad, c, hA, hcl, hK, hcc⟩ := Kd.C_get hr0 x 0 (by omega) (by omega)
 obtain rfl : c = [.int .i64 x.f0, .int .i64 x.f1] := k104_open hK
 subst hA
 replace hcc : ∀ j u, ([.int .i64 x.f0, .int .i64 x.f1] : List Value)[j]? = some u → w.cell? (ad.add j) = some u := fun j u h => by have := hcc j u h; simpa using this
 have hblk : ad.block < w.heap.size := by
  have := World.block_lt_of_cell? w _ (hcc 0 _ rfl)
  simpa [Addr.add] using this
 clear hr0 hcl
 try clear hK
 have HCC := Aside0.mk hcc
 have HBL := Aside0.mk hblk
 clear hcc hblk
 obtain ⟨i0, hi0, hz0, hsz, hby⟩ := info_parts (P := Try.prog) (e := 104) (z := (.agg #[.int .i64 0, .int .i64 0])) (size := 2) (bytes := 16) (by kernel_rfl)
 have hmk : ∀ W : World, (Instr.makeSlice 100 (.int .i64 (N : Int)) (.int .i64 (N : Int))).run Try.prog W = .ok (.slice (some ⟨W.heap.size, 0, none⟩) N N) (W.alloc (.cells (madeCells #[.int .i64 0, .int .i64 0] (N * 2)) 104)) := by
  intro W
  have := run_make (P := Try.prog) W 100 104 i0 (.agg #[.int .i64 0, .int .i64 0]) Try.underlying100 hi0 hz0 .i64 .i64 (N : Int) (N : Int) (by omega) (Int.le_refl _) (by rw [hby]; omega) (by omega)
  rw [hsz] at this
  exact this
 have hmul := fun (W : World) => bits_Mul.calls 1 (N : Int) 0 (N : Int) W (mul1_126 ⟨N, by omega⟩)
 have HMK := Aside0.mk hmk
 have HI := Aside0.mk hi0
 have HSZ := Aside0.mk hsz
 clear hmk hi0 hz0 hsz hby
 have hN1 : (N : Int) ≤ 64 := by omega
 have hN0 : (0 : Int) ≤ N := by omega
 have hN2 : ((N : Int) < 0) = False := eq_false (by omega)
 have hN3 : decide ((9223372036854775807 : Int) < (N : Int)) = false := decide_eq_false (by omega)
 obtain ⟨n0, hn0⟩ : ∃ n0, n0 = if N = 0 then 0 else 1 := ⟨_, rfl⟩
 obtain ⟨cs0, hcs0⟩ : ∃ cs0 : List Value, cs0 = if N = 0 then [] else [.int .i64 x.f0, .int .i64 x.f1] := ⟨_, rfl⟩
 have HN0 := Aside0.mk hn0
 have HCS := Aside0.mk hcs0
 clear hn0 hcs0
 have HN := Aside0.mk hN
 clear hN
 go_enter Try.func126, Try.ntmps126
 go_wp2_with (first | (go_at_call 132; (with_reducible refine (hmul _).mono ?_); rintro e w1 ⟨rfl, ⟨nd, rfl⟩⟩) | ((with_reducible refine gate_dst (N := 30) rfl ?_); refine make_event rfl (n := N) (cs := madeCells #[.int .i64 0, .int .i64 0] (N * 2)) (t := 104) (by have hmk := HMK.out; first | (go_simp; done) | (go_simp; rfl)) ?_; intro g hg w2 hblk hb; have B0 := Aside0.mk (below_step (pw_below_drewN (Below.refl _ _) nd) hb); have G0 := Aside0.mk (show w.heap.size ≤ g by rw [hg]; exact Nat.le_refl _); have K0 := Aside0.mk hblk; clear hg hblk hb) | ((with_reducible refine gate_builtin (b := .copy) (xs := #[.tmp 31, .tmp 32]) rfl ?_); refine copy_event rfl 2 (.tmp 31) (.tmp 32) 100 100 rfl 104 Try.underlying100 (by kernel_rfl) (some ⟨g, 0, none⟩) (some ad) N N 1 c0 rfl rfl g 0 _ _ K0.out cs0 n0 ?cpk ?cpn ?cpp ?cpf ?cpo (by decide) ?_; (case cpk => rw [HN0.out]; by_cases h0 : N = 0; (rw [if_pos h0, h0]; rfl); (rw [if_neg h0]; exact Nat.min_eq_left (by omega))); (case cpn => rw [HN0.out, HCS.out]; by_cases h0 : N = 0; (rw [if_pos h0, if_pos h0]; rfl); (rw [if_neg h0, if_neg h0]; rfl)); (case cpp => intro hp; refine ⟨rfl, ad, rfl, fun j v hj => ?_⟩; rw [HCS.out] at hj; by_cases hz : N = 0; (rw [if_pos hz] at hj; simp at hj); (rw [if_neg hz] at hj; exact pw_cell_below B0.out (HCC.out j v hj))); (case cpf => rw [size_madeCells, HCS.out]; by_cases h0 : N = 0; (rw [if_pos h0]; simp); (rw [if_neg h0]; simp; omega)); (case cpo => intro v hv; rw [HCS.out] at hv; by_cases h0 : N = 0; (rw [if_pos h0] at hv; simp at hv); (rw [if_neg h0] at hv; simp only [List.mem_cons, List.not_mem_nil, or_false] at hv; first | (subst hv; rfl) | (rcases hv with rfl | rfl <;> rfl))); intro w3 hc hg3; have K1 := Aside0.mk hc; have B1 := Aside0.mk (pw_below_grown B0.out _ (B0.out.size) hg3 (fun k hk => by obtain rfl : g = k := Option.some.inj hk; exact G0.out)); clear hc hg3 K0 B0))
 have K2 : Aside0 (∃ cur, w3.heap[g]? = some (.cells cur 104 (0, 0)) ∧ cur.size = N * 2 ∧ cur.toList.take (n0 * 2) = (madeCells #[.int .i64 x.f0, .int .i64 x.f1] (n0 * 2)).toList) := by
  obtain ⟨cur, h1, h2, h3⟩ := K1.out
  refine ⟨⟨cur, h1, by rw [h2, size_madeCells], ?_⟩⟩
  rw [h3, HCS.out, HN0.out]
  by_cases h0 : N = 0
  case pos => rw [if_pos h0]; simp [madeCells]
  rw [if_neg h0, if_neg h0]; simp [madeCells]; try rfl
 clear K1
 have HS : Aside0 (n0 ≤ N ∧ (0 < N → 1 ≤ n0)) := ⟨by rw [HN0.out]; split <;> omega⟩
 go_loopg [8] N (fun gg v8 wr => ∃ n : Nat, v8 = .int .i64 (n : Int) ∧ Aside0 (n ≤ N ∧ (0 < N → 1 ≤ n)) ∧ Aside0 (∃ cur, wr.heap[g]? = some (.cells cur 104 (0, 0)) ∧ cur.size = N * 2 ∧ cur.toList.take (n * 2) = (madeCells #[.int .i64 x.f0, .int .i64 x.f1] (n * 2)).toList) ∧ Aside0 (Below w.heap.size w wr) ∧ Aside0 (N - n ≤ gg))
 case atStart => exact ⟨n0, rfl, HS, K2, B1, ⟨by omega⟩⟩
 case round =>
  clear HS K2 B1
  obtain ⟨n, rfl, HS, K2, B1, HG⟩ := hrel
  by_cases hlt : n < N
  case neg =>
   have c1 : decide ((n : Int) < (N : Int)) = false := decide_eq_false (by omega)
   have c2 : decide (n < N) = false := decide_eq_false hlt
   have hnN : n = N := by have := HS.out.1; omega
   subst hnN
   have c3 : decide (n < n) = false := decide_eq_false (by omega)
   go_wp2
   go_ret
   obtain ⟨cur, hb, hs, ht⟩ := K2.out
   refine ⟨_, rfl, ⟨fun _ _ => trivial, (madeCells #[.int .i64 x.f0, .int .i64 x.f1] (n * 2)).toList, ⟨by rw [Array.length_toList, size_madeCells, List.length_replicate]; rfl, .inr ⟨g, n, cur, by first | (rw [List.length_replicate]; done) | (rw [List.length_replicate]; rfl), G0.out, hb, by rw [List.length_replicate]; exact Nat.le_refl _, by have := HN.out; simp only [maxLen]; omega, Nat.le_of_eq hs.symm, by rw [List.length_replicate]; exact ht⟩⟩, ?_⟩, B1.out⟩
   exact Kd.reps_made (R := k104.M _ _ _) (z0 := x) (z := (.agg #[.int .i64 x.f0, .int .i64 x.f1])) (size := 2) rfl (by decide) (k104_mkM _ _ _ x) n
  have c1 : decide ((n : Int) < (N : Int)) = true := decide_eq_true (by omega)
  have c2 : decide (n < N) = true := decide_eq_true hlt
  obtain ⟨cur, hb, hs, ht⟩ := K2.out
  obtain ⟨m, hm⟩ : ∃ m, Nat.min n (N - n) = m := ⟨_, rfl⟩
  have hm1 : m ≤ n ∧ m ≤ N - n := by rw [← hm]; exact ⟨Nat.min_le_left _ _, Nat.min_le_right _ _⟩
  have hm2 : 1 ≤ m := by
   have := HS.out.2 (by omega)
   rw [← hm]
   exact Nat.le_min.2 ⟨this, by omega⟩
  have hmn : m * 2 ≤ n * 2 := Nat.mul_le_mul_right _ hm1.1
  have h1 : cur.toList.take (m * 2) = (madeCells #[.int .i64 x.f0, .int .i64 x.f1] (m * 2)).toList := by
   rw [← made_take #[.int .i64 x.f0, .int .i64 x.f1] (m * 2) (n * 2) hmn, ← ht, List.take_take, Nat.min_eq_left hmn]
  have HSRC : Aside0 (∀ W : World, W.heap[g]? = some (.cells cur 104 (0, 0)) → ∀ j v, (madeCells #[.int .i64 x.f0, .int .i64 x.f1] (m * 2)).toList[j]? = some v → W.cell? ((⟨g, 0, none⟩ : Addr).add j) = some v) := ⟨by
   intro W hW j v hj
   rw [add_plain, blk_cell hW j, ← Array.getElem?_toList]
   rw [← h1, List.getElem?_take] at hj
   split at hj
   ·exact hj
   ·cases hj⟩
  have HLEN : Aside0 ((madeCells #[.int .i64 x.f0, .int .i64 x.f1] (m * 2)).toList.length = m * 2) := ⟨by rw [Array.length_toList, size_madeCells]⟩
  have HFIT : Aside0 (n * 2 + (madeCells #[.int .i64 x.f0, .int .i64 x.f1] (m * 2)).toList.length ≤ cur.size) := ⟨by rw [HLEN.out, hs]; omega⟩
  have HONE : Aside0 (∀ v ∈ (madeCells #[.int .i64 x.f0, .int .i64 x.f1] (m * 2)).toList, v.oneCell' = true) := ⟨by
   intro v hv
   have h := made_mem #[.int .i64 x.f0, .int .i64 x.f1] (m * 2) (by simp) v hv
   simp only [List.mem_cons, List.not_mem_nil, or_false] at h
   first | (subst h; rfl) | (rcases h with rfl | rfl <;> rfl)⟩
  have hcut1 : ∀ W : World, (Instr.slice 100 (.slice (some ⟨g, 0, none⟩) N N) (some (.int .i64 (n : Int))) none none).run Try.prog W = .ok (.slice (some ⟨g, n * 2, none⟩) (N - n) (N - n)) W := by
   intro W
   have h := cut_from (P := Try.prog) 100 104 .i64 Try.underlying100 HI.out 2 HSZ.out (some ⟨g, 0, none⟩) N N (n : Int) (by omega) (by omega) W
   simp only [Int.toNat_natCast, Option.map_some, add_plain] at h
   rw [if_neg (by omega)] at h
   exact h
  have hcut2 : ∀ W : World, (Instr.slice 100 (.slice (some ⟨g, 0, none⟩) N N) none (some (.int .i64 (n : Int))) none).run Try.prog W = .ok (.slice (some ⟨g, 0, none⟩) n N) W := by
   have h := cut_to (P := Try.prog) 100 104 .i64 Try.underlying100 HI.out (some ⟨g, 0, none⟩) N N (n : Int) (by omega) (by omega) (Nat.le_refl _)
   simpa only [Int.toNat_natCast] using h
  have hw : IntKind.i64.wrap ((n : Int) + (m : Int)) = (n : Int) + (m : Int) := by
   have := HN.out
   rw [i64_w, wrap64]; omega
  have HB := Aside0.mk hb
  have HM := Aside0.mk hm
  have HST := Aside0.mk (And.intro hs (And.intro ht (And.intro hm1 (And.intro hm2 hlt))))
  clear hb hs ht hm hm1 hm2 hmn h1 hlt
  go_wp2
  go_region_law (refine copy_step rfl 2 (.tmp 41) (.tmp 44) 100 100 ?cpo 104 Try.underlying100 (by kernel_rfl) (some ⟨g, n * 2, none⟩) (some ⟨g, 0, none⟩) (N - n) (N - n) n N ?cpd ?cps g (n * 2) cur 104 HB.out (madeCells #[.int .i64 x.f0, .int .i64 x.f1] (m * 2)).toList m HM.out HLEN.out (fun _ => ⟨rfl, _, rfl, HSRC.out _ HB.out⟩) HFIT.out HONE.out (by decide) ?_; (case cpo => rfl); (case cpd => go_simp); (case cps => go_simp); intro w4 hc hg4)
  have K3 : Aside0 (∃ cur', w4.heap[g]? = some (.cells cur' 104 (0, 0)) ∧ cur'.size = N * 2 ∧ cur'.toList.take ((n + m) * 2) = (madeCells #[.int .i64 x.f0, .int .i64 x.f1] ((n + m) * 2)).toList) := by
   obtain ⟨cur', e1, e2, e3⟩ := hc
   obtain ⟨s1, s2, s3, s4, s5⟩ := HST.out
   refine ⟨⟨cur', e1, by rw [e2, s1], ?_⟩⟩
   have hl : (cur.toList.take (n * 2)).length = n * 2 := by rw [s2, Array.length_toList, size_madeCells]
   have e4 : (n + m) * 2 = (cur.toList.take (n * 2) ++ (madeCells #[.int .i64 x.f0, .int .i64 x.f1] (m * 2)).toList).length := by rw [List.length_append, hl, HLEN.out, Nat.add_mul]
   have e5 : cur'.toList.take ((n + m) * 2) = cur.toList.take (n * 2) ++ (madeCells #[.int .i64 x.f0, .int .i64 x.f1] (m * 2)).toList := by
    rw [e3, e4, List.take_left]
   rw [e5, s2]
   exact made_append #[.int .i64 x.f0, .int .i64 x.f1] 2 n m (by simp)
  have B3 : Aside0 (Below w.heap.size w w4) := ⟨pw_below_grown B1.out.drew _ (B1.out.size) hg4 (fun k hk => by obtain rfl : g = k := Option.some.inj hk; exact G0.out)⟩
  have HS3 : Aside0 (n + m ≤ N ∧ (0 < N → 1 ≤ n + m) ∧ n + m ≤ n + m ∧ 1 ≤ m) := ⟨by
   obtain ⟨s1, s2, s3, s4, s5⟩ := HST.out
   exact ⟨by omega, fun _ => by omega, Nat.le_refl _, s4⟩⟩
  have HG3 : Aside0 (N - (n + m) ≤ N - (n + m)) := ⟨Nat.le_refl _⟩
  clear hc hg4
  go_wp2
  go_roundg (N - (n + m))
  case measure => have h1 := HG.out; have h2 := HS3.out; omega
  case rel => exact ⟨n + m, by first | (simp only [hw]; done) | (simp only [hw, Int.natCast_add]; done) | (rw [hw]; rfl), ⟨HS3.out.1, HS3.out.2.1⟩, K3, B3, HG3⟩
theorem impl_measure.calls (A0 : Option Addr) (c0 : Nat) (l0 : List S104) (a1 : Int) (r : List S104) (w : World) (hr0 : Kd.C k104 w A0 l0.length l0) (hc0 : l0.length ≤ c0) (h : impl_measure.f l0 a1 = some r) :
  Calls Try.prog 126 #[.slice A0 l0.length c0, .int .i64 a1] w fun e w' => ∃ v0_, e = .returned v0_ ∧ Kd.R k104 104 w' w.heap.size (fun _ => True) v0_ r ∧ Below w.heap.size w w' := by
 unfold impl_measure.f at h
 by_cases h1 : l0.length = 1
 case neg => rw [if_neg h1] at h; cases h
 rw [if_pos h1] at h
 by_cases h2 : 0 ≤ a1
 case neg => rw [if_neg h2] at h; cases h
 rw [if_pos h2] at h
 by_cases h3 : a1 ≤ 64
 case neg => rw [if_neg h3] at h; cases h
 rw [if_pos h3] at h
 obtain rfl := Option.some.inj h
 obtain ⟨x, rfl⟩ := List.length_eq_one_iff.1 h1
 obtain ⟨N, rfl⟩ := Int.eq_ofNat_of_zero_le h2
 exact rep126 N (by omega) x A0 c0 w hr0 hc0
theorem rep_measure (x : S104) (n : Nat) (h : n ≤ 64) : impl_measure.f [x] (n : Int) = some (List.replicate n x) := by
 unfold impl_measure.f
 rw [if_pos (show ([x] : List _).length = 1 from rfl), if_pos (by omega), if_pos (by omega)]
 simp
end Go.Proofs.Ytljdcinpjnijcaa.Pr
end
section
namespace Go.Proofs.Ytljdcinpjnijcaa.Pr
open Go.RowKit Go.Proofs.YtljdcinpjnijcaaW.PrintWords Go.Proofs.YtljdcinpjnijcaaW.PrintLast Go.Proofs.YtljdcinpjnijcaaW.PrintMore
attribute [local go_sem] max2_int min2_int max_two min_two max_three min_three max_four min_four
set_option linter.unusedVariables false
set_option linter.unusedSimpArgs false
def impl_measure_less.f (a0_0 : Int) (a0_1 : Int) (a1_0 : Int) (a1_1 : Int) : Option (Bool) := if a0_0 < a1_0 then (some true) else (if a0_0 = a1_0 then (some (decide (a0_1 < a1_1))) else (some false))
set_option maxHeartbeats 8000000 in
set_option maxRecDepth 100000 in
theorem impl_measure_less.calls (a0_0 : Int) (a0_1 : Int) (a1_0 : Int) (a1_1 : Int) (r : Bool) (w : World) (h : impl_measure_less.f a0_0 a0_1 a1_0 a1_1 = some r) :
  Calls Try.prog 127 #[.agg #[.int .i64 a0_0, .int .i64 a0_1], .agg #[.int .i64 a1_0, .int .i64 a1_1]] w fun e w' => e = .returned (.bool r) ∧ Below w.heap.size w w' := by
 have hu104 := Try.underlying104
 have HB := Aside0.mk (Below.refl w.heap.size w)
 have H : (if a0_0 < a1_0 then (some true) else (if a0_0 = a1_0 then (some (decide (a0_1 < a1_1))) else (some false))) = some r := h
 clear h
 by_cases c3 : a0_0 < a1_0
 case pos =>
  rw [if_pos c3] at H
  have c3b0 : decide (a0_0 < a1_0) = true := decide_eq_true c3
  clear c3
  obtain rfl := Option.some.inj H
  go_enter Try.func127, Try.ntmps127
  go_wp2_with (first | ((with_reducible refine gate_dst (N := 2) rfl ?_); refine box_event ?hg (N := 2) ?hd (cs := #[.int .i64 a0_0, .int .i64 a0_1]) (t := 104) ?hr ?_; (case hd => rfl); (case hg => rfl); (case hr => first | (go_simp; done) | (go_simp; rfl)); intro p0 hg w4 hbox hb; have n0_ := Aside0.mk (below_step HB.out hb); have n1_ := Aside0.mk (hbox); have n2_ := Aside0.mk ((by rw [hg]; exact (below_size HB.out) : w.heap.size ≤ p0)); have n3_ := Aside0.mk ((by rw [hg]; exact (below_size HB.out) : w.heap.size ≤ p0)); clear HB; have HB := n0_; have p1 := n1_; have GW221 := n2_; have p6 := n3_; clear n0_ n1_ n2_ n3_; clear hb hbox hg) | ((with_reducible refine gate_dst (N := 3) rfl ?_); refine box_event ?hg (N := 3) ?hd (cs := #[.int .i64 a1_0, .int .i64 a1_1]) (t := 104) ?hr ?_; (case hd => rfl); (case hg => rfl); (case hr => first | (go_simp; done) | (go_simp; rfl)); intro p2 hg w5 hbox hb; have n0_ := Aside0.mk (blk_below (g := p0) (o := .cells #[.int .i64 a0_0, .int .i64 a0_1] 104 (0, 0)) p1.out hb); have n1_ := Aside0.mk (below_step HB.out hb); have n2_ := Aside0.mk (hbox); have n3_ := Aside0.mk ((by rw [hg]; exact (below_size HB.out) : w.heap.size ≤ p2)); have n4_ := Aside0.mk ((by rw [hg]; exact (below_size HB.out) : w.heap.size ≤ p2)); have n5_ := Aside0.mk ((by rw [hg]; exact Nat.ne_of_lt (blk_lt (g := p0) (o := .cells #[.int .i64 a0_0, .int .i64 a0_1] 104 (0, 0)) p1.out) : p0 ≠ p2)); have n6_ := Aside0.mk ((by rw [hg]; exact Nat.ne_of_gt (blk_lt (g := p0) (o := .cells #[.int .i64 a0_0, .int .i64 a0_1] 104 (0, 0)) p1.out) : p2 ≠ p0)); clear p1; clear HB; have p1 := n0_; have HB := n1_; have p3 := n2_; have GW222 := n3_; have p7 := n4_; have p4 := n5_; have p5 := n6_; clear n0_ n1_ n2_ n3_ n4_ n5_ n6_; clear hb hbox hg; have hnb6 := p4.out; have hnc6 := p5.out; have hcz7_0 : w5.cell? ⟨p0, 0, none⟩ = some (.int .i64 a0_0) := (blk_cell p1.out 0).trans rfl; have hcz7_1 : w5.cell? ⟨p0, 1, none⟩ = some (.int .i64 a0_1) := (blk_cell p1.out 1).trans rfl; have hfz7_0 := blk_frozen p1.out 0; have hfz7_1 := blk_frozen p1.out 1; have hcz8_0 : w5.cell? ⟨p2, 0, none⟩ = some (.int .i64 a1_0) := (blk_cell p3.out 0).trans rfl; have hcz8_1 : w5.cell? ⟨p2, 1, none⟩ = some (.int .i64 a1_1) := (blk_cell p3.out 1).trans rfl; have hfz8_0 := blk_frozen p3.out 0; have hfz8_1 := blk_frozen p3.out 1))
  go_ret
  exact ⟨by first | rfl | (simp [errW_none, errW_some] <;> rfl) | (simp [*, errW_none, errW_some] <;> rfl), by repeat (first | (with_reducible first | exact HB.out | apply below_alloc | apply pw_below_drewN | apply below_drew1 | refine below_set ?_ p6.out | refine below_set ?_ p7.out) | exact HB.out)⟩
 rw [if_neg c3] at H
 have c3b0 : decide (a0_0 < a1_0) = false := decide_eq_false c3
 clear c3
 by_cases c9 : a0_0 = a1_0
 case neg =>
  rw [if_neg c9] at H
  have c9b0 : (a0_0 == a1_0) = false := beq_eq_false_iff_ne.mpr c9
  have c9b1 : (a0_0 != a1_0) = true := bne_iff_ne.mpr c9
  obtain rfl := Option.some.inj H
  go_enter Try.func127, Try.ntmps127
  go_wp2_with (first | ((with_reducible refine gate_dst (N := 2) rfl ?_); refine box_event ?hg (N := 2) ?hd (cs := #[.int .i64 a0_0, .int .i64 a0_1]) (t := 104) ?hr ?_; (case hd => rfl); (case hg => rfl); (case hr => first | (go_simp; done) | (go_simp; rfl)); intro p0 hg w15 hbox hb; have n0_ := Aside0.mk (below_step HB.out hb); have n1_ := Aside0.mk (hbox); have n2_ := Aside0.mk ((by rw [hg]; exact (below_size HB.out) : w.heap.size ≤ p0)); have n3_ := Aside0.mk ((by rw [hg]; exact (below_size HB.out) : w.heap.size ≤ p0)); clear HB; have HB := n0_; have p1 := n1_; have GW221 := n2_; have p6 := n3_; clear n0_ n1_ n2_ n3_; clear hb hbox hg) | ((with_reducible refine gate_dst (N := 3) rfl ?_); refine box_event ?hg (N := 3) ?hd (cs := #[.int .i64 a1_0, .int .i64 a1_1]) (t := 104) ?hr ?_; (case hd => rfl); (case hg => rfl); (case hr => first | (go_simp; done) | (go_simp; rfl)); intro p2 hg w16 hbox hb; have n0_ := Aside0.mk (blk_below (g := p0) (o := .cells #[.int .i64 a0_0, .int .i64 a0_1] 104 (0, 0)) p1.out hb); have n1_ := Aside0.mk (below_step HB.out hb); have n2_ := Aside0.mk (hbox); have n3_ := Aside0.mk ((by rw [hg]; exact (below_size HB.out) : w.heap.size ≤ p2)); have n4_ := Aside0.mk ((by rw [hg]; exact (below_size HB.out) : w.heap.size ≤ p2)); have n5_ := Aside0.mk ((by rw [hg]; exact Nat.ne_of_lt (blk_lt (g := p0) (o := .cells #[.int .i64 a0_0, .int .i64 a0_1] 104 (0, 0)) p1.out) : p0 ≠ p2)); have n6_ := Aside0.mk ((by rw [hg]; exact Nat.ne_of_gt (blk_lt (g := p0) (o := .cells #[.int .i64 a0_0, .int .i64 a0_1] 104 (0, 0)) p1.out) : p2 ≠ p0)); clear p1; clear HB; have p1 := n0_; have HB := n1_; have p3 := n2_; have GW222 := n3_; have p7 := n4_; have p4 := n5_; have p5 := n6_; clear n0_ n1_ n2_ n3_ n4_ n5_ n6_; clear hb hbox hg; have hnb17 := p4.out; have hnc17 := p5.out; have hcz18_0 : w16.cell? ⟨p0, 0, none⟩ = some (.int .i64 a0_0) := (blk_cell p1.out 0).trans rfl; have hcz18_1 : w16.cell? ⟨p0, 1, none⟩ = some (.int .i64 a0_1) := (blk_cell p1.out 1).trans rfl; have hfz18_0 := blk_frozen p1.out 0; have hfz18_1 := blk_frozen p1.out 1; have hcz19_0 : w16.cell? ⟨p2, 0, none⟩ = some (.int .i64 a1_0) := (blk_cell p3.out 0).trans rfl; have hcz19_1 : w16.cell? ⟨p2, 1, none⟩ = some (.int .i64 a1_1) := (blk_cell p3.out 1).trans rfl; have hfz19_0 := blk_frozen p3.out 0; have hfz19_1 := blk_frozen p3.out 1))
  go_ret
  exact ⟨by first | rfl | (simp [errW_none, errW_some] <;> rfl) | (simp [*, errW_none, errW_some] <;> rfl), by repeat (first | (with_reducible first | exact HB.out | apply below_alloc | apply pw_below_drewN | apply below_drew1 | refine below_set ?_ p6.out | refine below_set ?_ p7.out) | exact HB.out)⟩
 rw [if_pos c9] at H
 have c9b0 : (a0_0 == a1_0) = true := beq_iff_eq.mpr c9
 have c9b1 : (a0_0 != a1_0) = false := bne_eq_false_iff_eq.mpr c9
 clear c9
 obtain rfl := Option.some.inj H
 go_enter Try.func127, Try.ntmps127
 go_wp2_with (first | ((with_reducible refine gate_dst (N := 2) rfl ?_); refine box_event ?hg (N := 2) ?hd (cs := #[.int .i64 a0_0, .int .i64 a0_1]) (t := 104) ?hr ?_; (case hd => rfl); (case hg => rfl); (case hr => first | (go_simp; done) | (go_simp; rfl)); intro p0 hg w10 hbox hb; have n0_ := Aside0.mk (below_step HB.out hb); have n1_ := Aside0.mk (hbox); have n2_ := Aside0.mk ((by rw [hg]; exact (below_size HB.out) : w.heap.size ≤ p0)); have n3_ := Aside0.mk ((by rw [hg]; exact (below_size HB.out) : w.heap.size ≤ p0)); clear HB; have HB := n0_; have p1 := n1_; have GW221 := n2_; have p6 := n3_; clear n0_ n1_ n2_ n3_; clear hb hbox hg) | ((with_reducible refine gate_dst (N := 3) rfl ?_); refine box_event ?hg (N := 3) ?hd (cs := #[.int .i64 a1_0, .int .i64 a1_1]) (t := 104) ?hr ?_; (case hd => rfl); (case hg => rfl); (case hr => first | (go_simp; done) | (go_simp; rfl)); intro p2 hg w11 hbox hb; have n0_ := Aside0.mk (blk_below (g := p0) (o := .cells #[.int .i64 a0_0, .int .i64 a0_1] 104 (0, 0)) p1.out hb); have n1_ := Aside0.mk (below_step HB.out hb); have n2_ := Aside0.mk (hbox); have n3_ := Aside0.mk ((by rw [hg]; exact (below_size HB.out) : w.heap.size ≤ p2)); have n4_ := Aside0.mk ((by rw [hg]; exact (below_size HB.out) : w.heap.size ≤ p2)); have n5_ := Aside0.mk ((by rw [hg]; exact Nat.ne_of_lt (blk_lt (g := p0) (o := .cells #[.int .i64 a0_0, .int .i64 a0_1] 104 (0, 0)) p1.out) : p0 ≠ p2)); have n6_ := Aside0.mk ((by rw [hg]; exact Nat.ne_of_gt (blk_lt (g := p0) (o := .cells #[.int .i64 a0_0, .int .i64 a0_1] 104 (0, 0)) p1.out) : p2 ≠ p0)); clear p1; clear HB; have p1 := n0_; have HB := n1_; have p3 := n2_; have GW222 := n3_; have p7 := n4_; have p4 := n5_; have p5 := n6_; clear n0_ n1_ n2_ n3_ n4_ n5_ n6_; clear hb hbox hg; have hnb12 := p4.out; have hnc12 := p5.out; have hcz13_0 : w11.cell? ⟨p0, 0, none⟩ = some (.int .i64 a0_0) := (blk_cell p1.out 0).trans rfl; have hcz13_1 : w11.cell? ⟨p0, 1, none⟩ = some (.int .i64 a0_1) := (blk_cell p1.out 1).trans rfl; have hfz13_0 := blk_frozen p1.out 0; have hfz13_1 := blk_frozen p1.out 1; have hcz14_0 : w11.cell? ⟨p2, 0, none⟩ = some (.int .i64 a1_0) := (blk_cell p3.out 0).trans rfl; have hcz14_1 : w11.cell? ⟨p2, 1, none⟩ = some (.int .i64 a1_1) := (blk_cell p3.out 1).trans rfl; have hfz14_0 := blk_frozen p3.out 0; have hfz14_1 := blk_frozen p3.out 1))
 go_ret
 exact ⟨by first | rfl | (simp [errW_none, errW_some] <;> rfl) | (simp [*, errW_none, errW_some] <;> rfl), by repeat (first | (with_reducible first | exact HB.out | apply below_alloc | apply pw_below_drewN | apply below_drew1 | refine below_set ?_ p6.out | refine below_set ?_ p7.out) | exact HB.out)⟩
end Go.Proofs.Ytljdcinpjnijcaa.Pr
end
section
namespace Go.Proofs.Ytljdcinpjnijcaa.Pr
open Go.RowKit Go.Proofs.YtljdcinpjnijcaaW.PrintWords Go.Proofs.YtljdcinpjnijcaaW.PrintLast Go.Proofs.YtljdcinpjnijcaaW.PrintMore
attribute [local go_sem] max2_int min2_int max_two min_two max_three min_three max_four min_four
set_option linter.unusedVariables false
set_option linter.unusedSimpArgs false
theorem add_block (ad : Addr) (k : Nat) : (ad.add k).block = ad.block := by
 unfold Addr.add
 split <;> rfl
theorem heap_at {W : World} {o : Obj} {k : Nat} (h : k = W.heap.size) : (W.alloc o).heap[k]? = some o := by subst h; exact heap_alloc_new W o
def farc (L : List S104) (v : Int) (want : S104) (a : S34) : Bool := decide (a.f0 = v) && (!decide ((rd_T104 L a.f1).f0 = 99999) && (decide (wrap64 ((rd_T104 L a.f1).f0 + a.f2) = want.f0) && decide (wrap64 ((rd_T104 L a.f1).f1 + 1) = want.f1)))
set_option maxHeartbeats 4000000 in
set_option maxRecDepth 100000 in
theorem first_closure (a : S34) (g1 g2 g3 : Nat) (A : Option Addr) (c : Nat) (L : List S104) (v : Int) (want : S104) (w : World) (h1 : w.heap[g1]? = some (.cells #[.slice A L.length c] 100 (0, 0))) (h2 : w.heap[g2]? = some (.cells #[.int .i64 v] 3 (0, 0))) (h3 : w.heap[g3]? = some (.cells #[.int .i64 want.f0, .int .i64 want.f1] 104 (0, 0))) (hK : Kd.C k104 w A L.length L) (hc : L.length ≤ c) (b0 : 0 ≤ a.f1) (b1 : a.f1 < (L.length : Int)) :
  Calls Try.prog 129 #[encA a, .pointer (some ⟨g1, 0, none⟩), .pointer (some ⟨g2, 0, none⟩), .pointer (some ⟨g3, 0, none⟩)] w fun e w' => e = .returned (.bool (farc L v want a)) ∧ Below w.heap.size w w' := by
 have c1 : w.cell? ⟨g1, 0, none⟩ = some (.slice A L.length c) := (blk_cell h1 0).trans rfl
 have c2 : w.cell? ⟨g2, 0, none⟩ = some (.int .i64 v) := (blk_cell h2 0).trans rfl
 have c3 : w.cell? ⟨g3, 0, none⟩ = some (.int .i64 want.f0) := (blk_cell h3 0).trans rfl
 have c4 : w.cell? ⟨g3, 1, none⟩ = some (.int .i64 want.f1) := (blk_cell h3 1).trans rfl
 have l1 := blk_lt h1
 have l2 := blk_lt h2
 have l3 := blk_lt h3
 obtain ⟨ad, e, hx0, hx1⟩ := at_T104 hK a.f1 b0 b1
 cases e
 have l4 := World.block_lt_of_cell? w _ hx0
 have hu := Try.underlying34
 have hu2 := Try.underlying104
 clear h1 h2 h3 hK
 have l4 : ad.block < w.heap.size := by rw [add_block] at l4; exact l4
 have p0 := eq_true b0
 have p1 := eq_true b1
 unfold farc
 generalize rd_T104 L a.f1 = nx at hx0 hx1
 unfold encA
 clear b0 b1 hc
 by_cases hv : a.f0 = v
 case neg =>
  have d1 : decide (a.f0 = v) = false := decide_eq_false hv
  have d1' : (a.f0 == v) = false := beq_eq_false_iff_ne.2 hv
  rw [d1]
  go_enter Try.func129, Try.ntmps129
  go_wp2
  go_ret
  exact ⟨rfl, by repeat (first | apply below_alloc | exact Below.refl _ _)⟩
 have d1 : decide (a.f0 = v) = true := decide_eq_true hv
 have d1' : (a.f0 == v) = true := beq_iff_eq.2 hv
 by_cases hf : nx.f0 = 99999
 case pos =>
  have d2 : decide (nx.f0 = 99999) = true := decide_eq_true hf
  have d2' : (nx.f0 == 99999) = true := beq_iff_eq.2 hf
  have d2'' : (nx.f0 != 99999) = false := bne_eq_false_iff_eq.2 hf
  rw [d1, d2]
  go_enter Try.func129, Try.ntmps129
  go_wp2
  go_ret
  exact ⟨rfl, by repeat (first | apply below_alloc | exact Below.refl _ _)⟩
 have d2 : decide (nx.f0 = 99999) = false := decide_eq_false hf
 have d2' : (nx.f0 == 99999) = false := beq_eq_false_iff_ne.2 hf
 have d2'' : (nx.f0 != 99999) = true := bne_iff_ne.2 hf
 rw [d1, d2]
 go_enter Try.func129, Try.ntmps129
 go_wp2
 all_goals go_ret
 all_goals exact ⟨by simp [*], by repeat (first | apply below_alloc | exact Below.refl _ _)⟩
def impl_Net_firstArc.f (_a0_0 : Int) (l0_1 : List S34) (l1 : List S104) (a2 : Int) : Option Int := if 0 ≤ a2 then if a2 < (l1.length : Int) then if (l0_1.all fun a => decide (0 ≤ a.f1) && decide (a.f1 < (l1.length : Int))) = true then some (idxI (farc l1 a2 (rd_T104 l1 a2)) l0_1) else none else none else none
set_option maxHeartbeats 4000000 in
set_option maxRecDepth 100000 in
theorem impl_Net_firstArc.calls (a0_0 : Int) (A0_1 : Option Addr) (c0_1 : Nat) (l0_1 : List S34) (A1 : Option Addr) (c1 : Nat) (l1 : List S104) (a2 : Int) (r : Int) (w : World) (hr0_1 : Kd.C k34 w A0_1 l0_1.length l0_1) (hc0_1 : l0_1.length ≤ c0_1) (hr1 : Kd.C k104 w A1 l1.length l1) (hc1 : l1.length ≤ c1) (h : impl_Net_firstArc.f a0_0 l0_1 l1 a2 = some r) :
  Calls Try.prog 94 #[.agg #[.int .i64 a0_0, .slice A0_1 l0_1.length c0_1], .slice A1 l1.length c1, .int .i64 a2] w fun e w' => e = .returned (.int .i64 r) ∧ Below w.heap.size w w' := by
 have b0 : 0 ≤ a2 := by
  apply Decidable.byContradiction
  intro c
  unfold impl_Net_firstArc.f at h
  rw [if_neg c] at h
  cases h
 have b1 : a2 < (l1.length : Int) := by
  apply Decidable.byContradiction
  intro c
  unfold impl_Net_firstArc.f at h
  rw [if_pos b0, if_neg c] at h
  cases h
 have b2 : (l0_1.all fun a => decide (0 ≤ a.f1) && decide (a.f1 < (l1.length : Int))) = true := by
  apply Decidable.byContradiction
  intro c
  unfold impl_Net_firstArc.f at h
  rw [if_pos b0, if_pos b1, if_neg c] at h
  cases h
 have hr : idxI (farc l1 a2 (rd_T104 l1 a2)) l0_1 = r := by
  unfold impl_Net_firstArc.f at h
  rw [if_pos b0, if_pos b1, if_pos b2] at h
  exact Option.some.inj h
 clear h
 subst hr
 have hall : ∀ x ∈ l0_1, 0 ≤ x.f1 ∧ x.f1 < (l1.length : Int) := by
  intro x hx
  have := List.all_eq_true.1 b2 x hx
  simpa using this
 clear b2
 obtain ⟨ad, e, hx0, hx1⟩ := at_T104 hr1 a2 b0 b1
 have l4 : ad.block < w.heap.size := by have := World.block_lt_of_cell? w _ hx0; rw [add_block] at this; exact this
 have hu := Try.underlying25
 have hu2 := Try.underlying104
 generalize hwant : rd_T104 l1 a2 = want at hx0 hx1
 have hcall := fun (W : World) (hB : Below w.heap.size w W) (g1 g2 g3 : Nat) (q1 : W.heap[g1]? = some (.cells #[.slice A1 l1.length c1] 100 (0, 0))) (q2 : W.heap[g2]? = some (.cells #[.int .i64 a2] 3 (0, 0))) (q3 : W.heap[g3]? = some (.cells #[.int .i64 want.f0, .int .i64 want.f1] 104 (0, 0))) => slices_IndexFunc_Arc.calls (farc l1 a2 want) 129 #[.pointer (some ⟨g1, 0, none⟩), .pointer (some ⟨g2, 0, none⟩), .pointer (some ⟨g3, 0, none⟩)] (enters_of Try.func129 (by kernel_rfl) rfl) A0_1 c0_1 l0_1 W (Kd.C_below hr0_1 hB) hc0_1
  (fun W1 x hx hB1 => first_closure x g1 g2 g3 A1 c1 l1 a2 want W1 (blk_below q1 hB1) (blk_below q2 hB1) (blk_below q3 hB1) (Kd.C_below (Kd.C_below hr1 hB) hB1) hc1 (hall x hx).1 (hall x hx).2)
 have HC := Aside0.mk hcall
 cases e
 have l5 : (ad.add (a2.toNat * 2)).block < w.heap.size := by rw [add_block]; exact l4
 have hb3 := below_alloc (below_alloc (below_alloc (Below.refl w.heap.size w) (.cells #[.int .i64 a0_0, .slice A0_1 l0_1.length c0_1] 25)) (.cells #[.slice (some ad) l1.length c1] 100)) (.cells #[.int .i64 a2] 3)
 have hy0 := (hb3.cell (p := ad.add (a2.toNat * 2)) l5).trans hx0
 have hy1 := (hb3.cell (p := ⟨(ad.add (a2.toNat * 2)).block, (ad.add (a2.toNat * 2)).off + 1, none⟩) l5).trans hx1
 clear hb3 hx0 hx1
 have p0 := eq_true b0
 have p1 := eq_true b1
 clear hcall hall hr0_1 hr1 hc0_1 hc1 hwant b0 b1
 generalize idxI (farc l1 a2 want) l0_1 = R at HC
 go_enter Try.func94, Try.ntmps94
 go_wp2_with (go_at_call 128; refine (HC.out _ ?hB _ _ _ ?q1 ?q2 ?q3).mono ?_; (case hB => repeat (first | exact Below.refl _ _ | apply below_alloc)); (case q1 => exact blk_alloc (blk_alloc (heap_at (by simp)) _) _); (case q2 => exact blk_alloc (heap_at (by simp)) _); (case q3 => exact heap_at (by simp)); rintro e w' ⟨rfl, hb'⟩)
 go_ret
 exact ⟨rfl, below_then (by repeat (first | apply below_alloc | exact Below.refl _ _)) (by simp; omega) hb'⟩
end Go.Proofs.Ytljdcinpjnijcaa.Pr
end
section
namespace Go.Proofs.Ytljdcinpjnijcaa.Pr
open Go.RowKit Go.Proofs.YtljdcinpjnijcaaW.PrintWords Go.Proofs.YtljdcinpjnijcaaW.PrintLast Go.Proofs.YtljdcinpjnijcaaW.PrintMore
attribute [local go_sem] max2_int min2_int max_two min_two max_three min_three max_four min_four
set_option linter.unusedVariables false
set_option linter.unusedSimpArgs false
mutual
def impl_Net_toward.l0 : Nat → List (S104) → Bool → Int → List (S34) → Option ((List (S104)))
 | 0, _, _, _, _ => none
 | k + 1, x5, x6, t3, s9 => if x6 = true then (impl_Net_toward.l1 k x5 false s9 (s9.length : Int) 0 t3 s9) else (some x5)
def impl_Net_toward.l1 : Nat → List (S104) → Bool → List (S34) → Int → Int → Int → List (S34) → Option ((List (S104)))
 | 0, _, _, _, _, _, _, _ => none
 | k + 1, x5, x6, x21, x22, x23, t3, s9 => if x23 < x22 then (if 0 ≤ x23 then (if x23 < (x21.length : Int) then (if 0 ≤ ((rd_T34 x21 x23).f1) then (if ((rd_T34 x21 x23).f1) < (x5.length : Int) then (if ((rd_T104 x5 ((rd_T34 x21 x23).f1)).f0) = 99999 then (impl_Net_toward.l1 k x5 x6 x21 x22 (wrap64 (x23 + 1)) t3 s9) else (if 0 ≤ ((rd_T34 x21 x23).f0) then (if ((rd_T34 x21 x23).f0) < (x5.length : Int) then ((impl_measure_less.f (wrap64 (((rd_T104 x5 ((rd_T34 x21 x23).f1)).f0) + ((rd_T34 x21 x23).f2))) (wrap64 (((rd_T104 x5 ((rd_T34 x21 x23).f1)).f1) + 1)) ((rd_T104 x5 ((rd_T34 x21 x23).f0)).f0) ((rd_T104 x5 ((rd_T34 x21 x23).f0)).f1)).bind fun t236 => (if t236 = true then (impl_Net_toward.l1 k (x5.set (((rd_T34 x21 x23).f0) : Int).toNat (⟨wrap64 (((rd_T104 x5 ((rd_T34 x21 x23).f1)).f0) + ((rd_T34 x21 x23).f2)), wrap64 (((rd_T104 x5 ((rd_T34 x21 x23).f1)).f1) + 1)⟩ : S104)) true x21 x22 (wrap64 (x23 + 1)) t3 s9) else (impl_Net_toward.l1 k x5 x6 x21 x22 (wrap64 (x23 + 1)) t3 s9))) else (none)) else (none))) else (none)) else (none)) else (none)) else (none)) else (impl_Net_toward.l0 k x5 x6 t3 s9)
end
def impl_Net_toward.f (k : Nat) (a0_0 : Int) (l0_1 : List (S34)) (a1 : Int) : Option ((List (S104))) := (impl_measure.f (([(⟨99999, 0⟩ : S104)] : List (S104))) a0_0).bind fun t227 => (if 0 ≤ a1 then (if a1 < (t227.length : Int) then (impl_Net_toward.l0 k (t227.set (a1 : Int).toNat (⟨0, 0⟩ : S104)) true a0_0 l0_1) else (none)) else (none))
set_option maxHeartbeats 8000000 in
set_option maxRecDepth 100000 in
theorem impl_Net_toward.calls (k : Nat) (a0_0 : Int) (A0_1 : Option Addr) (c0_1 : Nat) (l0_1 : List (S34)) (a1 : Int) (r : List (S104)) (w : World) (hr0_1 : Kd.C k34 w A0_1 l0_1.length l0_1) (hc0_1 : l0_1.length ≤ c0_1) (h : impl_Net_toward.f k a0_0 l0_1 a1 = some r) :
  Calls Try.prog 93 #[.agg #[.int .i64 a0_0, .slice A0_1 l0_1.length c0_1], .int .i64 a1] w fun e w' => ∃ v0_ : Value, e = .returned (v0_) ∧ Kd.R k104 104 w' w.heap.size (fun _ => True) v0_ r ∧ Below w.heap.size w w' := by
 have hu25 := Try.underlying25
 have hu104 := Try.underlying104
 have hu34 := Try.underlying34
 have u4 := Aside0.mk hr0_1
 have HC0_1 := Aside0.mk hc0_1
 clear hr0_1 hc0_1
 have HB := Aside0.mk (Below.refl w.heap.size w)
 have H : ((impl_measure.f (([(⟨99999, 0⟩ : S104)] : List (S104))) a0_0).bind fun t227 => (if 0 ≤ a1 then (if a1 < (t227.length : Int) then (impl_Net_toward.l0 k (t227.set (a1 : Int).toNat (⟨0, 0⟩ : S104)) true a0_0 l0_1) else (none)) else (none))) = some r := h
 clear h
 obtain ⟨y224, hy224⟩ : ∃ y_ : List (S104), y_ = (([(⟨99999, 0⟩ : S104)] : List (S104))) := ⟨_, rfl⟩
 replace H : ((impl_measure.f y224 a0_0).bind fun t227 => (if 0 ≤ a1 then (if a1 < (t227.length : Int) then (impl_Net_toward.l0 k (t227.set (a1 : Int).toNat (⟨0, 0⟩ : S104)) true a0_0 l0_1) else (none)) else (none))) = some r := by first | (rw [hy224]; with_reducible exact H) | (have H2_ := (Option.bind_some _ _).symm.trans H; rw [hy224]; with_reducible exact H2_) | (have H2_ := (Option.bind_some _ _).symm.trans H; with_reducible exact H2_) | with_reducible exact H | (rw [hy224]; exact H) | exact H
 have Ny224 := Aside0.mk hy224
 clear hy224
 replace H := Option.bind_eq_some_iff.mp H
 obtain ⟨t227, A30, H⟩ := H
 replace H : (if 0 ≤ a1 then (if a1 < (t227.length : Int) then (impl_Net_toward.l0 k (t227.set (a1 : Int).toNat (⟨0, 0⟩ : S104)) true a0_0 l0_1) else (none)) else (none)) = some r := H
 have A3 := Aside0.mk A30
 clear A30
 by_cases c4 : 0 ≤ a1
 case neg =>
  rw [if_neg c4] at H
  exact absurd H (by simp)
 rw [if_pos c4] at H
 have c4b0 : decide (0 ≤ a1) = true := decide_eq_true c4
 clear c4
 by_cases c5 : a1 < (t227.length : Int)
 case neg =>
  rw [if_neg c5] at H
  exact absurd H (by simp)
 rw [if_pos c5] at H
 have c5b0 : decide (a1 < (t227.length : Int)) = true := decide_eq_true c5
 clear c5
 obtain ⟨y230, hy230⟩ : ∃ y_ : List (S104), y_ = (t227.set (a1 : Int).toNat (⟨0, 0⟩ : S104)) := ⟨_, rfl⟩
 replace H : (impl_Net_toward.l0 k y230 true a0_0 l0_1) = some r := by first | (rw [hy230]; with_reducible exact H) | (have H2_ := (Option.bind_some _ _).symm.trans H; rw [hy230]; with_reducible exact H2_) | (have H2_ := (Option.bind_some _ _).symm.trans H; with_reducible exact H2_) | with_reducible exact H | (rw [hy230]; exact H) | exact H
 have Ny230 := Aside0.mk hy230
 clear hy230
 have H' := Aside0.mk H
 clear H
 go_enter Try.func93, Try.ntmps93
 go_wp2_with (first | ((with_reducible refine gate_dst (N := 2) rfl ?_); refine box_event ?hg (N := 2) ?hd (cs := #[.int .i64 a0_0, .slice A0_1 l0_1.length c0_1]) (t := 25) ?hr ?_; (case hd => rfl); (case hg => rfl); (case hr => first | (go_simp; done) | (go_simp; rfl)); intro q1 hg w7 hbox hb; have n0_ := Aside0.mk (below_step HB.out hb); have n1_ := Aside0.mk (hbox); have n2_ := Aside0.mk ((by rw [hg]; exact (below_size HB.out) : w.heap.size ≤ q1)); have n3_ := Aside0.mk ((by rw [hg]; exact (below_size HB.out) : w.heap.size ≤ q1)); clear HB; have HB := n0_; have p7 := n1_; have GW223 := n2_; have r8 := n3_; clear n0_ n1_ n2_ n3_; clear hb hbox hg) | ((with_reducible refine gate_dst (N := 11) rfl ?_); refine Kd.R_lit k104 _ 104 ?hg (N := 11) ?hd (xs := ([(⟨99999, 0⟩ : S104)] : List (S104))) (inner := [.int .i64 99999, .int .i64 0]) (ok := fun _ => True) (okp := fun _ => True) ?hr ?hp (fun _ hk => hk) trivial (Below.refl _ _) (Nat.le_refl _) (by simp) ?_; (case hd => rfl); (case hg => rfl); (case hr => first | (go_simp; done) | (go_simp; rfl)); (case hp => exact (Reps.c2 (show Kd.M k104 _ _ _ (⟨99999, 0⟩ : S104) [.int .i64 99999, .int .i64 0] from (k104_mkM _ _ _ (⟨99999, 0⟩ : S104) )) (Reps.none _ _))); intro v225 w8 ho9 hb hg_ hnew_; clear hg_ hnew_; (first | rw [← Ny224.out] at ho9 | (simp only [Int.reduceToNat] at ho9; rw [← Ny224.out] at ho9)); have n0_ := Aside0.mk (Kd.R_lower ho9 (below_size HB.out)); have n1_ := Aside0.mk (blk_below (g := q1) (o := .cells #[.int .i64 a0_0, .slice A0_1 l0_1.length c0_1] 25 (0, 0)) p7.out hb); have n2_ := Aside0.mk (below_step HB.out hb); clear p7; clear HB; have HO226 := n0_; have p7 := n1_; have HB := n2_; clear n0_ n1_ n2_; clear hb ho9; have t8 : w8.cell? ⟨q1, 0, none⟩ = some (.int .i64 a0_0) := (blk_cell p7.out 0).trans rfl; have t9 : w8.cell? ⟨q1, 1, none⟩ = some (.slice A0_1 l0_1.length c0_1) := (blk_cell p7.out 1).trans rfl; have u0 := blk_frozen p7.out 0; have u1 := blk_frozen p7.out 1; obtain ⟨Ao11, co11, eo11⟩ := Kd.R_slice HO226.out; subst eo11) | ((with_reducible refine gate_callee (f := 126) rfl ?_); refine goesL_ (some 14) rfl rfl Try.func126 (by kernel_rfl) rfl #[.slice Ao11 y224.length co11, .int .i64 a0_0] rfl (by (try simp only [List.map_toArray, List.map_cons, List.map_nil]); first | done | rfl | (simp only [List.length_drop, List.length_take]; rfl)) ?_; (with_reducible refine (impl_measure.calls _ _ y224 a0_0 t227 _ ?side1 ?side2 A3.out).mono ?_); (case side1 => repeat (first | exact (Kd.R_reads' HO226.out).2.2 | (with_reducible refine Kd.C_alloc ?_ _) | (with_reducible refine Kd.C_drewN ?_ _) | (with_reducible refine Kd.C_drew ?_))); (case side2 => exact (Kd.R_reads' HO226.out).2.1); rintro e w12 ⟨v228, rfl, ho0, hb⟩; refine ⟨_, rfl, ?_⟩; have n0_ := Aside0.mk (Kd.R_elder' HO226.out (Kd.R_base ho0) hb); have n1_ := Aside0.mk (Kd.R_lower (Kd.R_new' ho0 (Kd.R_lt HO226.out)) (below_size HB.out)); have n2_ := Aside0.mk (blk_below (g := q1) (o := .cells #[.int .i64 a0_0, .slice A0_1 l0_1.length c0_1] 25 (0, 0)) p7.out hb); have n3_ := Aside0.mk (below_step HB.out hb); clear HO226; clear p7; clear HB; have HO226 := n0_; have HO229 := n1_; have p7 := n2_; have HB := n3_; clear n0_ n1_ n2_ n3_; (try clear hb); (try clear hb2); (try clear hk); (try clear hi); (try clear ho0); have p6 : 0 ≤ (a1 : Int) := of_decide_eq_true (by first | (with_reducible assumption) | assumption); have q6 : (a1 : Int) < ((t227.length : Int) : Int) := of_decide_eq_true (by first | (with_reducible assumption) | assumption); obtain ⟨go6, co6, eo6, gb6, gl6, cl6, HG6⟩ := Kd.R_form HO229.out (by omega); (first | cases eo6 | (injection eo6 with ea_ en_ ec_; (first | subst ea_ | (injection ea_ with ea_; subst ea_)); subst ec_; clear en_)); have GB6 := Aside0.mk gb6; have GG6 := Aside0.mk HG6; clear gb6 gl6 HG6; obtain ⟨ce6, hcl6, hM6, hcc6, hfr6⟩ := Kd.R_elem HO229.out z104 (a1 : Int) p6 q6; obtain rfl := k104_openM hM6; have hx6_0 : w12.cell? ⟨go6, (a1 : Int).toNat * 2, none⟩ = some (.int .i64 ((rd_T104 t227 a1).f0)) := hcc6 0 _ rfl; have hx6_1 : w12.cell? ⟨go6, (a1 : Int).toNat * 2 + 1, none⟩ = some (.int .i64 ((rd_T104 t227 a1).f1)) := hcc6 1 _ rfl; have hf6_0 : w12.frozen? ⟨go6, (a1 : Int).toNat * 2, none⟩ = false := hfr6 0; have hf6_1 : w12.frozen? ⟨go6, (a1 : Int).toNat * 2 + 1, none⟩ = false := hfr6 1; clear hcl6 hcc6 hfr6; (try clear hM6); replace p6 := eq_true p6; replace q6 := eq_true q6; have n_ := Aside0.mk (Kd.R_mono (ok' := (fun k_ => some k_ ≠ (.slice Ao11 y224.length co11 : Value).ownBlock)) HO229.out (fun k_ hk => hk.2)); clear HO229; have HO229 := n_; clear n_; have HX13 := Aside0.mk (show Kd.R k104 104 w12 w.heap.size (fun k_ => some k_ ≠ (.slice Ao11 y224.length co11 : Value).ownBlock) (.slice (some ⟨go6, 0, none⟩) t227.length co6) t227 from HO229.out); obtain ⟨ce13, hcl13, hM13, u2, hfr13⟩ := Kd.R_elem HX13.out z104 (a1 : Int) (of_decide_eq_true (by first | (with_reducible assumption) | assumption)) (by have h_ : (a1 : Int) < ((t227.length : Int) : Int) := of_decide_eq_true (by first | (with_reducible assumption) | assumption); first | exact h_ | (have e_ := (Kd.R_reads' HO229.out).1; omega) | simpa using h_); obtain rfl := k104_openM hM13; have HP13 := Kd.R_seg HX13.out (a1 : Int) (of_decide_eq_true (by first | (with_reducible assumption) | assumption)) (by have h_ : (a1 : Int) < ((t227.length : Int) : Int) := of_decide_eq_true (by first | (with_reducible assumption) | assumption); first | exact h_ | (have e_ := (Kd.R_reads' HO229.out).1; omega) | simpa using h_) (seg := [.int .i64 0, .int .i64 0]) (j := 0) hcl13 u2 (show 2 ≤ 2 from by decide) (x' := (⟨0, 0⟩ : S104)) (k104_mkM _ _ _ (⟨0, 0⟩ : S104) ) (fun _ hk => hk); have t6 := u2 0 _ rfl; (try simp only [show (k104).sz = 2 from rfl, Nat.mul_one, Nat.add_zero] at t6); have hf13_0 := hfr13 0; (try simp only [show (k104).sz = 2 from rfl, Nat.mul_one, Nat.add_zero] at hf13_0); have t7 := u2 1 _ rfl; (try simp only [show (k104).sz = 2 from rfl, Nat.mul_one, Nat.add_zero] at t7); have hf13_1 := hfr13 1; (try simp only [show (k104).sz = 2 from rfl, Nat.mul_one, Nat.add_zero] at hf13_1); clear hcl13 u2 hfr13; (try clear hM13)) | ((with_reducible refine gate_store (t := 104) (p := 18) rfl ?_); refine store_event (t := 104) (p := 18) (v := ?vo_w14) (w1 := ((w12.setCell ⟨go6, (a1 : Int).toNat * 2, none⟩ (.int .i64 0)).setCell ⟨go6, (a1 : Int).toNat * 2 + 1, none⟩ (.int .i64 0))) ?hg ?ho ?hn ?hr ?_; (case ho => rfl); (case hg => rfl); (case hn => rfl); (case hr => first | (go_simp; done) | (go_simp; rfl)); intro w14 hw; have hg : w12.grownBy w14 (some go6) := (by rw [hw]; exact HP13.2); have hp_ : Kd.R k104 104 w14 w.heap.size (fun k_ => some k_ ≠ (.slice Ao11 y224.length co11 : Value).ownBlock) (.slice (some ⟨go6, 0, none⟩) t227.length co6) y230 := (by rw [hw, Ny230.out]; exact HP13.1); clear HP13; have n0_ := Aside0.mk (blk_grown (g := q1) (o := .cells #[.int .i64 a0_0, .slice A0_1 l0_1.length c0_1] 25 (0, 0)) p7.out hg (Kd.R_ne HO229.out p7.out (by decide))); have n1_ := Aside0.mk (Kd.R_after (v := (.slice (some ⟨go6, 0, none⟩) t227.length co6)) (v1 := (.slice (some ⟨go6, 0, none⟩) t227.length co6)) (ok := (fun _ => True)) HO226.out hg (.inl rfl)); have n2_ := Aside0.mk (hp_); have n3_ := Aside0.mk ((by rw [hw]; exact below_set (below_set (HB.out) GB6.out) GB6.out : Below w.heap.size w w14)); clear p7; clear HO226; clear HO229; clear HB; have p7 := n0_; have HO226 := n1_; have HO229 := n2_; have HB := n3_; clear n0_ n1_ n2_ n3_; clear hg hw hp_))
 go_loopg [6] k (fun kq v6 w' => ∃ (x5_1 : List (S104)) (x6_1 : Bool), v6 = .bool x6_1 ∧ Aside0 (impl_Net_toward.l0 kq x5_1 x6_1 a0_0 l0_1 = some r) ∧ Aside0 (kq ≤ k) ∧ Aside0 (Kd.R k104 104 w' w.heap.size (fun _ => True) (.slice (some ⟨go6, 0, none⟩) t227.length co6) x5_1) ∧ Aside0 (w'.heap[q1]? = some (.cells #[.int .i64 a0_0, (.slice A0_1 l0_1.length c0_1)] 25 (0, 0))) ∧ Aside0 (Below w.heap.size w w'))
 case atStart => exact ⟨(y230), (true), (by first | rfl | (simp; done) | (simp [*]; done)), H', ⟨Nat.le_refl _⟩, ⟨by exact Kd.R_mono HO229.out (fun _ hk => trivial)⟩, ⟨by exact p7.out⟩, ⟨by repeat (first | (with_reducible first | exact HB.out | apply below_alloc | apply pw_below_drewN | apply below_drew1 | refine below_set ?_ r8.out) | exact HB.out)⟩⟩
 case round =>
  clear H'
  try clear c1
  try clear hx1
  try clear c2
  try clear p2
  try clear c4
  try clear c4b0
  try clear c5
  try clear c5b0
  try clear c6
  try clear p6
  try clear q6
  try clear hx6
  try clear hf6
  try clear c9
  try clear c12
  try clear c13
  try clear hx13
  try clear hf13
  try clear t8
  try clear t9
  try clear u0
  try clear u1
  try clear t6
  try clear t7
  try clear hx6_0
  try clear hx6_1
  try clear p6
  try clear q6
  obtain ⟨x5_1, x6_1, rfl, HA, HK1, HO_5, p7, HB⟩ := hrel
  have hl5_1 := (Kd.R_reads' HO_5.out).1
  rw [hl5_1] at HO_5
  (try simp only [hl5_1])
  (try simp only [hl5_1] at p7)
  cases gk with
  | zero => exact absurd HA.out (by simp [impl_Net_toward.l0])
  | succ k1 =>
   have H := HA.out
   clear HA
   simp only [impl_Net_toward.l0] at H
   by_cases c15 : x6_1 = true
   case neg =>
    replace c15 := Bool.eq_false_iff.mpr c15
    subst c15
    have H1 : (some x5_1) = some r := by rw [if_neg (show ¬ (false = true) by decide)] at H; exact H
    clear H
    have H := H1
    clear H1
    obtain rfl := Option.some.inj H
    go_wp2
    go_ret
    exact ⟨_, by first | rfl | (simp [errW_none, errW_some] <;> rfl) | (simp [*, errW_none, errW_some] <;> rfl), by exact HO_5.out, by repeat (first | (with_reducible first | exact HB.out | apply below_alloc | apply pw_below_drewN | apply below_drew1 | refine below_set ?_ r8.out) | exact HB.out)⟩
   subst c15
   have H1 : (impl_Net_toward.l1 k1 x5_1 false l0_1 (l0_1.length : Int) 0 a0_0 l0_1) = some r := by rw [if_pos rfl] at H; exact H
   clear H
   have H := H1
   clear H1
   have H' := Aside0.mk H
   clear H
   have u7 : wr.cell? ⟨q1, 0, none⟩ = some (.int .i64 a0_0) := (blk_cell p7.out 0).trans rfl
   have u8 : wr.cell? ⟨q1, 1, none⟩ = some (.slice A0_1 l0_1.length c0_1) := (blk_cell p7.out 1).trans rfl
   have u9 := blk_frozen p7.out 0
   have v0 := blk_frozen p7.out 1
   go_wp2
   go_loopg [6, 23] k1 (fun kq v6 v23 w' => ∃ (x5_2 : List (S104)) (x6_2 : Bool) (p0 : Int), v6 = .bool x6_2 ∧ v23 = .int .i64 p0 ∧ Aside0 (impl_Net_toward.l1 kq x5_2 x6_2 l0_1 (l0_1.length : Int) p0 a0_0 l0_1 = some r) ∧ Aside0 (kq ≤ k1) ∧ Aside0 (Kd.R k104 104 w' w.heap.size (fun _ => True) (.slice (some ⟨go6, 0, none⟩) x5_1.length co6) x5_2) ∧ Aside0 (w'.heap[q1]? = some (.cells #[.int .i64 a0_0, (.slice A0_1 l0_1.length c0_1)] 25 (0, 0))) ∧ Aside0 (Below w.heap.size w w'))
   case atStart => exact ⟨(x5_1), (false), (0), (by first | rfl | (simp; done) | (simp [*]; done)), (by first | rfl | (simp; done) | (simp [*]; done)), H', ⟨Nat.le_refl _⟩, ⟨by (try simp only [hl5_1]); exact HO_5.out⟩, ⟨by (try simp only [hl5_1]); exact p7.out⟩, ⟨by repeat (first | (with_reducible first | exact HB.out | apply below_alloc | apply pw_below_drewN | apply below_drew1 | refine below_set ?_ r8.out) | exact HB.out)⟩⟩
   case round =>
    clear H'
    try clear c1
    try clear hx1
    try clear c2
    try clear p2
    try clear c4
    try clear c4b0
    try clear c5
    try clear c5b0
    try clear c6
    try clear p6
    try clear q6
    try clear hx6
    try clear hf6
    try clear c9
    try clear c12
    try clear c13
    try clear hx13
    try clear hf13
    try clear c15
    try clear t8
    try clear t9
    try clear u7
    try clear u8
    try clear u0
    try clear u1
    try clear u9
    try clear v0
    try clear t6
    try clear t7
    try clear hx6_0
    try clear hx6_1
    try clear p2
    try clear p6
    try clear q6
    obtain ⟨x5_2, x6_2, p0, rfl, rfl, HA, HK2, HO_5, p7, HB⟩ := hrel
    have hl5_2 := (Kd.R_reads' HO_5.out).1
    rw [hl5_2] at HO_5
    (try simp only [hl5_2])
    (try simp only [hl5_2] at p7)
    cases gk with
    | zero => exact absurd HA.out (by simp [impl_Net_toward.l1])
    | succ k2 =>
     have H := HA.out
     clear HA
     simp only [impl_Net_toward.l1] at H
     by_cases c17 : p0 < (l0_1.length : Int)
     case neg =>
      rw [if_neg c17] at H
      have c17b0 : decide (p0 < (l0_1.length : Int)) = false := decide_eq_false c17
      clear c17
      have H' := Aside0.mk H
      clear H
      go_wp2
      (try simp only [← hl5_1, ← hl5_2])
      go_roundg k2
      case measure => have := HK1.out; have := HK2.out; omega
      case rel => exact ⟨(x5_2), (x6_2), (by first | rfl | (simp; done) | (simp [*]; done)), H', ⟨by have := HK1.out; have := HK2.out; omega⟩, ⟨by (try simp only [hl5_1]); (try simp only [hl5_2]); exact HO_5.out⟩, ⟨by (try simp only [hl5_1]); (try simp only [hl5_2]); exact p7.out⟩, ⟨by repeat (first | (with_reducible first | exact HB.out | apply below_alloc | apply pw_below_drewN | apply below_drew1 | refine below_set ?_ r8.out) | exact HB.out)⟩⟩
     rw [if_pos c17] at H
     have c17b0 : decide (p0 < (l0_1.length : Int)) = true := decide_eq_true c17
     clear c17
     by_cases c18 : 0 ≤ p0
     case neg =>
      rw [if_neg c18] at H
      exact absurd H (by simp)
     rw [if_pos c18] at H
     have c18b0 : decide (0 ≤ p0) = true := decide_eq_true c18
     clear c18
     by_cases c19 : p0 < (l0_1.length : Int)
     case neg =>
      rw [if_neg c19] at H
      exact absurd H (by simp)
     rw [if_pos c19] at H
     have c19b0 : decide (p0 < (l0_1.length : Int)) = true := decide_eq_true c19
     clear c19
     by_cases c20 : 0 ≤ ((rd_T34 l0_1 p0).f1)
     case neg =>
      rw [if_neg c20] at H
      exact absurd H (by simp)
     rw [if_pos c20] at H
     have c20b0 : decide (0 ≤ ((rd_T34 l0_1 p0).f1)) = true := decide_eq_true c20
     clear c20
     by_cases c21 : ((rd_T34 l0_1 p0).f1) < (x5_2.length : Int)
     case neg =>
      rw [if_neg c21] at H
      exact absurd H (by simp)
     rw [if_pos c21] at H
     have c21b0 : decide (((rd_T34 l0_1 p0).f1) < (x5_2.length : Int)) = true := decide_eq_true c21
     clear c21
     by_cases c22 : ((rd_T104 x5_2 ((rd_T34 l0_1 p0).f1)).f0) = 99999
     case pos =>
      rw [if_pos c22] at H
      have c22b0 : (((rd_T104 x5_2 ((rd_T34 l0_1 p0).f1)).f0) == 99999) = true := beq_iff_eq.mpr c22
      have c22b1 : (((rd_T104 x5_2 ((rd_T34 l0_1 p0).f1)).f0) != 99999) = false := bne_eq_false_iff_eq.mpr c22
      clear c22
      have H' := Aside0.mk H
      clear H
      have p231 : 0 ≤ (p0 : Int) := of_decide_eq_true (by first | (with_reducible assumption) | assumption)
      have q231 : p0 < (l0_1.length : Int) := of_decide_eq_true (by first | (with_reducible assumption) | assumption)
      obtain ⟨r0, e231, r1, r2, r3, r4, r5⟩ := at_T34 u4.out p0 p231 q231
      cases e231
      replace r1 := (HB.out.cell (World.block_lt_of_cell? w _ r1)).trans r1
      replace r2 := (HB.out.cell (World.block_lt_of_cell? w _ r2)).trans r2
      replace r3 := (HB.out.cell (World.block_lt_of_cell? w _ r3)).trans r3
      replace r4 := (HB.out.cell (World.block_lt_of_cell? w _ r4)).trans r4
      replace r5 := (HB.out.cell (World.block_lt_of_cell? w _ r5)).trans r5
      replace p231 := eq_true p231
      replace q231 := eq_true q231
      go_wp2_with (first | ((with_reducible refine gate_dst (N := 8) rfl ?_); refine box_event ?hg (N := 8) ?hd (cs := #[.int .i64 0, .int .i64 0, .int .i64 0, .int .i64 0, .int .i64 0]) (t := 34) ?hr ?_; (case hd => rfl); (case hg => rfl); (case hr => first | (go_simp; done) | (go_simp; rfl)); intro p3 hg w23 hbox hb; have n0_ := Aside0.mk (Kd.R_below HO_5.out hb); have n1_ := Aside0.mk (blk_below (g := q1) (o := .cells #[.int .i64 a0_0, .slice (some r0) l0_1.length c0_1] 25 (0, 0)) p7.out hb); have n2_ := Aside0.mk (below_step HB.out hb); have n3_ := Aside0.mk (hbox); have n4_ := Aside0.mk ((by rw [hg]; exact (below_size HB.out) : w.heap.size ≤ p3)); have n5_ := Aside0.mk ((by rw [hg]; exact (below_size HB.out) : w.heap.size ≤ p3)); have n6_ := Aside0.mk ((by rw [hg]; exact Nat.ne_of_lt (blk_lt (g := q1) (o := .cells #[.int .i64 a0_0, .slice (some r0) l0_1.length c0_1] 25 (0, 0)) p7.out) : q1 ≠ p3)); have n7_ := Aside0.mk ((by rw [hg]; exact Nat.ne_of_gt (blk_lt (g := q1) (o := .cells #[.int .i64 a0_0, .slice (some r0) l0_1.length c0_1] 25 (0, 0)) p7.out) : p3 ≠ q1)); clear HO_5; clear p7; clear HB; have HO_5 := n0_; have p7 := n1_; have HB := n2_; have p1 := n3_; have GW232 := n4_; have r9 := n5_; have p4 := n6_; have t0 := n7_; clear n0_ n1_ n2_ n3_ n4_ n5_ n6_ n7_; clear hb hbox hg; have hnb24 := t0.out; have hnc24 := p4.out; have hcz25_0 : w23.cell? ⟨p3, 0, none⟩ = some (.int .i64 0) := (blk_cell p1.out 0).trans rfl; have hcz25_1 : w23.cell? ⟨p3, 1, none⟩ = some (.int .i64 0) := (blk_cell p1.out 1).trans rfl; have hcz25_2 : w23.cell? ⟨p3, 2, none⟩ = some (.int .i64 0) := (blk_cell p1.out 2).trans rfl; have hcz25_3 : w23.cell? ⟨p3, 3, none⟩ = some (.int .i64 0) := (blk_cell p1.out 3).trans rfl; have hcz25_4 : w23.cell? ⟨p3, 4, none⟩ = some (.int .i64 0) := (blk_cell p1.out 4).trans rfl; have hfz25_0 := blk_frozen p1.out 0; have hfz25_1 := blk_frozen p1.out 1; have hfz25_2 := blk_frozen p1.out 2; have hfz25_3 := blk_frozen p1.out 3; have hfz25_4 := blk_frozen p1.out 4; have p233 : 0 ≤ (((rd_T34 l0_1 p0).f1) : Int) := of_decide_eq_true (by first | (with_reducible assumption) | assumption); have q233 : ((rd_T34 l0_1 p0).f1) < (x5_2.length : Int) := of_decide_eq_true (by first | (with_reducible assumption) | assumption); obtain ⟨t5, e233, p8, p9⟩ := at_T104 (Kd.R_reads' HO_5.out).2.2 ((rd_T34 l0_1 p0).f1) p233 q233; obtain rfl : (⟨go6, 0, none⟩ : Addr) = t5 := (by injection e233); (first | simp only [add_plain] at p8 | simp only [add_at] at p8 | simp only [Addr.add, Nat.zero_add] at p8 | skip); (first | simp only [add_plain] at p9 | simp only [add_at] at p9 | simp only [Addr.add, Nat.zero_add] at p9 | skip); have q2 : (⟨go6, 0, none⟩ : Addr).block ≠ p3 := Kd.own_blk (Kd.R_ne HO_5.out p1.out (by decide)); have q3 : (⟨go6, 0, none⟩ : Addr).block ≠ p3 := Kd.own_blk (Kd.R_ne HO_5.out p1.out (by decide)); have q4 : (⟨go6, 0, none⟩ : Addr).block ≠ p3 := Kd.own_blk (Kd.R_ne HO_5.out p1.out (by decide)); have q5 : (⟨go6, 0, none⟩ : Addr).block ≠ p3 := Kd.own_blk (Kd.R_ne HO_5.out p1.out (by decide)); have q7 : (⟨go6, 0, none⟩ : Addr).block ≠ p3 := Kd.own_blk (Kd.R_ne HO_5.out p1.out (by decide)); replace p8 := (cell_far (p := ⟨p3, 0, none⟩) (by first | (rw [add_block]; exact q2) | (show (Addr.add _ _).block ≠ _; rw [add_block]; exact q2) | exact q2) (.int .i64 ((rd_T34 l0_1 p0).f0))).trans p8; replace p9 := (cell_far (p := ⟨p3, 0, none⟩) (by first | (rw [add_block]; exact q2) | (show (Addr.add _ _).block ≠ _; rw [add_block]; exact q2) | exact q2) (.int .i64 ((rd_T34 l0_1 p0).f0))).trans p9; replace p8 := (cell_far (p := ⟨p3, 1, none⟩) (by first | (rw [add_block]; exact q3) | (show (Addr.add _ _).block ≠ _; rw [add_block]; exact q3) | exact q3) (.int .i64 ((rd_T34 l0_1 p0).f1))).trans p8; replace p9 := (cell_far (p := ⟨p3, 1, none⟩) (by first | (rw [add_block]; exact q3) | (show (Addr.add _ _).block ≠ _; rw [add_block]; exact q3) | exact q3) (.int .i64 ((rd_T34 l0_1 p0).f1))).trans p9; replace p8 := (cell_far (p := ⟨p3, 2, none⟩) (by first | (rw [add_block]; exact q4) | (show (Addr.add _ _).block ≠ _; rw [add_block]; exact q4) | exact q4) (.int .i64 ((rd_T34 l0_1 p0).f2))).trans p8; replace p9 := (cell_far (p := ⟨p3, 2, none⟩) (by first | (rw [add_block]; exact q4) | (show (Addr.add _ _).block ≠ _; rw [add_block]; exact q4) | exact q4) (.int .i64 ((rd_T34 l0_1 p0).f2))).trans p9; replace p8 := (cell_far (p := ⟨p3, 3, none⟩) (by first | (rw [add_block]; exact q5) | (show (Addr.add _ _).block ≠ _; rw [add_block]; exact q5) | exact q5) (.int .i64 ((rd_T34 l0_1 p0).f3))).trans p8; replace p9 := (cell_far (p := ⟨p3, 3, none⟩) (by first | (rw [add_block]; exact q5) | (show (Addr.add _ _).block ≠ _; rw [add_block]; exact q5) | exact q5) (.int .i64 ((rd_T34 l0_1 p0).f3))).trans p9; replace p8 := (cell_far (p := ⟨p3, 4, none⟩) (by first | (rw [add_block]; exact q7) | (show (Addr.add _ _).block ≠ _; rw [add_block]; exact q7) | exact q7) (.int .i64 ((rd_T34 l0_1 p0).f4))).trans p8; replace p9 := (cell_far (p := ⟨p3, 4, none⟩) (by first | (rw [add_block]; exact q7) | (show (Addr.add _ _).block ≠ _; rw [add_block]; exact q7) | exact q7) (.int .i64 ((rd_T34 l0_1 p0).f4))).trans p9; clear q2; clear q3; clear q4; clear q5; clear q7; replace p233 := eq_true p233; replace q233 := eq_true q233) | ((with_reducible refine gate_dst (N := 9) rfl ?_); refine box_event ?hg (N := 9) ?hd (cs := #[.int .i64 0, .int .i64 0]) (t := 104) ?hr ?_; (case hd => rfl); (case hg => rfl); (case hr => first | (go_simp; done) | (go_simp; rfl)); intro p5 hg w26 hbox hb; have n0_ := Aside0.mk (Kd.R_below (Kd.R_elderB (Kd.R_mono (Kd.R_far (p := ⟨p3, 4, none⟩) (Kd.R_far (p := ⟨p3, 3, none⟩) (Kd.R_far (p := ⟨p3, 2, none⟩) (Kd.R_far (p := ⟨p3, 1, none⟩) (Kd.R_far (p := ⟨p3, 0, none⟩) (Kd.R_types HO_5.out p1.out (by decide)) (fun _ hk => hk.2) (.int .i64 ((rd_T34 l0_1 p0).f0))) (fun _ hk => hk.2) (.int .i64 ((rd_T34 l0_1 p0).f1))) (fun _ hk => hk.2) (.int .i64 ((rd_T34 l0_1 p0).f2))) (fun _ hk => hk.2) (.int .i64 ((rd_T34 l0_1 p0).f3))) (fun _ hk => hk.2) (.int .i64 ((rd_T34 l0_1 p0).f4))) (fun _ h_ => h_.1)) p5 (Nat.le_of_eq hg.symm)) hb); have n1_ := Aside0.mk (blk_below (g := q1) (o := .cells #[.int .i64 a0_0, .slice (some r0) l0_1.length c0_1] 25 (0, 0)) (by refine blk_far ?_ p4.out _; refine blk_far ?_ p4.out _; refine blk_far ?_ p4.out _; refine blk_far ?_ p4.out _; refine blk_far ?_ p4.out _; exact p7.out) hb); have n2_ := Aside0.mk (blk_below (g := p3) (o := .cells #[.int .i64 ((rd_T34 l0_1 p0).f0), .int .i64 ((rd_T34 l0_1 p0).f1), .int .i64 ((rd_T34 l0_1 p0).f2), .int .i64 ((rd_T34 l0_1 p0).f3), .int .i64 ((rd_T34 l0_1 p0).f4)] 34 (0, 0)) (by refine blk_put (cs := #[.int .i64 ((rd_T34 l0_1 p0).f0), .int .i64 ((rd_T34 l0_1 p0).f1), .int .i64 ((rd_T34 l0_1 p0).f2), .int .i64 ((rd_T34 l0_1 p0).f3), .int .i64 0]) ?_ 4 _ rfl; refine blk_put (cs := #[.int .i64 ((rd_T34 l0_1 p0).f0), .int .i64 ((rd_T34 l0_1 p0).f1), .int .i64 ((rd_T34 l0_1 p0).f2), .int .i64 0, .int .i64 0]) ?_ 3 _ rfl; refine blk_put (cs := #[.int .i64 ((rd_T34 l0_1 p0).f0), .int .i64 ((rd_T34 l0_1 p0).f1), .int .i64 0, .int .i64 0, .int .i64 0]) ?_ 2 _ rfl; refine blk_put (cs := #[.int .i64 ((rd_T34 l0_1 p0).f0), .int .i64 0, .int .i64 0, .int .i64 0, .int .i64 0]) ?_ 1 _ rfl; refine blk_put (cs := #[.int .i64 0, .int .i64 0, .int .i64 0, .int .i64 0, .int .i64 0]) ?_ 0 _ rfl; exact p1.out) hb); have n3_ := Aside0.mk (below_step (by repeat (first | (with_reducible first | exact HB.out | apply below_alloc | apply pw_below_drewN | apply below_drew1 | refine below_set ?_ r8.out | refine below_set ?_ r9.out) | exact HB.out)) hb); have n4_ := Aside0.mk (hbox); have n5_ := Aside0.mk ((by rw [hg]; exact (below_size (by repeat (first | (with_reducible first | exact HB.out | apply below_alloc | apply pw_below_drewN | apply below_drew1 | refine below_set ?_ r8.out | refine below_set ?_ r9.out) | exact HB.out))) : w.heap.size ≤ p5)); have n6_ := Aside0.mk ((by rw [hg]; exact (below_size (by repeat (first | (with_reducible first | exact HB.out | apply below_alloc | apply pw_below_drewN | apply below_drew1 | refine below_set ?_ r8.out | refine below_set ?_ r9.out) | exact HB.out))) : w.heap.size ≤ p5)); have n7_ := Aside0.mk ((by rw [hg]; exact Nat.ne_of_lt (blk_lt (g := q1) (o := .cells #[.int .i64 a0_0, .slice (some r0) l0_1.length c0_1] 25 (0, 0)) (by refine blk_far ?_ p4.out _; refine blk_far ?_ p4.out _; refine blk_far ?_ p4.out _; refine blk_far ?_ p4.out _; refine blk_far ?_ p4.out _; exact p7.out)) : q1 ≠ p5)); have n8_ := Aside0.mk ((by rw [hg]; exact Nat.ne_of_gt (blk_lt (g := q1) (o := .cells #[.int .i64 a0_0, .slice (some r0) l0_1.length c0_1] 25 (0, 0)) (by refine blk_far ?_ p4.out _; refine blk_far ?_ p4.out _; refine blk_far ?_ p4.out _; refine blk_far ?_ p4.out _; refine blk_far ?_ p4.out _; exact p7.out)) : p5 ≠ q1)); have n9_ := Aside0.mk ((by rw [hg]; exact Nat.ne_of_lt (blk_lt (g := p3) (o := .cells #[.int .i64 ((rd_T34 l0_1 p0).f0), .int .i64 ((rd_T34 l0_1 p0).f1), .int .i64 ((rd_T34 l0_1 p0).f2), .int .i64 ((rd_T34 l0_1 p0).f3), .int .i64 ((rd_T34 l0_1 p0).f4)] 34 (0, 0)) (by refine blk_put (cs := #[.int .i64 ((rd_T34 l0_1 p0).f0), .int .i64 ((rd_T34 l0_1 p0).f1), .int .i64 ((rd_T34 l0_1 p0).f2), .int .i64 ((rd_T34 l0_1 p0).f3), .int .i64 0]) ?_ 4 _ rfl; refine blk_put (cs := #[.int .i64 ((rd_T34 l0_1 p0).f0), .int .i64 ((rd_T34 l0_1 p0).f1), .int .i64 ((rd_T34 l0_1 p0).f2), .int .i64 0, .int .i64 0]) ?_ 3 _ rfl; refine blk_put (cs := #[.int .i64 ((rd_T34 l0_1 p0).f0), .int .i64 ((rd_T34 l0_1 p0).f1), .int .i64 0, .int .i64 0, .int .i64 0]) ?_ 2 _ rfl; refine blk_put (cs := #[.int .i64 ((rd_T34 l0_1 p0).f0), .int .i64 0, .int .i64 0, .int .i64 0, .int .i64 0]) ?_ 1 _ rfl; refine blk_put (cs := #[.int .i64 0, .int .i64 0, .int .i64 0, .int .i64 0, .int .i64 0]) ?_ 0 _ rfl; exact p1.out)) : p3 ≠ p5)); have n10_ := Aside0.mk ((by rw [hg]; exact Nat.ne_of_gt (blk_lt (g := p3) (o := .cells #[.int .i64 ((rd_T34 l0_1 p0).f0), .int .i64 ((rd_T34 l0_1 p0).f1), .int .i64 ((rd_T34 l0_1 p0).f2), .int .i64 ((rd_T34 l0_1 p0).f3), .int .i64 ((rd_T34 l0_1 p0).f4)] 34 (0, 0)) (by refine blk_put (cs := #[.int .i64 ((rd_T34 l0_1 p0).f0), .int .i64 ((rd_T34 l0_1 p0).f1), .int .i64 ((rd_T34 l0_1 p0).f2), .int .i64 ((rd_T34 l0_1 p0).f3), .int .i64 0]) ?_ 4 _ rfl; refine blk_put (cs := #[.int .i64 ((rd_T34 l0_1 p0).f0), .int .i64 ((rd_T34 l0_1 p0).f1), .int .i64 ((rd_T34 l0_1 p0).f2), .int .i64 0, .int .i64 0]) ?_ 3 _ rfl; refine blk_put (cs := #[.int .i64 ((rd_T34 l0_1 p0).f0), .int .i64 ((rd_T34 l0_1 p0).f1), .int .i64 0, .int .i64 0, .int .i64 0]) ?_ 2 _ rfl; refine blk_put (cs := #[.int .i64 ((rd_T34 l0_1 p0).f0), .int .i64 0, .int .i64 0, .int .i64 0, .int .i64 0]) ?_ 1 _ rfl; refine blk_put (cs := #[.int .i64 0, .int .i64 0, .int .i64 0, .int .i64 0, .int .i64 0]) ?_ 0 _ rfl; exact p1.out)) : p5 ≠ p3)); clear HO_5; clear p7; clear p1; clear HB; have HO_5 := n0_; have p7 := n1_; have p1 := n2_; have HB := n3_; have q0 := n4_; have GW234 := n5_; have t4 := n6_; have q8 := n7_; have t1 := n8_; have q9 := n9_; have t2 := n10_; clear n0_ n1_ n2_ n3_ n4_ n5_ n6_ n7_ n8_ n9_ n10_; clear hb hbox hg; have hnb27 := t1.out; have hnc27 := q8.out; have hnb28 := t2.out; have hnc28 := q9.out; have hcz29_0 : w26.cell? ⟨p5, 0, none⟩ = some (.int .i64 0) := (blk_cell q0.out 0).trans rfl; have hcz29_1 : w26.cell? ⟨p5, 1, none⟩ = some (.int .i64 0) := (blk_cell q0.out 1).trans rfl; have hfz29_0 := blk_frozen q0.out 0; have hfz29_1 := blk_frozen q0.out 1))
      (try simp only [← hl5_2])
      go_roundg k2
      case measure => have := HK1.out; have := HK2.out; omega
      case rel => exact ⟨(x5_2), (x6_2), (wrap64 (p0 + 1)), (by first | rfl | (simp; done) | (simp [*]; done)), (by first | rfl | (simp; done) | (simp [*]; done)), H', ⟨by have := HK1.out; have := HK2.out; omega⟩, ⟨by (try simp only [hl5_1]); (try simp only [hl5_2]); exact Kd.R_mono (Kd.R_far (p := ⟨p5, 1, none⟩) (Kd.R_far (p := ⟨p5, 0, none⟩) (Kd.R_mono HO_5.out (fun k_ hk => (⟨hk, hk.2⟩ : _ ∧ k_ ≠ p5))) (fun _ hk => hk.2) (.int .i64 ((rd_T104 x5_2 ((rd_T34 l0_1 p0).f1)).f0))) (fun _ hk => hk.2) (.int .i64 ((rd_T104 x5_2 ((rd_T34 l0_1 p0).f1)).f1))) (fun _ hk => trivial)⟩, ⟨by (try simp only [hl5_1]); (try simp only [hl5_2]); refine blk_far ?_ q8.out _; refine blk_far ?_ q8.out _; exact p7.out⟩, ⟨by repeat (first | (with_reducible first | exact HB.out | apply below_alloc | apply pw_below_drewN | apply below_drew1 | refine below_set ?_ r8.out | refine below_set ?_ r9.out | refine below_set ?_ t4.out) | exact HB.out)⟩⟩
     rw [if_neg c22] at H
     have c22b0 : (((rd_T104 x5_2 ((rd_T34 l0_1 p0).f1)).f0) == 99999) = false := beq_eq_false_iff_ne.mpr c22
     have c22b1 : (((rd_T104 x5_2 ((rd_T34 l0_1 p0).f1)).f0) != 99999) = true := bne_iff_ne.mpr c22
     by_cases c30 : 0 ≤ ((rd_T34 l0_1 p0).f0)
     case neg =>
      rw [if_neg c30] at H
      exact absurd H (by simp)
     rw [if_pos c30] at H
     have c30b0 : decide (0 ≤ ((rd_T34 l0_1 p0).f0)) = true := decide_eq_true c30
     clear c30
     by_cases c31 : ((rd_T34 l0_1 p0).f0) < (x5_2.length : Int)
     case neg =>
      rw [if_neg c31] at H
      exact absurd H (by simp)
     rw [if_pos c31] at H
     have c31b0 : decide (((rd_T34 l0_1 p0).f0) < (x5_2.length : Int)) = true := decide_eq_true c31
     clear c31
     replace H := Option.bind_eq_some_iff.mp H
     obtain ⟨t236, A320, H⟩ := H
     replace H : (if t236 = true then (impl_Net_toward.l1 k2 (x5_2.set (((rd_T34 l0_1 p0).f0) : Int).toNat (⟨wrap64 (((rd_T104 x5_2 ((rd_T34 l0_1 p0).f1)).f0) + ((rd_T34 l0_1 p0).f2)), wrap64 (((rd_T104 x5_2 ((rd_T34 l0_1 p0).f1)).f1) + 1)⟩ : S104)) true l0_1 (l0_1.length : Int) (wrap64 (p0 + 1)) a0_0 l0_1) else (impl_Net_toward.l1 k2 x5_2 x6_2 l0_1 (l0_1.length : Int) (wrap64 (p0 + 1)) a0_0 l0_1)) = some r := H
     have A32 := Aside0.mk A320
     clear A320
     by_cases c33 : t236 = true
     case neg =>
      replace c33 := Bool.eq_false_iff.mpr c33
      subst c33
      have H1 : (impl_Net_toward.l1 k2 x5_2 x6_2 l0_1 (l0_1.length : Int) (wrap64 (p0 + 1)) a0_0 l0_1) = some r := by rw [if_neg (show ¬ (false = true) by decide)] at H; exact H
      clear H
      have H := H1
      clear H1
      have H' := Aside0.mk H
      clear H
      have p231 : 0 ≤ (p0 : Int) := of_decide_eq_true (by first | (with_reducible assumption) | assumption)
      have q231 : p0 < (l0_1.length : Int) := of_decide_eq_true (by first | (with_reducible assumption) | assumption)
      obtain ⟨r0, e231, r1, r2, r3, r4, r5⟩ := at_T34 u4.out p0 p231 q231
      cases e231
      replace r1 := (HB.out.cell (World.block_lt_of_cell? w _ r1)).trans r1
      replace r2 := (HB.out.cell (World.block_lt_of_cell? w _ r2)).trans r2
      replace r3 := (HB.out.cell (World.block_lt_of_cell? w _ r3)).trans r3
      replace r4 := (HB.out.cell (World.block_lt_of_cell? w _ r4)).trans r4
      replace r5 := (HB.out.cell (World.block_lt_of_cell? w _ r5)).trans r5
      replace p231 := eq_true p231
      replace q231 := eq_true q231
      try go_wp2_with (first | ((with_reducible refine gate_dst (N := 8) rfl ?_); refine box_event ?hg (N := 8) ?hd (cs := #[.int .i64 0, .int .i64 0, .int .i64 0, .int .i64 0, .int .i64 0]) (t := 34) ?hr ?_; (case hd => rfl); (case hg => rfl); (case hr => first | (go_simp; done) | (go_simp; rfl)); intro p3 hg w50 hbox hb; have n0_ := Aside0.mk (Kd.R_below HO_5.out hb); have n1_ := Aside0.mk (blk_below (g := q1) (o := .cells #[.int .i64 a0_0, .slice (some r0) l0_1.length c0_1] 25 (0, 0)) p7.out hb); have n2_ := Aside0.mk (below_step HB.out hb); have n3_ := Aside0.mk (hbox); have n4_ := Aside0.mk ((by rw [hg]; exact (below_size HB.out) : w.heap.size ≤ p3)); have n5_ := Aside0.mk ((by rw [hg]; exact (below_size HB.out) : w.heap.size ≤ p3)); have n6_ := Aside0.mk ((by rw [hg]; exact Nat.ne_of_lt (blk_lt (g := q1) (o := .cells #[.int .i64 a0_0, .slice (some r0) l0_1.length c0_1] 25 (0, 0)) p7.out) : q1 ≠ p3)); have n7_ := Aside0.mk ((by rw [hg]; exact Nat.ne_of_gt (blk_lt (g := q1) (o := .cells #[.int .i64 a0_0, .slice (some r0) l0_1.length c0_1] 25 (0, 0)) p7.out) : p3 ≠ q1)); clear HO_5; clear p7; clear HB; have HO_5 := n0_; have p7 := n1_; have HB := n2_; have p1 := n3_; have GW232 := n4_; have r9 := n5_; have p4 := n6_; have t0 := n7_; clear n0_ n1_ n2_ n3_ n4_ n5_ n6_ n7_; clear hb hbox hg; have hnb51 := t0.out; have hnc51 := p4.out; have hcz52_0 : w50.cell? ⟨p3, 0, none⟩ = some (.int .i64 0) := (blk_cell p1.out 0).trans rfl; have hcz52_1 : w50.cell? ⟨p3, 1, none⟩ = some (.int .i64 0) := (blk_cell p1.out 1).trans rfl; have hcz52_2 : w50.cell? ⟨p3, 2, none⟩ = some (.int .i64 0) := (blk_cell p1.out 2).trans rfl; have hcz52_3 : w50.cell? ⟨p3, 3, none⟩ = some (.int .i64 0) := (blk_cell p1.out 3).trans rfl; have hcz52_4 : w50.cell? ⟨p3, 4, none⟩ = some (.int .i64 0) := (blk_cell p1.out 4).trans rfl; have hfz52_0 := blk_frozen p1.out 0; have hfz52_1 := blk_frozen p1.out 1; have hfz52_2 := blk_frozen p1.out 2; have hfz52_3 := blk_frozen p1.out 3; have hfz52_4 := blk_frozen p1.out 4; have p233 : 0 ≤ (((rd_T34 l0_1 p0).f1) : Int) := of_decide_eq_true (by first | (with_reducible assumption) | assumption); have q233 : ((rd_T34 l0_1 p0).f1) < (x5_2.length : Int) := of_decide_eq_true (by first | (with_reducible assumption) | assumption); obtain ⟨t5, e233, p8, p9⟩ := at_T104 (Kd.R_reads' HO_5.out).2.2 ((rd_T34 l0_1 p0).f1) p233 q233; obtain rfl : (⟨go6, 0, none⟩ : Addr) = t5 := (by injection e233); (first | simp only [add_plain] at p8 | simp only [add_at] at p8 | simp only [Addr.add, Nat.zero_add] at p8 | skip); (first | simp only [add_plain] at p9 | simp only [add_at] at p9 | simp only [Addr.add, Nat.zero_add] at p9 | skip); have q2 : (⟨go6, 0, none⟩ : Addr).block ≠ p3 := Kd.own_blk (Kd.R_ne HO_5.out p1.out (by decide)); have q3 : (⟨go6, 0, none⟩ : Addr).block ≠ p3 := Kd.own_blk (Kd.R_ne HO_5.out p1.out (by decide)); have q4 : (⟨go6, 0, none⟩ : Addr).block ≠ p3 := Kd.own_blk (Kd.R_ne HO_5.out p1.out (by decide)); have q5 : (⟨go6, 0, none⟩ : Addr).block ≠ p3 := Kd.own_blk (Kd.R_ne HO_5.out p1.out (by decide)); have q7 : (⟨go6, 0, none⟩ : Addr).block ≠ p3 := Kd.own_blk (Kd.R_ne HO_5.out p1.out (by decide)); replace p8 := (cell_far (p := ⟨p3, 0, none⟩) (by first | (rw [add_block]; exact q2) | (show (Addr.add _ _).block ≠ _; rw [add_block]; exact q2) | exact q2) (.int .i64 ((rd_T34 l0_1 p0).f0))).trans p8; replace p9 := (cell_far (p := ⟨p3, 0, none⟩) (by first | (rw [add_block]; exact q2) | (show (Addr.add _ _).block ≠ _; rw [add_block]; exact q2) | exact q2) (.int .i64 ((rd_T34 l0_1 p0).f0))).trans p9; replace p8 := (cell_far (p := ⟨p3, 1, none⟩) (by first | (rw [add_block]; exact q3) | (show (Addr.add _ _).block ≠ _; rw [add_block]; exact q3) | exact q3) (.int .i64 ((rd_T34 l0_1 p0).f1))).trans p8; replace p9 := (cell_far (p := ⟨p3, 1, none⟩) (by first | (rw [add_block]; exact q3) | (show (Addr.add _ _).block ≠ _; rw [add_block]; exact q3) | exact q3) (.int .i64 ((rd_T34 l0_1 p0).f1))).trans p9; replace p8 := (cell_far (p := ⟨p3, 2, none⟩) (by first | (rw [add_block]; exact q4) | (show (Addr.add _ _).block ≠ _; rw [add_block]; exact q4) | exact q4) (.int .i64 ((rd_T34 l0_1 p0).f2))).trans p8; replace p9 := (cell_far (p := ⟨p3, 2, none⟩) (by first | (rw [add_block]; exact q4) | (show (Addr.add _ _).block ≠ _; rw [add_block]; exact q4) | exact q4) (.int .i64 ((rd_T34 l0_1 p0).f2))).trans p9; replace p8 := (cell_far (p := ⟨p3, 3, none⟩) (by first | (rw [add_block]; exact q5) | (show (Addr.add _ _).block ≠ _; rw [add_block]; exact q5) | exact q5) (.int .i64 ((rd_T34 l0_1 p0).f3))).trans p8; replace p9 := (cell_far (p := ⟨p3, 3, none⟩) (by first | (rw [add_block]; exact q5) | (show (Addr.add _ _).block ≠ _; rw [add_block]; exact q5) | exact q5) (.int .i64 ((rd_T34 l0_1 p0).f3))).trans p9; replace p8 := (cell_far (p := ⟨p3, 4, none⟩) (by first | (rw [add_block]; exact q7) | (show (Addr.add _ _).block ≠ _; rw [add_block]; exact q7) | exact q7) (.int .i64 ((rd_T34 l0_1 p0).f4))).trans p8; replace p9 := (cell_far (p := ⟨p3, 4, none⟩) (by first | (rw [add_block]; exact q7) | (show (Addr.add _ _).block ≠ _; rw [add_block]; exact q7) | exact q7) (.int .i64 ((rd_T34 l0_1 p0).f4))).trans p9; clear q2; clear q3; clear q4; clear q5; clear q7; replace p233 := eq_true p233; replace q233 := eq_true q233) | ((with_reducible refine gate_dst (N := 9) rfl ?_); refine box_event ?hg (N := 9) ?hd (cs := #[.int .i64 0, .int .i64 0]) (t := 104) ?hr ?_; (case hd => rfl); (case hg => rfl); (case hr => first | (go_simp; done) | (go_simp; rfl)); intro p5 hg w53 hbox hb; have n0_ := Aside0.mk (Kd.R_below (Kd.R_elderB (Kd.R_mono (Kd.R_far (p := ⟨p3, 4, none⟩) (Kd.R_far (p := ⟨p3, 3, none⟩) (Kd.R_far (p := ⟨p3, 2, none⟩) (Kd.R_far (p := ⟨p3, 1, none⟩) (Kd.R_far (p := ⟨p3, 0, none⟩) (Kd.R_types HO_5.out p1.out (by decide)) (fun _ hk => hk.2) (.int .i64 ((rd_T34 l0_1 p0).f0))) (fun _ hk => hk.2) (.int .i64 ((rd_T34 l0_1 p0).f1))) (fun _ hk => hk.2) (.int .i64 ((rd_T34 l0_1 p0).f2))) (fun _ hk => hk.2) (.int .i64 ((rd_T34 l0_1 p0).f3))) (fun _ hk => hk.2) (.int .i64 ((rd_T34 l0_1 p0).f4))) (fun _ h_ => h_.1)) p5 (Nat.le_of_eq hg.symm)) hb); have n1_ := Aside0.mk (blk_below (g := q1) (o := .cells #[.int .i64 a0_0, .slice (some r0) l0_1.length c0_1] 25 (0, 0)) (by refine blk_far ?_ p4.out _; refine blk_far ?_ p4.out _; refine blk_far ?_ p4.out _; refine blk_far ?_ p4.out _; refine blk_far ?_ p4.out _; exact p7.out) hb); have n2_ := Aside0.mk (blk_below (g := p3) (o := .cells #[.int .i64 ((rd_T34 l0_1 p0).f0), .int .i64 ((rd_T34 l0_1 p0).f1), .int .i64 ((rd_T34 l0_1 p0).f2), .int .i64 ((rd_T34 l0_1 p0).f3), .int .i64 ((rd_T34 l0_1 p0).f4)] 34 (0, 0)) (by refine blk_put (cs := #[.int .i64 ((rd_T34 l0_1 p0).f0), .int .i64 ((rd_T34 l0_1 p0).f1), .int .i64 ((rd_T34 l0_1 p0).f2), .int .i64 ((rd_T34 l0_1 p0).f3), .int .i64 0]) ?_ 4 _ rfl; refine blk_put (cs := #[.int .i64 ((rd_T34 l0_1 p0).f0), .int .i64 ((rd_T34 l0_1 p0).f1), .int .i64 ((rd_T34 l0_1 p0).f2), .int .i64 0, .int .i64 0]) ?_ 3 _ rfl; refine blk_put (cs := #[.int .i64 ((rd_T34 l0_1 p0).f0), .int .i64 ((rd_T34 l0_1 p0).f1), .int .i64 0, .int .i64 0, .int .i64 0]) ?_ 2 _ rfl; refine blk_put (cs := #[.int .i64 ((rd_T34 l0_1 p0).f0), .int .i64 0, .int .i64 0, .int .i64 0, .int .i64 0]) ?_ 1 _ rfl; refine blk_put (cs := #[.int .i64 0, .int .i64 0, .int .i64 0, .int .i64 0, .int .i64 0]) ?_ 0 _ rfl; exact p1.out) hb); have n3_ := Aside0.mk (below_step (by repeat (first | (with_reducible first | exact HB.out | apply below_alloc | apply pw_below_drewN | apply below_drew1 | refine below_set ?_ r8.out | refine below_set ?_ r9.out) | exact HB.out)) hb); have n4_ := Aside0.mk (hbox); have n5_ := Aside0.mk ((by rw [hg]; exact (below_size (by repeat (first | (with_reducible first | exact HB.out | apply below_alloc | apply pw_below_drewN | apply below_drew1 | refine below_set ?_ r8.out | refine below_set ?_ r9.out) | exact HB.out))) : w.heap.size ≤ p5)); have n6_ := Aside0.mk ((by rw [hg]; exact (below_size (by repeat (first | (with_reducible first | exact HB.out | apply below_alloc | apply pw_below_drewN | apply below_drew1 | refine below_set ?_ r8.out | refine below_set ?_ r9.out) | exact HB.out))) : w.heap.size ≤ p5)); have n7_ := Aside0.mk ((by rw [hg]; exact Nat.ne_of_lt (blk_lt (g := q1) (o := .cells #[.int .i64 a0_0, .slice (some r0) l0_1.length c0_1] 25 (0, 0)) (by refine blk_far ?_ p4.out _; refine blk_far ?_ p4.out _; refine blk_far ?_ p4.out _; refine blk_far ?_ p4.out _; refine blk_far ?_ p4.out _; exact p7.out)) : q1 ≠ p5)); have n8_ := Aside0.mk ((by rw [hg]; exact Nat.ne_of_gt (blk_lt (g := q1) (o := .cells #[.int .i64 a0_0, .slice (some r0) l0_1.length c0_1] 25 (0, 0)) (by refine blk_far ?_ p4.out _; refine blk_far ?_ p4.out _; refine blk_far ?_ p4.out _; refine blk_far ?_ p4.out _; refine blk_far ?_ p4.out _; exact p7.out)) : p5 ≠ q1)); have n9_ := Aside0.mk ((by rw [hg]; exact Nat.ne_of_lt (blk_lt (g := p3) (o := .cells #[.int .i64 ((rd_T34 l0_1 p0).f0), .int .i64 ((rd_T34 l0_1 p0).f1), .int .i64 ((rd_T34 l0_1 p0).f2), .int .i64 ((rd_T34 l0_1 p0).f3), .int .i64 ((rd_T34 l0_1 p0).f4)] 34 (0, 0)) (by refine blk_put (cs := #[.int .i64 ((rd_T34 l0_1 p0).f0), .int .i64 ((rd_T34 l0_1 p0).f1), .int .i64 ((rd_T34 l0_1 p0).f2), .int .i64 ((rd_T34 l0_1 p0).f3), .int .i64 0]) ?_ 4 _ rfl; refine blk_put (cs := #[.int .i64 ((rd_T34 l0_1 p0).f0), .int .i64 ((rd_T34 l0_1 p0).f1), .int .i64 ((rd_T34 l0_1 p0).f2), .int .i64 0, .int .i64 0]) ?_ 3 _ rfl; refine blk_put (cs := #[.int .i64 ((rd_T34 l0_1 p0).f0), .int .i64 ((rd_T34 l0_1 p0).f1), .int .i64 0, .int .i64 0, .int .i64 0]) ?_ 2 _ rfl; refine blk_put (cs := #[.int .i64 ((rd_T34 l0_1 p0).f0), .int .i64 0, .int .i64 0, .int .i64 0, .int .i64 0]) ?_ 1 _ rfl; refine blk_put (cs := #[.int .i64 0, .int .i64 0, .int .i64 0, .int .i64 0, .int .i64 0]) ?_ 0 _ rfl; exact p1.out)) : p3 ≠ p5)); have n10_ := Aside0.mk ((by rw [hg]; exact Nat.ne_of_gt (blk_lt (g := p3) (o := .cells #[.int .i64 ((rd_T34 l0_1 p0).f0), .int .i64 ((rd_T34 l0_1 p0).f1), .int .i64 ((rd_T34 l0_1 p0).f2), .int .i64 ((rd_T34 l0_1 p0).f3), .int .i64 ((rd_T34 l0_1 p0).f4)] 34 (0, 0)) (by refine blk_put (cs := #[.int .i64 ((rd_T34 l0_1 p0).f0), .int .i64 ((rd_T34 l0_1 p0).f1), .int .i64 ((rd_T34 l0_1 p0).f2), .int .i64 ((rd_T34 l0_1 p0).f3), .int .i64 0]) ?_ 4 _ rfl; refine blk_put (cs := #[.int .i64 ((rd_T34 l0_1 p0).f0), .int .i64 ((rd_T34 l0_1 p0).f1), .int .i64 ((rd_T34 l0_1 p0).f2), .int .i64 0, .int .i64 0]) ?_ 3 _ rfl; refine blk_put (cs := #[.int .i64 ((rd_T34 l0_1 p0).f0), .int .i64 ((rd_T34 l0_1 p0).f1), .int .i64 0, .int .i64 0, .int .i64 0]) ?_ 2 _ rfl; refine blk_put (cs := #[.int .i64 ((rd_T34 l0_1 p0).f0), .int .i64 0, .int .i64 0, .int .i64 0, .int .i64 0]) ?_ 1 _ rfl; refine blk_put (cs := #[.int .i64 0, .int .i64 0, .int .i64 0, .int .i64 0, .int .i64 0]) ?_ 0 _ rfl; exact p1.out)) : p5 ≠ p3)); clear HO_5; clear p7; clear p1; clear HB; have HO_5 := n0_; have p7 := n1_; have p1 := n2_; have HB := n3_; have q0 := n4_; have GW234 := n5_; have t4 := n6_; have q8 := n7_; have t1 := n8_; have q9 := n9_; have t2 := n10_; clear n0_ n1_ n2_ n3_ n4_ n5_ n6_ n7_ n8_ n9_ n10_; clear hb hbox hg; have hnb54 := t1.out; have hnc54 := q8.out; have hnb55 := t2.out; have hnc55 := q9.out; have hcz56_0 : w53.cell? ⟨p5, 0, none⟩ = some (.int .i64 0) := (blk_cell q0.out 0).trans rfl; have hcz56_1 : w53.cell? ⟨p5, 1, none⟩ = some (.int .i64 0) := (blk_cell q0.out 1).trans rfl; have hfz56_0 := blk_frozen q0.out 0; have hfz56_1 := blk_frozen q0.out 1; have hcz57_0 : w53.cell? ⟨p3, 0, none⟩ = some (.int .i64 ((rd_T34 l0_1 p0).f0)) := (blk_cell p1.out 0).trans rfl; have hcz57_1 : w53.cell? ⟨p3, 1, none⟩ = some (.int .i64 ((rd_T34 l0_1 p0).f1)) := (blk_cell p1.out 1).trans rfl; have hcz57_2 : w53.cell? ⟨p3, 2, none⟩ = some (.int .i64 ((rd_T34 l0_1 p0).f2)) := (blk_cell p1.out 2).trans rfl; have hcz57_3 : w53.cell? ⟨p3, 3, none⟩ = some (.int .i64 ((rd_T34 l0_1 p0).f3)) := (blk_cell p1.out 3).trans rfl; have hcz57_4 : w53.cell? ⟨p3, 4, none⟩ = some (.int .i64 ((rd_T34 l0_1 p0).f4)) := (blk_cell p1.out 4).trans rfl; have hfz57_0 := blk_frozen p1.out 0; have hfz57_1 := blk_frozen p1.out 1; have hfz57_2 := blk_frozen p1.out 2; have hfz57_3 := blk_frozen p1.out 3; have hfz57_4 := blk_frozen p1.out 4))
      have n0_ : Aside0 (Kd.R k104 104 ((((w53.setCell ⟨p5, 0, none⟩ (.int .i64 ((rd_T104 x5_2 ((rd_T34 l0_1 p0).f1)).f0))).setCell ⟨p5, 1, none⟩ (.int .i64 ((rd_T104 x5_2 ((rd_T34 l0_1 p0).f1)).f1))).setCell ⟨p5, 0, none⟩ (.int .i64 (wrap64 (((rd_T104 x5_2 ((rd_T34 l0_1 p0).f1)).f0) + ((rd_T34 l0_1 p0).f2))))).setCell ⟨p5, 1, none⟩ (.int .i64 (wrap64 (((rd_T104 x5_2 ((rd_T34 l0_1 p0).f1)).f1) + 1)))) w.heap.size (fun k_ => k_ ≠ p5) (.slice (some ⟨go6, 0, none⟩) x5_2.length co6) x5_2) := ⟨by exact Kd.R_mono (Kd.R_far (p := ⟨p5, 1, none⟩) (Kd.R_far (p := ⟨p5, 0, none⟩) (Kd.R_far (p := ⟨p5, 1, none⟩) (Kd.R_far (p := ⟨p5, 0, none⟩) (Kd.R_mono HO_5.out (fun k_ hk => (⟨hk, hk.2⟩ : _ ∧ k_ ≠ p5))) (fun _ hk => hk.2) (.int .i64 ((rd_T104 x5_2 ((rd_T34 l0_1 p0).f1)).f0))) (fun _ hk => hk.2) (.int .i64 ((rd_T104 x5_2 ((rd_T34 l0_1 p0).f1)).f1))) (fun _ hk => hk.2) (.int .i64 (wrap64 (((rd_T104 x5_2 ((rd_T34 l0_1 p0).f1)).f0) + ((rd_T34 l0_1 p0).f2))))) (fun _ hk => hk.2) (.int .i64 (wrap64 (((rd_T104 x5_2 ((rd_T34 l0_1 p0).f1)).f1) + 1)))) (fun _ hk => hk.1.2)⟩
      have n1_ : Aside0 (((((w53.setCell ⟨p5, 0, none⟩ (.int .i64 ((rd_T104 x5_2 ((rd_T34 l0_1 p0).f1)).f0))).setCell ⟨p5, 1, none⟩ (.int .i64 ((rd_T104 x5_2 ((rd_T34 l0_1 p0).f1)).f1))).setCell ⟨p5, 0, none⟩ (.int .i64 (wrap64 (((rd_T104 x5_2 ((rd_T34 l0_1 p0).f1)).f0) + ((rd_T34 l0_1 p0).f2))))).setCell ⟨p5, 1, none⟩ (.int .i64 (wrap64 (((rd_T104 x5_2 ((rd_T34 l0_1 p0).f1)).f1) + 1)))).heap[q1]? = some (.cells #[.int .i64 a0_0, .slice (some r0) l0_1.length c0_1] 25 (0, 0))) := ⟨by refine blk_far ?_ q8.out _; refine blk_far ?_ q8.out _; refine blk_far ?_ q8.out _; refine blk_far ?_ q8.out _; exact p7.out⟩
      have n2_ : Aside0 (((((w53.setCell ⟨p5, 0, none⟩ (.int .i64 ((rd_T104 x5_2 ((rd_T34 l0_1 p0).f1)).f0))).setCell ⟨p5, 1, none⟩ (.int .i64 ((rd_T104 x5_2 ((rd_T34 l0_1 p0).f1)).f1))).setCell ⟨p5, 0, none⟩ (.int .i64 (wrap64 (((rd_T104 x5_2 ((rd_T34 l0_1 p0).f1)).f0) + ((rd_T34 l0_1 p0).f2))))).setCell ⟨p5, 1, none⟩ (.int .i64 (wrap64 (((rd_T104 x5_2 ((rd_T34 l0_1 p0).f1)).f1) + 1)))).heap[p3]? = some (.cells #[.int .i64 ((rd_T34 l0_1 p0).f0), .int .i64 ((rd_T34 l0_1 p0).f1), .int .i64 ((rd_T34 l0_1 p0).f2), .int .i64 ((rd_T34 l0_1 p0).f3), .int .i64 ((rd_T34 l0_1 p0).f4)] 34 (0, 0))) := ⟨by refine blk_far ?_ q9.out _; refine blk_far ?_ q9.out _; refine blk_far ?_ q9.out _; refine blk_far ?_ q9.out _; exact p1.out⟩
      have n3_ : Aside0 (((((w53.setCell ⟨p5, 0, none⟩ (.int .i64 ((rd_T104 x5_2 ((rd_T34 l0_1 p0).f1)).f0))).setCell ⟨p5, 1, none⟩ (.int .i64 ((rd_T104 x5_2 ((rd_T34 l0_1 p0).f1)).f1))).setCell ⟨p5, 0, none⟩ (.int .i64 (wrap64 (((rd_T104 x5_2 ((rd_T34 l0_1 p0).f1)).f0) + ((rd_T34 l0_1 p0).f2))))).setCell ⟨p5, 1, none⟩ (.int .i64 (wrap64 (((rd_T104 x5_2 ((rd_T34 l0_1 p0).f1)).f1) + 1)))).heap[p5]? = some (.cells #[.int .i64 (wrap64 (((rd_T104 x5_2 ((rd_T34 l0_1 p0).f1)).f0) + ((rd_T34 l0_1 p0).f2))), .int .i64 (wrap64 (((rd_T104 x5_2 ((rd_T34 l0_1 p0).f1)).f1) + 1))] 104 (0, 0))) := ⟨by refine blk_put (cs := #[.int .i64 (wrap64 (((rd_T104 x5_2 ((rd_T34 l0_1 p0).f1)).f0) + ((rd_T34 l0_1 p0).f2))), .int .i64 ((rd_T104 x5_2 ((rd_T34 l0_1 p0).f1)).f1)]) ?_ 1 _ rfl; refine blk_put (cs := #[.int .i64 ((rd_T104 x5_2 ((rd_T34 l0_1 p0).f1)).f0), .int .i64 ((rd_T104 x5_2 ((rd_T34 l0_1 p0).f1)).f1)]) ?_ 0 _ rfl; refine blk_put (cs := #[.int .i64 ((rd_T104 x5_2 ((rd_T34 l0_1 p0).f1)).f0), .int .i64 0]) ?_ 1 _ rfl; refine blk_put (cs := #[.int .i64 0, .int .i64 0]) ?_ 0 _ rfl; exact q0.out⟩
      have n4_ : Aside0 (Below w.heap.size w ((((w53.setCell ⟨p5, 0, none⟩ (.int .i64 ((rd_T104 x5_2 ((rd_T34 l0_1 p0).f1)).f0))).setCell ⟨p5, 1, none⟩ (.int .i64 ((rd_T104 x5_2 ((rd_T34 l0_1 p0).f1)).f1))).setCell ⟨p5, 0, none⟩ (.int .i64 (wrap64 (((rd_T104 x5_2 ((rd_T34 l0_1 p0).f1)).f0) + ((rd_T34 l0_1 p0).f2))))).setCell ⟨p5, 1, none⟩ (.int .i64 (wrap64 (((rd_T104 x5_2 ((rd_T34 l0_1 p0).f1)).f1) + 1))))) := ⟨by repeat (first | (with_reducible first | exact HB.out | apply below_alloc | apply pw_below_drewN | apply below_drew1 | refine below_set ?_ r8.out | refine below_set ?_ r9.out | refine below_set ?_ t4.out) | exact HB.out)⟩
      (try clear HO_5)
      (try clear p7)
      (try clear p1)
      (try clear q0)
      (try clear HB)
      generalize ((((w53.setCell ⟨p5, 0, none⟩ (.int .i64 ((rd_T104 x5_2 ((rd_T34 l0_1 p0).f1)).f0))).setCell ⟨p5, 1, none⟩ (.int .i64 ((rd_T104 x5_2 ((rd_T34 l0_1 p0).f1)).f1))).setCell ⟨p5, 0, none⟩ (.int .i64 (wrap64 (((rd_T104 x5_2 ((rd_T34 l0_1 p0).f1)).f0) + ((rd_T34 l0_1 p0).f2))))).setCell ⟨p5, 1, none⟩ (.int .i64 (wrap64 (((rd_T104 x5_2 ((rd_T34 l0_1 p0).f1)).f1) + 1)))) = w58 at n0_ n1_ n2_ n3_ n4_ ⊢
      have HO_5 := n0_
      have p7 := n1_
      have p1 := n2_
      have q0 := n3_
      have HB := n4_
      clear n0_ n1_ n2_ n3_ n4_
      have n0_ := Aside0.mk (Kd.R_drew HO_5.out)
      have n1_ := Aside0.mk (blk_drew p7.out)
      have n2_ := Aside0.mk (blk_drew p1.out)
      have n3_ := Aside0.mk (blk_drew q0.out)
      have n4_ := Aside0.mk (below_drew1 HB.out)
      clear HO_5
      clear p7
      clear p1
      clear q0
      clear HB
      have HO_5 := n0_
      have p7 := n1_
      have p1 := n2_
      have q0 := n3_
      have HB := n4_
      clear n0_ n1_ n2_ n3_ n4_
      have p235 : 0 ≤ (((rd_T34 l0_1 p0).f0) : Int) := of_decide_eq_true (by first | (with_reducible assumption) | assumption)
      have q235 : ((rd_T34 l0_1 p0).f0) < (x5_2.length : Int) := of_decide_eq_true (by first | (with_reducible assumption) | assumption)
      obtain ⟨u5, e235, r6, r7⟩ := at_T104 (Kd.R_reads' HO_5.out).2.2 ((rd_T34 l0_1 p0).f0) p235 q235
      obtain rfl : (⟨go6, 0, none⟩ : Addr) = u5 := (by injection e235)
      (first | simp only [add_plain] at r6 | simp only [add_at] at r6 | simp only [Addr.add, Nat.zero_add] at r6 | skip)
      (first | simp only [add_plain] at r7 | simp only [add_at] at r7 | simp only [Addr.add, Nat.zero_add] at r7 | skip)
      replace p235 := eq_true p235
      replace q235 := eq_true q235
      refine start_ (n := 7) (S := fun w' => w'.cell? ⟨p5, 0, none⟩ = some (.int .i64 (wrap64 (((rd_T104 x5_2 ((rd_T34 l0_1 p0).f1)).f0) + ((rd_T34 l0_1 p0).f2)))) ∧ w'.cell? ⟨p5, 1, none⟩ = some (.int .i64 (wrap64 (((rd_T104 x5_2 ((rd_T34 l0_1 p0).f1)).f1) + 1))) ∧ w'.cell? ⟨p3, 0, none⟩ = some (.int .i64 ((rd_T34 l0_1 p0).f0)) ∧ w'.cell? ⟨p3, 1, none⟩ = some (.int .i64 ((rd_T34 l0_1 p0).f1)) ∧ w'.cell? ⟨p3, 2, none⟩ = some (.int .i64 ((rd_T34 l0_1 p0).f2)) ∧ w'.cell? ⟨p3, 3, none⟩ = some (.int .i64 ((rd_T34 l0_1 p0).f3)) ∧ w'.cell? ⟨p3, 4, none⟩ = some (.int .i64 ((rd_T34 l0_1 p0).f4)) ∧ w'.cell? ⟨go6, (((rd_T34 l0_1 p0).f0)).toNat * 2, none⟩ = some (.int .i64 ((rd_T104 x5_2 ((rd_T34 l0_1 p0).f0)).f0)) ∧ w'.cell? ⟨go6, (((rd_T34 l0_1 p0).f0)).toNat * 2 + 1, none⟩ = some (.int .i64 ((rd_T104 x5_2 ((rd_T34 l0_1 p0).f0)).f1))) (ds := []) #[false, false, false, false, false, false, false] (by kernel_rfl) rfl rfl ⟨(blk_cell q0.out 0).trans rfl, (blk_cell q0.out 1).trans rfl, (blk_cell p1.out 0).trans rfl, (blk_cell p1.out 1).trans rfl, (blk_cell p1.out 2).trans rfl, (blk_cell p1.out 3).trans rfl, (blk_cell p1.out 4).trans rfl, r6, r7⟩ (fun hHeld => ?_)
      generalize w58.drew = w59 at HO_5 p7 p1 q0 HB r6 r7 hHeld ⊢
      refine pure_ (i := 1) (N := some 45) (v := ?_) (a' := ?_) #[false, true, false, false, false, false, false] rfl rfl (by kernel_rfl) (fun _ _ _ h => h) (Or.inl ⟨by rfl, ?_⟩) ?_ ?_
      rotate_left
      ·intro w'
       go_simp
       with_reducible rfl
      rotate_left
      ·simp only [Act.put, List.setIfInBounds_toArray, List.set_cons_zero, List.set_cons_succ, i64_w, i32_w]
       rfl
      refine pure_ (i := 2) (N := some 46) (v := ?_) (a' := ?_) #[false, true, true, false, false, false, false] rfl rfl (by kernel_rfl) (fun _ _ _ h => h) (Or.inl ⟨by rfl, ?_⟩) ?_ ?_
      rotate_left
      ·intro w'
       go_simp
       with_reducible rfl
      rotate_left
      ·simp only [Act.put, List.setIfInBounds_toArray, List.set_cons_zero, List.set_cons_succ, i64_w, i32_w]
       rfl
      refine take_ (i := 0) (N := some 44) (v := ?_) (a' := ?_) #[true, true, true, false, false, false, false] rfl rfl (by kernel_rfl) (fun _ _ _ h => h) (Or.inl ⟨by rfl, ?_⟩) hHeld ?_ ?_
      rotate_left
      ·rintro w' ⟨s0, s1, s2, s3, s4, s5, s6, s7, s8⟩
       go_simp
       with_reducible rfl
      rotate_left
      ·simp only [Act.put, List.setIfInBounds_toArray, List.set_cons_zero, List.set_cons_succ, i64_w, i32_w]
       rfl
      refine take_ (i := 3) (N := some 47) (v := ?_) (a' := ?_) #[true, true, true, true, false, false, false] rfl rfl (by kernel_rfl) (fun _ _ _ h => h) (Or.inl ⟨by rfl, ?_⟩) hHeld ?_ ?_
      rotate_left
      ·rintro w' ⟨s0, s1, s2, s3, s4, s5, s6, s7, s8⟩
       go_simp
       with_reducible rfl
      rotate_left
      ·simp only [Act.put, List.setIfInBounds_toArray, List.set_cons_zero, List.set_cons_succ, i64_w, i32_w]
       rfl
      refine pure_ (i := 4) (N := some 48) (v := ?_) (a' := ?_) #[true, true, true, true, true, false, false] rfl rfl (by kernel_rfl) (fun _ _ _ h => h) (Or.inl ⟨by rfl, ?_⟩) ?_ ?_
      rotate_left
      ·intro w'
       go_simp
       with_reducible rfl
      rotate_left
      ·simp only [Act.put, List.setIfInBounds_toArray, List.set_cons_zero, List.set_cons_succ, i64_w, i32_w]
       rfl
      refine take_ (i := 5) (N := some 49) (v := ?_) (a' := ?_) #[true, true, true, true, true, true, false] rfl rfl (by kernel_rfl) (fun _ _ _ h => h) (Or.inl ⟨by rfl, ?_⟩) hHeld ?_ ?_
      rotate_left
      ·rintro w' ⟨s0, s1, s2, s3, s4, s5, s6, s7, s8⟩
       go_simp
       with_reducible rfl
      rotate_left
      ·simp only [Act.put, List.setIfInBounds_toArray, List.set_cons_zero, List.set_cons_succ, i64_w, i32_w]
       rfl
      refine one_ (i := 6) (N := some 50) #[true, true, true, true, true, true, true] rfl rfl (by kernel_rfl) (by decide) (fun K hK => ?_)
      refine goes_ Try.func127 (by kernel_rfl) rfl #[.agg #[.int .i64 (wrap64 (((rd_T104 x5_2 ((rd_T34 l0_1 p0).f1)).f0) + ((rd_T34 l0_1 p0).f2))), .int .i64 (wrap64 (((rd_T104 x5_2 ((rd_T34 l0_1 p0).f1)).f1) + 1))], .agg #[.int .i64 ((rd_T104 x5_2 ((rd_T34 l0_1 p0).f0)).f0), .int .i64 ((rd_T104 x5_2 ((rd_T34 l0_1 p0).f0)).f1)]] (by rfl) rfl rfl (by (try simp only [List.map_toArray, List.map_cons, List.map_nil]); first | done | rfl | (simp only [List.length_drop, List.length_take]; rfl)) ?_
      with_reducible refine (impl_measure_less.calls (wrap64 (((rd_T104 x5_2 ((rd_T34 l0_1 p0).f1)).f0) + ((rd_T34 l0_1 p0).f2))) (wrap64 (((rd_T104 x5_2 ((rd_T34 l0_1 p0).f1)).f1) + 1)) ((rd_T104 x5_2 ((rd_T34 l0_1 p0).f0)).f0) ((rd_T104 x5_2 ((rd_T34 l0_1 p0).f0)).f1) false _ A32.out).mono ?_
      rintro e w60 ⟨rfl, hb⟩
      have HS7_ := (hb.cell (World.block_lt_of_cell? _ _ (hHeld.2.2.2.2.2.2.2.1))).trans (hHeld.2.2.2.2.2.2.2.1)
      have HS8_ := (hb.cell (World.block_lt_of_cell? _ _ (hHeld.2.2.2.2.2.2.2.2))).trans (hHeld.2.2.2.2.2.2.2.2)
      refine ⟨_, rfl, ?_⟩
      have n0_ := Aside0.mk (Kd.R_below HO_5.out hb)
      have n1_ := Aside0.mk (blk_below (g := q1) (o := .cells #[.int .i64 a0_0, .slice (some r0) l0_1.length c0_1] 25 (0, 0)) p7.out hb)
      have n2_ := Aside0.mk (blk_below (g := p3) (o := .cells #[.int .i64 ((rd_T34 l0_1 p0).f0), .int .i64 ((rd_T34 l0_1 p0).f1), .int .i64 ((rd_T34 l0_1 p0).f2), .int .i64 ((rd_T34 l0_1 p0).f3), .int .i64 ((rd_T34 l0_1 p0).f4)] 34 (0, 0)) p1.out hb)
      have n3_ := Aside0.mk (blk_below (g := p5) (o := .cells #[.int .i64 (wrap64 (((rd_T104 x5_2 ((rd_T34 l0_1 p0).f1)).f0) + ((rd_T34 l0_1 p0).f2))), .int .i64 (wrap64 (((rd_T104 x5_2 ((rd_T34 l0_1 p0).f1)).f1) + 1))] 104 (0, 0)) q0.out hb)
      have n4_ := Aside0.mk (below_step HB.out hb)
      clear HO_5
      clear p7
      clear p1
      clear q0
      clear HB
      have HO_5 := n0_
      have p7 := n1_
      have p1 := n2_
      have q0 := n3_
      have HB := n4_
      clear n0_ n1_ n2_ n3_ n4_
      (try clear hb)
      (try clear hb2)
      (try clear hk)
      (try clear hi)
      refine hK.out _ _ ⟨(blk_cell q0.out 0).trans rfl, (blk_cell q0.out 1).trans rfl, (blk_cell p1.out 0).trans rfl, (blk_cell p1.out 1).trans rfl, (blk_cell p1.out 2).trans rfl, (blk_cell p1.out 3).trans rfl, (blk_cell p1.out 4).trans rfl, HS7_, HS8_⟩ (fun hHeld => ?_)
      clear hK K
      refine norm_ (a' := ?_) ?_ ?_
      rotate_left
      ·show Act.put _ (some 50) _ = _
       simp only [Act.put, List.setIfInBounds_toArray, List.set_cons_zero, List.set_cons_succ, i64_w, i32_w]
       rfl
      refine done_ (by kernel_rfl) ?_
      try go_wp2
      (try simp only [← hl5_2])
      go_roundg k2
      case measure => have := HK1.out; have := HK2.out; omega
      case rel => exact ⟨(x5_2), (x6_2), (wrap64 (p0 + 1)), (by first | rfl | (simp; done) | (simp [*]; done)), (by first | rfl | (simp; done) | (simp [*]; done)), H', ⟨by have := HK1.out; have := HK2.out; omega⟩, ⟨by (try simp only [hl5_1]); (try simp only [hl5_2]); exact Kd.R_mono HO_5.out (fun _ hk => trivial)⟩, ⟨by (try simp only [hl5_1]); (try simp only [hl5_2]); exact p7.out⟩, ⟨by repeat (first | (with_reducible first | exact HB.out | apply below_alloc | apply pw_below_drewN | apply below_drew1 | refine below_set ?_ r8.out | refine below_set ?_ r9.out | refine below_set ?_ t4.out) | exact HB.out)⟩⟩
     subst c33
     have H1 : (impl_Net_toward.l1 k2 (x5_2.set (((rd_T34 l0_1 p0).f0) : Int).toNat (⟨wrap64 (((rd_T104 x5_2 ((rd_T34 l0_1 p0).f1)).f0) + ((rd_T34 l0_1 p0).f2)), wrap64 (((rd_T104 x5_2 ((rd_T34 l0_1 p0).f1)).f1) + 1)⟩ : S104)) true l0_1 (l0_1.length : Int) (wrap64 (p0 + 1)) a0_0 l0_1) = some r := by rw [if_pos rfl] at H; exact H
     clear H
     have H := H1
     clear H1
     obtain ⟨y237, hy237⟩ : ∃ y_ : List (S104), y_ = (x5_2.set (((rd_T34 l0_1 p0).f0) : Int).toNat (⟨wrap64 (((rd_T104 x5_2 ((rd_T34 l0_1 p0).f1)).f0) + ((rd_T34 l0_1 p0).f2)), wrap64 (((rd_T104 x5_2 ((rd_T34 l0_1 p0).f1)).f1) + 1)⟩ : S104)) := ⟨_, rfl⟩
     replace H : (impl_Net_toward.l1 k2 y237 true l0_1 (l0_1.length : Int) (wrap64 (p0 + 1)) a0_0 l0_1) = some r := by first | (rw [hy237]; with_reducible exact H) | (have H2_ := (Option.bind_some _ _).symm.trans H; rw [hy237]; with_reducible exact H2_) | (have H2_ := (Option.bind_some _ _).symm.trans H; with_reducible exact H2_) | with_reducible exact H | (rw [hy237]; exact H) | exact H
     have Ny237 := Aside0.mk hy237
     clear hy237
     have H' := Aside0.mk H
     clear H
     have p231 : 0 ≤ (p0 : Int) := of_decide_eq_true (by first | (with_reducible assumption) | assumption)
     have q231 : p0 < (l0_1.length : Int) := of_decide_eq_true (by first | (with_reducible assumption) | assumption)
     obtain ⟨r0, e231, r1, r2, r3, r4, r5⟩ := at_T34 u4.out p0 p231 q231
     cases e231
     replace r1 := (HB.out.cell (World.block_lt_of_cell? w _ r1)).trans r1
     replace r2 := (HB.out.cell (World.block_lt_of_cell? w _ r2)).trans r2
     replace r3 := (HB.out.cell (World.block_lt_of_cell? w _ r3)).trans r3
     replace r4 := (HB.out.cell (World.block_lt_of_cell? w _ r4)).trans r4
     replace r5 := (HB.out.cell (World.block_lt_of_cell? w _ r5)).trans r5
     replace p231 := eq_true p231
     replace q231 := eq_true q231
     try go_wp2_with (first | ((with_reducible refine gate_dst (N := 8) rfl ?_); refine box_event ?hg (N := 8) ?hd (cs := #[.int .i64 0, .int .i64 0, .int .i64 0, .int .i64 0, .int .i64 0]) (t := 34) ?hr ?_; (case hd => rfl); (case hg => rfl); (case hr => first | (go_simp; done) | (go_simp; rfl)); intro p3 hg w35 hbox hb; have n0_ := Aside0.mk (Kd.R_below HO_5.out hb); have n1_ := Aside0.mk (blk_below (g := q1) (o := .cells #[.int .i64 a0_0, .slice (some r0) l0_1.length c0_1] 25 (0, 0)) p7.out hb); have n2_ := Aside0.mk (below_step HB.out hb); have n3_ := Aside0.mk (hbox); have n4_ := Aside0.mk ((by rw [hg]; exact (below_size HB.out) : w.heap.size ≤ p3)); have n5_ := Aside0.mk ((by rw [hg]; exact (below_size HB.out) : w.heap.size ≤ p3)); have n6_ := Aside0.mk ((by rw [hg]; exact Nat.ne_of_lt (blk_lt (g := q1) (o := .cells #[.int .i64 a0_0, .slice (some r0) l0_1.length c0_1] 25 (0, 0)) p7.out) : q1 ≠ p3)); have n7_ := Aside0.mk ((by rw [hg]; exact Nat.ne_of_gt (blk_lt (g := q1) (o := .cells #[.int .i64 a0_0, .slice (some r0) l0_1.length c0_1] 25 (0, 0)) p7.out) : p3 ≠ q1)); clear HO_5; clear p7; clear HB; have HO_5 := n0_; have p7 := n1_; have HB := n2_; have p1 := n3_; have GW232 := n4_; have r9 := n5_; have p4 := n6_; have t0 := n7_; clear n0_ n1_ n2_ n3_ n4_ n5_ n6_ n7_; clear hb hbox hg; have hnb36 := t0.out; have hnc36 := p4.out; have hcz37_0 : w35.cell? ⟨p3, 0, none⟩ = some (.int .i64 0) := (blk_cell p1.out 0).trans rfl; have hcz37_1 : w35.cell? ⟨p3, 1, none⟩ = some (.int .i64 0) := (blk_cell p1.out 1).trans rfl; have hcz37_2 : w35.cell? ⟨p3, 2, none⟩ = some (.int .i64 0) := (blk_cell p1.out 2).trans rfl; have hcz37_3 : w35.cell? ⟨p3, 3, none⟩ = some (.int .i64 0) := (blk_cell p1.out 3).trans rfl; have hcz37_4 : w35.cell? ⟨p3, 4, none⟩ = some (.int .i64 0) := (blk_cell p1.out 4).trans rfl; have hfz37_0 := blk_frozen p1.out 0; have hfz37_1 := blk_frozen p1.out 1; have hfz37_2 := blk_frozen p1.out 2; have hfz37_3 := blk_frozen p1.out 3; have hfz37_4 := blk_frozen p1.out 4; have p233 : 0 ≤ (((rd_T34 l0_1 p0).f1) : Int) := of_decide_eq_true (by first | (with_reducible assumption) | assumption); have q233 : ((rd_T34 l0_1 p0).f1) < (x5_2.length : Int) := of_decide_eq_true (by first | (with_reducible assumption) | assumption); obtain ⟨t5, e233, p8, p9⟩ := at_T104 (Kd.R_reads' HO_5.out).2.2 ((rd_T34 l0_1 p0).f1) p233 q233; obtain rfl : (⟨go6, 0, none⟩ : Addr) = t5 := (by injection e233); (first | simp only [add_plain] at p8 | simp only [add_at] at p8 | simp only [Addr.add, Nat.zero_add] at p8 | skip); (first | simp only [add_plain] at p9 | simp only [add_at] at p9 | simp only [Addr.add, Nat.zero_add] at p9 | skip); have q2 : (⟨go6, 0, none⟩ : Addr).block ≠ p3 := Kd.own_blk (Kd.R_ne HO_5.out p1.out (by decide)); have q3 : (⟨go6, 0, none⟩ : Addr).block ≠ p3 := Kd.own_blk (Kd.R_ne HO_5.out p1.out (by decide)); have q4 : (⟨go6, 0, none⟩ : Addr).block ≠ p3 := Kd.own_blk (Kd.R_ne HO_5.out p1.out (by decide)); have q5 : (⟨go6, 0, none⟩ : Addr).block ≠ p3 := Kd.own_blk (Kd.R_ne HO_5.out p1.out (by decide)); have q7 : (⟨go6, 0, none⟩ : Addr).block ≠ p3 := Kd.own_blk (Kd.R_ne HO_5.out p1.out (by decide)); replace p8 := (cell_far (p := ⟨p3, 0, none⟩) (by first | (rw [add_block]; exact q2) | (show (Addr.add _ _).block ≠ _; rw [add_block]; exact q2) | exact q2) (.int .i64 ((rd_T34 l0_1 p0).f0))).trans p8; replace p9 := (cell_far (p := ⟨p3, 0, none⟩) (by first | (rw [add_block]; exact q2) | (show (Addr.add _ _).block ≠ _; rw [add_block]; exact q2) | exact q2) (.int .i64 ((rd_T34 l0_1 p0).f0))).trans p9; replace p8 := (cell_far (p := ⟨p3, 1, none⟩) (by first | (rw [add_block]; exact q3) | (show (Addr.add _ _).block ≠ _; rw [add_block]; exact q3) | exact q3) (.int .i64 ((rd_T34 l0_1 p0).f1))).trans p8; replace p9 := (cell_far (p := ⟨p3, 1, none⟩) (by first | (rw [add_block]; exact q3) | (show (Addr.add _ _).block ≠ _; rw [add_block]; exact q3) | exact q3) (.int .i64 ((rd_T34 l0_1 p0).f1))).trans p9; replace p8 := (cell_far (p := ⟨p3, 2, none⟩) (by first | (rw [add_block]; exact q4) | (show (Addr.add _ _).block ≠ _; rw [add_block]; exact q4) | exact q4) (.int .i64 ((rd_T34 l0_1 p0).f2))).trans p8; replace p9 := (cell_far (p := ⟨p3, 2, none⟩) (by first | (rw [add_block]; exact q4) | (show (Addr.add _ _).block ≠ _; rw [add_block]; exact q4) | exact q4) (.int .i64 ((rd_T34 l0_1 p0).f2))).trans p9; replace p8 := (cell_far (p := ⟨p3, 3, none⟩) (by first | (rw [add_block]; exact q5) | (show (Addr.add _ _).block ≠ _; rw [add_block]; exact q5) | exact q5) (.int .i64 ((rd_T34 l0_1 p0).f3))).trans p8; replace p9 := (cell_far (p := ⟨p3, 3, none⟩) (by first | (rw [add_block]; exact q5) | (show (Addr.add _ _).block ≠ _; rw [add_block]; exact q5) | exact q5) (.int .i64 ((rd_T34 l0_1 p0).f3))).trans p9; replace p8 := (cell_far (p := ⟨p3, 4, none⟩) (by first | (rw [add_block]; exact q7) | (show (Addr.add _ _).block ≠ _; rw [add_block]; exact q7) | exact q7) (.int .i64 ((rd_T34 l0_1 p0).f4))).trans p8; replace p9 := (cell_far (p := ⟨p3, 4, none⟩) (by first | (rw [add_block]; exact q7) | (show (Addr.add _ _).block ≠ _; rw [add_block]; exact q7) | exact q7) (.int .i64 ((rd_T34 l0_1 p0).f4))).trans p9; clear q2; clear q3; clear q4; clear q5; clear q7; replace p233 := eq_true p233; replace q233 := eq_true q233) | ((with_reducible refine gate_dst (N := 9) rfl ?_); refine box_event ?hg (N := 9) ?hd (cs := #[.int .i64 0, .int .i64 0]) (t := 104) ?hr ?_; (case hd => rfl); (case hg => rfl); (case hr => first | (go_simp; done) | (go_simp; rfl)); intro p5 hg w38 hbox hb; have n0_ := Aside0.mk (Kd.R_below (Kd.R_elderB (Kd.R_mono (Kd.R_far (p := ⟨p3, 4, none⟩) (Kd.R_far (p := ⟨p3, 3, none⟩) (Kd.R_far (p := ⟨p3, 2, none⟩) (Kd.R_far (p := ⟨p3, 1, none⟩) (Kd.R_far (p := ⟨p3, 0, none⟩) (Kd.R_types HO_5.out p1.out (by decide)) (fun _ hk => hk.2) (.int .i64 ((rd_T34 l0_1 p0).f0))) (fun _ hk => hk.2) (.int .i64 ((rd_T34 l0_1 p0).f1))) (fun _ hk => hk.2) (.int .i64 ((rd_T34 l0_1 p0).f2))) (fun _ hk => hk.2) (.int .i64 ((rd_T34 l0_1 p0).f3))) (fun _ hk => hk.2) (.int .i64 ((rd_T34 l0_1 p0).f4))) (fun _ h_ => h_.1)) p5 (Nat.le_of_eq hg.symm)) hb); have n1_ := Aside0.mk (blk_below (g := q1) (o := .cells #[.int .i64 a0_0, .slice (some r0) l0_1.length c0_1] 25 (0, 0)) (by refine blk_far ?_ p4.out _; refine blk_far ?_ p4.out _; refine blk_far ?_ p4.out _; refine blk_far ?_ p4.out _; refine blk_far ?_ p4.out _; exact p7.out) hb); have n2_ := Aside0.mk (blk_below (g := p3) (o := .cells #[.int .i64 ((rd_T34 l0_1 p0).f0), .int .i64 ((rd_T34 l0_1 p0).f1), .int .i64 ((rd_T34 l0_1 p0).f2), .int .i64 ((rd_T34 l0_1 p0).f3), .int .i64 ((rd_T34 l0_1 p0).f4)] 34 (0, 0)) (by refine blk_put (cs := #[.int .i64 ((rd_T34 l0_1 p0).f0), .int .i64 ((rd_T34 l0_1 p0).f1), .int .i64 ((rd_T34 l0_1 p0).f2), .int .i64 ((rd_T34 l0_1 p0).f3), .int .i64 0]) ?_ 4 _ rfl; refine blk_put (cs := #[.int .i64 ((rd_T34 l0_1 p0).f0), .int .i64 ((rd_T34 l0_1 p0).f1), .int .i64 ((rd_T34 l0_1 p0).f2), .int .i64 0, .int .i64 0]) ?_ 3 _ rfl; refine blk_put (cs := #[.int .i64 ((rd_T34 l0_1 p0).f0), .int .i64 ((rd_T34 l0_1 p0).f1), .int .i64 0, .int .i64 0, .int .i64 0]) ?_ 2 _ rfl; refine blk_put (cs := #[.int .i64 ((rd_T34 l0_1 p0).f0), .int .i64 0, .int .i64 0, .int .i64 0, .int .i64 0]) ?_ 1 _ rfl; refine blk_put (cs := #[.int .i64 0, .int .i64 0, .int .i64 0, .int .i64 0, .int .i64 0]) ?_ 0 _ rfl; exact p1.out) hb); have n3_ := Aside0.mk (below_step (by repeat (first | (with_reducible first | exact HB.out | apply below_alloc | apply pw_below_drewN | apply below_drew1 | refine below_set ?_ r8.out | refine below_set ?_ r9.out) | exact HB.out)) hb); have n4_ := Aside0.mk (hbox); have n5_ := Aside0.mk ((by rw [hg]; exact (below_size (by repeat (first | (with_reducible first | exact HB.out | apply below_alloc | apply pw_below_drewN | apply below_drew1 | refine below_set ?_ r8.out | refine below_set ?_ r9.out) | exact HB.out))) : w.heap.size ≤ p5)); have n6_ := Aside0.mk ((by rw [hg]; exact (below_size (by repeat (first | (with_reducible first | exact HB.out | apply below_alloc | apply pw_below_drewN | apply below_drew1 | refine below_set ?_ r8.out | refine below_set ?_ r9.out) | exact HB.out))) : w.heap.size ≤ p5)); have n7_ := Aside0.mk ((by rw [hg]; exact Nat.ne_of_lt (blk_lt (g := q1) (o := .cells #[.int .i64 a0_0, .slice (some r0) l0_1.length c0_1] 25 (0, 0)) (by refine blk_far ?_ p4.out _; refine blk_far ?_ p4.out _; refine blk_far ?_ p4.out _; refine blk_far ?_ p4.out _; refine blk_far ?_ p4.out _; exact p7.out)) : q1 ≠ p5)); have n8_ := Aside0.mk ((by rw [hg]; exact Nat.ne_of_gt (blk_lt (g := q1) (o := .cells #[.int .i64 a0_0, .slice (some r0) l0_1.length c0_1] 25 (0, 0)) (by refine blk_far ?_ p4.out _; refine blk_far ?_ p4.out _; refine blk_far ?_ p4.out _; refine blk_far ?_ p4.out _; refine blk_far ?_ p4.out _; exact p7.out)) : p5 ≠ q1)); have n9_ := Aside0.mk ((by rw [hg]; exact Nat.ne_of_lt (blk_lt (g := p3) (o := .cells #[.int .i64 ((rd_T34 l0_1 p0).f0), .int .i64 ((rd_T34 l0_1 p0).f1), .int .i64 ((rd_T34 l0_1 p0).f2), .int .i64 ((rd_T34 l0_1 p0).f3), .int .i64 ((rd_T34 l0_1 p0).f4)] 34 (0, 0)) (by refine blk_put (cs := #[.int .i64 ((rd_T34 l0_1 p0).f0), .int .i64 ((rd_T34 l0_1 p0).f1), .int .i64 ((rd_T34 l0_1 p0).f2), .int .i64 ((rd_T34 l0_1 p0).f3), .int .i64 0]) ?_ 4 _ rfl; refine blk_put (cs := #[.int .i64 ((rd_T34 l0_1 p0).f0), .int .i64 ((rd_T34 l0_1 p0).f1), .int .i64 ((rd_T34 l0_1 p0).f2), .int .i64 0, .int .i64 0]) ?_ 3 _ rfl; refine blk_put (cs := #[.int .i64 ((rd_T34 l0_1 p0).f0), .int .i64 ((rd_T34 l0_1 p0).f1), .int .i64 0, .int .i64 0, .int .i64 0]) ?_ 2 _ rfl; refine blk_put (cs := #[.int .i64 ((rd_T34 l0_1 p0).f0), .int .i64 0, .int .i64 0, .int .i64 0, .int .i64 0]) ?_ 1 _ rfl; refine blk_put (cs := #[.int .i64 0, .int .i64 0, .int .i64 0, .int .i64 0, .int .i64 0]) ?_ 0 _ rfl; exact p1.out)) : p3 ≠ p5)); have n10_ := Aside0.mk ((by rw [hg]; exact Nat.ne_of_gt (blk_lt (g := p3) (o := .cells #[.int .i64 ((rd_T34 l0_1 p0).f0), .int .i64 ((rd_T34 l0_1 p0).f1), .int .i64 ((rd_T34 l0_1 p0).f2), .int .i64 ((rd_T34 l0_1 p0).f3), .int .i64 ((rd_T34 l0_1 p0).f4)] 34 (0, 0)) (by refine blk_put (cs := #[.int .i64 ((rd_T34 l0_1 p0).f0), .int .i64 ((rd_T34 l0_1 p0).f1), .int .i64 ((rd_T34 l0_1 p0).f2), .int .i64 ((rd_T34 l0_1 p0).f3), .int .i64 0]) ?_ 4 _ rfl; refine blk_put (cs := #[.int .i64 ((rd_T34 l0_1 p0).f0), .int .i64 ((rd_T34 l0_1 p0).f1), .int .i64 ((rd_T34 l0_1 p0).f2), .int .i64 0, .int .i64 0]) ?_ 3 _ rfl; refine blk_put (cs := #[.int .i64 ((rd_T34 l0_1 p0).f0), .int .i64 ((rd_T34 l0_1 p0).f1), .int .i64 0, .int .i64 0, .int .i64 0]) ?_ 2 _ rfl; refine blk_put (cs := #[.int .i64 ((rd_T34 l0_1 p0).f0), .int .i64 0, .int .i64 0, .int .i64 0, .int .i64 0]) ?_ 1 _ rfl; refine blk_put (cs := #[.int .i64 0, .int .i64 0, .int .i64 0, .int .i64 0, .int .i64 0]) ?_ 0 _ rfl; exact p1.out)) : p5 ≠ p3)); clear HO_5; clear p7; clear p1; clear HB; have HO_5 := n0_; have p7 := n1_; have p1 := n2_; have HB := n3_; have q0 := n4_; have GW234 := n5_; have t4 := n6_; have q8 := n7_; have t1 := n8_; have q9 := n9_; have t2 := n10_; clear n0_ n1_ n2_ n3_ n4_ n5_ n6_ n7_ n8_ n9_ n10_; clear hb hbox hg; have hnb39 := t1.out; have hnc39 := q8.out; have hnb40 := t2.out; have hnc40 := q9.out; have hcz41_0 : w38.cell? ⟨p5, 0, none⟩ = some (.int .i64 0) := (blk_cell q0.out 0).trans rfl; have hcz41_1 : w38.cell? ⟨p5, 1, none⟩ = some (.int .i64 0) := (blk_cell q0.out 1).trans rfl; have hfz41_0 := blk_frozen q0.out 0; have hfz41_1 := blk_frozen q0.out 1; have hcz42_0 : w38.cell? ⟨p3, 0, none⟩ = some (.int .i64 ((rd_T34 l0_1 p0).f0)) := (blk_cell p1.out 0).trans rfl; have hcz42_1 : w38.cell? ⟨p3, 1, none⟩ = some (.int .i64 ((rd_T34 l0_1 p0).f1)) := (blk_cell p1.out 1).trans rfl; have hcz42_2 : w38.cell? ⟨p3, 2, none⟩ = some (.int .i64 ((rd_T34 l0_1 p0).f2)) := (blk_cell p1.out 2).trans rfl; have hcz42_3 : w38.cell? ⟨p3, 3, none⟩ = some (.int .i64 ((rd_T34 l0_1 p0).f3)) := (blk_cell p1.out 3).trans rfl; have hcz42_4 : w38.cell? ⟨p3, 4, none⟩ = some (.int .i64 ((rd_T34 l0_1 p0).f4)) := (blk_cell p1.out 4).trans rfl; have hfz42_0 := blk_frozen p1.out 0; have hfz42_1 := blk_frozen p1.out 1; have hfz42_2 := blk_frozen p1.out 2; have hfz42_3 := blk_frozen p1.out 3; have hfz42_4 := blk_frozen p1.out 4))
     have n0_ : Aside0 (Kd.R k104 104 ((((w38.setCell ⟨p5, 0, none⟩ (.int .i64 ((rd_T104 x5_2 ((rd_T34 l0_1 p0).f1)).f0))).setCell ⟨p5, 1, none⟩ (.int .i64 ((rd_T104 x5_2 ((rd_T34 l0_1 p0).f1)).f1))).setCell ⟨p5, 0, none⟩ (.int .i64 (wrap64 (((rd_T104 x5_2 ((rd_T34 l0_1 p0).f1)).f0) + ((rd_T34 l0_1 p0).f2))))).setCell ⟨p5, 1, none⟩ (.int .i64 (wrap64 (((rd_T104 x5_2 ((rd_T34 l0_1 p0).f1)).f1) + 1)))) w.heap.size (fun k_ => k_ ≠ p5) (.slice (some ⟨go6, 0, none⟩) x5_2.length co6) x5_2) := ⟨by exact Kd.R_mono (Kd.R_far (p := ⟨p5, 1, none⟩) (Kd.R_far (p := ⟨p5, 0, none⟩) (Kd.R_far (p := ⟨p5, 1, none⟩) (Kd.R_far (p := ⟨p5, 0, none⟩) (Kd.R_mono HO_5.out (fun k_ hk => (⟨hk, hk.2⟩ : _ ∧ k_ ≠ p5))) (fun _ hk => hk.2) (.int .i64 ((rd_T104 x5_2 ((rd_T34 l0_1 p0).f1)).f0))) (fun _ hk => hk.2) (.int .i64 ((rd_T104 x5_2 ((rd_T34 l0_1 p0).f1)).f1))) (fun _ hk => hk.2) (.int .i64 (wrap64 (((rd_T104 x5_2 ((rd_T34 l0_1 p0).f1)).f0) + ((rd_T34 l0_1 p0).f2))))) (fun _ hk => hk.2) (.int .i64 (wrap64 (((rd_T104 x5_2 ((rd_T34 l0_1 p0).f1)).f1) + 1)))) (fun _ hk => hk.1.2)⟩
     have n1_ : Aside0 (((((w38.setCell ⟨p5, 0, none⟩ (.int .i64 ((rd_T104 x5_2 ((rd_T34 l0_1 p0).f1)).f0))).setCell ⟨p5, 1, none⟩ (.int .i64 ((rd_T104 x5_2 ((rd_T34 l0_1 p0).f1)).f1))).setCell ⟨p5, 0, none⟩ (.int .i64 (wrap64 (((rd_T104 x5_2 ((rd_T34 l0_1 p0).f1)).f0) + ((rd_T34 l0_1 p0).f2))))).setCell ⟨p5, 1, none⟩ (.int .i64 (wrap64 (((rd_T104 x5_2 ((rd_T34 l0_1 p0).f1)).f1) + 1)))).heap[q1]? = some (.cells #[.int .i64 a0_0, .slice (some r0) l0_1.length c0_1] 25 (0, 0))) := ⟨by refine blk_far ?_ q8.out _; refine blk_far ?_ q8.out _; refine blk_far ?_ q8.out _; refine blk_far ?_ q8.out _; exact p7.out⟩
     have n2_ : Aside0 (((((w38.setCell ⟨p5, 0, none⟩ (.int .i64 ((rd_T104 x5_2 ((rd_T34 l0_1 p0).f1)).f0))).setCell ⟨p5, 1, none⟩ (.int .i64 ((rd_T104 x5_2 ((rd_T34 l0_1 p0).f1)).f1))).setCell ⟨p5, 0, none⟩ (.int .i64 (wrap64 (((rd_T104 x5_2 ((rd_T34 l0_1 p0).f1)).f0) + ((rd_T34 l0_1 p0).f2))))).setCell ⟨p5, 1, none⟩ (.int .i64 (wrap64 (((rd_T104 x5_2 ((rd_T34 l0_1 p0).f1)).f1) + 1)))).heap[p3]? = some (.cells #[.int .i64 ((rd_T34 l0_1 p0).f0), .int .i64 ((rd_T34 l0_1 p0).f1), .int .i64 ((rd_T34 l0_1 p0).f2), .int .i64 ((rd_T34 l0_1 p0).f3), .int .i64 ((rd_T34 l0_1 p0).f4)] 34 (0, 0))) := ⟨by refine blk_far ?_ q9.out _; refine blk_far ?_ q9.out _; refine blk_far ?_ q9.out _; refine blk_far ?_ q9.out _; exact p1.out⟩
     have n3_ : Aside0 (((((w38.setCell ⟨p5, 0, none⟩ (.int .i64 ((rd_T104 x5_2 ((rd_T34 l0_1 p0).f1)).f0))).setCell ⟨p5, 1, none⟩ (.int .i64 ((rd_T104 x5_2 ((rd_T34 l0_1 p0).f1)).f1))).setCell ⟨p5, 0, none⟩ (.int .i64 (wrap64 (((rd_T104 x5_2 ((rd_T34 l0_1 p0).f1)).f0) + ((rd_T34 l0_1 p0).f2))))).setCell ⟨p5, 1, none⟩ (.int .i64 (wrap64 (((rd_T104 x5_2 ((rd_T34 l0_1 p0).f1)).f1) + 1)))).heap[p5]? = some (.cells #[.int .i64 (wrap64 (((rd_T104 x5_2 ((rd_T34 l0_1 p0).f1)).f0) + ((rd_T34 l0_1 p0).f2))), .int .i64 (wrap64 (((rd_T104 x5_2 ((rd_T34 l0_1 p0).f1)).f1) + 1))] 104 (0, 0))) := ⟨by refine blk_put (cs := #[.int .i64 (wrap64 (((rd_T104 x5_2 ((rd_T34 l0_1 p0).f1)).f0) + ((rd_T34 l0_1 p0).f2))), .int .i64 ((rd_T104 x5_2 ((rd_T34 l0_1 p0).f1)).f1)]) ?_ 1 _ rfl; refine blk_put (cs := #[.int .i64 ((rd_T104 x5_2 ((rd_T34 l0_1 p0).f1)).f0), .int .i64 ((rd_T104 x5_2 ((rd_T34 l0_1 p0).f1)).f1)]) ?_ 0 _ rfl; refine blk_put (cs := #[.int .i64 ((rd_T104 x5_2 ((rd_T34 l0_1 p0).f1)).f0), .int .i64 0]) ?_ 1 _ rfl; refine blk_put (cs := #[.int .i64 0, .int .i64 0]) ?_ 0 _ rfl; exact q0.out⟩
     have n4_ : Aside0 (Below w.heap.size w ((((w38.setCell ⟨p5, 0, none⟩ (.int .i64 ((rd_T104 x5_2 ((rd_T34 l0_1 p0).f1)).f0))).setCell ⟨p5, 1, none⟩ (.int .i64 ((rd_T104 x5_2 ((rd_T34 l0_1 p0).f1)).f1))).setCell ⟨p5, 0, none⟩ (.int .i64 (wrap64 (((rd_T104 x5_2 ((rd_T34 l0_1 p0).f1)).f0) + ((rd_T34 l0_1 p0).f2))))).setCell ⟨p5, 1, none⟩ (.int .i64 (wrap64 (((rd_T104 x5_2 ((rd_T34 l0_1 p0).f1)).f1) + 1))))) := ⟨by repeat (first | (with_reducible first | exact HB.out | apply below_alloc | apply pw_below_drewN | apply below_drew1 | refine below_set ?_ r8.out | refine below_set ?_ r9.out | refine below_set ?_ t4.out) | exact HB.out)⟩
     (try clear HO_5)
     (try clear p7)
     (try clear p1)
     (try clear q0)
     (try clear HB)
     generalize ((((w38.setCell ⟨p5, 0, none⟩ (.int .i64 ((rd_T104 x5_2 ((rd_T34 l0_1 p0).f1)).f0))).setCell ⟨p5, 1, none⟩ (.int .i64 ((rd_T104 x5_2 ((rd_T34 l0_1 p0).f1)).f1))).setCell ⟨p5, 0, none⟩ (.int .i64 (wrap64 (((rd_T104 x5_2 ((rd_T34 l0_1 p0).f1)).f0) + ((rd_T34 l0_1 p0).f2))))).setCell ⟨p5, 1, none⟩ (.int .i64 (wrap64 (((rd_T104 x5_2 ((rd_T34 l0_1 p0).f1)).f1) + 1)))) = w43 at n0_ n1_ n2_ n3_ n4_ ⊢
     have HO_5 := n0_
     have p7 := n1_
     have p1 := n2_
     have q0 := n3_
     have HB := n4_
     clear n0_ n1_ n2_ n3_ n4_
     have n0_ := Aside0.mk (Kd.R_drew HO_5.out)
     have n1_ := Aside0.mk (blk_drew p7.out)
     have n2_ := Aside0.mk (blk_drew p1.out)
     have n3_ := Aside0.mk (blk_drew q0.out)
     have n4_ := Aside0.mk (below_drew1 HB.out)
     clear HO_5
     clear p7
     clear p1
     clear q0
     clear HB
     have HO_5 := n0_
     have p7 := n1_
     have p1 := n2_
     have q0 := n3_
     have HB := n4_
     clear n0_ n1_ n2_ n3_ n4_
     have p235 : 0 ≤ (((rd_T34 l0_1 p0).f0) : Int) := of_decide_eq_true (by first | (with_reducible assumption) | assumption)
     have q235 : ((rd_T34 l0_1 p0).f0) < (x5_2.length : Int) := of_decide_eq_true (by first | (with_reducible assumption) | assumption)
     obtain ⟨u5, e235, r6, r7⟩ := at_T104 (Kd.R_reads' HO_5.out).2.2 ((rd_T34 l0_1 p0).f0) p235 q235
     obtain rfl : (⟨go6, 0, none⟩ : Addr) = u5 := (by injection e235)
     (first | simp only [add_plain] at r6 | simp only [add_at] at r6 | simp only [Addr.add, Nat.zero_add] at r6 | skip)
     (first | simp only [add_plain] at r7 | simp only [add_at] at r7 | simp only [Addr.add, Nat.zero_add] at r7 | skip)
     replace p235 := eq_true p235
     replace q235 := eq_true q235
     refine start_ (n := 7) (S := fun w' => w'.cell? ⟨p5, 0, none⟩ = some (.int .i64 (wrap64 (((rd_T104 x5_2 ((rd_T34 l0_1 p0).f1)).f0) + ((rd_T34 l0_1 p0).f2)))) ∧ w'.cell? ⟨p5, 1, none⟩ = some (.int .i64 (wrap64 (((rd_T104 x5_2 ((rd_T34 l0_1 p0).f1)).f1) + 1))) ∧ w'.cell? ⟨p3, 0, none⟩ = some (.int .i64 ((rd_T34 l0_1 p0).f0)) ∧ w'.cell? ⟨p3, 1, none⟩ = some (.int .i64 ((rd_T34 l0_1 p0).f1)) ∧ w'.cell? ⟨p3, 2, none⟩ = some (.int .i64 ((rd_T34 l0_1 p0).f2)) ∧ w'.cell? ⟨p3, 3, none⟩ = some (.int .i64 ((rd_T34 l0_1 p0).f3)) ∧ w'.cell? ⟨p3, 4, none⟩ = some (.int .i64 ((rd_T34 l0_1 p0).f4)) ∧ w'.cell? ⟨go6, (((rd_T34 l0_1 p0).f0)).toNat * 2, none⟩ = some (.int .i64 ((rd_T104 x5_2 ((rd_T34 l0_1 p0).f0)).f0)) ∧ w'.cell? ⟨go6, (((rd_T34 l0_1 p0).f0)).toNat * 2 + 1, none⟩ = some (.int .i64 ((rd_T104 x5_2 ((rd_T34 l0_1 p0).f0)).f1))) (ds := []) #[false, false, false, false, false, false, false] (by kernel_rfl) rfl rfl ⟨(blk_cell q0.out 0).trans rfl, (blk_cell q0.out 1).trans rfl, (blk_cell p1.out 0).trans rfl, (blk_cell p1.out 1).trans rfl, (blk_cell p1.out 2).trans rfl, (blk_cell p1.out 3).trans rfl, (blk_cell p1.out 4).trans rfl, r6, r7⟩ (fun hHeld => ?_)
     generalize w43.drew = w44 at HO_5 p7 p1 q0 HB r6 r7 hHeld ⊢
     refine pure_ (i := 1) (N := some 45) (v := ?_) (a' := ?_) #[false, true, false, false, false, false, false] rfl rfl (by kernel_rfl) (fun _ _ _ h => h) (Or.inl ⟨by rfl, ?_⟩) ?_ ?_
     rotate_left
     ·intro w'
      go_simp
      with_reducible rfl
     rotate_left
     ·simp only [Act.put, List.setIfInBounds_toArray, List.set_cons_zero, List.set_cons_succ, i64_w, i32_w]
      rfl
     refine pure_ (i := 2) (N := some 46) (v := ?_) (a' := ?_) #[false, true, true, false, false, false, false] rfl rfl (by kernel_rfl) (fun _ _ _ h => h) (Or.inl ⟨by rfl, ?_⟩) ?_ ?_
     rotate_left
     ·intro w'
      go_simp
      with_reducible rfl
     rotate_left
     ·simp only [Act.put, List.setIfInBounds_toArray, List.set_cons_zero, List.set_cons_succ, i64_w, i32_w]
      rfl
     refine take_ (i := 0) (N := some 44) (v := ?_) (a' := ?_) #[true, true, true, false, false, false, false] rfl rfl (by kernel_rfl) (fun _ _ _ h => h) (Or.inl ⟨by rfl, ?_⟩) hHeld ?_ ?_
     rotate_left
     ·rintro w' ⟨s0, s1, s2, s3, s4, s5, s6, s7, s8⟩
      go_simp
      with_reducible rfl
     rotate_left
     ·simp only [Act.put, List.setIfInBounds_toArray, List.set_cons_zero, List.set_cons_succ, i64_w, i32_w]
      rfl
     refine take_ (i := 3) (N := some 47) (v := ?_) (a' := ?_) #[true, true, true, true, false, false, false] rfl rfl (by kernel_rfl) (fun _ _ _ h => h) (Or.inl ⟨by rfl, ?_⟩) hHeld ?_ ?_
     rotate_left
     ·rintro w' ⟨s0, s1, s2, s3, s4, s5, s6, s7, s8⟩
      go_simp
      with_reducible rfl
     rotate_left
     ·simp only [Act.put, List.setIfInBounds_toArray, List.set_cons_zero, List.set_cons_succ, i64_w, i32_w]
      rfl
     refine pure_ (i := 4) (N := some 48) (v := ?_) (a' := ?_) #[true, true, true, true, true, false, false] rfl rfl (by kernel_rfl) (fun _ _ _ h => h) (Or.inl ⟨by rfl, ?_⟩) ?_ ?_
     rotate_left
     ·intro w'
      go_simp
      with_reducible rfl
     rotate_left
     ·simp only [Act.put, List.setIfInBounds_toArray, List.set_cons_zero, List.set_cons_succ, i64_w, i32_w]
      rfl
     refine take_ (i := 5) (N := some 49) (v := ?_) (a' := ?_) #[true, true, true, true, true, true, false] rfl rfl (by kernel_rfl) (fun _ _ _ h => h) (Or.inl ⟨by rfl, ?_⟩) hHeld ?_ ?_
     rotate_left
     ·rintro w' ⟨s0, s1, s2, s3, s4, s5, s6, s7, s8⟩
      go_simp
      with_reducible rfl
     rotate_left
     ·simp only [Act.put, List.setIfInBounds_toArray, List.set_cons_zero, List.set_cons_succ, i64_w, i32_w]
      rfl
     refine one_ (i := 6) (N := some 50) #[true, true, true, true, true, true, true] rfl rfl (by kernel_rfl) (by decide) (fun K hK => ?_)
     refine goes_ Try.func127 (by kernel_rfl) rfl #[.agg #[.int .i64 (wrap64 (((rd_T104 x5_2 ((rd_T34 l0_1 p0).f1)).f0) + ((rd_T34 l0_1 p0).f2))), .int .i64 (wrap64 (((rd_T104 x5_2 ((rd_T34 l0_1 p0).f1)).f1) + 1))], .agg #[.int .i64 ((rd_T104 x5_2 ((rd_T34 l0_1 p0).f0)).f0), .int .i64 ((rd_T104 x5_2 ((rd_T34 l0_1 p0).f0)).f1)]] (by rfl) rfl rfl (by (try simp only [List.map_toArray, List.map_cons, List.map_nil]); first | done | rfl | (simp only [List.length_drop, List.length_take]; rfl)) ?_
     with_reducible refine (impl_measure_less.calls (wrap64 (((rd_T104 x5_2 ((rd_T34 l0_1 p0).f1)).f0) + ((rd_T34 l0_1 p0).f2))) (wrap64 (((rd_T104 x5_2 ((rd_T34 l0_1 p0).f1)).f1) + 1)) ((rd_T104 x5_2 ((rd_T34 l0_1 p0).f0)).f0) ((rd_T104 x5_2 ((rd_T34 l0_1 p0).f0)).f1) true _ A32.out).mono ?_
     rintro e w45 ⟨rfl, hb⟩
     have HS7_ := (hb.cell (World.block_lt_of_cell? _ _ (hHeld.2.2.2.2.2.2.2.1))).trans (hHeld.2.2.2.2.2.2.2.1)
     have HS8_ := (hb.cell (World.block_lt_of_cell? _ _ (hHeld.2.2.2.2.2.2.2.2))).trans (hHeld.2.2.2.2.2.2.2.2)
     refine ⟨_, rfl, ?_⟩
     have n0_ := Aside0.mk (Kd.R_below HO_5.out hb)
     have n1_ := Aside0.mk (blk_below (g := q1) (o := .cells #[.int .i64 a0_0, .slice (some r0) l0_1.length c0_1] 25 (0, 0)) p7.out hb)
     have n2_ := Aside0.mk (blk_below (g := p3) (o := .cells #[.int .i64 ((rd_T34 l0_1 p0).f0), .int .i64 ((rd_T34 l0_1 p0).f1), .int .i64 ((rd_T34 l0_1 p0).f2), .int .i64 ((rd_T34 l0_1 p0).f3), .int .i64 ((rd_T34 l0_1 p0).f4)] 34 (0, 0)) p1.out hb)
     have n3_ := Aside0.mk (blk_below (g := p5) (o := .cells #[.int .i64 (wrap64 (((rd_T104 x5_2 ((rd_T34 l0_1 p0).f1)).f0) + ((rd_T34 l0_1 p0).f2))), .int .i64 (wrap64 (((rd_T104 x5_2 ((rd_T34 l0_1 p0).f1)).f1) + 1))] 104 (0, 0)) q0.out hb)
     have n4_ := Aside0.mk (below_step HB.out hb)
     clear HO_5
     clear p7
     clear p1
     clear q0
     clear HB
     have HO_5 := n0_
     have p7 := n1_
     have p1 := n2_
     have q0 := n3_
     have HB := n4_
     clear n0_ n1_ n2_ n3_ n4_
     (try clear hb)
     (try clear hb2)
     (try clear hk)
     (try clear hi)
     refine hK.out _ _ ⟨(blk_cell q0.out 0).trans rfl, (blk_cell q0.out 1).trans rfl, (blk_cell p1.out 0).trans rfl, (blk_cell p1.out 1).trans rfl, (blk_cell p1.out 2).trans rfl, (blk_cell p1.out 3).trans rfl, (blk_cell p1.out 4).trans rfl, HS7_, HS8_⟩ (fun hHeld => ?_)
     clear hK K
     refine norm_ (a' := ?_) ?_ ?_
     rotate_left
     ·show Act.put _ (some 50) _ = _
      simp only [Act.put, List.setIfInBounds_toArray, List.set_cons_zero, List.set_cons_succ, i64_w, i32_w]
      rfl
     refine done_ (by kernel_rfl) ?_
     have hcz46_0 : w45.cell? ⟨p3, 0, none⟩ = some (.int .i64 ((rd_T34 l0_1 p0).f0)) := (blk_cell p1.out 0).trans rfl
     have hcz46_1 : w45.cell? ⟨p3, 1, none⟩ = some (.int .i64 ((rd_T34 l0_1 p0).f1)) := (blk_cell p1.out 1).trans rfl
     have hcz46_2 : w45.cell? ⟨p3, 2, none⟩ = some (.int .i64 ((rd_T34 l0_1 p0).f2)) := (blk_cell p1.out 2).trans rfl
     have hcz46_3 : w45.cell? ⟨p3, 3, none⟩ = some (.int .i64 ((rd_T34 l0_1 p0).f3)) := (blk_cell p1.out 3).trans rfl
     have hcz46_4 : w45.cell? ⟨p3, 4, none⟩ = some (.int .i64 ((rd_T34 l0_1 p0).f4)) := (blk_cell p1.out 4).trans rfl
     have hfz46_0 := blk_frozen p1.out 0
     have hfz46_1 := blk_frozen p1.out 1
     have hfz46_2 := blk_frozen p1.out 2
     have hfz46_3 := blk_frozen p1.out 3
     have hfz46_4 := blk_frozen p1.out 4
     have hcz47_0 : w45.cell? ⟨p5, 0, none⟩ = some (.int .i64 (wrap64 (((rd_T104 x5_2 ((rd_T34 l0_1 p0).f1)).f0) + ((rd_T34 l0_1 p0).f2)))) := (blk_cell q0.out 0).trans rfl
     have hcz47_1 : w45.cell? ⟨p5, 1, none⟩ = some (.int .i64 (wrap64 (((rd_T104 x5_2 ((rd_T34 l0_1 p0).f1)).f1) + 1))) := (blk_cell q0.out 1).trans rfl
     have hfz47_0 := blk_frozen q0.out 0
     have hfz47_1 := blk_frozen q0.out 1
     have p34 : 0 ≤ (((rd_T34 l0_1 p0).f0) : Int) := of_decide_eq_true (by first | (with_reducible assumption) | assumption)
     have q34 : (((rd_T34 l0_1 p0).f0) : Int) < ((x5_2.length : Int) : Int) := of_decide_eq_true (by first | (with_reducible assumption) | assumption)
     obtain ⟨ce34, hcl34, hM34, u6, hfr34⟩ := Kd.R_elem HO_5.out z104 (((rd_T34 l0_1 p0).f0) : Int) p34 q34
     obtain rfl := k104_openM hM34
     have hx34_0 : w45.cell? ⟨go6, (((rd_T34 l0_1 p0).f0) : Int).toNat * 2, none⟩ = some (.int .i64 ((rd_T104 x5_2 ((rd_T34 l0_1 p0).f0)).f0)) := u6 0 _ rfl
     have hx34_1 : w45.cell? ⟨go6, (((rd_T34 l0_1 p0).f0) : Int).toNat * 2 + 1, none⟩ = some (.int .i64 ((rd_T104 x5_2 ((rd_T34 l0_1 p0).f0)).f1)) := u6 1 _ rfl
     have hf34_0 : w45.frozen? ⟨go6, (((rd_T34 l0_1 p0).f0) : Int).toNat * 2, none⟩ = false := hfr34 0
     have hf34_1 : w45.frozen? ⟨go6, (((rd_T34 l0_1 p0).f0) : Int).toNat * 2 + 1, none⟩ = false := hfr34 1
     clear hcl34 u6 hfr34; (try clear hM34)
     replace p34 := eq_true p34
     replace q34 := eq_true q34
     have HX48 := Aside0.mk (show Kd.R k104 104 w45 w.heap.size (fun k_ => k_ ≠ p5) (.slice (some ⟨go6, 0, none⟩) x5_2.length co6) x5_2 from HO_5.out)
     obtain ⟨ce48, hcl48, hM48, u3, hfr48⟩ := Kd.R_elem HX48.out z104 (((rd_T34 l0_1 p0).f0) : Int) (of_decide_eq_true (by first | (with_reducible assumption) | assumption)) (by have h_ : (((rd_T34 l0_1 p0).f0) : Int) < ((x5_2.length : Int) : Int) := of_decide_eq_true (by first | (with_reducible assumption) | assumption); first | exact h_ | (have e_ := (Kd.R_reads' HO_5.out).1; omega) | simpa using h_)
     obtain rfl := k104_openM hM48
     have HP48 := Kd.R_seg HX48.out (((rd_T34 l0_1 p0).f0) : Int) (of_decide_eq_true (by first | (with_reducible assumption) | assumption)) (by have h_ : (((rd_T34 l0_1 p0).f0) : Int) < ((x5_2.length : Int) : Int) := of_decide_eq_true (by first | (with_reducible assumption) | assumption); first | exact h_ | (have e_ := (Kd.R_reads' HO_5.out).1; omega) | simpa using h_) (seg := [.int .i64 (wrap64 (((rd_T104 x5_2 ((rd_T34 l0_1 p0).f1)).f0) + ((rd_T34 l0_1 p0).f2))), .int .i64 (wrap64 (((rd_T104 x5_2 ((rd_T34 l0_1 p0).f1)).f1) + 1))]) (j := 0) hcl48 u3 (show 2 ≤ 2 from by decide) (x' := (⟨wrap64 (((rd_T104 x5_2 ((rd_T34 l0_1 p0).f1)).f0) + ((rd_T34 l0_1 p0).f2)), wrap64 (((rd_T104 x5_2 ((rd_T34 l0_1 p0).f1)).f1) + 1)⟩ : S104)) (k104_mkM _ _ _ (⟨wrap64 (((rd_T104 x5_2 ((rd_T34 l0_1 p0).f1)).f0) + ((rd_T34 l0_1 p0).f2)), wrap64 (((rd_T104 x5_2 ((rd_T34 l0_1 p0).f1)).f1) + 1)⟩ : S104) ) (fun _ hk => hk)
     have hx48_0 := u3 0 _ rfl
     (try simp only [show (k104).sz = 2 from rfl, Nat.mul_one, Nat.add_zero] at hx48_0)
     have hf48_0 := hfr48 0
     (try simp only [show (k104).sz = 2 from rfl, Nat.mul_one, Nat.add_zero] at hf48_0)
     have hx48_1 := u3 1 _ rfl
     (try simp only [show (k104).sz = 2 from rfl, Nat.mul_one, Nat.add_zero] at hx48_1)
     have hf48_1 := hfr48 1
     (try simp only [show (k104).sz = 2 from rfl, Nat.mul_one, Nat.add_zero] at hf48_1)
     clear hcl48 u3 hfr48; (try clear hM48)
     try go_wp2_with (first | ((with_reducible refine gate_store (t := 104) (p := 55) rfl ?_); refine store_event (t := 104) (p := 55) (v := ?vo_w49) (w1 := ((w45.setCell ⟨go6, (((rd_T34 l0_1 p0).f0) : Int).toNat * 2, none⟩ (.int .i64 (wrap64 (((rd_T104 x5_2 ((rd_T34 l0_1 p0).f1)).f0) + ((rd_T34 l0_1 p0).f2))))).setCell ⟨go6, (((rd_T34 l0_1 p0).f0) : Int).toNat * 2 + 1, none⟩ (.int .i64 (wrap64 (((rd_T104 x5_2 ((rd_T34 l0_1 p0).f1)).f1) + 1))))) ?hg ?ho ?hn ?hr ?_; (case ho => rfl); (case hg => rfl); (case hn => rfl); (case hr => first | (go_simp; done) | (go_simp; rfl)); intro w49 hw; have hg : w45.grownBy w49 (some go6) := (by rw [hw]; exact HP48.2); have hp_ : Kd.R k104 104 w49 w.heap.size (fun k_ => k_ ≠ p5) (.slice (some ⟨go6, 0, none⟩) x5_2.length co6) y237 := (by rw [hw, Ny237.out]; exact HP48.1); clear HP48; have n0_ := Aside0.mk (hp_); have n1_ := Aside0.mk (blk_grown (g := q1) (o := .cells #[.int .i64 a0_0, .slice (some r0) l0_1.length c0_1] 25 (0, 0)) p7.out hg (Kd.R_ne HO_5.out p7.out (by decide))); have n2_ := Aside0.mk (blk_grown (g := p3) (o := .cells #[.int .i64 ((rd_T34 l0_1 p0).f0), .int .i64 ((rd_T34 l0_1 p0).f1), .int .i64 ((rd_T34 l0_1 p0).f2), .int .i64 ((rd_T34 l0_1 p0).f3), .int .i64 ((rd_T34 l0_1 p0).f4)] 34 (0, 0)) p1.out hg (Kd.R_ne HO_5.out p1.out (by decide))); have n3_ := Aside0.mk (blk_grown (g := p5) (o := .cells #[.int .i64 (wrap64 (((rd_T104 x5_2 ((rd_T34 l0_1 p0).f1)).f0) + ((rd_T34 l0_1 p0).f2))), .int .i64 (wrap64 (((rd_T104 x5_2 ((rd_T34 l0_1 p0).f1)).f1) + 1))] 104 (0, 0)) q0.out hg (Kd.R_away HO_5.out (fun _ hk => hk))); have n4_ := Aside0.mk ((by rw [hw]; exact below_set (below_set (HB.out) GB6.out) GB6.out : Below w.heap.size w w49)); clear HO_5; clear p7; clear p1; clear q0; clear HB; have HO_5 := n0_; have p7 := n1_; have p1 := n2_; have q0 := n3_; have HB := n4_; clear n0_ n1_ n2_ n3_ n4_; clear hg hw hp_))
     (try simp only [← hl5_2])
     go_roundg k2
     case measure => have := HK1.out; have := HK2.out; omega
     case rel => exact ⟨(y237), (true), (wrap64 (p0 + 1)), (by first | rfl | (simp; done) | (simp [*]; done)), (by first | rfl | (simp; done) | (simp [*]; done)), H', ⟨by have := HK1.out; have := HK2.out; omega⟩, ⟨by (try simp only [hl5_1]); (try simp only [hl5_2]); exact Kd.R_mono HO_5.out (fun _ hk => trivial)⟩, ⟨by (try simp only [hl5_1]); (try simp only [hl5_2]); exact p7.out⟩, ⟨by repeat (first | (with_reducible first | exact HB.out | apply below_alloc | apply pw_below_drewN | apply below_drew1 | refine below_set ?_ r8.out | refine below_set ?_ r9.out | refine below_set ?_ t4.out) | exact HB.out)⟩⟩
end Go.Proofs.Ytljdcinpjnijcaa.Pr
end
section
namespace Go.Proofs.Ytljdcinpjnijcaa.Pr
open Go.RowKit Go.Proofs.YtljdcinpjnijcaaW.PrintWords Go.Proofs.YtljdcinpjnijcaaW.PrintLast Go.Proofs.YtljdcinpjnijcaaW.PrintMore
attribute [local go_sem] max2_int min2_int max_two min_two max_three min_three max_four min_four
set_option linter.unusedVariables false
set_option linter.unusedSimpArgs false
def impl_Net_best.l0 : Nat → Int → Int → List (S104) → List Int → Int → List (S34) → Option (List Int × Bool)
 | 0, _, _, _, _, _, _ => none
 | k + 1, x1, x2, x8, x9, q1, p4 => if x1 = x2 then (some (x9, true)) else ((impl_Net_firstArc.f q1 p4 x8 x1).bind fun t314 => (if x9.length < 17592186044416 then (if 0 ≤ t314 then (if t314 < (p4.length : Int) then (impl_Net_best.l0 k ((rd_T34 p4 t314).f1) x2 x8 (x9 ++ [t314]) q1 p4) else (none)) else (none)) else (none)))
def impl_Net_best.f (k : Nat) (a0_0 : Int) (l0_1 : List (S34)) (a1 : Int) (a2 : Int) : Option (List Int × Bool) := (impl_Net_toward.f k a0_0 l0_1 a2).bind fun t306 => (if 0 ≤ a1 then (if a1 < (t306.length : Int) then (if ((rd_T104 t306 a1).f0) = 99999 then (some (([] : List Int), false)) else (if 0 ≤ ((rd_T104 t306 a1).f1) then (if ((rd_T104 t306 a1).f1 : Int).toNat ≤ 35184372088832 then (impl_Net_best.l0 k a1 a2 t306 (([] : List Int)) a0_0 l0_1) else (none)) else (none))) else (none)) else (none))
set_option maxHeartbeats 8000000 in
set_option maxRecDepth 100000 in
theorem impl_Net_best.calls (k : Nat) (a0_0 : Int) (A0_1 : Option Addr) (c0_1 : Nat) (l0_1 : List (S34)) (a1 : Int) (a2 : Int) (r1 : List Int) (r2 : Bool) (w : World) (hr0_1 : Kd.C k34 w A0_1 l0_1.length l0_1) (hc0_1 : l0_1.length ≤ c0_1) (h : impl_Net_best.f k a0_0 l0_1 a1 a2 = some (r1, r2)) :
  Calls Try.prog 56 #[.agg #[.int .i64 a0_0, .slice A0_1 l0_1.length c0_1], .int .i64 a1, .int .i64 a2] w fun e w' => ∃ v0_ : Value, e = .returned (.tuple #[v0_, .bool r2]) ∧ Kd.R (Kd.int .i64) 3 w' w.heap.size (fun _ => True) v0_ r1 ∧ Below w.heap.size w w' := by
 have hu25 := Try.underlying25
 have q2 := Aside0.mk hr0_1
 have q7 := Aside0.mk hc0_1
 clear hr0_1 hc0_1
 have HB := Aside0.mk (Below.refl w.heap.size w)
 have H : ((impl_Net_toward.f k a0_0 l0_1 a2).bind fun t306 => (if 0 ≤ a1 then (if a1 < (t306.length : Int) then (if ((rd_T104 t306 a1).f0) = 99999 then (some (([] : List Int), false)) else (if 0 ≤ ((rd_T104 t306 a1).f1) then (if ((rd_T104 t306 a1).f1 : Int).toNat ≤ 35184372088832 then (impl_Net_best.l0 k a1 a2 t306 (([] : List Int)) a0_0 l0_1) else (none)) else (none))) else (none)) else (none))) = some (r1, r2) := h
 clear h
 replace H := Option.bind_eq_some_iff.mp H
 obtain ⟨t306, A40, H⟩ := H
 replace H : (if 0 ≤ a1 then (if a1 < (t306.length : Int) then (if ((rd_T104 t306 a1).f0) = 99999 then (some (([] : List Int), false)) else (if 0 ≤ ((rd_T104 t306 a1).f1) then (if ((rd_T104 t306 a1).f1 : Int).toNat ≤ 35184372088832 then (impl_Net_best.l0 k a1 a2 t306 (([] : List Int)) a0_0 l0_1) else (none)) else (none))) else (none)) else (none)) = some (r1, r2) := H
 have A4 := Aside0.mk A40
 clear A40
 by_cases c5 : 0 ≤ a1
 case neg =>
  rw [if_neg c5] at H
  exact absurd H (by simp)
 rw [if_pos c5] at H
 have c5b0 : decide (0 ≤ a1) = true := decide_eq_true c5
 clear c5
 by_cases c6 : a1 < (t306.length : Int)
 case neg =>
  rw [if_neg c6] at H
  exact absurd H (by simp)
 rw [if_pos c6] at H
 have c6b0 : decide (a1 < (t306.length : Int)) = true := decide_eq_true c6
 clear c6
 by_cases c7 : ((rd_T104 t306 a1).f0) = 99999
 case pos =>
  rw [if_pos c7] at H
  have c7b0 : (((rd_T104 t306 a1).f0) == 99999) = true := beq_iff_eq.mpr c7
  have c7b1 : (((rd_T104 t306 a1).f0) != 99999) = false := bne_eq_false_iff_eq.mpr c7
  clear c7
  simp only [Option.some.injEq, Prod.mk.injEq] at H
  obtain ⟨rfl, rfl⟩ := H
  go_enter Try.func56, Try.ntmps56
  go_wp2_with (first | ((with_reducible refine gate_dst (N := 3) rfl ?_); refine box_event ?hg (N := 3) ?hd (cs := #[.int .i64 a0_0, .slice A0_1 l0_1.length c0_1]) (t := 25) ?hr ?_; (case hd => rfl); (case hg => rfl); (case hr => first | (go_simp; done) | (go_simp; rfl)); intro p1 hg w8 hbox hb; have n0_ := Aside0.mk (below_step HB.out hb); have n1_ := Aside0.mk (hbox); have n2_ := Aside0.mk ((by rw [hg]; exact (below_size HB.out) : w.heap.size ≤ p1)); have n3_ := Aside0.mk ((by rw [hg]; exact (below_size HB.out) : w.heap.size ≤ p1)); clear HB; have HB := n0_; have p0 := n1_; have GW305 := n2_; have q0 := n3_; clear n0_ n1_ n2_ n3_; clear hb hbox hg; have hcz9_0 : w8.cell? ⟨p1, 0, none⟩ = some (.int .i64 a0_0) := (blk_cell p0.out 0).trans rfl; have hcz9_1 : w8.cell? ⟨p1, 1, none⟩ = some (.slice A0_1 l0_1.length c0_1) := (blk_cell p0.out 1).trans rfl; have hfz9_0 := blk_frozen p0.out 0; have hfz9_1 := blk_frozen p0.out 1) | ((with_reducible refine gate_callee (f := 93) rfl ?_); refine goesL_ (some 13) rfl rfl Try.func93 (by kernel_rfl) rfl #[.agg #[.int .i64 a0_0, .slice A0_1 l0_1.length c0_1], .int .i64 a2] rfl (by (try simp only [List.map_toArray, List.map_cons, List.map_nil]); first | done | rfl | (simp only [List.length_drop, List.length_take]; rfl)) ?_; (with_reducible refine (impl_Net_toward.calls k a0_0 _ _ l0_1 a2 t306 _ ?side1 ?side2 A4.out).mono ?_); (case side1 => repeat (first | exact (Kd.C_below q2.out HB.out) | (with_reducible refine Kd.C_alloc ?_ _) | (with_reducible refine Kd.C_drewN ?_ _) | (with_reducible refine Kd.C_drew ?_))); (case side2 => exact q7.out); rintro e w10 ⟨v307, rfl, ho0, hb⟩; refine ⟨_, rfl, ?_⟩; have n0_ := Aside0.mk (Kd.R_lower ho0 (below_size HB.out)); have n1_ := Aside0.mk (blk_below (g := p1) (o := .cells #[.int .i64 a0_0, .slice A0_1 l0_1.length c0_1] 25 (0, 0)) p0.out hb); have n2_ := Aside0.mk (below_step HB.out hb); clear p0; clear HB; have HO308 := n0_; have p0 := n1_; have HB := n2_; clear n0_ n1_ n2_; (try clear hb); (try clear hb2); (try clear hk); (try clear hi); (try clear ho0); obtain ⟨Ao11, co11, eo11⟩ := Kd.R_slice HO308.out; subst eo11; have p309 : 0 ≤ (a1 : Int) := of_decide_eq_true (by first | (with_reducible assumption) | assumption); have q309 : a1 < (t306.length : Int) := of_decide_eq_true (by first | (with_reducible assumption) | assumption); obtain ⟨q4, e309, q5, q6⟩ := at_T104 (Kd.R_reads' HO308.out).2.2 a1 p309 q309; cases e309; replace p309 := eq_true p309; replace q309 := eq_true q309))
  go_ret2
  exact ⟨_, by first | rfl | (simp [errW_none, errW_some] <;> rfl) | (simp [*, errW_none, errW_some] <;> rfl), by first | exact Kd.R_nil _ _ _ _ _ | exact Kd.N_nil _ _ _ _ _ | exact Kd.V_nil _ _ _ _ _ | exact Kd.Q_nil _ _ _ _ _ | exact Kd.S_nil _ _ _ _ _, by repeat (first | (with_reducible first | exact HB.out | apply below_alloc | apply pw_below_drewN | apply below_drew1 | refine below_set ?_ q0.out) | exact HB.out)⟩
 rw [if_neg c7] at H
 have c7b0 : (((rd_T104 t306 a1).f0) == 99999) = false := beq_eq_false_iff_ne.mpr c7
 have c7b1 : (((rd_T104 t306 a1).f0) != 99999) = true := bne_iff_ne.mpr c7
 by_cases c12 : 0 ≤ ((rd_T104 t306 a1).f1)
 case neg =>
  rw [if_neg c12] at H
  exact absurd H (by simp)
 rw [if_pos c12] at H
 have c12b0 := eq_true c12
 have c12b1 : decide (0 ≤ ((rd_T104 t306 a1).f1)) = true := decide_eq_true c12
 clear c12
 by_cases c13 : ((rd_T104 t306 a1).f1 : Int).toNat ≤ 35184372088832
 case neg =>
  rw [if_neg c13] at H
  exact absurd H (by simp)
 rw [if_pos c13] at H
 have c13b0 := eq_true c13
 have c13b1 : decide (((rd_T104 t306 a1).f1 : Int).toNat ≤ 35184372088832) = true := decide_eq_true c13
 clear c13
 obtain ⟨y311, hy311⟩ : ∃ y_ : List Int, y_ = (([] : List Int)) := ⟨_, rfl⟩
 replace H : (impl_Net_best.l0 k a1 a2 t306 y311 a0_0 l0_1) = some (r1, r2) := by first | (rw [hy311]; with_reducible exact H) | (have H2_ := (Option.bind_some _ _).symm.trans H; rw [hy311]; with_reducible exact H2_) | (have H2_ := (Option.bind_some _ _).symm.trans H; with_reducible exact H2_) | with_reducible exact H | (rw [hy311]; exact H) | exact H
 have Ny311 := Aside0.mk hy311
 clear hy311
 have H' := Aside0.mk H
 clear H
 go_enter Try.func56, Try.ntmps56
 go_wp2_with (first | ((with_reducible refine gate_dst (N := 3) rfl ?_); refine box_event ?hg (N := 3) ?hd (cs := #[.int .i64 a0_0, .slice A0_1 l0_1.length c0_1]) (t := 25) ?hr ?_; (case hd => rfl); (case hg => rfl); (case hr => first | (go_simp; done) | (go_simp; rfl)); intro p1 hg w14 hbox hb; have n0_ := Aside0.mk (below_step HB.out hb); have n1_ := Aside0.mk (hbox); have n2_ := Aside0.mk ((by rw [hg]; exact (below_size HB.out) : w.heap.size ≤ p1)); have n3_ := Aside0.mk ((by rw [hg]; exact (below_size HB.out) : w.heap.size ≤ p1)); clear HB; have HB := n0_; have p0 := n1_; have GW305 := n2_; have q0 := n3_; clear n0_ n1_ n2_ n3_; clear hb hbox hg; have q8 : w14.cell? ⟨p1, 0, none⟩ = some (.int .i64 a0_0) := (blk_cell p0.out 0).trans rfl; have q9 : w14.cell? ⟨p1, 1, none⟩ = some (.slice A0_1 l0_1.length c0_1) := (blk_cell p0.out 1).trans rfl; have r0 := blk_frozen p0.out 0; have r3 := blk_frozen p0.out 1) | ((with_reducible refine gate_callee (f := 93) rfl ?_); refine goesL_ (some 13) rfl rfl Try.func93 (by kernel_rfl) rfl #[.agg #[.int .i64 a0_0, .slice A0_1 l0_1.length c0_1], .int .i64 a2] rfl (by (try simp only [List.map_toArray, List.map_cons, List.map_nil]); first | done | rfl | (simp only [List.length_drop, List.length_take]; rfl)) ?_; (with_reducible refine (impl_Net_toward.calls k a0_0 _ _ l0_1 a2 t306 _ ?side1 ?side2 A4.out).mono ?_); (case side1 => repeat (first | exact (Kd.C_below q2.out HB.out) | (with_reducible refine Kd.C_alloc ?_ _) | (with_reducible refine Kd.C_drewN ?_ _) | (with_reducible refine Kd.C_drew ?_))); (case side2 => exact q7.out); rintro e w16 ⟨v307, rfl, ho0, hb⟩; refine ⟨_, rfl, ?_⟩; have n0_ := Aside0.mk (Kd.R_lower ho0 (below_size HB.out)); have n1_ := Aside0.mk (blk_below (g := p1) (o := .cells #[.int .i64 a0_0, .slice A0_1 l0_1.length c0_1] 25 (0, 0)) p0.out hb); have n2_ := Aside0.mk (below_step HB.out hb); clear p0; clear HB; have HO308 := n0_; have p0 := n1_; have HB := n2_; clear n0_ n1_ n2_; (try clear hb); (try clear hb2); (try clear hk); (try clear hi); (try clear ho0); obtain ⟨Ao17, co17, eo17⟩ := Kd.R_slice HO308.out; subst eo17; have p309 : 0 ≤ (a1 : Int) := of_decide_eq_true (by first | (with_reducible assumption) | assumption); have q309 : a1 < (t306.length : Int) := of_decide_eq_true (by first | (with_reducible assumption) | assumption); obtain ⟨q4, e309, q5, q6⟩ := at_T104 (Kd.R_reads' HO308.out).2.2 a1 p309 q309; cases e309; replace p309 := eq_true p309; replace q309 := eq_true q309; have p310 : 0 ≤ (a1 : Int) := of_decide_eq_true (by first | (with_reducible assumption) | assumption); have q310 : a1 < (t306.length : Int) := of_decide_eq_true (by first | (with_reducible assumption) | assumption); obtain ⟨ad310, e310, r4, r5⟩ := at_T104 (Kd.R_reads' HO308.out).2.2 a1 p310 q310; obtain rfl : q4 = ad310 := (by injection e310); replace p310 := eq_true p310; replace q310 := eq_true q310) | ((with_reducible refine gate_dst (N := 25) rfl ?_); refine Kd.R_make0 (Kd.int .i64) _ 3 rfl (N := 25) rfl 29 _ _ rfl ((rd_T104 t306 a1).f1) (by first | rfl | (go_simp; done) | (go_simp; rfl)) (by first | rfl | (go_simp; done) | (go_simp; rfl)) Try.underlying29 (.int .i64 0) 8 info3 rfl (by decide) (by omega) 0 (ok := fun _ => True) (okp := fun _ => True) rfl (fun _ hk => hk) trivial (of_decide_eq_true (by first | (with_reducible assumption) | assumption)) (Nat.le_trans (Nat.mul_le_mul_right _ (of_decide_eq_true (by first | (with_reducible assumption) | assumption) : ((rd_T104 t306 a1).f1).toNat ≤ 35184372088832)) (by omega)) (Below.refl _ _) (Nat.le_refl _) ?_; intro v312 w18 ho19 hb hg_ hnew_; clear hg_ hnew_; (first | rw [← Ny311.out] at ho19 | (simp only [Int.reduceToNat] at ho19; rw [← Ny311.out] at ho19)); have n0_ := Aside0.mk (Kd.R_below HO308.out hb); have n1_ := Aside0.mk (Kd.R_lower ho19 (below_size HB.out)); have n2_ := Aside0.mk (blk_below (g := p1) (o := .cells #[.int .i64 a0_0, .slice A0_1 l0_1.length c0_1] 25 (0, 0)) p0.out hb); have n3_ := Aside0.mk (below_step HB.out hb); clear HO308; clear p0; clear HB; have HO308 := n0_; have HO313 := n1_; have p0 := n2_; have HB := n3_; clear n0_ n1_ n2_ n3_; clear hb ho19))
 go_loopg [1, 9] k (fun kq v1 v9 w' => ∃ (x1_1 : Int) (x9_1 : List Int), v1 = .int .i64 x1_1 ∧ Aside0 (impl_Net_best.l0 kq x1_1 a2 t306 x9_1 a0_0 l0_1 = some (r1, r2)) ∧ Aside0 (kq ≤ k) ∧ Aside0 (Kd.R k104 104 w' w.heap.size (fun _ => True) (.slice (some q4) t306.length co17) t306) ∧ Aside0 (Kd.R (Kd.int .i64) 3 w' w.heap.size (fun _ => True) v9 x9_1) ∧ Aside0 (w'.heap[p1]? = some (.cells #[.int .i64 a0_0, (.slice A0_1 l0_1.length c0_1)] 25 (0, 0))) ∧ Aside0 (Below w.heap.size w w'))
 case atStart => exact ⟨(a1), (y311), (by first | rfl | (simp; done) | (simp [*]; done)), H', ⟨Nat.le_refl _⟩, ⟨by exact HO308.out⟩, ⟨by exact HO313.out⟩, ⟨by exact p0.out⟩, ⟨by repeat (first | (with_reducible first | exact HB.out | apply below_alloc | apply pw_below_drewN | apply below_drew1 | refine below_set ?_ q0.out) | exact HB.out)⟩⟩
 case round =>
  clear H'
  try clear c1
  try clear p2
  try clear p3
  try clear q3
  try clear hx3
  try clear c5
  try clear c5b0
  try clear c6
  try clear c6b0
  try clear c7
  try clear c7b0
  try clear c7b1
  try clear c9
  try clear c12
  try clear c12b0
  try clear c12b1
  try clear c13
  try clear c13b0
  try clear c13b1
  try clear q8
  try clear q9
  try clear hcz9_0
  try clear hcz9_1
  try clear r0
  try clear r3
  try clear hfz9_0
  try clear hfz9_1
  try clear q5
  try clear q6
  try clear r4
  try clear r5
  try clear p309
  try clear p310
  try clear q309
  try clear q310
  obtain ⟨x1_1, x9_1, rfl, HA, HK1, HO_8, HO_9, p0, HB⟩ := hrel
  cases gk with
  | zero => exact absurd HA.out (by simp [impl_Net_best.l0])
  | succ k1 =>
   have H := HA.out
   clear HA
   simp only [impl_Net_best.l0] at H
   by_cases c20 : x1_1 = a2
   case pos =>
    rw [if_pos c20] at H
    have c20b0 : (x1_1 == a2) = true := beq_iff_eq.mpr c20
    have c20b1 : (x1_1 != a2) = false := bne_eq_false_iff_eq.mpr c20
    clear c20
    simp only [Option.some.injEq, Prod.mk.injEq] at H
    obtain ⟨rfl, rfl⟩ := H
    go_wp2
    go_ret2
    exact ⟨_, by first | rfl | (simp [errW_none, errW_some] <;> rfl) | (simp [*, errW_none, errW_some] <;> rfl), by exact HO_9.out, by repeat (first | (with_reducible first | exact HB.out | apply below_alloc | apply pw_below_drewN | apply below_drew1 | refine below_set ?_ q0.out) | exact HB.out)⟩
   rw [if_neg c20] at H
   have c20b0 : (x1_1 == a2) = false := beq_eq_false_iff_ne.mpr c20
   have c20b1 : (x1_1 != a2) = true := bne_iff_ne.mpr c20
   replace H := Option.bind_eq_some_iff.mp H
   obtain ⟨t314, A210, H⟩ := H
   replace H : (if x9_1.length < 17592186044416 then (if 0 ≤ t314 then (if t314 < (l0_1.length : Int) then (impl_Net_best.l0 k1 ((rd_T34 l0_1 t314).f1) a2 t306 (x9_1 ++ [t314]) a0_0 l0_1) else (none)) else (none)) else (none)) = some (r1, r2) := H
   have A21 := Aside0.mk A210
   clear A210
   by_cases c22 : x9_1.length < 17592186044416
   case neg =>
    rw [if_neg c22] at H
    exact absurd H (by simp)
   rw [if_pos c22] at H
   have LMc22 := Aside0.mk c22
   clear c22
   obtain ⟨y315, hy315⟩ : ∃ y_ : List Int, y_ = (x9_1 ++ [t314]) := ⟨_, rfl⟩
   replace H : (if 0 ≤ t314 then (if t314 < (l0_1.length : Int) then (impl_Net_best.l0 k1 ((rd_T34 l0_1 t314).f1) a2 t306 y315 a0_0 l0_1) else (none)) else (none)) = some (r1, r2) := by first | (rw [hy315]; with_reducible exact H) | (have H2_ := (Option.bind_some _ _).symm.trans H; rw [hy315]; with_reducible exact H2_) | (have H2_ := (Option.bind_some _ _).symm.trans H; with_reducible exact H2_) | with_reducible exact H | (rw [hy315]; exact H) | exact H
   have Ny315 := Aside0.mk hy315
   clear hy315
   by_cases c23 : 0 ≤ t314
   case neg =>
    rw [if_neg c23] at H
    exact absurd H (by simp)
   rw [if_pos c23] at H
   have c23b0 : decide (0 ≤ t314) = true := decide_eq_true c23
   clear c23
   by_cases c24 : t314 < (l0_1.length : Int)
   case neg =>
    rw [if_neg c24] at H
    exact absurd H (by simp)
   rw [if_pos c24] at H
   have c24b0 : decide (t314 < (l0_1.length : Int)) = true := decide_eq_true c24
   clear c24
   have H' := Aside0.mk H
   clear H
   have hcz25_0 : wr.cell? ⟨p1, 0, none⟩ = some (.int .i64 a0_0) := (blk_cell p0.out 0).trans rfl
   have hcz25_1 : wr.cell? ⟨p1, 1, none⟩ = some (.slice A0_1 l0_1.length c0_1) := (blk_cell p0.out 1).trans rfl
   have hfz25_0 := blk_frozen p0.out 0
   have hfz25_1 := blk_frozen p0.out 1
   go_wp2_with (first | ((with_reducible refine gate_callee (f := 94) rfl ?_); refine goesL_ (some 32) rfl rfl Try.func94 (by kernel_rfl) rfl #[.agg #[.int .i64 a0_0, .slice A0_1 l0_1.length c0_1], .slice (some q4) t306.length co17, .int .i64 x1_1] rfl (by (try simp only [List.map_toArray, List.map_cons, List.map_nil]); first | done | rfl | (simp only [List.length_drop, List.length_take]; rfl)) ?_; (with_reducible refine (impl_Net_firstArc.calls a0_0 _ _ l0_1 _ _ t306 x1_1 t314 _ ?side1 ?side2 ?side3 ?side4 A21.out).mono ?_); (case side1 => repeat (first | exact (Kd.C_below q2.out HB.out) | (with_reducible refine Kd.C_alloc ?_ _) | (with_reducible refine Kd.C_drewN ?_ _) | (with_reducible refine Kd.C_drew ?_))); (case side2 => exact q7.out); (case side3 => repeat (first | exact (Kd.R_reads' HO_8.out).2.2 | (with_reducible refine Kd.C_alloc ?_ _) | (with_reducible refine Kd.C_drewN ?_ _) | (with_reducible refine Kd.C_drew ?_))); (case side4 => exact (Kd.R_reads' HO_8.out).2.1); rintro e w26 ⟨rfl, hb⟩; refine ⟨_, rfl, ?_⟩; have n0_ := Aside0.mk (Kd.R_below HO_8.out hb); have n1_ := Aside0.mk (Kd.R_below HO_9.out hb); have n2_ := Aside0.mk (blk_below (g := p1) (o := .cells #[.int .i64 a0_0, .slice A0_1 l0_1.length c0_1] 25 (0, 0)) p0.out hb); have n3_ := Aside0.mk (below_step HB.out hb); clear HO_8; clear HO_9; clear p0; clear HB; have HO_8 := n0_; have HO_9 := n1_; have p0 := n2_; have HB := n3_; clear n0_ n1_ n2_ n3_; (try clear hb); (try clear hb2); (try clear hk); (try clear hi)) | ((with_reducible refine gate_builtin (b := .append) (xs := #[.tmp 33, .tmp 35]) rfl ?_); at_builtin; refine Kd.R_append (Kd.int .i64) (w0 := w) w.heap.size rfl (.tmp 33) (.tmp 35) 29 3 (.int .i64 0) 8 rfl Try.underlying29 info3 rfl (by decide) (by omega) u9 x9_1 t314 [.int .i64 t314] (fun _ => True) (fun _ => False) rfl rfl ?aP (fun _ hk => hk.elim) ?aF ?aO ?aB ?aS ?aL ?_; (case aP => exact rfl); (case aB => exact HB.out); (case aF => exact (fun _ _ => trivial)); (case aO => exact HO_9.out); (case aS => exact (below_size HB.out)); (case aL => have := LMc22.out; omega); intro v316 w27 ho hb hg hat; rw [← Ny315.out] at ho; have n0_ := Aside0.mk (Kd.R_over' HO_8.out (Kd.R_typed HO_9.out) (by decide) hg); have n1_ := Aside0.mk (blk_grown (g := p1) (o := .cells #[.int .i64 a0_0, .slice A0_1 l0_1.length c0_1] 25 (0, 0)) p0.out hg (Kd.R_ne HO_9.out p0.out (by decide))); have n2_ := Aside0.mk (hb); have n3_ := Aside0.mk (ho); clear HO_8; clear p0; clear HB; clear HO_9; have HO_8 := n0_; have p0 := n1_; have HB := n2_; have HO317 := n3_; clear n0_ n1_ n2_ n3_; clear ho hb hg hat; have hcz28_0 : w27.cell? ⟨p1, 0, none⟩ = some (.int .i64 a0_0) := (blk_cell p0.out 0).trans rfl; have hcz28_1 : w27.cell? ⟨p1, 1, none⟩ = some (.slice A0_1 l0_1.length c0_1) := (blk_cell p0.out 1).trans rfl; have hfz28_0 := blk_frozen p0.out 0; have hfz28_1 := blk_frozen p0.out 1; have p318 : 0 ≤ (t314 : Int) := of_decide_eq_true (by first | (with_reducible assumption) | assumption); have q318 : t314 < (l0_1.length : Int) := of_decide_eq_true (by first | (with_reducible assumption) | assumption); obtain ⟨ad318, e318, p5, p6, p7, p8, p9⟩ := at_T34 q2.out t314 p318 q318; cases e318; replace p5 := (HB.out.cell (World.block_lt_of_cell? w _ p5)).trans p5; replace p6 := (HB.out.cell (World.block_lt_of_cell? w _ p6)).trans p6; replace p7 := (HB.out.cell (World.block_lt_of_cell? w _ p7)).trans p7; replace p8 := (HB.out.cell (World.block_lt_of_cell? w _ p8)).trans p8; replace p9 := (HB.out.cell (World.block_lt_of_cell? w _ p9)).trans p9; replace p318 := eq_true p318; replace q318 := eq_true q318))
   go_roundg k1
   case measure => have := HK1.out; omega
   case rel => exact ⟨((rd_T34 l0_1 t314).f1), (y315), (by first | rfl | (simp; done) | (simp [*]; done)), H', ⟨by have := HK1.out; omega⟩, ⟨by exact HO_8.out⟩, ⟨by exact HO317.out⟩, ⟨by exact p0.out⟩, ⟨by repeat (first | (with_reducible first | exact HB.out | apply below_alloc | apply pw_below_drewN | apply below_drew1 | refine below_set ?_ q0.out) | exact HB.out)⟩⟩
end Go.Proofs.Ytljdcinpjnijcaa.Pr
end
section
namespace Go.Proofs.Ytljdcinpjnijcaa.Pr
open Go.RowKit Go.Proofs.YtljdcinpjnijcaaW.PrintWords Go.Proofs.YtljdcinpjnijcaaW.PrintLast Go.Proofs.YtljdcinpjnijcaaW.PrintMore
attribute [local go_sem] max2_int min2_int max_two min_two max_three min_three max_four min_four
set_option linter.unusedVariables false
set_option linter.unusedSimpArgs false
def impl_Net_cost.l0 : Nat → Int → List Int → Int → Int → Int → List (S34) → Option (Int)
 | 0, _, _, _, _, _, _ => none
 | k + 1, x5, x8, x9, x10, q2, p3 => if x10 < x9 then (if 0 ≤ x10 then (if x10 < (x8.length : Int) then (if 0 ≤ (rd x8 x10) then (if (rd x8 x10) < (p3.length : Int) then (impl_Net_cost.l0 k (wrap64 (x5 + ((rd_T34 p3 (rd x8 x10)).f2))) x8 x9 (wrap64 (x10 + 1)) q2 p3) else (none)) else (none)) else (none)) else (none)) else (some x5)
def impl_Net_cost.f (k : Nat) (a0_0 : Int) (l0_1 : List (S34)) (l1 : List Int) : Option (Int) := impl_Net_cost.l0 k 0 l1 (l1.length : Int) 0 a0_0 l0_1
set_option maxHeartbeats 8000000 in
set_option maxRecDepth 100000 in
theorem impl_Net_cost.calls (k : Nat) (a0_0 : Int) (A0_1 : Option Addr) (c0_1 : Nat) (l0_1 : List (S34)) (A1 : Option Addr) (c1 : Nat) (l1 : List Int) (r : Int) (w : World) (hr0_1 : Kd.C k34 w A0_1 l0_1.length l0_1) (hc0_1 : l0_1.length ≤ c0_1) (hr1 : Kd.C (Kd.int .i64) w A1 l1.length l1) (hc1 : l1.length ≤ c1) (h : impl_Net_cost.f k a0_0 l0_1 l1 = some r) :
  Calls Try.prog 69 #[.agg #[.int .i64 a0_0, .slice A0_1 l0_1.length c0_1], .slice A1 l1.length c1] w fun e w' => e = .returned (.int .i64 r) ∧ Below w.heap.size w w' := by
 have hu25 := Try.underlying25
 have HR0_1 := Aside0.mk hr0_1
 have HC0_1 := Aside0.mk hc0_1
 clear hr0_1 hc0_1
 have HR1 := Aside0.mk hr1
 have HC1 := Aside0.mk hc1
 clear hr1 hc1
 have HB := Aside0.mk (Below.refl w.heap.size w)
 have H : (impl_Net_cost.l0 k 0 l1 (l1.length : Int) 0 a0_0 l0_1) = some r := h
 clear h
 have H' := Aside0.mk H
 clear H
 go_enter Try.func69, Try.ntmps69
 go_wp2_with (first | ((with_reducible refine gate_dst (N := 2) rfl ?_); refine box_event ?hg (N := 2) ?hd (cs := #[.int .i64 a0_0, .slice A0_1 l0_1.length c0_1]) (t := 25) ?hr ?_; (case hd => rfl); (case hg => rfl); (case hr => first | (go_simp; done) | (go_simp; rfl)); intro q0 hg w3 hbox hb; have n0_ := Aside0.mk (below_step HB.out hb); have n1_ := Aside0.mk (hbox); have n2_ := Aside0.mk ((by rw [hg]; exact (below_size HB.out) : w.heap.size ≤ q0)); have n3_ := Aside0.mk ((by rw [hg]; exact (below_size HB.out) : w.heap.size ≤ q0)); clear HB; have HB := n0_; have p1 := n1_; have GW770 := n2_; have q1 := n3_; clear n0_ n1_ n2_ n3_; clear hb hbox hg))
 go_loopg [5, 10] k (fun kq v5 v10 w' => ∃ (x5_1 : Int) (p0 : Int), v5 = .int .i64 x5_1 ∧ v10 = .int .i64 p0 ∧ Aside0 (impl_Net_cost.l0 kq x5_1 l1 (l1.length : Int) p0 a0_0 l0_1 = some r) ∧ Aside0 (kq ≤ k) ∧ Aside0 (w'.heap[q0]? = some (.cells #[.int .i64 a0_0, (.slice A0_1 l0_1.length c0_1)] 25 (0, 0))) ∧ Aside0 (Below w.heap.size w w'))
 case atStart => exact ⟨(0), (0), (by first | rfl | (simp; done) | (simp [*]; done)), (by first | rfl | (simp; done) | (simp [*]; done)), H', ⟨Nat.le_refl _⟩, ⟨by (with_reducible repeat (first | refine blk_drewN ?_ _ | refine blk_drew ?_ | refine blk_alloc ?_ _)); exact p1.out⟩, ⟨by repeat (first | (with_reducible first | exact HB.out | apply below_alloc | apply pw_below_drewN | apply below_drew1 | refine below_set ?_ q1.out) | exact HB.out)⟩⟩
 case round =>
  clear H'
  try clear c1
  try clear p2
  obtain ⟨x5_1, p0, rfl, rfl, HA, HK1, p1, HB⟩ := hrel
  cases gk with
  | zero => exact absurd HA.out (by simp [impl_Net_cost.l0])
  | succ k1 =>
   have H := HA.out
   clear HA
   simp only [impl_Net_cost.l0] at H
   by_cases c4 : p0 < (l1.length : Int)
   case neg =>
    rw [if_neg c4] at H
    have c4b0 : decide (p0 < (l1.length : Int)) = false := decide_eq_false c4
    clear c4
    obtain rfl := Option.some.inj H
    go_wp2
    go_ret
    exact ⟨by first | rfl | (simp [errW_none, errW_some] <;> rfl) | (simp [*, errW_none, errW_some] <;> rfl), by repeat (first | (with_reducible first | exact HB.out | apply below_alloc | apply pw_below_drewN | apply below_drew1 | refine below_set ?_ q1.out) | exact HB.out)⟩
   rw [if_pos c4] at H
   have c4b0 : decide (p0 < (l1.length : Int)) = true := decide_eq_true c4
   clear c4
   by_cases c5 : 0 ≤ p0
   case neg =>
    rw [if_neg c5] at H
    exact absurd H (by simp)
   rw [if_pos c5] at H
   have c5b0 : decide (0 ≤ p0) = true := decide_eq_true c5
   clear c5
   by_cases c6 : p0 < (l1.length : Int)
   case neg =>
    rw [if_neg c6] at H
    exact absurd H (by simp)
   rw [if_pos c6] at H
   have c6b0 : decide (p0 < (l1.length : Int)) = true := decide_eq_true c6
   clear c6
   by_cases c7 : 0 ≤ (rd l1 p0)
   case neg =>
    rw [if_neg c7] at H
    exact absurd H (by simp)
   rw [if_pos c7] at H
   have c7b0 : decide (0 ≤ (rd l1 p0)) = true := decide_eq_true c7
   clear c7
   by_cases c8 : (rd l1 p0) < (l0_1.length : Int)
   case neg =>
    rw [if_neg c8] at H
    exact absurd H (by simp)
   rw [if_pos c8] at H
   have c8b0 : decide ((rd l1 p0) < (l0_1.length : Int)) = true := decide_eq_true c8
   clear c8
   have H' := Aside0.mk H
   clear H
   have p771 : 0 ≤ (p0 : Int) := of_decide_eq_true (by first | (with_reducible assumption) | assumption)
   have q771 : p0 < (l1.length : Int) := of_decide_eq_true (by first | (with_reducible assumption) | assumption)
   obtain ⟨ad771, e771, p4⟩ := Kd.at_int HR1.out p0 p771 q771
   cases e771
   replace p4 := (HB.out.cell (World.block_lt_of_cell? w _ p4)).trans p4
   replace p771 := eq_true p771
   replace q771 := eq_true q771
   have hcz9_0 : wr.cell? ⟨q0, 0, none⟩ = some (.int .i64 a0_0) := (blk_cell p1.out 0).trans rfl
   have hcz9_1 : wr.cell? ⟨q0, 1, none⟩ = some (.slice A0_1 l0_1.length c0_1) := (blk_cell p1.out 1).trans rfl
   have hfz9_0 := blk_frozen p1.out 0
   have hfz9_1 := blk_frozen p1.out 1
   have p772 : 0 ≤ ((rd l1 p0) : Int) := of_decide_eq_true (by first | (with_reducible assumption) | assumption)
   have q772 : (rd l1 p0) < (l0_1.length : Int) := of_decide_eq_true (by first | (with_reducible assumption) | assumption)
   obtain ⟨ad772, e772, p5, p6, p7, p8, p9⟩ := at_T34 HR0_1.out (rd l1 p0) p772 q772
   cases e772
   replace p5 := (HB.out.cell (World.block_lt_of_cell? w _ p5)).trans p5
   replace p6 := (HB.out.cell (World.block_lt_of_cell? w _ p6)).trans p6
   replace p7 := (HB.out.cell (World.block_lt_of_cell? w _ p7)).trans p7
   replace p8 := (HB.out.cell (World.block_lt_of_cell? w _ p8)).trans p8
   replace p9 := (HB.out.cell (World.block_lt_of_cell? w _ p9)).trans p9
   replace p772 := eq_true p772
   replace q772 := eq_true q772
   go_wp2
   go_roundg k1
   case measure => have := HK1.out; omega
   case rel => exact ⟨(wrap64 (x5_1 + ((rd_T34 l0_1 (rd l1 p0)).f2))), (wrap64 (p0 + 1)), (by first | rfl | (simp; done) | (simp [*]; done)), (by first | rfl | (simp; done) | (simp [*]; done)), H', ⟨by have := HK1.out; omega⟩, ⟨by (with_reducible repeat (first | refine blk_drewN ?_ _ | refine blk_drew ?_ | refine blk_alloc ?_ _)); exact p1.out⟩, ⟨by repeat (first | (with_reducible first | exact HB.out | apply below_alloc | apply pw_below_drewN | apply below_drew1 | refine below_set ?_ q1.out) | exact HB.out)⟩⟩
end Go.Proofs.Ytljdcinpjnijcaa.Pr
end
section
namespace Go.Proofs.Ytljdcinpjnijcaa.Pr
open Go.RowKit Go.Proofs.YtljdcinpjnijcaaW.PrintWords Go.Proofs.YtljdcinpjnijcaaW.PrintLast Go.Proofs.YtljdcinpjnijcaaW.PrintMore
attribute [local go_sem] max2_int min2_int max_two min_two max_three min_three max_four min_four
set_option linter.unusedVariables false
set_option linter.unusedSimpArgs false
set_option maxHeartbeats 1600000 in
theorem grow109_calls (n : Nat) (hn : n ≤ 100000) (w : World) : Calls Try.prog 109 #[.slice none 0 0, .int .i64 (n : Int)] w fun e w' => ∃ v, e = .returned v ∧ Kd.R (Kd.int .i64) 3 w' w.heap.size (fun _ => True) v [] ∧ Below w.heap.size w w' := by
 obtain ⟨i0, hi0, hz0, hsz, hby⟩ := info_parts (P := Try.prog) (e := 3) (z := (.int .i64 0)) (size := 1) (bytes := 8) (by kernel_rfl)
 have hcut := cut_to (P := Try.prog) 29 3 .i64 Try.underlying29 hi0 none 0 0 (0 : Int) (by omega) (by omega) (Nat.le_refl _)
 have HI := Aside0.mk hi0
 clear hi0 hsz hz0 hby
 have c1 : decide ((n : Int) < 0) = false := decide_eq_false (by omega)
 have c2 : ((n : Int) < 0) = False := eq_false (by omega)
 have w0 : wrap64 (n : Int) = (n : Int) := by unfold wrap64; omega
 by_cases h0 : n = 0
 case pos =>
  subst h0
  go_enter Try.func109, Try.ntmps109
  go_wp2
  go_ret
  exact ⟨_, rfl, Kd.R_nil _ _ _ _ _, by first | exact Below.refl _ _ | (repeat (first | (with_reducible first | exact Below.refl _ _ | apply below_alloc | apply pw_below_drewN | apply below_drew1)))⟩
 have c3 : decide ((n : Int) > 0) = true := decide_eq_true (by omega)
 have c4 : decide ((0 : Int) < (n : Int)) = true := decide_eq_true (by omega)
 have c5 : decide (0 < n) = true := decide_eq_true (by omega)
 have HN := Aside0.mk hn
 clear hn
 go_enter Try.func109, Try.ntmps109
 go_wp2_with (first | ((with_reducible refine gate_builtin (b := .append) (xs := #[.tmp 20, .tmp 21]) rfl ?_); at_builtin; refine Kd.R_append_zeros (Kd.int .i64) (w0 := w) (kx := .i64) w.heap.size rfl (.tmp 20) (.tmp 21) 29 3 3 (.int .i64 0) 8 rfl Try.underlying29 Try.underlying3 info3 rfl (by decide) (by omega) (.slice none 0 0) ([] : List Int) (0 : Int) (n : Int) (fun _ => True) ?aV ?aW rfl (fun _ _ => trivial) (Kd.R_nil _ _ _ _ _) (by omega) ?aB ?aS ?aL ?_; (case aV => first | rfl | (go_simp; done)); (case aW => first | (go_simp; done) | (go_simp; rfl) | rfl); (case aL => have := HN.out; simp; omega); (case aB => (repeat (first | (with_reducible first | exact Below.refl _ _ | apply below_alloc | apply pw_below_drewN | apply below_drew1)))); (case aS => exact below_size (by repeat (first | (with_reducible first | exact Below.refl _ _ | apply below_alloc | apply pw_below_drewN | apply below_drew1)))); intro v1 w1 ho hb hg hat; clear hg hat; obtain ⟨A1, c1', rfl⟩ := Kd.R_slice ho; have K1 := Aside0.mk ho; have K2 := Aside0.mk hb; have hcut1 := cut_to (P := Try.prog) 29 3 .i64 Try.underlying29 HI.out A1 _ c1' (0 : Int) (by omega) (by omega) (Kd.R_reads' ho).2.1; clear ho hb))
 go_ret
 refine ⟨_, rfl, ?_, K2.out⟩
 have := Kd.R_take (m := 0) K1.out (Nat.zero_le _)
 simpa using this
end Go.Proofs.Ytljdcinpjnijcaa.Pr
end
section
namespace Go.Proofs.Ytljdcinpjnijcaa.Pr
open Go.RowKit Go.Proofs.YtljdcinpjnijcaaW.PrintWords Go.Proofs.YtljdcinpjnijcaaW.PrintLast Go.Proofs.YtljdcinpjnijcaaW.PrintMore
attribute [local go_sem] max2_int min2_int max_two min_two max_three min_three max_four min_four
set_option linter.unusedVariables false
set_option linter.unusedSimpArgs false
def slices_Concat_int_int.f (l0 : List (List Int)) : Option (List Int) := if l0.flatten.length ≤ 100000 then some l0.flatten else none
def flen (l : List (List Int)) (j : Nat) : Nat := (l.take j).flatten.length
theorem take_flat {l : List (List Int)} {j : Nat} (h : j < l.length) : (l.take (j + 1)).flatten = (l.take j).flatten ++ l[j] := by
 rw [List.take_succ_eq_append_getElem h, List.flatten_append]
 simp
theorem take_flat_le (l : List (List Int)) (j : Nat) : (l.take j).flatten.length ≤ l.flatten.length := by
 have h : (l.take j).flatten ++ (l.drop j).flatten = l.flatten := by rw [← List.flatten_append, List.take_append_drop]
 rw [← h, List.length_append]
 omega
set_option maxHeartbeats 4000000 in
set_option maxRecDepth 100000 in
theorem slices_Concat_int_int.calls (A0 : Option Addr) (c0 : Nat) (l0 : List (List Int)) (r : List Int) (w : World) (hr0 : Kd.C (Kd.slice 3 (Kd.int .i64)) w A0 l0.length l0) (hc0 : l0.length ≤ c0) (h : slices_Concat_int_int.f l0 = some r) :
  Calls Try.prog 70 #[.slice A0 l0.length c0] w fun e w' => ∃ v0_, e = .returned v0_ ∧ Kd.R (Kd.int .i64) 3 w' w.heap.size (fun _ => True) v0_ r ∧ Below w.heap.size w w' := by
 unfold slices_Concat_int_int.f at h
 by_cases hlen : l0.flatten.length ≤ 100000
 case neg => rw [if_neg hlen] at h; cases h
 rw [if_pos hlen] at h
 obtain rfl := Option.some.inj h
 clear h
 have HM := Aside0.mk (Kd.C_max hr0)
 have HR := Aside0.mk hr0
 have HF := Aside0.mk hlen
 clear hr0 hc0 hlen
 go_enter Try.func70, Try.ntmps70
 go_wp2
 go_loopg [3, 11] l0.length (fun gg s3 s11 wr => ∃ j : Nat, s3 = .int .i64 ((flen l0 j : Nat) : Int) ∧ s11 = .int .i64 (j : Int) ∧ Aside0 (j ≤ l0.length) ∧ Aside0 (l0.length - j ≤ gg) ∧ Aside0 (Below w.heap.size w wr))
 case atStart => exact ⟨0, by first | rfl | (simp [flen]; done), rfl, ⟨by omega⟩, ⟨by omega⟩, ⟨by first | exact Below.refl _ _ | (repeat (first | (with_reducible first | exact Below.refl _ _ | apply below_alloc | apply pw_below_drewN | apply below_drew1)))⟩⟩
 case round =>
  obtain ⟨j, rfl, rfl, J0, J1, J2⟩ := hrel
  by_cases hj : j < l0.length
  case pos =>
   have d1 : decide ((j : Int) < (l0.length : Int)) = true := decide_eq_true (by omega)
   have d2 : decide (j < l0.length) = true := decide_eq_true hj
   obtain ⟨ad, c, e, hcl, hK, hcc⟩ := Kd.C_get (Kd.C_below HR.out J2.out) ([] : List Int) (j : Int) (by omega) (by omega)
   obtain ⟨A, cx, rfl, hlx, hCx⟩ := hK
   subst e
   have hx : l0.getD ((j : Int).toNat) [] = l0[j] := by simp [hj]
   rw [hx] at hcc
   have hcell : wr.cell? (ad.add j) = some (.slice A (l0[j]).length cx) := by have h := hcc 0 _ rfl; rw [show (Kd.slice 3 (Kd.int .i64)).sz = 1 from rfl] at h; simpa using h
   clear hcc hcl hCx hlx hx
   have hfl : flen l0 (j + 1) = flen l0 j + (l0[j]).length := by have := congrArg List.length (take_flat hj); rwa [List.length_append] at this
   have hle : flen l0 (j + 1) ≤ l0.flatten.length := take_flat_le l0 (j + 1)
   have hHF := HF.out
   obtain ⟨s, hs⟩ : ∃ s, s = flen l0 j := ⟨_, rfl⟩
   obtain ⟨s', hs'⟩ : ∃ s', s' = flen l0 (j + 1) := ⟨_, rfl⟩
   obtain ⟨lx, hlx2⟩ : ∃ lx, lx = (l0[j]).length := ⟨_, rfl⟩
   rw [← hs, ← hs', ← hlx2] at hfl
   rw [← hs'] at hle
   rw [← hlx2] at hcell
   rw [← hs]
   have HS' := Aside0.mk hs'
   have hneg : decide ((s' : Int) < 0) = false := decide_eq_false (by omega)
   have hneg2 : ((s' : Int) < 0) = False := eq_false (by omega)
   have p2 : ((0 : Int) ≤ (j : Int)) = True := eq_true (by omega)
   have p3 : ((j : Int) < (l0.length : Int)) = True := eq_true (by omega)
   have hw2 : wrap64 ((j : Int) + 1) = ((j + 1 : Nat) : Int) := by have := HM.out; unfold wrap64; omega
   have HW2 := Aside0.mk hw2
   clear hw2
   have hw : wrap64 ((s : Int) + (lx : Int)) = (s' : Int) := by unfold wrap64; omega
   have hw2 := HW2.out
   have HJ := Aside0.mk hj
   clear hfl hle hHF hj hs' hs hlx2
   go_wp2
   go_roundg (l0.length - (j + 1))
   case measure => have := J1.out; have := HJ.out; omega
   case rel => exact ⟨j + 1, by rw [← HS'.out]; first | rfl | (simp [hw]; done) | (rw [hw]; done), by first | rfl | (rw [hw2]; done) | (simp [hw2]; done), ⟨HJ.out⟩, ⟨Nat.le_refl _⟩, ⟨by first | exact J2.out | (repeat (first | (with_reducible first | exact J2.out | apply below_alloc | apply pw_below_drewN | apply below_drew1)))⟩⟩
  have d1 : decide ((j : Int) < (l0.length : Int)) = false := decide_eq_false (by omega)
  have d2 : decide (j < l0.length) = false := decide_eq_false hj
  have hjn : j = l0.length := by have := J0.out; omega
  obtain ⟨m, hm⟩ : ∃ m, m = flen l0 j := ⟨_, rfl⟩
  have hm2 : m ≤ 100000 := by have := take_flat_le l0 j; have h2 := HF.out; rw [hm]; exact Nat.le_trans this h2
  rw [← hm]
  have HG := Aside0.mk (fun W : World => grow109_calls m hm2 W)
  clear hm hm2
  have HL := Aside0.mk (Nat.le_refl l0.length)
  clear hjn hj J0 J1
  go_wp2_with (first | (go_at_call 109; (with_reducible refine (HG.out _).mono ?_); rintro e w1 ⟨v1, rfl, hR1, hb1⟩; obtain ⟨A1, c1, rfl⟩ := Kd.R_slice hR1; have K1 := Aside0.mk (Kd.R_lower hR1 (below_size J2.out)); have K2 := Aside0.mk (below_step J2.out hb1); clear hR1 hb1))
  have p0 : (0 : Nat) = l0.length ∨ True := .inr trivial
  go_loopg [6, 27] l0.length (fun gg s6 s27 wr => ∃ (j : Nat) (A2 : Option Addr) (n2 c2 : Nat), s6 = .slice A2 n2 c2 ∧ s27 = .int .i64 (j : Int) ∧ Aside0 (j ≤ l0.length) ∧ Aside0 (l0.length - j ≤ gg) ∧ Aside0 (Below w.heap.size w wr) ∧ Aside0 (Kd.R (Kd.int .i64) 3 wr w.heap.size (fun _ => True) (.slice A2 n2 c2) (l0.take j).flatten))
  case atStart => exact ⟨0, A1, _, c1, rfl, rfl, ⟨by omega⟩, ⟨by omega⟩, K2, K1⟩
  case round =>
   clear K1 K2 J2 p0
   obtain ⟨j, A2, n2, c2, rfl, rfl, J0, J1, J2, J3⟩ := hrel
   by_cases hj : j < l0.length
   case neg =>
    have d1 : decide ((j : Int) < (l0.length : Int)) = false := decide_eq_false (by omega)
    have d2 : decide (j < l0.length) = false := decide_eq_false hj
    have hjn : j = l0.length := by have := J0.out; omega
    have N1 : Aside0 (Kd.R (Kd.int .i64) 3 wr w.heap.size (fun _ => True) (.slice A2 n2 c2) l0.flatten) := ⟨by have := J3.out; rwa [hjn, List.take_length] at this⟩
    clear hjn hj
    go_wp2
    go_ret
    exact ⟨_, rfl, N1.out, J2.out⟩
   have d1 : decide ((j : Int) < (l0.length : Int)) = true := decide_eq_true (by omega)
   have d2 : decide (j < l0.length) = true := decide_eq_true hj
   obtain ⟨ad, c, e, hcl, hK, hcc⟩ := Kd.C_get (Kd.C_below HR.out J2.out) ([] : List Int) (j : Int) (by omega) (by omega)
   have hx : l0.getD ((j : Int).toNat) [] = l0[j] := by simp [hj]
   rw [hx] at hK
   obtain ⟨A, cx, rfl, hlx, hCx⟩ := hK
   subst e
   have hcell : wr.cell? (ad.add j) = some (.slice A (l0[j]).length cx) := by have h := hcc 0 _ rfl; rw [show (Kd.slice 3 (Kd.int .i64)).sz = 1 from rfl] at h; simpa using h
   have HX := Aside0.mk hCx
   clear hcc hcl hCx hlx hx
   have HLL : Aside0 (((l0.take j).flatten.length + (l0[j]).length) * 8 ≤ 140737488355328) := ⟨by
    have h1 := congrArg List.length (take_flat hj)
    rw [List.length_append] at h1
    have h2 := take_flat_le l0 (j + 1)
    have h3 := HF.out
    omega⟩
   have HY := Aside0.mk (take_flat hj)
   obtain ⟨y, hy⟩ : ∃ y, y = l0[j] := ⟨_, rfl⟩
   rw [← hy] at hcell HX HLL HY
   have p2 : ((0 : Int) ≤ (j : Int)) = True := eq_true (by omega)
   have p3 : ((j : Int) < (l0.length : Int)) = True := eq_true (by omega)
   have hw2 : wrap64 ((j : Int) + 1) = ((j + 1 : Nat) : Int) := by have := HM.out; unfold wrap64; omega
   have HJ := Aside0.mk hj
   clear hj hy
   go_wp2_with (first | ((with_reducible refine gate_builtin (b := .append) (xs := #[.tmp 31, .tmp 32]) rfl ?_); at_builtin; refine Kd.R_append_rows (Kd.int .i64) (w0 := w) w.heap.size rfl (.tmp 31) (.tmp 32) 29 3 (.int .i64 0) 8 rfl Try.underlying29 info3 rfl (by decide) (by omega) (.slice A2 n2 c2) (l0.take j).flatten y _ _ _ (fun _ => True) (fun _ => False) rfl rfl J3.out HX.out (fun _ _ h => h) (fun _ h => h.elim) (fun _ _ => trivial) J2.out (below_size J2.out) HLL.out ?_; intro v2 w2 ho hb hg hat; rw [← HY.out] at ho; obtain ⟨A3, c3, rfl⟩ := Kd.R_slice ho; generalize hn3 : (List.take (j + 1) l0).flatten.length = n3 at ho ⊢; clear hn3; have N1 := Aside0.mk ho; have N2 := Aside0.mk hb; clear ho hb hg hat))
   go_roundg (l0.length - (j + 1))
   case measure => have := J1.out; have := HJ.out; omega
   case rel => exact ⟨j + 1, A3, n3, c3, rfl, by first | rfl | (rw [hw2]; done) | (simp [hw2]; done), ⟨HJ.out⟩, ⟨Nat.le_refl _⟩, N2, N1⟩
end Go.Proofs.Ytljdcinpjnijcaa.Pr
end
section
namespace Go.Proofs.Ytljdcinpjnijcaa.Pr
open Go.RowKit Go.Proofs.YtljdcinpjnijcaaW.PrintWords Go.Proofs.YtljdcinpjnijcaaW.PrintLast Go.Proofs.YtljdcinpjnijcaaW.PrintMore
attribute [local go_sem] max2_int min2_int max_two min_two max_three min_three max_four min_four
set_option linter.unusedVariables false
set_option linter.unusedSimpArgs false
set_option maxHeartbeats 800000 in
theorem clip71_calls (A : Option Addr) (n c : Nat) (w : World) (hc : n ≤ c) : Calls Try.prog 71 #[.slice A n c] w fun e w' => e = .returned (.slice A n n) ∧ w' = w := by
 obtain ⟨i0, hi0, _, hsz, _⟩ := info_parts (P := Try.prog) (e := 3) (z := (.int .i64 0)) (size := 1) (bytes := 8) (by kernel_rfl)
 have hcut := cut_cap (P := Try.prog) 29 3 .i64 Try.underlying29 hi0 A n c (n : Int) (by omega) (by omega) hc
 simp only [Int.toNat_natCast] at hcut
 clear hi0 hsz
 go_enter Try.func71, Try.ntmps71
 go_wp2
 go_ret
 exact ⟨rfl, rfl⟩
end Go.Proofs.Ytljdcinpjnijcaa.Pr
end
