/- Words of this claim's own on 'from some number of rounds on', and on Go's int. -/
import Derived.Test.YtjiiipmeocageaaWWords
import Derived.Test.YtjiiipmeocageaaWMore
import Derived.Test.YtjiiipmeocageaaXo
set_option linter.unusedVariables false
namespace Go.Proofs.YtjiiipmeocageaaW.PrintWords
open Go.RowKit
section
variable {α β : Type}
theorem Ev.pos {c : Prop} [Decidable c] {t e : Nat → Option α} {r : α} (h : c) (k : Ev t r) : Ev (fun n => if c then t n else e n) r := by
  simp only [if_pos h]; exact k
theorem Ev.neg {c : Prop} [Decidable c] {t e : Nat → Option α} {r : α} (h : ¬ c) (k : Ev e r) : Ev (fun n => if c then t n else e n) r := by
  simp only [if_neg h]; exact k
theorem Ev.bind0 {g : Option α} {f : Nat → α → Option β} {a : α} {r : β} (h : g = some a) (k : Ev (fun n => f n a) r) : Ev (fun n => g.bind (f n)) r := by
  subst h; exact k
theorem Ev.is {a r : α} (h : a = r) : Ev (fun _ => some a) r := by subst h; exact Ev.now _
theorem Ev.cast {g : Nat → Option α} {a r : α} (k : Ev g a) (h : a = r) : Ev g r := h ▸ k
theorem Ev.lift {g : Option α} {r : α} (h : g = some r) : Ev (fun _ => g) r := by subst h; exact Ev.now _
/-- One round of a loop, the number of rounds being a successor's. -/
theorem Ev.go {g f : Nat → Option α} {r : α} (k : Ev f r) (h : ∀ k, g (k + 1) = f k) : Ev g r := Ev.step h k
end
theorem w64 {n : Int} (h : -9223372036854775808 ≤ n) (h' : n ≤ 9223372036854775807) : wrap64 n = n := by unfold wrap64; omega
theorem w64_I {n : Int} (h : I64 n) : wrap64 n = n := w64 h.1 h.2
theorem rd_nat {l : List Int} {i : Nat} (h : i < l.length) : rd l (i : Int) = l[i] := by simp [rd, h]
theorem rd_get {l : List Int} {i : Int} (h : i.toNat < l.length) : rd l i = l[i.toNat] := by simp [rd, h]
/-- A statement as a bool. -/
noncomputable def Bp (p : Prop) : Bool := @decide p (Classical.propDecidable p)
theorem Bp_iff {p : Prop} : Bp p = true ↔ p := by unfold Bp; exact @decide_eq_true_iff p (Classical.propDecidable p)
theorem Bp_true {p : Prop} (h : p) : Bp p = true := Bp_iff.2 h
theorem Bp_false {p : Prop} (h : ¬ p) : Bp p = false := by
  cases e : Bp p with
  | false => rfl
  | true => exact absurd (Bp_iff.1 e) h
theorem Bp_congr {p q : Prop} (h : p ↔ q) : Bp p = Bp q := by rw [propext h]
theorem eq_Bp {b : Bool} {p : Prop} (h : b = true ↔ p) : b = Bp p := by rw [Bool.eq_iff_iff, Bp_iff]; exact h
theorem some_ite (b x : Bool) : (if b = true then some x else some false) = some (b && x) := by cases b <;> rfl
theorem some_ite_p (c : Prop) [Decidable c] (x : Bool) : (if c then some x else some false) = some (decide c && x) := by by_cases h : c <;> simp [h]
theorem some_ite_t (c : Prop) [Decidable c] (x : Bool) : (if c then some x else some true) = some (!decide c || x) := by by_cases h : c <;> simp [h]
theorem same_true {a b : Bool} (h : a = b) : (if (a != b) = true then some false else some true) = some true := by subst h; simp
end Go.Proofs.YtjiiipmeocageaaW.PrintWords
