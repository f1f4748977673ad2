/- For the statement FnFareWeek of this seat: it is proved here, with no further conditions (part 5 of its texts: words, walks of the functions, the plain law, the row). -/
import Derived.ChangeArms
import Derived.ChangeSlices
import Derived.Deep.Slices
import Derived.WideShapes
import Derived.DataReads
import Derived.Test.YtlhmljngjdfbpaaRows
import Derived.WalkKit
import Derived.ProofKit
import Derived.OpenShut
import Derived.ShutString
import Derived.ChangeOld
import Derived.Below
import Derived.SizedLaws
import Derived.Test.YtlhmljngjdfbpaaKFnFareWeek3
section
namespace Go.Proofs.Ytlhmljngjdfbpaa.Pr
open Go.RowKit Go.Proofs.YtlhmljngjdfbpaaW.PrintWords Go.Proofs.YtlhmljngjdfbpaaW.PrintLast Go.Proofs.YtlhmljngjdfbpaaW.PrintMore
attribute [local go_sem] max2_int min2_int max_two min_two max_three min_three max_four min_four
set_option linter.unusedVariables false
set_option linter.unusedSimpArgs false
open List renaming setIfInBounds_toArray → U,set_cons_zero → O,set_cons_succ → I
open Go.Proofs.YtlhmljngjdfbpaaW.PrintWords.Aside0 renaming mk → G
abbrev VC:={v : Value // v.oneCell' = true}
def vcE (x : VC) : Value:=x.1
theorem vcE_one (x : VC) : (vcE x).oneCell' = true:=x.2
def weekOne (ds : List (List Int)) : List (List Int):=(rd_L2 ds 0 ++ rd_L2 ds 1) :: ds.drop 2
theorem week_vals {W : World} {ad : Addr} {ds : List (List Int)} (h : Kd.C (Kd.slice 3 (Kd.int .i64)) W (some ad) ds.length ds) (m : Nat) (hm : m ≤ ds.length) : ∃ vs : List VC,vs.length = ds.length - m ∧ ∀ (j : Nat) (v : VC),vs[j]? = some v → W.cell? (ad.add (m + j)) = some v.1 ∧ ∃ (A : Option Addr) (c : Nat) (p : List Int),v.1 = .slice A p.length c ∧ p.length ≤ c ∧ Kd.C (Kd.int .i64) W A p.length p ∧ ds[m + j]? = some p:=by
 have key : ∀ d m : Nat,ds.length - m = d → m ≤ ds.length → ∃ vs : List VC,vs.length = ds.length - m ∧ ∀ (j : Nat) (v : VC),vs[j]? = some v → W.cell? (ad.add (m + j)) = some v.1 ∧ ∃ (A : Option Addr) (c : Nat) (p : List Int),v.1 = .slice A p.length c ∧ p.length ≤ c ∧ Kd.C (Kd.int .i64) W A p.length p ∧ ds[m + j]? = some p:=by
  intro d
  induction d with
  | zero =>
   intro m hd hm;exact ⟨[],by simp; omega,fun j v hj => by simp at hj⟩
  | succ d ih =>
   intro m hd hm;have hlt : m < ds.length:=by omega
   obtain ⟨vs,h1,h2⟩:=ih (m + 1) (by omega) (by omega);obtain ⟨ad',e,hc⟩:=h.2.2 (by omega);cases e;obtain ⟨c,hl,hK,hcell⟩:=hc m ds[m] (List.getElem?_eq_getElem hlt);obtain ⟨A,q,rfl,hq,hC⟩:=hK;have hx:=hcell 0 _ rfl;rw [Nat.add_zero,show (Kd.slice 3 (Kd.int .i64)).sz = 1 from rfl,Nat.mul_one] at hx;refine ⟨⟨.slice A ds[m].length q,rfl⟩ :: vs,by simp [h1]; omega,fun j v hj => ?_⟩;cases j with
   | zero =>
    simp only [List.getElem?_cons_zero,Option.some.injEq] at hj;subst hj;exact ⟨hx,A,q,ds[m],rfl,hq,hC,List.getElem?_eq_getElem hlt⟩
   | succ j =>
    rw [List.getElem?_cons_succ] at hj;have:=h2 j v hj;rw [show m + 1 + j = m + (j + 1) by omega] at this;exact this
 exact key _ m rfl hm
theorem week_reads {W : World} {ad : Addr} {n c : Nat} {vs : List VC} {Acut : Option Addr} (hl : vs.length = n - 2) (ha : Acut = (if c = (2 : Int).toNat then some ad else (some ad).map (·.add ((2 : Int).toNat * 1)))) (hn : 2 ≤ n) (hm : n ≤ 100000) (hc : n ≤ c) (h : ∀ (j : Nat) (v : VC),vs[j]? = some v → W.cell? (ad.add (2 + j)) = some v.1) : ReadsRow (fun (x : VC) cs => cs = [vcE x]) 1 W Acut (n - 2) vs:=by
 refine ⟨hl,by omega,fun hp => ?_⟩;rw [if_neg (show ¬ c = (2 : Int).toNat by have : (2 : Int).toNat = 2:=rfl; omega)] at ha;subst ha;refine ⟨ad.add 2,rfl,fun j p hj => ⟨[vcE p],rfl,rfl,fun i u hi => ?_⟩⟩;cases i with
 | zero =>
  simp only [List.getElem?_cons_zero,Option.some.injEq] at hi;subst hi;have:=h j p hj;rw [Nat.mul_one,Nat.add_zero,show (ad.add 2).add j = ad.add (2 + j) by simp [Go.Addr.add,Nat.add_assoc]];exact this
 | succ i => simp at hi
theorem week_C {W : World} {A : Option Addr} {n : Nat} {us : List VC} {ps : List (List Int)} (h : Kd.C (Kd.scalar vcE vcE_one) W A n us) (hl : ps.length = us.length) (hp : ∀ (j : Nat) (u : VC) (p : List Int),us[j]? = some u → ps[j]? = some p → ∃ (B : Option Addr) (c : Nat),u.1 = .slice B p.length c ∧ p.length ≤ c ∧ Kd.C (Kd.int .i64) W B p.length p) : Kd.C (Kd.slice 3 (Kd.int .i64)) W A n ps:=by
 refine ⟨by rw [hl]; exact h.1,h.2.1,fun hn => ?_⟩;obtain ⟨ad,e,hc⟩:=h.2.2 hn;refine ⟨ad,e,fun j p hj => ?_⟩;have hjl : j < ps.length:=by
  by_cases q : j < ps.length
  case pos => exact q
  rw [List.getElem?_eq_none (by omega)] at hj; cases hj
 obtain ⟨c,q1,q2,q3⟩:=hc j us[j] (List.getElem?_eq_getElem (by omega));obtain ⟨B,d,e1,e2,e3⟩:=hp j us[j] p (List.getElem?_eq_getElem (by omega)) hj;refine ⟨c,q1,⟨B,d,?_,e2,e3⟩,q3⟩;rw [q2,← e1];rfl
theorem week_rows {W W0 : World} {A71 A75 : Option Addr} {c71 n : Nat} {ds : List (List Int)} {vs : List VC} (hb : Below W0.heap.size W0 W) (hA : Kd.C (Kd.scalar vcE vcE_one) W A75 n ([(⟨.slice A71 (rd_L2 ds 0 ++ rd_L2 ds 1).length c71,rfl⟩ : VC)] ++ vs)) (hv : vs.length = ds.length - 2) (hc : (rd_L2 ds 0 ++ rd_L2 ds 1).length ≤ c71) (h2 : Kd.C (Kd.int .i64) W A71 (rd_L2 ds 0 ++ rd_L2 ds 1).length (rd_L2 ds 0 ++ rd_L2 ds 1)) (h : ∀ (j : Nat) (v : VC),vs[j]? = some v → W0.cell? (⟨0,0,none⟩ : Addr) = W0.cell? (⟨0,0,none⟩ : Addr) ∧ ∃ (A : Option Addr) (c : Nat) (p : List Int),v.1 = .slice A p.length c ∧ p.length ≤ c ∧ Kd.C (Kd.int .i64) W0 A p.length p ∧ ds[2 + j]? = some p) : Kd.C (Kd.slice 3 (Kd.int .i64)) W A75 n (weekOne ds):=by
 refine week_C hA (by simp [weekOne,hv]) (fun j u p hu hp => ?_);cases j with
 | zero =>
  simp only [List.cons_append,List.nil_append,List.getElem?_cons_zero,Option.some.injEq] at hu;subst hu;simp only [weekOne,List.getElem?_cons_zero,Option.some.injEq] at hp;subst hp;exact ⟨A71,c71,rfl,hc,h2⟩
 | succ j =>
  simp only [List.cons_append,List.nil_append,List.getElem?_cons_succ] at hu;simp only [weekOne,List.getElem?_cons_succ,List.getElem?_drop] at hp;obtain ⟨_,A,c,q,e1,e2,e3,e4⟩:=h j u hu;rw [hp] at e4;obtain rfl:=Option.some.inj e4;exact ⟨A,c,e1,e2,Kd.C_below e3 hb⟩
def week_T : Bool × List (List Nat × List Nat):=(true,[([],[]),([],[]),([1],[1]),([2],[2]),([0,3],[0,3]),([],[]),([5],[5]),([6],[6]),([4,7,4],[4,7]),([8],[8]),([],[]),([10],[10]),([9,11,8],[9,11]),([12,12,0,1,2,3,4,5,6,7,8,9,10,11,12],[12])])
def week_B : List Nat:=[0,0,2,6,15,0,32,96,255,511,0,1024,4095,8191]
theorem week_tab : rtab .any (opsOf Try.f3 13) = week_T:=by kernel_rfl
theorem week_bits : waitsOk week_T.2 week_B = true:=by kernel_rfl
mutual
def laws_FnFareWeek.j0 : Nat → List (List Int) → Int → Bool → List Int → Int → Int → Option (Bool)
 | 0,_,_,_,_,_,_ => none
 | k + 1,x4,x5,x28,x228000,x228001,x228002 => if x28 = true then ((spec_FareWeek.f k x228000 x228001 x228002 x4).bind fun t230 => (some (x5 == t230))) else (laws_FnFareWeek.l0 k x4 x5 0 0 x228000 x228001 x228002)
def laws_FnFareWeek.l0 : Nat → List (List Int) → Int → Int → Int → List Int → Int → Int → Option (Bool)
 | 0,_,_,_,_,_,_,_ => none
 | k + 1,x4,x5,x6,x7,x228000,x228001,x228002 => if x7 < (x4.length : Int) then (if 0 ≤ x7 then ((impl_FareDay.f k x228000 x228001 x228002 (rd_L2 x4 x7)).bind fun t232 => (laws_FnFareWeek.l0 k x4 x5 (wrap64 (x6 + t232)) (wrap64 (x7 + 1)) x228000 x228001 x228002)) else (none)) else (if (x4.length : Int) > 1 then (if 0 < (x4.length : Int) then (if 1 < (x4.length : Int) then (laws_FnFareWeek.j2 k x4 x5 x6 (decide ((wrap64 (((rd_L2 x4 0).length : Int) + ((rd_L2 x4 1).length : Int))) ≤ 10)) x228000 x228001 x228002) else (none)) else (none)) else (laws_FnFareWeek.j2 k x4 x5 x6 false x228000 x228001 x228002))
def laws_FnFareWeek.j2 : Nat → List (List Int) → Int → Int → Bool → List Int → Int → Int → Option (Bool)
 | 0,_,_,_,_,_,_,_ => none
 | k + 1,x4,x5,x6,x62,x228000,x228001,x228002 => if x62 = true then (if 2 ≤ x4.length ∧ (rd_L2 x4 0).length + (rd_L2 x4 1).length ≤ 100000 ∧ x4.length ≤ 100000 then ((impl_FareWeek.f k x228000 x228001 x228002 (weekOne x4)).bind fun t235 => (if t235 > x5 then (some false) else (if x5 ≤ x228002 then (if x5 = x6 then (some true) else (if x5 = x228002 then (some (decide (x6 > x5))) else (some false))) else (some false)))) else none) else (if x5 ≤ x228002 then (if x5 = x6 then (some true) else (if x5 = x228002 then (some (decide (x6 > x5))) else (some false))) else (some false))
end
def laws_FnFareWeek.f (k : Nat) (l0 : List Int) : Option (Bool):=if (l0.length : Int) > 1048576 then (some true) else ((spec_DrawFareWeek.f k l0).bind fun bt219 => ((impl_FareWeek.f k bt219.1 bt219.2.1 bt219.2.2.1 bt219.2.2.2).bind fun t228 => ((spec_FareWeek.f k bt219.1 bt219.2.1 bt219.2.2.1 bt219.2.2.2).bind fun t229 => (if t228 = t229 then (laws_FnFareWeek.j0 k bt219.2.2.2 t228 (decide (t228 < 0)) bt219.1 bt219.2.1 bt219.2.2.1) else (laws_FnFareWeek.j0 k bt219.2.2.2 t228 true bt219.1 bt219.2.1 bt219.2.2.1)))))
theorem laws_FnFareWeek.mono_l : ∀ k,(∀ y0 y1 y2 y3 y4 y5,LeO (laws_FnFareWeek.j0 k y0 y1 y2 y3 y4 y5) (laws_FnFareWeek.j0 (k + 1) y0 y1 y2 y3 y4 y5)) ∧ (∀ y0 y1 y2 y3 y4 y5 y6,LeO (laws_FnFareWeek.l0 k y0 y1 y2 y3 y4 y5 y6) (laws_FnFareWeek.l0 (k + 1) y0 y1 y2 y3 y4 y5 y6)) ∧ (∀ y0 y1 y2 y3 y4 y5 y6,LeO (laws_FnFareWeek.j2 k y0 y1 y2 y3 y4 y5 y6) (laws_FnFareWeek.j2 (k + 1) y0 y1 y2 y3 y4 y5 y6))
 | 0 => ⟨fun _ _ _ _ _ _ r h => by simp [laws_FnFareWeek.j0] at h,fun _ _ _ _ _ _ _ r h => by simp [laws_FnFareWeek.l0] at h,fun _ _ _ _ _ _ _ r h => by simp [laws_FnFareWeek.j2] at h⟩
 | k + 1 => by
  obtain ⟨ih0,ih1,ih2⟩:=laws_FnFareWeek.mono_l k;refine ⟨?_,?_,?_⟩
  ·intro y0 y1 y2 y3 y4 y5
   unfold laws_FnFareWeek.j0
   repeat' first
   | (with_reducible exact ih0 _ _ _ _ _ _)
   | (with_reducible exact ih1 _ _ _ _ _ _ _)
   | (with_reducible exact ih2 _ _ _ _ _ _ _)
   | (with_reducible exact impl_FareDay.mono _ _ _ _ _)
   | (with_reducible exact impl_FareWeek.mono _ _ _ _ _)
   | (with_reducible exact spec_DrawFareWeek.mono _ _)
   | (with_reducible exact spec_FareWeek.mono _ _ _ _ _)
   | (with_reducible exact LeO.refl _)
   | (with_reducible exact LeO.none _)
   | (with_reducible refine LeO.ite ?_ ?_)
   | (with_reducible refine LeO.bind ?_ (fun _ => ?_))
   | exact ih0 _ _ _ _ _ _
   | exact ih1 _ _ _ _ _ _ _
   | exact ih2 _ _ _ _ _ _ _
   | exact impl_FareDay.mono _ _ _ _ _
   | exact impl_FareWeek.mono _ _ _ _ _
   | exact spec_DrawFareWeek.mono _ _
   | exact spec_FareWeek.mono _ _ _ _ _
   | exact LeO.none _
   | refine LeO.ite ?_ ?_
   | refine LeO.bind ?_ (fun _ => ?_)
  ·intro y0 y1 y2 y3 y4 y5 y6
   unfold laws_FnFareWeek.l0
   repeat' first
   | (with_reducible exact ih0 _ _ _ _ _ _)
   | (with_reducible exact ih1 _ _ _ _ _ _ _)
   | (with_reducible exact ih2 _ _ _ _ _ _ _)
   | (with_reducible exact impl_FareDay.mono _ _ _ _ _)
   | (with_reducible exact impl_FareWeek.mono _ _ _ _ _)
   | (with_reducible exact spec_DrawFareWeek.mono _ _)
   | (with_reducible exact spec_FareWeek.mono _ _ _ _ _)
   | (with_reducible exact LeO.refl _)
   | (with_reducible exact LeO.none _)
   | (with_reducible refine LeO.ite ?_ ?_)
   | (with_reducible refine LeO.bind ?_ (fun _ => ?_))
   | exact ih0 _ _ _ _ _ _
   | exact ih1 _ _ _ _ _ _ _
   | exact ih2 _ _ _ _ _ _ _
   | exact impl_FareDay.mono _ _ _ _ _
   | exact impl_FareWeek.mono _ _ _ _ _
   | exact spec_DrawFareWeek.mono _ _
   | exact spec_FareWeek.mono _ _ _ _ _
   | exact LeO.none _
   | refine LeO.ite ?_ ?_
   | refine LeO.bind ?_ (fun _ => ?_)
  ·intro y0 y1 y2 y3 y4 y5 y6
   unfold laws_FnFareWeek.j2
   repeat' first
   | (with_reducible exact ih0 _ _ _ _ _ _)
   | (with_reducible exact ih1 _ _ _ _ _ _ _)
   | (with_reducible exact ih2 _ _ _ _ _ _ _)
   | (with_reducible exact impl_FareDay.mono _ _ _ _ _)
   | (with_reducible exact impl_FareWeek.mono _ _ _ _ _)
   | (with_reducible exact spec_DrawFareWeek.mono _ _)
   | (with_reducible exact spec_FareWeek.mono _ _ _ _ _)
   | (with_reducible exact LeO.refl _)
   | (with_reducible exact LeO.none _)
   | (with_reducible refine LeO.ite ?_ ?_)
   | (with_reducible refine LeO.bind ?_ (fun _ => ?_))
   | exact ih0 _ _ _ _ _ _
   | exact ih1 _ _ _ _ _ _ _
   | exact ih2 _ _ _ _ _ _ _
   | exact impl_FareDay.mono _ _ _ _ _
   | exact impl_FareWeek.mono _ _ _ _ _
   | exact spec_DrawFareWeek.mono _ _
   | exact spec_FareWeek.mono _ _ _ _ _
   | exact LeO.none _
   | refine LeO.ite ?_ ?_
   | refine LeO.bind ?_ (fun _ => ?_)
theorem laws_FnFareWeek.mono : ∀ a0 k,LeO (laws_FnFareWeek.f k a0) (laws_FnFareWeek.f (k + 1) a0):=by
 intro a0 k;obtain ⟨ih0,ih1,ih2⟩:=laws_FnFareWeek.mono_l k
 unfold laws_FnFareWeek.f
 repeat' first
   | (with_reducible exact ih0 _ _ _ _ _ _)
   | (with_reducible exact ih1 _ _ _ _ _ _ _)
   | (with_reducible exact ih2 _ _ _ _ _ _ _)
   | (with_reducible exact impl_FareDay.mono _ _ _ _ _)
   | (with_reducible exact impl_FareWeek.mono _ _ _ _ _)
   | (with_reducible exact spec_DrawFareWeek.mono _ _)
   | (with_reducible exact spec_FareWeek.mono _ _ _ _ _)
   | (with_reducible exact LeO.refl _)
   | (with_reducible exact LeO.none _)
   | (with_reducible refine LeO.ite ?_ ?_)
   | (with_reducible refine LeO.bind ?_ (fun _ => ?_))
   | exact ih0 _ _ _ _ _ _
   | exact ih1 _ _ _ _ _ _ _
   | exact ih2 _ _ _ _ _ _ _
   | exact impl_FareDay.mono _ _ _ _ _
   | exact impl_FareWeek.mono _ _ _ _ _
   | exact spec_DrawFareWeek.mono _ _
   | exact spec_FareWeek.mono _ _ _ _ _
   | exact LeO.none _
   | refine LeO.ite ?_ ?_
   | refine LeO.bind ?_ (fun _ => ?_)
def laws_FnFareWeek.T11 : Bool × List (List Nat × List Nat):=(true,[([],[]),([],[]),([],[]),([],[]),([2,3],[2,3]),([4],[4]),([1,5],[1,5]),([0,6],[0,6]),([7,6,0,1,2,3,4,5,6,7],[0,7])])
def laws_FnFareWeek.B11 : List Nat:=[0,0,0,0,12,28,62,127,255]
theorem laws_FnFareWeek.tab11 : rtab .any (opsOf Try.f3 11) = laws_FnFareWeek.T11:=by kernel_rfl
theorem laws_FnFareWeek.bits11 : waitsOk laws_FnFareWeek.T11.2 laws_FnFareWeek.B11 = true:=by kernel_rfl
def laws_FnFareWeek.T12 : Bool × List (List Nat × List Nat):=(true,[([],[]),([0],[0]),([1],[1]),([2],[2]),([3],[3]),([4,3],[3,4]),([5,3],[3,5]),([6,3],[3,6]),([3],[3]),([8,3],[3,8]),([9,3],[3,9]),([10,3],[3,10]),([7,11,3],[3,7,11]),([12,3],[3,12]),([3,13],[3,13])])
def laws_FnFareWeek.B12 : List Nat:=[0,1,3,7,15,31,63,127,15,271,783,1807,4095,8191,16383]
theorem laws_FnFareWeek.tab12 : rtab .any (opsOf Try.f3 12) = laws_FnFareWeek.T12:=by kernel_rfl
theorem laws_FnFareWeek.bits12 : waitsOk laws_FnFareWeek.T12.2 laws_FnFareWeek.B12 = true:=by kernel_rfl
set_option maxHeartbeats 8000000 in
set_option maxRecDepth 100000 in
theorem laws_FnFareWeek.calls (k : Nat) (A0 : Option Addr) (c0 : Nat) (l0 : List Int) (r : Bool) (w : World) (hr0 : Kd.C (Kd.int .u8) w A0 l0.length l0) (hc0 : l0.length ≤ c0) (h : laws_FnFareWeek.f k l0 = some r) :
  Calls Try.prog 3 #[.slice A0 l0.length c0] w fun e w' => e = .returned (.bool r) ∧ Below w.heap.size w w':=by
 have hu25:=Try.underlying25;have HR0:=G hr0;have HC0:=G hc0;clear hr0 hc0;have HB:=G (Below.refl w.heap.size w);have H : (if (l0.length : Int) > 1048576 then (some true) else ((spec_DrawFareWeek.f k l0).bind fun bt219 => ((impl_FareWeek.f k bt219.1 bt219.2.1 bt219.2.2.1 bt219.2.2.2).bind fun t228 => ((spec_FareWeek.f k bt219.1 bt219.2.1 bt219.2.2.1 bt219.2.2.2).bind fun t229 => (if t228 = t229 then (laws_FnFareWeek.j0 k bt219.2.2.2 t228 (decide (t228 < 0)) bt219.1 bt219.2.1 bt219.2.2.1) else (laws_FnFareWeek.j0 k bt219.2.2.2 t228 true bt219.1 bt219.2.1 bt219.2.2.1)))))) = some r:=h;clear h
 by_cases c2 : (l0.length : Int) > 1048576
 case pos =>
  rw [if_pos c2] at H;have c2b0 : decide (1048576 < (l0.length : Int)) = true:=decide_eq_true c2;have c2b1 : decide (1048576 < l0.length) = true:=decide_eq_true (by omega);clear c2;obtain rfl:=Option.some.inj H
  go_enter Try.func3,Try.ntmps3
  go_wp2
  go_ret;exact ⟨by first | rfl | (simp [errW_none,errW_some] <;> rfl) | (simp [*,errW_none,errW_some] <;> rfl),by repeat (first | (with_reducible first | exact HB.out | apply below_alloc | apply pw_below_drewN | apply below_drew1) | exact HB.out)⟩
 rw [if_neg c2] at H;have c2b0 : decide (1048576 < (l0.length : Int)) = false:=decide_eq_false c2;have c2b1 : decide (1048576 < l0.length) = false:=decide_eq_false (by omega);clear c2;replace H:=Option.bind_eq_some_iff.mp H;obtain ⟨⟨t219,t222,t223,t224⟩,A30,H⟩:=H;replace H : ((impl_FareWeek.f k t219 t222 t223 t224).bind fun t228 => ((spec_FareWeek.f k t219 t222 t223 t224).bind fun t229 => (if t228 = t229 then (laws_FnFareWeek.j0 k t224 t228 (decide (t228 < 0)) t219 t222 t223) else (laws_FnFareWeek.j0 k t224 t228 true t219 t222 t223)))) = some r:=H;have A3:=G A30;clear A30;replace H:=Option.bind_eq_some_iff.mp H;obtain ⟨t228,A40,H⟩:=H;replace H : ((spec_FareWeek.f k t219 t222 t223 t224).bind fun t229 => (if t228 = t229 then (laws_FnFareWeek.j0 k t224 t228 (decide (t228 < 0)) t219 t222 t223) else (laws_FnFareWeek.j0 k t224 t228 true t219 t222 t223))) = some r:=H;have A4:=G A40;clear A40;have HC5:=G H;clear H
 go_enter Try.func3,Try.ntmps3
 go_upto_region 5 with (first | ((with_reducible refine gate_callee (f:=16) rfl ?_); refine goesL_ (some 14) rfl rfl Try.func16 (by kernel_rfl) rfl #[.slice A0 l0.length c0] rfl (by (try simp only [List.map_toArray,List.map_cons,List.map_nil]); first | done | rfl | (simp only [List.length_drop,List.length_take]; rfl)) ?_; (with_reducible refine (spec_DrawFareWeek.calls k _ _ l0 t219 t222 t223 t224 _ ?side1 ?side2 A3.out).mono ?_); (case side1 => repeat (first | exact HR0.out | (with_reducible refine Kd.C_alloc ?_ _) | (with_reducible refine Kd.C_drewN ?_ _) | (with_reducible refine Kd.C_drew ?_))); (case side2 => exact HC0.out); rintro e w6 ⟨v220,v225,rfl,ho0,ho1,hb⟩; refine ⟨_,rfl,?_⟩; have n0_:=G (Kd.Q_lower ho0 (below_size (by repeat (first | (with_reducible first | exact HB.out | apply below_alloc | apply pw_below_drewN | apply below_drew1) | exact HB.out)))); have n1_:=G (Kd.S_lower ho1 (below_size (by repeat (first | (with_reducible first | exact HB.out | apply below_alloc | apply pw_below_drewN | apply below_drew1) | exact HB.out)))); have n2_:=G (below_step (by repeat (first | (with_reducible first | exact HB.out | apply below_alloc | apply pw_below_drewN | apply below_drew1) | exact HB.out)) hb); clear HB; have HO221:=n0_; have HO226:=n1_; have HB:=n2_; clear n0_ n1_ n2_; (try clear hb); (try clear hb2); (try clear hk); (try clear hi); (try clear ho0); (try clear ho1)) | ((with_reducible refine gate_dst (N:=3) rfl ?_); (try (refine gate_guard (by rfl) ?_; dsimp only)); refine box_event ?hg (N:=3) ?hd (cs:=#[.slice none 0 0,.int .i64 0,.int .i64 0]) (t:=25) ?hr ?_; (case hd => rfl); (case hg => rfl); (case hr => first | (go_simp; done) | (go_simp; rfl)); intro gb227 hg w7 hbox hb; have n0_:=G (Kd.Q_below (by (with_reducible repeat (first | apply Kd.Q_alloc | apply Kd.Q_drewN | apply Kd.Q_drew)); exact HO221.out) hb); have n1_:=G (Kd.S_below (by (with_reducible repeat (first | apply Kd.S_alloc | apply Kd.S_drewN | apply Kd.S_drew)); exact HO226.out) hb); have n2_:=G (below_step (by repeat (first | (with_reducible first | exact HB.out | apply below_alloc | apply pw_below_drewN | apply below_drew1) | exact HB.out)) hb); have n3_:=G (hbox); have n4_:=G ((by rw [hg]; exact (below_size (by repeat (first | (with_reducible first | exact HB.out | apply below_alloc | apply pw_below_drewN | apply below_drew1) | exact HB.out))) : w.heap.size ≤ gb227)); have n5_:=G ((by rw [hg]; exact (below_size (by repeat (first | (with_reducible first | exact HB.out | apply below_alloc | apply pw_below_drewN | apply below_drew1) | exact HB.out))) : w.heap.size ≤ gb227)); clear HO221; clear HO226; clear HB; have HO221:=n0_; have HO226:=n1_; have HB:=n2_; have BK227:=n3_; have GW227:=n4_; have GE227:=n5_; clear n0_ n1_ n2_ n3_ n4_ n5_; clear hb hbox hg; obtain ⟨Ao8,co8,eo8,_⟩:=Kd.Q_slice HO221.out; subst eo8; have hcz9_0 : w7.cell? ⟨gb227,0,none⟩ = some (.slice none 0 0):=(blk_cell BK227.out 0).trans rfl; have hcz9_1 : w7.cell? ⟨gb227,1,none⟩ = some (.int .i64 0):=(blk_cell BK227.out 1).trans rfl; have hcz9_2 : w7.cell? ⟨gb227,2,none⟩ = some (.int .i64 0):=(blk_cell BK227.out 2).trans rfl; have hfz9_0:=blk_frozen BK227.out 0; have hfz9_1:=blk_frozen BK227.out 1; have hfz9_2:=blk_frozen BK227.out 2; obtain ⟨Ao10,co10,eo10⟩:=Kd.S_slice HO226.out; subst eo10) | ((with_reducible refine gate_callee (f:=17) rfl ?_); refine goesL_ (some 19) rfl rfl Try.func17 (by kernel_rfl) rfl #[.agg #[.slice Ao8 t219.length co8,.int .i64 t222,.int .i64 t223],.slice Ao10 t224.length co10] rfl (by (try simp only [List.map_toArray,List.map_cons,List.map_nil]); first | done | rfl | (simp only [List.length_drop,List.length_take]; rfl)) ?_; (with_reducible refine (impl_FareWeek.calls k _ _ t219 t222 t223 _ _ t224 t228 _ ?side1 ?side2 ?side3 ?side4 A4.out).mono ?_); (case side1 => refine (Kd.Q_reads' (e:=3) (base:=w.heap.size) (ok:=fun k_ => True) (n:=t219.length) (c:=co8) ?_).2.2; exact (by (with_reducible repeat (first | apply Kd.Q_alloc | apply Kd.Q_drewN | apply Kd.Q_drew)); exact (Kd.Q_mono (Kd.Q_far (p:=⟨gb227,2,none⟩) (Kd.Q_far (p:=⟨gb227,1,none⟩) (Kd.Q_far (p:=⟨gb227,0,none⟩) (Kd.Q_types HO221.out BK227.out (by decide)) (fun _ hk => hk.2) (.slice Ao8 t219.length co8)) (fun _ hk => hk.2) (.int .i64 t222)) (fun _ hk => hk.2) (.int .i64 t223)) (fun _ h_ => h_.1)))); (case side2 => exact (Kd.Q_reads' HO221.out).2.1); (case side3 => refine (Kd.S_reads' (e:=23) (base:=w.heap.size) (ok:=fun k_ => some k_ ≠ (.slice Ao8 t219.length co8 : Value).ownBlock) (n:=t224.length) (c:=co10) ?_).2.2; exact (by (with_reducible repeat (first | apply Kd.S_alloc | apply Kd.S_drewN | apply Kd.S_drew)); exact (Kd.S_mono (Kd.S_far (p:=⟨gb227,2,none⟩) (Kd.S_far (p:=⟨gb227,1,none⟩) (Kd.S_far (p:=⟨gb227,0,none⟩) (Kd.S_types HO226.out BK227.out (by decide)) (fun _ hk => hk.2) (.slice Ao8 t219.length co8)) (fun _ hk => hk.2) (.int .i64 t222)) (fun _ hk => hk.2) (.int .i64 t223)) (fun _ h_ => h_.1)))); (case side4 => exact (Kd.S_reads' HO226.out).2.1); rintro e w11 ⟨rfl,hb⟩; refine ⟨_,rfl,?_⟩; have n0_:=G (Kd.Q_below (by (with_reducible repeat (first | apply Kd.Q_alloc | apply Kd.Q_drewN | apply Kd.Q_drew)); exact (Kd.Q_mono (Kd.Q_far (p:=⟨gb227,2,none⟩) (Kd.Q_far (p:=⟨gb227,1,none⟩) (Kd.Q_far (p:=⟨gb227,0,none⟩) (Kd.Q_types HO221.out BK227.out (by decide)) (fun _ hk => hk.2) (.slice Ao8 t219.length co8)) (fun _ hk => hk.2) (.int .i64 t222)) (fun _ hk => hk.2) (.int .i64 t223)) (fun _ h_ => h_.1))) hb); have n1_:=G (Kd.S_below (by (with_reducible repeat (first | apply Kd.S_alloc | apply Kd.S_drewN | apply Kd.S_drew)); exact (Kd.S_mono (Kd.S_far (p:=⟨gb227,2,none⟩) (Kd.S_far (p:=⟨gb227,1,none⟩) (Kd.S_far (p:=⟨gb227,0,none⟩) (Kd.S_types HO226.out BK227.out (by decide)) (fun _ hk => hk.2) (.slice Ao8 t219.length co8)) (fun _ hk => hk.2) (.int .i64 t222)) (fun _ hk => hk.2) (.int .i64 t223)) (fun _ h_ => h_.1))) hb); have n2_:=G (blk_below (g:=gb227) (o:=.cells #[.slice Ao8 t219.length co8,.int .i64 t222,.int .i64 t223] 25 (0,0)) (by (with_reducible repeat (first | refine blk_drewN ?_ _ | refine blk_drew ?_ | refine blk_alloc ?_ _)); refine blk_put (cs:=#[.slice Ao8 t219.length co8,.int .i64 t222,.int .i64 0]) ?_ 2 _ rfl; (with_reducible repeat (first | refine blk_drewN ?_ _ | refine blk_drew ?_ | refine blk_alloc ?_ _)); refine blk_put (cs:=#[.slice Ao8 t219.length co8,.int .i64 0,.int .i64 0]) ?_ 1 _ rfl; (with_reducible repeat (first | refine blk_drewN ?_ _ | refine blk_drew ?_ | refine blk_alloc ?_ _)); refine blk_put (cs:=#[.slice none 0 0,.int .i64 0,.int .i64 0]) ?_ 0 _ rfl; (with_reducible repeat (first | refine blk_drewN ?_ _ | refine blk_drew ?_ | refine blk_alloc ?_ _)); exact BK227.out) hb); have n3_:=G (below_step (by repeat (first | (with_reducible first | exact HB.out | apply below_alloc | apply pw_below_drewN | apply below_drew1 | refine below_set ?_ GE227.out) | exact HB.out)) hb); clear HO221; clear HO226; clear BK227; clear HB; have HO221:=n0_; have HO226:=n1_; have BK227:=n2_; have HB:=n3_; clear n0_ n1_ n2_ n3_; (try clear hb); (try clear hb2); (try clear hk); (try clear hi)))
 (try simp only [Act.put,U,O,I])
 go_cut [28] (fun v28 wc => ∃ (kq : Nat) (x28_4 : Bool),v28 = .bool x28_4 ∧ Aside0 (laws_FnFareWeek.j0 kq t224 t228 x28_4 t219 t222 t223 = some r) ∧ Aside0 (kq ≤ k) ∧ Aside0 (Kd.S (Kd.slice 3 (Kd.int .i64)) 23 wc w.heap.size (fun k_ => some k_ ≠ ((.slice Ao8 t219.length co8) : Value).ownBlock) (.slice Ao10 t224.length co10) t224) ∧ Aside0 (Kd.Q (Kd.int .i64) 3 wc w.heap.size (fun _ => True) (.slice Ao8 t219.length co8) t219) ∧ Aside0 (wc.heap[gb227]? = some (.cells #[(.slice Ao8 t219.length co8),.int .i64 t222,.int .i64 t223] 25 (0,0))) ∧ Aside0 (Below w.heap.size w wc))
 case first =>
  have H:=HC5.out;clear HC5;replace H:=Option.bind_eq_some_iff.mp H;obtain ⟨t229,A120,H⟩:=H;replace H : (if t228 = t229 then (laws_FnFareWeek.j0 k t224 t228 (decide (t228 < 0)) t219 t222 t223) else (laws_FnFareWeek.j0 k t224 t228 true t219 t222 t223)) = some r:=H;have A12:=G A120;clear A120
  by_cases c13 : t228 = t229
  case neg =>
   rw [if_neg c13] at H;have c13b0 : (t228 == t229) = false:=beq_eq_false_iff_ne.mpr c13;have c13b1 : (t228 != t229) = true:=bne_iff_ne.mpr c13
   (first | rw [c13b0] | (simp only [i64_w,i32_w]; rw [c13b0]) | skip)
   have H':=G H;clear H;have hcz16_0 : w11.cell? ⟨gb227,0,none⟩ = some (.slice Ao8 t219.length co8):=(blk_cell BK227.out 0).trans rfl;have hcz16_1 : w11.cell? ⟨gb227,1,none⟩ = some (.int .i64 t222):=(blk_cell BK227.out 1).trans rfl;have hcz16_2 : w11.cell? ⟨gb227,2,none⟩ = some (.int .i64 t223):=(blk_cell BK227.out 2).trans rfl;have hfz16_0:=blk_frozen BK227.out 0;have hfz16_1:=blk_frozen BK227.out 1;have hfz16_2:=blk_frozen BK227.out 2
   go_wp2_with (first | ((with_reducible refine gate_callee (f:=18) rfl ?_); refine goesL_ (some 23) rfl rfl Try.func18 (by kernel_rfl) rfl #[.agg #[.slice Ao8 t219.length co8,.int .i64 t222,.int .i64 t223],.slice Ao10 t224.length co10] rfl (by (try simp only [List.map_toArray,List.map_cons,List.map_nil]); first | done | rfl | (simp only [List.length_drop,List.length_take]; rfl)) ?_; (with_reducible refine (spec_FareWeek.calls k _ _ t219 t222 t223 _ _ t224 t229 _ ?side1 ?side2 ?side3 ?side4 A12.out).mono ?_); (case side1 => repeat (first | exact (Kd.Q_reads' HO221.out).2.2 | (with_reducible refine Kd.C_alloc ?_ _) | (with_reducible refine Kd.C_drewN ?_ _) | (with_reducible refine Kd.C_drew ?_))); (case side2 => exact (Kd.Q_reads' HO221.out).2.1); (case side3 => repeat (first | exact (Kd.S_reads' HO226.out).2.2 | (with_reducible refine Kd.C_alloc ?_ _) | (with_reducible refine Kd.C_drewN ?_ _) | (with_reducible refine Kd.C_drew ?_))); (case side4 => exact (Kd.S_reads' HO226.out).2.1); rintro e w17 ⟨rfl,hb⟩; refine ⟨_,rfl,?_⟩; have n0_:=G (Kd.Q_below (by (with_reducible repeat (first | apply Kd.Q_alloc | apply Kd.Q_drewN | apply Kd.Q_drew)); exact HO221.out) hb); have n1_:=G (Kd.S_below (by (with_reducible repeat (first | apply Kd.S_alloc | apply Kd.S_drewN | apply Kd.S_drew)); exact HO226.out) hb); have n2_:=G (blk_below (g:=gb227) (o:=.cells #[.slice Ao8 t219.length co8,.int .i64 t222,.int .i64 t223] 25 (0,0)) (by (with_reducible repeat (first | refine blk_drewN ?_ _ | refine blk_drew ?_ | refine blk_alloc ?_ _)); exact BK227.out) hb); have n3_:=G (below_step (by repeat (first | (with_reducible first | exact HB.out | apply below_alloc | apply pw_below_drewN | apply below_drew1 | refine below_set ?_ GE227.out) | exact HB.out)) hb); clear HO221; clear HO226; clear BK227; clear HB; have HO221:=n0_; have HO226:=n1_; have BK227:=n2_; have HB:=n3_; clear n0_ n1_ n2_ n3_; (try clear hb); (try clear hb2); (try clear hk); (try clear hi)))
   go_meet
   case rel => exact ⟨_,(true),(by first | rfl | (simp; done) | (simp [*]; done)),H',⟨by first | omega | exact Nat.le_refl _⟩,⟨by (with_reducible repeat (first | apply Kd.S_alloc | apply Kd.S_drewN | apply Kd.S_drew)); exact HO226.out⟩,⟨by (with_reducible repeat (first | apply Kd.Q_alloc | apply Kd.Q_drewN | apply Kd.Q_drew)); exact HO221.out⟩,⟨by (with_reducible repeat (first | refine blk_drewN ?_ _ | refine blk_drew ?_ | refine blk_alloc ?_ _)); exact BK227.out⟩,⟨by repeat (first | (with_reducible first | exact HB.out | apply below_alloc | apply pw_below_drewN | apply below_drew1 | refine below_set ?_ GE227.out) | exact HB.out)⟩⟩
  rw [if_pos c13] at H;have c13b0 : (t228 == t229) = true:=beq_iff_eq.mpr c13;have c13b1 : (t228 != t229) = false:=bne_eq_false_iff_eq.mpr c13;clear c13
  (first | rw [c13b0] | (simp only [i64_w,i32_w]; rw [c13b0]) | skip)
  have H':=G H;clear H;have hcz14_0 : w11.cell? ⟨gb227,0,none⟩ = some (.slice Ao8 t219.length co8):=(blk_cell BK227.out 0).trans rfl;have hcz14_1 : w11.cell? ⟨gb227,1,none⟩ = some (.int .i64 t222):=(blk_cell BK227.out 1).trans rfl;have hcz14_2 : w11.cell? ⟨gb227,2,none⟩ = some (.int .i64 t223):=(blk_cell BK227.out 2).trans rfl;have hfz14_0:=blk_frozen BK227.out 0;have hfz14_1:=blk_frozen BK227.out 1;have hfz14_2:=blk_frozen BK227.out 2
  go_wp2_with (first | ((with_reducible refine gate_callee (f:=18) rfl ?_); refine goesL_ (some 23) rfl rfl Try.func18 (by kernel_rfl) rfl #[.agg #[.slice Ao8 t219.length co8,.int .i64 t222,.int .i64 t223],.slice Ao10 t224.length co10] rfl (by (try simp only [List.map_toArray,List.map_cons,List.map_nil]); first | done | rfl | (simp only [List.length_drop,List.length_take]; rfl)) ?_; (with_reducible refine (spec_FareWeek.calls k _ _ t219 t222 t223 _ _ t224 t229 _ ?side1 ?side2 ?side3 ?side4 A12.out).mono ?_); (case side1 => repeat (first | exact (Kd.Q_reads' HO221.out).2.2 | (with_reducible refine Kd.C_alloc ?_ _) | (with_reducible refine Kd.C_drewN ?_ _) | (with_reducible refine Kd.C_drew ?_))); (case side2 => exact (Kd.Q_reads' HO221.out).2.1); (case side3 => repeat (first | exact (Kd.S_reads' HO226.out).2.2 | (with_reducible refine Kd.C_alloc ?_ _) | (with_reducible refine Kd.C_drewN ?_ _) | (with_reducible refine Kd.C_drew ?_))); (case side4 => exact (Kd.S_reads' HO226.out).2.1); rintro e w15 ⟨rfl,hb⟩; refine ⟨_,rfl,?_⟩; have n0_:=G (Kd.Q_below (by (with_reducible repeat (first | apply Kd.Q_alloc | apply Kd.Q_drewN | apply Kd.Q_drew)); exact HO221.out) hb); have n1_:=G (Kd.S_below (by (with_reducible repeat (first | apply Kd.S_alloc | apply Kd.S_drewN | apply Kd.S_drew)); exact HO226.out) hb); have n2_:=G (blk_below (g:=gb227) (o:=.cells #[.slice Ao8 t219.length co8,.int .i64 t222,.int .i64 t223] 25 (0,0)) (by (with_reducible repeat (first | refine blk_drewN ?_ _ | refine blk_drew ?_ | refine blk_alloc ?_ _)); exact BK227.out) hb); have n3_:=G (below_step (by repeat (first | (with_reducible first | exact HB.out | apply below_alloc | apply pw_below_drewN | apply below_drew1 | refine below_set ?_ GE227.out) | exact HB.out)) hb); clear HO221; clear HO226; clear BK227; clear HB; have HO221:=n0_; have HO226:=n1_; have BK227:=n2_; have HB:=n3_; clear n0_ n1_ n2_ n3_; (try clear hb); (try clear hb2); (try clear hk); (try clear hi)))
  go_meet
  case rel => exact ⟨_,(decide (t228 < 0)),(by first | rfl | (simp; done) | (simp [*]; done)),H',⟨by first | omega | exact Nat.le_refl _⟩,⟨by (with_reducible repeat (first | apply Kd.S_alloc | apply Kd.S_drewN | apply Kd.S_drew)); exact HO226.out⟩,⟨by (with_reducible repeat (first | apply Kd.Q_alloc | apply Kd.Q_drewN | apply Kd.Q_drew)); exact HO221.out⟩,⟨by (with_reducible repeat (first | refine blk_drewN ?_ _ | refine blk_drew ?_ | refine blk_alloc ?_ _)); exact BK227.out⟩,⟨by repeat (first | (with_reducible first | exact HB.out | apply below_alloc | apply pw_below_drewN | apply below_drew1 | refine below_set ?_ GE227.out) | exact HB.out)⟩⟩
 case rest =>
  clear HC5
  try clear c1
  try clear c2
  try clear c2b0
  try clear c2b1
  try clear p2
  try clear c3
  try clear c13
  try clear c13b0
  try clear c13b1
  try clear c16
  try clear c17
  try clear hcz14_0
  try clear hcz14_1
  try clear hcz14_2
  try clear hcz16_0
  try clear hcz16_1
  try clear hcz16_2
  try clear hcz9_0
  try clear hcz9_1
  try clear hcz9_2
  try clear hfz14_0
  try clear hfz14_1
  try clear hfz14_2
  try clear hfz16_0
  try clear hfz16_1
  try clear hfz16_2
  try clear hfz9_0
  try clear hfz9_1
  try clear hfz9_2
  obtain ⟨kq,x28_4,rfl,HA,HJ4,HO_4,HO_228000,BK227,HB⟩:=hcut;cases kq with
  | zero => exact absurd HA.out (by simp [laws_FnFareWeek.j0])
  | succ kj4 =>
   have H:=HA.out;clear HA;simp only [laws_FnFareWeek.j0] at H
   by_cases c18 : x28_4 = true
   case pos =>
    subst c18;have H1 : ((spec_FareWeek.f kj4 t219 t222 t223 t224).bind fun t230 => (some (t228 == t230))) = some r:=by rw [if_pos rfl] at H; exact H
    clear H;have H:=H1;clear H1;replace H:=Option.bind_eq_some_iff.mp H;obtain ⟨t230,A190,H⟩:=H;replace H : (some (t228 == t230)) = some r:=H;have A19:=G A190;clear A190;obtain rfl:=Option.some.inj H;have hcz20_0 : wc.cell? ⟨gb227,0,none⟩ = some (.slice Ao8 t219.length co8):=(blk_cell BK227.out 0).trans rfl;have hcz20_1 : wc.cell? ⟨gb227,1,none⟩ = some (.int .i64 t222):=(blk_cell BK227.out 1).trans rfl;have hcz20_2 : wc.cell? ⟨gb227,2,none⟩ = some (.int .i64 t223):=(blk_cell BK227.out 2).trans rfl;have hfz20_0:=blk_frozen BK227.out 0;have hfz20_1:=blk_frozen BK227.out 1;have hfz20_2:=blk_frozen BK227.out 2
    go_wp2_with (first | ((with_reducible refine gate_callee (f:=18) rfl ?_); refine goesL_ (some 32) rfl rfl Try.func18 (by kernel_rfl) rfl #[.agg #[.slice Ao8 t219.length co8,.int .i64 t222,.int .i64 t223],.slice Ao10 t224.length co10] rfl (by (try simp only [List.map_toArray,List.map_cons,List.map_nil]); first | done | rfl | (simp only [List.length_drop,List.length_take]; rfl)) ?_; (with_reducible refine (spec_FareWeek.calls kj4 _ _ t219 t222 t223 _ _ t224 t230 _ ?side1 ?side2 ?side3 ?side4 A19.out).mono ?_); (case side1 => repeat (first | exact (Kd.Q_reads' HO_228000.out).2.2 | (with_reducible refine Kd.C_alloc ?_ _) | (with_reducible refine Kd.C_drewN ?_ _) | (with_reducible refine Kd.C_drew ?_))); (case side2 => exact (Kd.Q_reads' HO_228000.out).2.1); (case side3 => repeat (first | exact (Kd.S_reads' HO_4.out).2.2 | (with_reducible refine Kd.C_alloc ?_ _) | (with_reducible refine Kd.C_drewN ?_ _) | (with_reducible refine Kd.C_drew ?_))); (case side4 => exact (Kd.S_reads' HO_4.out).2.1); rintro e w21 ⟨rfl,hb⟩; refine ⟨_,rfl,?_⟩; have n0_:=G (Kd.S_below (by (with_reducible repeat (first | apply Kd.S_alloc | apply Kd.S_drewN | apply Kd.S_drew)); exact HO_4.out) hb); have n1_:=G (Kd.Q_below (by (with_reducible repeat (first | apply Kd.Q_alloc | apply Kd.Q_drewN | apply Kd.Q_drew)); exact HO_228000.out) hb); have n2_:=G (blk_below (g:=gb227) (o:=.cells #[.slice Ao8 t219.length co8,.int .i64 t222,.int .i64 t223] 25 (0,0)) (by (with_reducible repeat (first | refine blk_drewN ?_ _ | refine blk_drew ?_ | refine blk_alloc ?_ _)); exact BK227.out) hb); have n3_:=G (below_step (by repeat (first | (with_reducible first | exact HB.out | apply below_alloc | apply pw_below_drewN | apply below_drew1 | refine below_set ?_ GE227.out) | exact HB.out)) hb); clear HO_4; clear HO_228000; clear BK227; clear HB; have HO_4:=n0_; have HO_228000:=n1_; have BK227:=n2_; have HB:=n3_; clear n0_ n1_ n2_ n3_; (try clear hb); (try clear hb2); (try clear hk); (try clear hi)))
    go_ret;exact ⟨by first | rfl | (simp [errW_none,errW_some] <;> rfl) | (simp [*,errW_none,errW_some] <;> rfl),by repeat (first | (with_reducible first | exact HB.out | apply below_alloc | apply pw_below_drewN | apply below_drew1 | refine below_set ?_ GE227.out) | exact HB.out)⟩
   replace c18:=Bool.eq_false_iff.mpr c18;subst c18;have H1 : (laws_FnFareWeek.l0 kj4 t224 t228 0 0 t219 t222 t223) = some r:=by rw [if_neg (show ¬ (false = true) by decide)] at H; exact H
   clear H;have H:=H1;clear H1;have H':=G H;clear H
   go_wp2
   go_loopg [6,7] kj4 (fun kq v6 v7 w' => ∃ (x6_2 : Int) (x7_2 : Int),v6 = .int .i64 x6_2 ∧ v7 = .int .i64 x7_2 ∧ Aside0 (laws_FnFareWeek.l0 kq t224 t228 x6_2 x7_2 t219 t222 t223 = some r) ∧ Aside0 (kq ≤ kj4) ∧ Aside0 (Kd.S (Kd.slice 3 (Kd.int .i64)) 23 w' w.heap.size (fun k_ => some k_ ≠ ((.slice Ao8 t219.length co8) : Value).ownBlock) (.slice Ao10 t224.length co10) t224) ∧ Aside0 (Kd.Q (Kd.int .i64) 3 w' w.heap.size (fun _ => True) (.slice Ao8 t219.length co8) t219) ∧ Aside0 (w'.heap[gb227]? = some (.cells #[(.slice Ao8 t219.length co8),.int .i64 t222,.int .i64 t223] 25 (0,0))) ∧ Aside0 (Below w.heap.size w w'))
   case atStart => exact ⟨(0),(0),(by first | rfl | (simp; done) | (simp [*]; done)),(by first | rfl | (simp; done) | (simp [*]; done)),H',⟨Nat.le_refl _⟩,⟨by (with_reducible repeat (first | apply Kd.S_alloc | apply Kd.S_drewN | apply Kd.S_drew)); exact HO_4.out⟩,⟨by (with_reducible repeat (first | apply Kd.Q_alloc | apply Kd.Q_drewN | apply Kd.Q_drew)); exact HO_228000.out⟩,⟨by (with_reducible repeat (first | refine blk_drewN ?_ _ | refine blk_drew ?_ | refine blk_alloc ?_ _)); exact BK227.out⟩,⟨by repeat (first | (with_reducible first | exact HB.out | apply below_alloc | apply pw_below_drewN | apply below_drew1 | refine below_set ?_ GE227.out) | exact HB.out)⟩⟩
   case round =>
    clear H'
    try clear c1
    try clear c2
    try clear c2b0
    try clear c2b1
    try clear p2
    try clear c3
    try clear c13
    try clear c13b0
    try clear c13b1
    try clear c16
    try clear c17
    try clear c18
    try clear hcz14_0
    try clear hcz14_1
    try clear hcz14_2
    try clear hcz16_0
    try clear hcz16_1
    try clear hcz16_2
    try clear hcz20_0
    try clear hcz20_1
    try clear hcz20_2
    try clear hcz9_0
    try clear hcz9_1
    try clear hcz9_2
    try clear hfz14_0
    try clear hfz14_1
    try clear hfz14_2
    try clear hfz16_0
    try clear hfz16_1
    try clear hfz16_2
    try clear hfz20_0
    try clear hfz20_1
    try clear hfz20_2
    try clear hfz9_0
    try clear hfz9_1
    try clear hfz9_2
    try clear p2
    obtain ⟨x6_2,x7_2,rfl,rfl,HA,HK2,HO_4,HO_228000,BK227,HB⟩:=hrel;cases gk with
    | zero => exact absurd HA.out (by simp [laws_FnFareWeek.l0])
    | succ k2 =>
     have H:=HA.out;clear HA;simp only [laws_FnFareWeek.l0] at H
     by_cases c22 : x7_2 < (t224.length : Int)
     case pos =>
      rw [if_pos c22] at H;have c22b0 : decide (x7_2 < (t224.length : Int)) = true:=decide_eq_true c22;clear c22
      by_cases c23 : 0 ≤ x7_2
      case neg =>
       rw [if_neg c23] at H;exact absurd H (by simp)
      rw [if_pos c23] at H;have c23b0 : decide (0 ≤ x7_2) = true:=decide_eq_true c23;clear c23;replace H:=Option.bind_eq_some_iff.mp H;obtain ⟨t232,A240,H⟩:=H;replace H : (laws_FnFareWeek.l0 k2 t224 t228 (wrap64 (x6_2 + t232)) (wrap64 (x7_2 + 1)) t219 t222 t223) = some r:=H;have A24:=G A240;clear A240;have H':=G H;clear H
      try go_wp2
      have n0_:=G (Kd.S_drew HO_4.out);have n1_:=G (Kd.Q_drew HO_228000.out);have n2_:=G (blk_drew BK227.out);have n3_:=G (below_drew1 HB.out);clear HO_4;clear HO_228000;clear BK227;clear HB;have HO_4:=n0_;have HO_228000:=n1_;have BK227:=n2_;have HB:=n3_;clear n0_ n1_ n2_ n3_;have p231 : 0 ≤ (x7_2 : Int):=of_decide_eq_true (by first | (with_reducible assumption) | assumption);have q231 : x7_2 < (t224.length : Int):=of_decide_eq_true (by first | (with_reducible assumption) | assumption);obtain ⟨ad231,A231_0,c231_0,e231,hx231_0,hl231_0,hi231_0⟩:=at_L2 (Kd.S_reads' HO_4.out).2.2 x7_2 p231 q231;cases e231;obtain ⟨ce231,hce231,hMe231,hcc231⟩:=Kd.S_get HO_4.out [] x7_2 p231 (by first | exact q231 | exact of_decide_eq_true (by first | (with_reducible assumption) | assumption) | (have e_:=(Kd.S_reads' HO_4.out).1; omega));obtain ⟨ve231_0,rfl,ge231_0⟩:=hMe231;have hv231_0:=hcc231 0 _ rfl;rw [Nat.add_zero,show ((Kd.slice 3 (Kd.int .i64))).sz = 1 from rfl,Nat.mul_one] at hv231_0;replace hv231_0:=Option.some.inj (hv231_0.symm.trans hx231_0);rw [hv231_0] at ge231_0;have HL231_0:=G (show Kd.R (Kd.int .i64) 3 _ _ _ _ (rd_L2 t224 x7_2) from ge231_0);clear hv231_0 ge231_0;clear hcc231 hce231;have HR231_0:=G hi231_0;have HC231_0:=G hl231_0;clear hi231_0 hl231_0;replace p231:=eq_true p231;replace q231:=eq_true q231;refine start_ (n:=9) (S:=fun w' => w'.cell? ⟨gb227,0,none⟩ = some (.slice Ao8 t219.length co8) ∧ w'.cell? ⟨gb227,1,none⟩ = some (.int .i64 t222) ∧ w'.cell? ⟨gb227,2,none⟩ = some (.int .i64 t223) ∧ w'.cell? (ad231.add (x7_2).toNat) = some (.slice A231_0 (rd_L2 t224 x7_2).length c231_0)) (ds:=[]) #[false,false,false,false,false,false,false,false,false] (by kernel_rfl) rfl rfl ⟨(blk_cell BK227.out 0).trans rfl,(blk_cell BK227.out 1).trans rfl,(blk_cell BK227.out 2).trans rfl,hx231_0⟩ (fun hHeld => ?_); refine with_tabW laws_FnFareWeek.tab11 laws_FnFareWeek.bits11 (fun HT_ HW_ => ?_);generalize wr.drew = w25 at HO_4 HO_228000 BK227 HB HL231_0 HR231_0 hx231_0 hHeld ⊢;refine pure_ (i:=0) (N:=some 40) (v:=?_) (a':=?_) #[true,false,false,false,false,false,false,false,false] rfl rfl (any_of HT_.out (by kernel_rfl)) (fun _ _ _ h => h) (Or.inl ⟨by rfl,?_⟩) ?_ ?_;rotate_left
      ·intro w';go_simp;with_reducible rfl
      rotate_left
      ·simp only [Act.put,U,O,I,i64_w,i32_w];rfl
      refine pure_ (i:=2) (N:=some 42) (v:=?_) (a':=?_) #[true,false,true,false,false,false,false,false,false] rfl rfl (any_of HT_.out (by kernel_rfl)) (fun _ _ _ h => h) (Or.inl ⟨by rfl,?_⟩) ?_ ?_;rotate_left
      ·intro w';go_simp;with_reducible rfl
      rotate_left
      ·simp only [Act.put,U,O,I,i64_w,i32_w];rfl
      refine pure_ (i:=3) (N:=some 43) (v:=?_) (a':=?_) #[true,false,true,true,false,false,false,false,false] rfl rfl (any_of HT_.out (by kernel_rfl)) (fun _ _ _ h => h) (Or.inl ⟨by rfl,?_⟩) ?_ ?_;rotate_left
      ·intro w';go_simp;with_reducible rfl
      rotate_left
      ·simp only [Act.put,U,O,I,i64_w,i32_w];rfl
      refine pure_ (i:=4) (N:=some 44) (v:=?_) (a':=?_) #[true,false,true,true,true,false,false,false,false] rfl rfl (any_of HT_.out (by kernel_rfl)) (fun _ _ _ h => h) (Or.inl ⟨by rfl,?_⟩) ?_ ?_;rotate_left
      ·intro w';go_simp;with_reducible rfl
      rotate_left
      ·simp only [Act.put,U,O,I,i64_w,i32_w];rfl
      refine take_ (i:=1) (N:=some 41) (v:=?_) (a':=?_) #[true,true,true,true,true,false,false,false,false] rfl rfl (take_ofW HT_.out HW_.out (by kernel_rfl)) (fun _ _ _ h => h) (Or.inl ⟨by rfl,?_⟩) hHeld ?_ ?_;rotate_left
      ·rintro w' ⟨s0,s1,s2,s3⟩;go_simp;with_reducible rfl
      rotate_left
      ·simp only [Act.put,U,O,I,i64_w,i32_w];rfl
      refine take_ (i:=5) (N:=some 45) (v:=?_) (a':=?_) #[true,true,true,true,true,true,false,false,false] rfl rfl (take_ofW HT_.out HW_.out (by kernel_rfl)) (fun _ _ _ h => h) (Or.inl ⟨by rfl,?_⟩) hHeld ?_ ?_;rotate_left
      ·rintro w' ⟨s0,s1,s2,s3⟩;go_simp;with_reducible rfl
      rotate_left
      ·simp only [Act.put,U,O,I,i64_w,i32_w];rfl
      refine one_ (i:=6) (N:=some 46) #[true,true,true,true,true,true,true,false,false] rfl rfl (one_of HT_.out (by kernel_rfl)) (by decide) (fun K hK => ?_);refine goes_ Try.func19 (by kernel_rfl) rfl #[.agg #[.slice Ao8 t219.length co8,.int .i64 t222,.int .i64 t223],.slice A231_0 (rd_L2 t224 x7_2).length c231_0] (by rfl) rfl rfl (by (try simp only [List.map_toArray,List.map_cons,List.map_nil]); first | done | rfl | (simp only [List.length_drop,List.length_take]; rfl)) ?_;with_reducible refine (impl_FareDay.calls k2 _ _ t219 t222 t223 _ _ (rd_L2 t224 x7_2) t232 _ ?side1 ?side2 ?side3 ?side4 A24.out).mono ?_
      (case side1 => repeat (first | exact (Kd.Q_reads' HO_228000.out).2.2 | (with_reducible refine Kd.C_alloc ?_ _) | (with_reducible refine Kd.C_drewN ?_ _) | (with_reducible refine Kd.C_drew ?_)))
      (case side2 => exact (Kd.Q_reads' HO_228000.out).2.1)
      (case side3 => repeat (first | exact (by repeat (first | (with_reducible exact HR231_0.out) | (with_reducible refine Kd.C_alloc ?_ _) | (with_reducible refine Kd.C_drewN ?_ _) | (with_reducible refine Kd.C_drew ?_) | exact HR231_0.out)) | (with_reducible refine Kd.C_alloc ?_ _) | (with_reducible refine Kd.C_drewN ?_ _) | (with_reducible refine Kd.C_drew ?_)))
      (case side4 => exact HC231_0.out)
      rintro e w26 ⟨rfl,hb⟩;have HS3_:=(hb.cell (World.block_lt_of_cell? _ _ (hHeld.2.2.2))).trans (hHeld.2.2.2);refine ⟨_,rfl,?_⟩;have n0_:=G (Kd.S_below (by (with_reducible repeat (first | apply Kd.S_alloc | apply Kd.S_drewN | apply Kd.S_drew)); exact HO_4.out) hb);have n1_:=G (Kd.Q_below (by (with_reducible repeat (first | apply Kd.Q_alloc | apply Kd.Q_drewN | apply Kd.Q_drew)); exact HO_228000.out) hb);have n2_:=G (Kd.R_below (by (with_reducible repeat (first | apply Kd.R_alloc | apply Kd.R_drewN | apply Kd.R_drew)); exact HL231_0.out) hb);have n3_:=G (blk_below (g:=gb227) (o:=.cells #[.slice Ao8 t219.length co8,.int .i64 t222,.int .i64 t223] 25 (0,0)) (by (with_reducible repeat (first | refine blk_drewN ?_ _ | refine blk_drew ?_ | refine blk_alloc ?_ _)); exact BK227.out) hb);have n4_:=G (Kd.C_below (by repeat (first | (with_reducible exact HR231_0.out) | (with_reducible refine Kd.C_alloc ?_ _) | (with_reducible refine Kd.C_drewN ?_ _) | (with_reducible refine Kd.C_drew ?_) | exact HR231_0.out)) hb);have n5_:=G (below_step (by repeat (first | (with_reducible first | exact HB.out | apply below_alloc | apply pw_below_drewN | apply below_drew1 | refine below_set ?_ GE227.out) | exact HB.out)) hb);clear HO_4;clear HO_228000;clear HL231_0;clear BK227;clear HR231_0;clear HB;have HO_4:=n0_;have HO_228000:=n1_;have HL231_0:=n2_;have BK227:=n3_;have HR231_0:=n4_;have HB:=n5_;clear n0_ n1_ n2_ n3_ n4_ n5_
      (try clear hb)
      (try clear hb2)
      (try clear hk)
      (try clear hi)
      refine hK.out _ _ ⟨(blk_cell BK227.out 0).trans rfl,(blk_cell BK227.out 1).trans rfl,(blk_cell BK227.out 2).trans rfl,HS3_⟩ (fun hHeld => ?_);clear hK K;refine norm_ (a':=?_) ?_ ?_;rotate_left
      ·show Act.put _ (some 46) _ = _
       simp only [Act.put,U,O,I,i64_w,i32_w];rfl
      refine pure_ (i:=7) (N:=some 47) (v:=?_) (a':=?_) #[true,true,true,true,true,true,true,true,false] rfl rfl (any_of HT_.out (by kernel_rfl)) (fun _ _ _ h => h) (Or.inl ⟨by rfl,?_⟩) ?_ ?_;rotate_left
      ·intro w';go_simp;with_reducible rfl
      rotate_left
      ·simp only [Act.put,U,O,I,i64_w,i32_w];rfl
      refine pure_ (i:=8) (N:=some 6) (v:=?_) (a':=?_) #[true,true,true,true,true,true,true,true,true] rfl rfl (any_of HT_.out (by kernel_rfl)) (fun _ _ _ h => h) (Or.inl ⟨by rfl,?_⟩) ?_ ?_;rotate_left
      ·intro w';go_simp;with_reducible rfl
      rotate_left
      ·simp only [Act.put,U,O,I,i64_w,i32_w];rfl
      refine done_ (done_of HT_.out (by kernel_rfl)) ?_
      try go_wp2
      go_roundg k2
      case measure => have:=HJ4.out; have:=HK2.out; omega
      case rel => exact ⟨(wrap64 (x6_2 + t232)),(wrap64 (x7_2 + 1)),(by first | rfl | (simp; done) | (simp [*]; done)),(by first | rfl | (simp; done) | (simp [*]; done)),H',⟨by have:=HJ4.out; have:=HK2.out; omega⟩,⟨by (with_reducible repeat (first | apply Kd.S_alloc | apply Kd.S_drewN | apply Kd.S_drew)); exact HO_4.out⟩,⟨by (with_reducible repeat (first | apply Kd.Q_alloc | apply Kd.Q_drewN | apply Kd.Q_drew)); exact HO_228000.out⟩,⟨by (with_reducible repeat (first | refine blk_drewN ?_ _ | refine blk_drew ?_ | refine blk_alloc ?_ _)); exact BK227.out⟩,⟨by repeat (first | (with_reducible first | exact HB.out | apply below_alloc | apply pw_below_drewN | apply below_drew1 | refine below_set ?_ GE227.out) | exact HB.out)⟩⟩
     rw [if_neg c22] at H;have c22b0 : decide (x7_2 < (t224.length : Int)) = false:=decide_eq_false c22;clear c22;have HC27:=G H;clear H;go_upto_region 12 with (fail)
     go_cut [62] (fun v62 wc => ∃ (kq : Nat) (x62_26 : Bool),v62 = .bool x62_26 ∧ Aside0 (laws_FnFareWeek.j2 kq t224 t228 x6_2 x62_26 t219 t222 t223 = some r) ∧ Aside0 (kq ≤ k2) ∧ Aside0 (Kd.S (Kd.slice 3 (Kd.int .i64)) 23 wc w.heap.size (fun k_ => some k_ ≠ ((.slice Ao8 t219.length co8) : Value).ownBlock) (.slice Ao10 t224.length co10) t224) ∧ Aside0 (Kd.Q (Kd.int .i64) 3 wc w.heap.size (fun _ => True) (.slice Ao8 t219.length co8) t219) ∧ Aside0 (wc.heap[gb227]? = some (.cells #[(.slice Ao8 t219.length co8),.int .i64 t222,.int .i64 t223] 25 (0,0))) ∧ Aside0 (Below w.heap.size w wc))
     case first =>
      have H:=HC27.out;clear HC27
      by_cases c28 : (t224.length : Int) > 1
      case neg =>
       rw [if_neg c28] at H;have c28b0 : decide (1 < (t224.length : Int)) = false:=decide_eq_false c28;have c28b1 : decide (1 < t224.length) = false:=decide_eq_false (by omega);clear c28
       (first | rw [c28b0] | (simp only [i64_w,i32_w]; rw [c28b0]) | skip)
       have H':=G H;clear H
       try go_wp2
       have n0_:=G (Kd.S_drew HO_4.out);have n1_:=G (Kd.Q_drew HO_228000.out);have n2_:=G (blk_drew BK227.out);have n3_:=G (below_drew1 HB.out);clear HO_4;clear HO_228000;clear BK227;clear HB;have HO_4:=n0_;have HO_228000:=n1_;have BK227:=n2_;have HB:=n3_;clear n0_ n1_ n2_ n3_;refine start_ (n:=15) (S:=fun w' => True) (ds:=[]) #[false,false,false,false,false,false,false,false,false,false,false,false,false,false,false] (by kernel_rfl) rfl rfl trivial (fun hHeld => ?_); refine with_tabW laws_FnFareWeek.tab12 laws_FnFareWeek.bits12 (fun HT_ HW_ => ?_);generalize wr.drew = w32 at HO_4 HO_228000 BK227 HB hHeld ⊢;refine pure_ (i:=0) (N:=some 48) (v:=?_) (a':=?_) #[true,false,false,false,false,false,false,false,false,false,false,false,false,false,false] rfl rfl (any_of HT_.out (by kernel_rfl)) (fun _ _ _ h => h) (Or.inl ⟨by rfl,?_⟩) ?_ ?_;rotate_left
       ·intro w';go_simp;with_reducible rfl
       rotate_left
       ·simp only [Act.put,U,O,I,i64_w,i32_w];rfl
       refine pure_ (i:=1) (N:=some 49) (v:=?_) (a':=?_) #[true,true,false,false,false,false,false,false,false,false,false,false,false,false,false] rfl rfl (any_of HT_.out (by kernel_rfl)) (fun _ _ _ h => h) (Or.inl ⟨by rfl,?_⟩) ?_ ?_;rotate_left
       ·intro w';go_simp;with_reducible rfl
       rotate_left
       ·simp only [Act.put,U,O,I,i64_w,i32_w];rfl
       refine pure_ (i:=2) (N:=some 50) (v:=?_) (a':=?_) #[true,true,true,false,false,false,false,false,false,false,false,false,false,false,false] rfl rfl (any_of HT_.out (by kernel_rfl)) (fun _ _ _ h => h) (Or.inl ⟨by rfl,?_⟩) ?_ ?_;rotate_left
       ·intro w';go_simp;with_reducible rfl
       rotate_left
       ·simp only [Act.put,U,O,I,i64_w,i32_w];rfl
       refine pure_ (i:=3) (N:=some 51) (v:=?_) (a':=?_) #[true,true,true,true,false,false,false,false,false,false,false,false,false,false,false] rfl rfl (any_of HT_.out (by kernel_rfl)) (fun _ _ _ h => h) (Or.inl ⟨by rfl,?_⟩) ?_ ?_;rotate_left
       ·intro w';go_simp;with_reducible rfl
       rotate_left
       ·simp only [Act.put,U,O,I,i64_w,i32_w];rfl
       refine pure_ (i:=4) (N:=some 52) (v:=undef) (a':=?_) #[true,true,true,true,true,false,false,false,false,false,false,false,false,false,false] rfl rfl (any_of HT_.out (by kernel_rfl)) (fun _ _ _ h => h) (Or.inr ⟨by rfl,rfl⟩) ?_ ?_;rotate_left
       ·simp only [Act.put,U,O,I,i64_w,i32_w];rfl
       refine pure_ (i:=5) (N:=some 53) (v:=undef) (a':=?_) #[true,true,true,true,true,true,false,false,false,false,false,false,false,false,false] rfl rfl (any_of HT_.out (by kernel_rfl)) (fun _ _ _ h => h) (Or.inr ⟨by rfl,rfl⟩) ?_ ?_;rotate_left
       ·simp only [Act.put,U,O,I,i64_w,i32_w];rfl
       refine pure_ (i:=6) (N:=some 54) (v:=undef) (a':=?_) #[true,true,true,true,true,true,true,false,false,false,false,false,false,false,false] rfl rfl (any_of HT_.out (by kernel_rfl)) (fun _ _ _ h => h) (Or.inr ⟨by rfl,rfl⟩) ?_ ?_;rotate_left
       ·simp only [Act.put,U,O,I,i64_w,i32_w];rfl
       refine pure_ (i:=7) (N:=some 55) (v:=undef) (a':=?_) #[true,true,true,true,true,true,true,true,false,false,false,false,false,false,false] rfl rfl (any_of HT_.out (by kernel_rfl)) (fun _ _ _ h => h) (Or.inr ⟨by rfl,rfl⟩) ?_ ?_;rotate_left
       ·simp only [Act.put,U,O,I,i64_w,i32_w];rfl
       refine pure_ (i:=8) (N:=some 56) (v:=undef) (a':=?_) #[true,true,true,true,true,true,true,true,true,false,false,false,false,false,false] rfl rfl (any_of HT_.out (by kernel_rfl)) (fun _ _ _ h => h) (Or.inr ⟨by rfl,rfl⟩) ?_ ?_;rotate_left
       ·simp only [Act.put,U,O,I,i64_w,i32_w];rfl
       refine pure_ (i:=9) (N:=some 57) (v:=undef) (a':=?_) #[true,true,true,true,true,true,true,true,true,true,false,false,false,false,false] rfl rfl (any_of HT_.out (by kernel_rfl)) (fun _ _ _ h => h) (Or.inr ⟨by rfl,rfl⟩) ?_ ?_;rotate_left
       ·simp only [Act.put,U,O,I,i64_w,i32_w];rfl
       refine pure_ (i:=10) (N:=some 58) (v:=undef) (a':=?_) #[true,true,true,true,true,true,true,true,true,true,true,false,false,false,false] rfl rfl (any_of HT_.out (by kernel_rfl)) (fun _ _ _ h => h) (Or.inr ⟨by rfl,rfl⟩) ?_ ?_;rotate_left
       ·simp only [Act.put,U,O,I,i64_w,i32_w];rfl
       refine pure_ (i:=11) (N:=some 59) (v:=undef) (a':=?_) #[true,true,true,true,true,true,true,true,true,true,true,true,false,false,false] rfl rfl (any_of HT_.out (by kernel_rfl)) (fun _ _ _ h => h) (Or.inr ⟨by rfl,rfl⟩) ?_ ?_;rotate_left
       ·simp only [Act.put,U,O,I,i64_w,i32_w];rfl
       refine pure_ (i:=12) (N:=some 60) (v:=undef) (a':=?_) #[true,true,true,true,true,true,true,true,true,true,true,true,true,false,false] rfl rfl (any_of HT_.out (by kernel_rfl)) (fun _ _ _ h => h) (Or.inr ⟨by rfl,rfl⟩) ?_ ?_;rotate_left
       ·simp only [Act.put,U,O,I,i64_w,i32_w];rfl
       refine pure_ (i:=13) (N:=some 61) (v:=undef) (a':=?_) #[true,true,true,true,true,true,true,true,true,true,true,true,true,true,false] rfl rfl (any_of HT_.out (by kernel_rfl)) (fun _ _ _ h => h) (Or.inr ⟨by rfl,rfl⟩) ?_ ?_;rotate_left
       ·simp only [Act.put,U,O,I,i64_w,i32_w];rfl
       refine pure_ (i:=14) (N:=some 62) (v:=?_) (a':=?_) #[true,true,true,true,true,true,true,true,true,true,true,true,true,true,true] rfl rfl (any_of HT_.out (by kernel_rfl)) (fun _ _ _ h => h) (Or.inl ⟨by rfl,?_⟩) ?_ ?_;rotate_left
       ·intro w';go_simp;with_reducible rfl
       rotate_left
       ·simp only [Act.put,U,O,I,i64_w,i32_w];rfl
       refine done_ (done_of HT_.out (by kernel_rfl)) ?_
       try go_wp2
       go_meet
       case rel => exact ⟨_,(false),(by first | rfl | (simp; done) | (simp [*]; done)),H',⟨by have:=HJ4.out; have:=HK2.out; first | omega | exact Nat.le_refl _⟩,⟨by (with_reducible repeat (first | apply Kd.S_alloc | apply Kd.S_drewN | apply Kd.S_drew)); exact HO_4.out⟩,⟨by (with_reducible repeat (first | apply Kd.Q_alloc | apply Kd.Q_drewN | apply Kd.Q_drew)); exact HO_228000.out⟩,⟨by (with_reducible repeat (first | refine blk_drewN ?_ _ | refine blk_drew ?_ | refine blk_alloc ?_ _)); exact BK227.out⟩,⟨by repeat (first | (with_reducible first | exact HB.out | apply below_alloc | apply pw_below_drewN | apply below_drew1 | refine below_set ?_ GE227.out) | exact HB.out)⟩⟩
      rw [if_pos c28] at H;have c28b0 : decide (1 < (t224.length : Int)) = true:=decide_eq_true c28;have c28b1 : decide (1 < t224.length) = true:=decide_eq_true (by omega);clear c28
      (first | rw [c28b0] | (simp only [i64_w,i32_w]; rw [c28b0]) | skip)
      by_cases c29 : 0 < (t224.length : Int)
      case neg =>
       rw [if_neg c29] at H;exact absurd H (by simp)
      rw [if_pos c29] at H;have c29b0 : decide (0 < (t224.length : Int)) = true:=decide_eq_true c29;have c29b1 : decide (0 < t224.length) = true:=decide_eq_true (by omega);clear c29
      by_cases c30 : 1 < (t224.length : Int)
      case neg =>
       rw [if_neg c30] at H;exact absurd H (by simp)
      rw [if_pos c30] at H;have c30b0 : decide (1 < (t224.length : Int)) = true:=decide_eq_true c30;have c30b1 : decide (1 < t224.length) = true:=decide_eq_true (by omega);clear c30;have H':=G H;clear H
      try go_wp2
      have n0_:=G (Kd.S_drew HO_4.out);have n1_:=G (Kd.Q_drew HO_228000.out);have n2_:=G (blk_drew BK227.out);have n3_:=G (below_drew1 HB.out);clear HO_4;clear HO_228000;clear BK227;clear HB;have HO_4:=n0_;have HO_228000:=n1_;have BK227:=n2_;have HB:=n3_;clear n0_ n1_ n2_ n3_;have p233 : 0 ≤ (0 : Int):=(by omega)
      have q233 : 0 < (t224.length : Int):=of_decide_eq_true (by first | (with_reducible assumption) | assumption);obtain ⟨ad233,A233_0,c233_0,e233,hx233_0,hl233_0,hi233_0⟩:=at_L2 (Kd.S_reads' HO_4.out).2.2 0 p233 q233;cases e233;obtain ⟨ce233,hce233,hMe233,hcc233⟩:=Kd.S_get HO_4.out [] 0 p233 (by first | exact q233 | exact of_decide_eq_true (by first | (with_reducible assumption) | assumption) | (have e_:=(Kd.S_reads' HO_4.out).1; omega));obtain ⟨ve233_0,rfl,ge233_0⟩:=hMe233;have hv233_0:=hcc233 0 _ rfl;rw [Nat.add_zero,show ((Kd.slice 3 (Kd.int .i64))).sz = 1 from rfl,Nat.mul_one] at hv233_0;replace hv233_0:=Option.some.inj (hv233_0.symm.trans hx233_0);rw [hv233_0] at ge233_0;have HL233_0:=G (show Kd.R (Kd.int .i64) 3 _ _ _ _ (rd_L2 t224 0) from ge233_0);clear hv233_0 ge233_0;clear hcc233 hce233;have qi233 : (0 < t224.length) = True:=eq_true (by omega)
      (try rw [show ((0 : Int)).toNat = 0 from rfl] at hx233_0)
      (try rw [Addr.add_zero'] at hx233_0)
      have HR233_0:=G hi233_0;have HC233_0:=G hl233_0;clear hi233_0 hl233_0;replace p233:=eq_true p233;replace q233:=eq_true q233;have p234 : 0 ≤ (1 : Int):=(by omega)
      have q234 : 1 < (t224.length : Int):=of_decide_eq_true (by first | (with_reducible assumption) | assumption);obtain ⟨ad234,A234_0,c234_0,e234,hx234_0,hl234_0,hi234_0⟩:=at_L2 (Kd.S_reads' HO_4.out).2.2 1 p234 q234;obtain rfl : ad233 = ad234:=(by injection e234)
      obtain ⟨ce234,hce234,hMe234,hcc234⟩:=Kd.S_get HO_4.out [] 1 p234 (by first | exact q234 | exact of_decide_eq_true (by first | (with_reducible assumption) | assumption) | (have e_:=(Kd.S_reads' HO_4.out).1; omega));obtain ⟨ve234_0,rfl,ge234_0⟩:=hMe234;have hv234_0:=hcc234 0 _ rfl;rw [Nat.add_zero,show ((Kd.slice 3 (Kd.int .i64))).sz = 1 from rfl,Nat.mul_one] at hv234_0;replace hv234_0:=Option.some.inj (hv234_0.symm.trans hx234_0);rw [hv234_0] at ge234_0;have HL234_0:=G (show Kd.R (Kd.int .i64) 3 _ _ _ _ (rd_L2 t224 1) from ge234_0);clear hv234_0 ge234_0;clear hcc234 hce234
      (try simp only [show (1 : Int).toNat = 1 from rfl,Nat.reduceMul,Nat.reduceEqDiff,Go.Addr.add,↓reduceIte] at hx234_0)
      have qi234 : (1 < t224.length) = True:=eq_true (by omega)
      (try rw [show ((1 : Int)).toNat = 1 from rfl] at hx234_0)
      have HR234_0:=G hi234_0;have HC234_0:=G hl234_0;clear hi234_0 hl234_0;replace p234:=eq_true p234;replace q234:=eq_true q234;refine start_ (n:=15) (S:=fun w' => w'.cell? ad233 = some (.slice A233_0 (rd_L2 t224 0).length c233_0) ∧ w'.cell? ⟨ad233.block,ad233.off + 1,none⟩ = some (.slice A234_0 (rd_L2 t224 1).length c234_0)) (ds:=[]) #[false,false,false,false,false,false,false,false,false,false,false,false,false,false,false] (by kernel_rfl) rfl rfl ⟨hx233_0,hx234_0⟩ (fun hHeld => ?_); refine with_tabW laws_FnFareWeek.tab12 laws_FnFareWeek.bits12 (fun HT_ HW_ => ?_);generalize wr.drew = w31 at HO_4 HO_228000 BK227 HB HL233_0 HL234_0 HR233_0 HR234_0 hx233_0 hx234_0 hHeld ⊢;refine pure_ (i:=0) (N:=some 48) (v:=?_) (a':=?_) #[true,false,false,false,false,false,false,false,false,false,false,false,false,false,false] rfl rfl (any_of HT_.out (by kernel_rfl)) (fun _ _ _ h => h) (Or.inl ⟨by rfl,?_⟩) ?_ ?_;rotate_left
      ·intro w';go_simp;with_reducible rfl
      rotate_left
      ·simp only [Act.put,U,O,I,i64_w,i32_w];rfl
      refine pure_ (i:=1) (N:=some 49) (v:=?_) (a':=?_) #[true,true,false,false,false,false,false,false,false,false,false,false,false,false,false] rfl rfl (any_of HT_.out (by kernel_rfl)) (fun _ _ _ h => h) (Or.inl ⟨by rfl,?_⟩) ?_ ?_;rotate_left
      ·intro w';go_simp;with_reducible rfl
      rotate_left
      ·simp only [Act.put,U,O,I,i64_w,i32_w];rfl
      refine pure_ (i:=2) (N:=some 50) (v:=?_) (a':=?_) #[true,true,true,false,false,false,false,false,false,false,false,false,false,false,false] rfl rfl (any_of HT_.out (by kernel_rfl)) (fun _ _ _ h => h) (Or.inl ⟨by rfl,?_⟩) ?_ ?_;rotate_left
      ·intro w';go_simp;with_reducible rfl
      rotate_left
      ·simp only [Act.put,U,O,I,i64_w,i32_w];rfl
      refine pure_ (i:=3) (N:=some 51) (v:=?_) (a':=?_) #[true,true,true,true,false,false,false,false,false,false,false,false,false,false,false] rfl rfl (any_of HT_.out (by kernel_rfl)) (fun _ _ _ h => h) (Or.inl ⟨by rfl,?_⟩) ?_ ?_;rotate_left
      ·intro w';go_simp;with_reducible rfl
      rotate_left
      ·simp only [Act.put,U,O,I,i64_w,i32_w];rfl
      refine pure_ (i:=4) (N:=some 52) (v:=?_) (a':=?_) #[true,true,true,true,true,false,false,false,false,false,false,false,false,false,false] rfl rfl (any_of HT_.out (by kernel_rfl)) (fun _ _ _ h => h) (Or.inl ⟨by rfl,?_⟩) ?_ ?_;rotate_left
      ·intro w';go_simp;with_reducible rfl
      rotate_left
      ·simp only [Act.put,U,O,I,i64_w,i32_w];rfl
      refine pure_ (i:=5) (N:=some 53) (v:=?_) (a':=?_) #[true,true,true,true,true,true,false,false,false,false,false,false,false,false,false] rfl rfl (any_of HT_.out (by kernel_rfl)) (fun _ _ _ h => h) (Or.inl ⟨by rfl,?_⟩) ?_ ?_;rotate_left
      ·intro w';go_simp;with_reducible rfl
      rotate_left
      ·simp only [Act.put,U,O,I,i64_w,i32_w];rfl
      refine pure_ (i:=8) (N:=some 56) (v:=?_) (a':=?_) #[true,true,true,true,true,true,false,false,true,false,false,false,false,false,false] rfl rfl (any_of HT_.out (by kernel_rfl)) (fun _ _ _ h => h) (Or.inl ⟨by rfl,?_⟩) ?_ ?_;rotate_left
      ·intro w';go_simp;with_reducible rfl
      rotate_left
      ·simp only [Act.put,U,O,I,i64_w,i32_w];rfl
      refine pure_ (i:=9) (N:=some 57) (v:=?_) (a':=?_) #[true,true,true,true,true,true,false,false,true,true,false,false,false,false,false] rfl rfl (any_of HT_.out (by kernel_rfl)) (fun _ _ _ h => h) (Or.inl ⟨by rfl,?_⟩) ?_ ?_;rotate_left
      ·intro w';go_simp;with_reducible rfl
      rotate_left
      ·simp only [Act.put,U,O,I,i64_w,i32_w];rfl
      refine take_ (i:=6) (N:=some 54) (v:=?_) (a':=?_) #[true,true,true,true,true,true,true,false,true,true,false,false,false,false,false] rfl rfl (take_ofW HT_.out HW_.out (by kernel_rfl)) (fun _ _ _ h => h) (Or.inl ⟨by rfl,?_⟩) hHeld ?_ ?_;rotate_left
      ·rintro w' ⟨s0,s1⟩;go_simp;with_reducible rfl
      rotate_left
      ·simp only [Act.put,U,O,I,i64_w,i32_w];rfl
      refine pure_ (i:=7) (N:=some 55) (v:=?_) (a':=?_) #[true,true,true,true,true,true,true,true,true,true,false,false,false,false,false] rfl rfl (any_of HT_.out (by kernel_rfl)) (fun _ _ _ h => h) (Or.inl ⟨by rfl,?_⟩) ?_ ?_;rotate_left
      ·intro w';go_simp;with_reducible rfl
      rotate_left
      ·simp only [Act.put,U,O,I,i64_w,i32_w];rfl
      refine take_ (i:=10) (N:=some 58) (v:=?_) (a':=?_) #[true,true,true,true,true,true,true,true,true,true,true,false,false,false,false] rfl rfl (take_ofW HT_.out HW_.out (by kernel_rfl)) (fun _ _ _ h => h) (Or.inl ⟨by rfl,?_⟩) hHeld ?_ ?_;rotate_left
      ·rintro w' ⟨s0,s1⟩;go_simp;with_reducible rfl
      rotate_left
      ·simp only [Act.put,U,O,I,i64_w,i32_w];rfl
      refine pure_ (i:=11) (N:=some 59) (v:=?_) (a':=?_) #[true,true,true,true,true,true,true,true,true,true,true,true,false,false,false] rfl rfl (any_of HT_.out (by kernel_rfl)) (fun _ _ _ h => h) (Or.inl ⟨by rfl,?_⟩) ?_ ?_;rotate_left
      ·intro w';go_simp;with_reducible rfl
      rotate_left
      ·simp only [Act.put,U,O,I,i64_w,i32_w];rfl
      refine pure_ (i:=12) (N:=some 60) (v:=?_) (a':=?_) #[true,true,true,true,true,true,true,true,true,true,true,true,true,false,false] rfl rfl (any_of HT_.out (by kernel_rfl)) (fun _ _ _ h => h) (Or.inl ⟨by rfl,?_⟩) ?_ ?_;rotate_left
      ·intro w';go_simp;with_reducible rfl
      rotate_left
      ·simp only [Act.put,U,O,I,i64_w,i32_w];rfl
      refine pure_ (i:=13) (N:=some 61) (v:=?_) (a':=?_) #[true,true,true,true,true,true,true,true,true,true,true,true,true,true,false] rfl rfl (any_of HT_.out (by kernel_rfl)) (fun _ _ _ h => h) (Or.inl ⟨by rfl,?_⟩) ?_ ?_;rotate_left
      ·intro w';go_simp;with_reducible rfl
      rotate_left
      ·simp only [Act.put,U,O,I,i64_w,i32_w];rfl
      refine pure_ (i:=14) (N:=some 62) (v:=?_) (a':=?_) #[true,true,true,true,true,true,true,true,true,true,true,true,true,true,true] rfl rfl (any_of HT_.out (by kernel_rfl)) (fun _ _ _ h => h) (Or.inl ⟨by rfl,?_⟩) ?_ ?_;rotate_left
      ·intro w';go_simp;with_reducible rfl
      rotate_left
      ·simp only [Act.put,U,O,I,i64_w,i32_w];rfl
      refine done_ (done_of HT_.out (by kernel_rfl)) ?_
      try go_wp2
      go_meet
      case rel => exact ⟨_,(decide ((wrap64 (((rd_L2 t224 0).length : Int) + ((rd_L2 t224 1).length : Int))) ≤ 10)),(by first | rfl | (simp; done) | (simp [*]; done)),H',⟨by have:=HJ4.out; have:=HK2.out; first | omega | exact Nat.le_refl _⟩,⟨by (with_reducible repeat (first | apply Kd.S_alloc | apply Kd.S_drewN | apply Kd.S_drew)); exact HO_4.out⟩,⟨by (with_reducible repeat (first | apply Kd.Q_alloc | apply Kd.Q_drewN | apply Kd.Q_drew)); exact HO_228000.out⟩,⟨by (with_reducible repeat (first | refine blk_drewN ?_ _ | refine blk_drew ?_ | refine blk_alloc ?_ _)); exact BK227.out⟩,⟨by repeat (first | (with_reducible first | exact HB.out | apply below_alloc | apply pw_below_drewN | apply below_drew1 | refine below_set ?_ GE227.out) | exact HB.out)⟩⟩
     case rest =>
      clear HC27
      try clear c1
      try clear c2
      try clear c2b0
      try clear c2b1
      try clear p2
      try clear q2
      try clear hx2
      try clear qi2
      try clear c3
      try clear p6
      try clear c13
      try clear c13b0
      try clear c13b1
      try clear c16
      try clear c17
      try clear c18
      try clear c19
      try clear c22
      try clear c22b0
      try clear c23
      try clear c23b0
      try clear p23
      try clear q23
      try clear hx23
      try clear qi23
      try clear c28
      try clear c28b0
      try clear c28b1
      try clear c29
      try clear c29b0
      try clear c29b1
      try clear c30
      try clear c30b0
      try clear c30b1
      try clear hcz14_0
      try clear hcz14_1
      try clear hcz14_2
      try clear hcz16_0
      try clear hcz16_1
      try clear hcz16_2
      try clear hcz20_0
      try clear hcz20_1
      try clear hcz20_2
      try clear hcz9_0
      try clear hcz9_1
      try clear hcz9_2
      try clear hfz14_0
      try clear hfz14_1
      try clear hfz14_2
      try clear hfz16_0
      try clear hfz16_1
      try clear hfz16_2
      try clear hfz20_0
      try clear hfz20_1
      try clear hfz20_2
      try clear hfz9_0
      try clear hfz9_1
      try clear hfz9_2
      try clear hx231_0
      try clear hx233_0
      try clear hx234_0
      try clear p2
      try clear p231
      try clear p233
      try clear p234
      try clear q231
      try clear q233
      try clear q234
      obtain ⟨kq,x62_26,rfl,HA,HJ26,HO_4,HO_228000,BK227,HB⟩:=hcut;cases kq with
      | zero => exact absurd HA.out (by simp [laws_FnFareWeek.j2])
      | succ kj26 =>
       have H:=HA.out;clear HA;simp only [laws_FnFareWeek.j2] at H
       by_cases c33 : x62_26 = true
       case neg =>
        replace c33:=Bool.eq_false_iff.mpr c33;subst c33;have H1 : (if t228 ≤ t223 then (if t228 = x6_2 then (some true) else (if t228 = t223 then (some (decide (x6_2 > t228))) else (some false))) else (some false)) = some r:=by rw [if_neg (show ¬ (false = true) by decide)] at H; exact H
        clear H;have H:=H1;clear H1
        by_cases c53 : t228 ≤ t223
        case neg =>
         rw [if_neg c53] at H;have c53b0 : decide (t228 ≤ t223) = false:=decide_eq_false c53;clear c53;obtain rfl:=Option.some.inj H;have hcz59_0 : wc.cell? ⟨gb227,0,none⟩ = some (.slice Ao8 t219.length co8):=(blk_cell BK227.out 0).trans rfl;have hcz59_1 : wc.cell? ⟨gb227,1,none⟩ = some (.int .i64 t222):=(blk_cell BK227.out 1).trans rfl;have hcz59_2 : wc.cell? ⟨gb227,2,none⟩ = some (.int .i64 t223):=(blk_cell BK227.out 2).trans rfl;have hfz59_0:=blk_frozen BK227.out 0;have hfz59_1:=blk_frozen BK227.out 1;have hfz59_2:=blk_frozen BK227.out 2
         go_wp2
         go_ret;exact ⟨by first | rfl | (simp [errW_none,errW_some] <;> rfl) | (simp [*,errW_none,errW_some] <;> rfl),by repeat (first | (with_reducible first | exact HB.out | apply below_alloc | apply pw_below_drewN | apply below_drew1 | refine below_set ?_ GE227.out) | exact HB.out)⟩
        rw [if_pos c53] at H;have c53b0 : decide (t228 ≤ t223) = true:=decide_eq_true c53;clear c53
        by_cases c54 : t228 = x6_2
        case pos =>
         rw [if_pos c54] at H;have c54b0 : (t228 == x6_2) = true:=beq_iff_eq.mpr c54;have c54b1 : (t228 != x6_2) = false:=bne_eq_false_iff_eq.mpr c54;clear c54;obtain rfl:=Option.some.inj H;have hcz55_0 : wc.cell? ⟨gb227,0,none⟩ = some (.slice Ao8 t219.length co8):=(blk_cell BK227.out 0).trans rfl;have hcz55_1 : wc.cell? ⟨gb227,1,none⟩ = some (.int .i64 t222):=(blk_cell BK227.out 1).trans rfl;have hcz55_2 : wc.cell? ⟨gb227,2,none⟩ = some (.int .i64 t223):=(blk_cell BK227.out 2).trans rfl;have hfz55_0:=blk_frozen BK227.out 0;have hfz55_1:=blk_frozen BK227.out 1;have hfz55_2:=blk_frozen BK227.out 2
         go_wp2
         go_ret;exact ⟨by first | rfl | (simp [errW_none,errW_some] <;> rfl) | (simp [*,errW_none,errW_some] <;> rfl),by repeat (first | (with_reducible first | exact HB.out | apply below_alloc | apply pw_below_drewN | apply below_drew1 | refine below_set ?_ GE227.out) | exact HB.out)⟩
        rw [if_neg c54] at H;have c54b0 : (t228 == x6_2) = false:=beq_eq_false_iff_ne.mpr c54;have c54b1 : (t228 != x6_2) = true:=bne_iff_ne.mpr c54
        by_cases c56 : t228 = t223
        case neg =>
         rw [if_neg c56] at H;have c56b0 : (t228 == t223) = false:=beq_eq_false_iff_ne.mpr c56;have c56b1 : (t228 != t223) = true:=bne_iff_ne.mpr c56;obtain rfl:=Option.some.inj H;have hcz58_0 : wc.cell? ⟨gb227,0,none⟩ = some (.slice Ao8 t219.length co8):=(blk_cell BK227.out 0).trans rfl;have hcz58_1 : wc.cell? ⟨gb227,1,none⟩ = some (.int .i64 t222):=(blk_cell BK227.out 1).trans rfl;have hcz58_2 : wc.cell? ⟨gb227,2,none⟩ = some (.int .i64 t223):=(blk_cell BK227.out 2).trans rfl;have hfz58_0:=blk_frozen BK227.out 0;have hfz58_1:=blk_frozen BK227.out 1;have hfz58_2:=blk_frozen BK227.out 2
         go_wp2
         go_ret;exact ⟨by first | rfl | (simp [errW_none,errW_some] <;> rfl) | (simp [*,errW_none,errW_some] <;> rfl),by repeat (first | (with_reducible first | exact HB.out | apply below_alloc | apply pw_below_drewN | apply below_drew1 | refine below_set ?_ GE227.out) | exact HB.out)⟩
        rw [if_pos c56] at H;have c56b0 : (t228 == t223) = true:=beq_iff_eq.mpr c56;have c56b1 : (t228 != t223) = false:=bne_eq_false_iff_eq.mpr c56;clear c56;obtain rfl:=Option.some.inj H;have hcz57_0 : wc.cell? ⟨gb227,0,none⟩ = some (.slice Ao8 t219.length co8):=(blk_cell BK227.out 0).trans rfl;have hcz57_1 : wc.cell? ⟨gb227,1,none⟩ = some (.int .i64 t222):=(blk_cell BK227.out 1).trans rfl;have hcz57_2 : wc.cell? ⟨gb227,2,none⟩ = some (.int .i64 t223):=(blk_cell BK227.out 2).trans rfl;have hfz57_0:=blk_frozen BK227.out 0;have hfz57_1:=blk_frozen BK227.out 1;have hfz57_2:=blk_frozen BK227.out 2
        go_wp2
        go_ret;exact ⟨by first | rfl | (simp [errW_none,errW_some] <;> rfl) | (simp [*,errW_none,errW_some] <;> rfl),by repeat (first | (with_reducible first | exact HB.out | apply below_alloc | apply pw_below_drewN | apply below_drew1 | refine below_set ?_ GE227.out) | exact HB.out)⟩
       subst c33;have H1 : (if 2 ≤ t224.length ∧ (rd_L2 t224 0).length + (rd_L2 t224 1).length ≤ 100000 ∧ t224.length ≤ 100000 then ((impl_FareWeek.f kj26 t219 t222 t223 (weekOne t224)).bind fun t235 => (if t235 > t228 then (some false) else (if t228 ≤ t223 then (if t228 = x6_2 then (some true) else (if t228 = t223 then (some (decide (x6_2 > t228))) else (some false))) else (some false)))) else none) = some r:=by rw [if_pos rfl] at H; exact H
       have hlen2 : 2 ≤ t224.length ∧ (rd_L2 t224 0).length + (rd_L2 t224 1).length ≤ 100000 ∧ t224.length ≤ 100000:=by
        by_cases h_ : 2 ≤ t224.length ∧ (rd_L2 t224 0).length + (rd_L2 t224 1).length ≤ 100000 ∧ t224.length ≤ 100000
        case pos => exact h_
        rw [if_neg h_] at H1; cases H1
       rw [if_pos hlen2] at H1;clear H;have H:=H1;clear H1;have hl2:=hlen2.1;obtain ⟨adw,Aw0,cw0,ew,hxw0,hlw0,hiw0⟩:=at_L2 (Kd.S_reads' HO_4.out).2.2 0 (by omega) (by omega);cases ew;obtain ⟨adw2,Aw1,cw1,ew,hxw1,hlw1,hiw1⟩:=at_L2 (Kd.S_reads' HO_4.out).2.2 1 (by omega) (by omega);obtain rfl : adw = adw2:=(by injection ew)
       clear ew;rw [show ((0 : Int)).toNat = 0 from rfl,Addr.add_zero'] at hxw0;simp only [show (1 : Int).toNat = 1 from rfl,Nat.reduceMul,Nat.reduceEqDiff,Go.Addr.add,↓reduceIte] at hxw1;obtain ⟨vs,hvl,hvs⟩:=week_vals (Kd.S_reads' HO_4.out).2.2 2 (by omega);obtain ⟨iw0,hiw,hzw,hsw,hbw⟩:=info_parts (P:=Try.prog) (e:=23) (z:=(.slice none 0 0)) (size:=1) (bytes:=24) (by kernel_rfl);obtain ⟨Acut,hAcut⟩ : ∃ Acut : Option Addr,Acut = (if co10 = (2 : Int).toNat then some adw else (some adw).map (·.add ((2 : Int).toNat * 1))):=⟨_,rfl⟩
       have hcutw : ∀ W : World,(Instr.slice 26 (.slice (some adw) t224.length co10) (some (.int .i64 2)) none none).run Try.prog W = .ok (.slice Acut (t224.length - 2) (co10 - 2)) W:=by
        intro W;have h:=cut_from (P:=Try.prog) 26 23 .i64 Try.underlying26 hiw 1 hsw (some adw) t224.length co10 2 (by omega) (by omega) W;rw [← hAcut] at h;exact h
       have qz0 : (0 < t224.length) = True:=eq_true (by omega);have qz1 : (1 < t224.length) = True:=eq_true (by omega);have qz2 : ((1 : Int) < (t224.length : Int)) = True:=eq_true (by omega);have qz3 : ((0 : Int) < (t224.length : Int)) = True:=eq_true (by omega);have HYW:=G hAcut;have HVL:=G hvl;have HVS:=G hvs;have HI0:=G hiw0;have HI1:=G hiw1;have HX0:=G hxw0;have HX1:=G hxw1;have HLN:=G hlen2;have HW0:=G hlw0;have HW1:=G hlw1;clear hAcut hvl hvs hiw0 hiw1 hiw hzw hsw hbw hlw0 hlw1 hl2 hlen2;have HH:=G H;clear H;go_upto_region 13 with (fail)
       refine start_ (n:=14) (S:=fun w' => w'.cell? adw = some (.slice Aw0 (rd_L2 t224 0).length cw0) ∧ w'.cell? ⟨adw.block,adw.off + 1,none⟩ = some (.slice Aw1 (rd_L2 t224 1).length cw1)) (ds:=[]) #[false,false,false,false,false,false,false,false,false,false,false,false,false,false] (by kernel_rfl) rfl rfl ⟨hxw0,hxw1⟩ (fun hHeld => ?_); refine with_tabW week_tab week_bits (fun HT_ HW_ => ?_);have BW:=G (below_drew (Below.refl wc.heap.size wc));generalize wc.drew = wd at BW hHeld ⊢;clear hxw0 hxw1;refine pure_ (i:=1) (N:=some 64) (v:=?_) (a':=?_) #[false,true,false,false,false,false,false,false,false,false,false,false,false,false] rfl rfl (any_of HT_.out (by kernel_rfl)) (fun _ _ _ h => h) (Or.inl ⟨by rfl,?_⟩) ?_ ?_;rotate_left
       ·intro w';go_simp;with_reducible rfl
       rotate_left
       ·simp only [Act.put,U,O,I,i64_w,i32_w];rfl
       refine pure_ (i:=2) (N:=some 65) (v:=?_) (a':=?_) #[false,true,true,false,false,false,false,false,false,false,false,false,false,false] rfl rfl (any_of HT_.out (by kernel_rfl)) (fun _ _ _ h => h) (Or.inl ⟨by rfl,?_⟩) ?_ ?_;rotate_left
       ·intro w';go_simp;with_reducible rfl
       rotate_left
       ·simp only [Act.put,U,O,I,i64_w,i32_w];rfl
       refine take_ (i:=3) (N:=some 66) (v:=?_) (a':=?_) #[false,true,true,true,false,false,false,false,false,false,false,false,false,false] rfl rfl (take_ofW HT_.out HW_.out (by kernel_rfl)) (fun _ _ _ h => h) (Or.inl ⟨by rfl,?_⟩) hHeld ?_ ?_;rotate_left
       ·rintro w' ⟨s0,s1⟩;go_simp;with_reducible rfl
       rotate_left
       ·simp only [Act.put,U,O,I,i64_w,i32_w];rfl
       refine pure_ (i:=5) (N:=some 68) (v:=?_) (a':=?_) #[false,true,true,true,false,true,false,false,false,false,false,false,false,false] rfl rfl (any_of HT_.out (by kernel_rfl)) (fun _ _ _ h => h) (Or.inl ⟨by rfl,?_⟩) ?_ ?_;rotate_left
       ·intro w';go_simp;with_reducible rfl
       rotate_left
       ·simp only [Act.put,U,O,I,i64_w,i32_w];rfl
       refine pure_ (i:=6) (N:=some 69) (v:=?_) (a':=?_) #[false,true,true,true,false,true,true,false,false,false,false,false,false,false] rfl rfl (any_of HT_.out (by kernel_rfl)) (fun _ _ _ h => h) (Or.inl ⟨by rfl,?_⟩) ?_ ?_;rotate_left
       ·intro w';go_simp;with_reducible rfl
       rotate_left
       ·simp only [Act.put,U,O,I,i64_w,i32_w];rfl
       refine take_ (i:=7) (N:=some 70) (v:=?_) (a':=?_) #[false,true,true,true,false,true,true,true,false,false,false,false,false,false] rfl rfl (take_ofW HT_.out HW_.out (by kernel_rfl)) (fun _ _ _ h => h) (Or.inl ⟨by rfl,?_⟩) hHeld ?_ ?_;rotate_left
       ·rintro w' ⟨s0,s1⟩;go_simp;with_reducible rfl
       rotate_left
       ·simp only [Act.put,U,O,I,i64_w,i32_w];rfl
       refine pure_ (i:=10) (N:=some 73) (v:=?_) (a':=?_) #[false,true,true,true,false,true,true,true,false,false,true,false,false,false] rfl rfl (any_of HT_.out (by kernel_rfl)) (fun _ _ _ h => h) (Or.inl ⟨by rfl,?_⟩) ?_ ?_;rotate_left
       ·intro w';go_simp;with_reducible rfl
       rotate_left
       ·simp only [Act.put,U,O,I,i64_w,i32_w];rfl
       refine pure_ (i:=11) (N:=some 74) (v:=?_) (a':=?_) #[false,true,true,true,false,true,true,true,false,false,true,true,false,false] rfl rfl (any_of HT_.out (by kernel_rfl)) (fun _ _ _ h => h) (Or.inl ⟨by rfl,?_⟩) ?_ ?_;rotate_left
       ·intro w';go_simp;with_reducible rfl
       rotate_left
       ·simp only [Act.put,U,O,I,i64_w,i32_w];rfl
       refine one_ (i:=0) (N:=some 63) #[true,true,true,true,false,true,true,true,false,false,true,true,false,false] rfl rfl (one_of HT_.out (by kernel_rfl)) (by decide) (fun K hK => ?_);refine Kd.R_lit_step (Kd.int .i64) (w0:=wc) wc.heap.size 3 ?hg (N:=63) ?hd (xs:=([] : List Int)) (inner:=[]) (ok:=fun _ => True) (okp:=fun _ => True) ?hr ?hp (fun _ hk => hk) trivial BW.out (below_size BW.out) (by simp) ?_; (case hd => rfl); (case hg => rfl); (case hr => first | (go_simp; done) | (go_simp; rfl)); (case hp => exact (Reps.none _ _));intro v63 we ho hb hg_ hn_;have R0:=G ho;have BW:=G hb;clear ho hb hg_ hn_;refine hK.out _ _ ⟨pw_cell_below BW.out HX0.out,pw_cell_below BW.out HX1.out⟩ (fun hHeld => ?_);clear hK K;refine norm_ (a':=?_) ?_ ?_;rotate_left
       ·show Act.put _ (some 63) _ = _
        simp only [Act.put,U,O,I,i64_w,i32_w];rfl
       refine one_ (i:=4) (N:=some 67) #[true,true,true,true,true,true,true,true,false,false,true,true,false,false] rfl rfl (one_of HT_.out (by kernel_rfl)) (by decide) (fun K hK => ?_);refine Kd.R_append_rows_step (Kd.int .i64) (w0:=wc) wc.heap.size (by rfl) (.tmp 63) (.tmp 66) 23 3 (.int .i64 0) 8 rfl Try.underlying23 info3 rfl (by decide) (by omega) v63 ([] : List Int) (rd_L2 t224 0) Aw0 (rd_L2 t224 0).length cw0 (fun _ => True) (fun _ => False) rfl rfl ?aO ?aR (fun _ _ h => h) (fun _ h => h.elim) (fun _ _ => trivial) ?aB ?aS ?aL ?_
       (case aO => exact R0.out)
       (case aR => exact Kd.C_below HI0.out BW.out)
       (case aB => exact BW.out)
       (case aS => exact below_size BW.out)
       (case aL => have h1:=HLN.out; (try simp only [List.length_nil]); omega)
       intro v67 wf ho hb hg_ hn_;have R1:=G ho;have BW:=G hb;clear ho hb hg_ hn_ R0;refine hK.out _ _ ⟨pw_cell_below BW.out HX0.out,pw_cell_below BW.out HX1.out⟩ (fun hHeld => ?_);clear hK K;refine norm_ (a':=?_) ?_ ?_;rotate_left
       ·show Act.put _ (some 67) _ = _
        simp only [Act.put,U,O,I,i64_w,i32_w];rfl
       rw [List.nil_append] at R1;refine one_ (i:=8) (N:=some 71) #[true,true,true,true,true,true,true,true,true,false,true,true,false,false] rfl rfl (one_of HT_.out (by kernel_rfl)) (by decide) (fun K hK => ?_);refine Kd.R_append_rows_step (Kd.int .i64) (w0:=wc) wc.heap.size (by rfl) (.tmp 67) (.tmp 70) 23 3 (.int .i64 0) 8 rfl Try.underlying23 info3 rfl (by decide) (by omega) v67 (rd_L2 t224 0) (rd_L2 t224 1) Aw1 (rd_L2 t224 1).length cw1 (fun _ => True) (fun _ => False) rfl rfl ?aO ?aR (fun _ _ h => h) (fun _ h => h.elim) (fun _ _ => trivial) ?aB ?aS ?aL ?_
       (case aO => exact R1.out)
       (case aR => exact Kd.C_below HI1.out BW.out)
       (case aB => exact BW.out)
       (case aS => exact below_size BW.out)
       (case aL => have h1:=HLN.out; (try simp only [List.length_nil]); omega)
       intro v71 wf ho hb hg_ hn_;have R2:=G ho;have BW:=G hb;clear ho hb hg_ hn_ R1;refine hK.out _ _ ⟨pw_cell_below BW.out HX0.out,pw_cell_below BW.out HX1.out⟩ (fun hHeld => ?_);clear hK K;refine norm_ (a':=?_) ?_ ?_;rotate_left
       ·show Act.put _ (some 71) _ = _
        simp only [Act.put,U,O,I,i64_w,i32_w];rfl
       obtain ⟨A71,c71,e71⟩:=Kd.R_slice R2.out;subst e71;obtain ⟨p71,hp71⟩ : ∃ p71 : VC,p71 = ⟨.slice A71 (rd_L2 t224 0 ++ rd_L2 t224 1).length c71,rfl⟩:=⟨_,rfl⟩
       refine one_ (i:=9) (N:=some 72) #[true,true,true,true,true,true,true,true,true,true,true,true,false,false] rfl rfl (one_of HT_.out (by kernel_rfl)) (by decide) (fun K hK => ?_);refine Kd.R_lit_step (Kd.scalar vcE vcE_one) (w0:=wc) wc.heap.size 23 ?hg2 (N:=72) ?hd2 (xs:=[(⟨.slice A71 (rd_L2 t224 0 ++ rd_L2 t224 1).length c71,rfl⟩ : VC)]) (inner:=[.slice A71 (rd_L2 t224 0 ++ rd_L2 t224 1).length c71]) (ok:=fun _ => True) (okp:=fun _ => True) ?hr2 ?hp2 (fun _ hk => hk) trivial BW.out (below_size BW.out) (by simp) ?_; (case hd2 => rfl); (case hg2 => rfl); (case hr2 => first | (go_simp; done) | (go_simp; rfl)); (case hp2 => exact Reps.snoc (Reps.none _ _) rfl rfl);intro v72 wg ho hb hg_ hn_;have R2:=G (show Kd.R (Kd.int .i64) 3 wg wc.heap.size (fun _ => True) (.slice A71 (rd_L2 t224 0 ++ rd_L2 t224 1).length c71) (rd_L2 t224 0 ++ rd_L2 t224 1) from Kd.R_mono (Kd.R_grown (Kd.R_mono R2.out (fun _ _ => trivial)) hg_ (fun _ _ e => by cases e)) (fun _ _ => trivial));have R3:=G ho;have BW:=G hb;clear ho hb hg_ hn_ hp71;refine hK.out _ _ ⟨pw_cell_below BW.out HX0.out,pw_cell_below BW.out HX1.out⟩ (fun hHeld => ?_);clear hK K;refine norm_ (a':=?_) ?_ ?_;rotate_left
       ·show Act.put _ (some 72) _ = _
        simp only [Act.put,U,O,I,i64_w,i32_w];rfl
       refine one_ (i:=12) (N:=some 75) #[true,true,true,true,true,true,true,true,true,true,true,true,true,false] rfl rfl (one_of HT_.out (by kernel_rfl)) (by decide) (fun K hK => ?_);refine Kd.R_append_rows_step (Kd.scalar vcE vcE_one) (Rr:=fun x cs => cs = [vcE x]) (w0:=wc) wc.heap.size (by rfl) (.tmp 72) (.tmp 74) 26 23 (.slice none 0 0) 24 rfl Try.underlying26 info23 rfl (by decide) (by omega) v72 [(⟨.slice A71 (rd_L2 t224 0 ++ rd_L2 t224 1).length c71,rfl⟩ : VC)] vs Acut (t224.length - 2) (co10 - 2) (fun _ => True) (fun _ => False) rfl rfl ?bO ?bR (fun _ _ h => h) (fun _ h => h.elim) (fun _ _ => trivial) ?bB ?bS ?bL ?_
       (case bO => exact R3.out)
       (case bR => exact week_reads HVL.out HYW.out (by have h1:=HLN.out; omega) (by have h1:=HLN.out; omega) (by have h1:=(Kd.S_reads' HO_4.out).2.1; exact h1) (fun j v hj => pw_cell_below BW.out (HVS.out j v hj).1))
       (case bB => exact BW.out)
       (case bS => exact below_size BW.out)
       (case bL => have h1:=HLN.out; (try simp only [List.length_cons,List.length_nil]); omega)
       intro v75 wh ho hb hg_ hn_;have HCC:=G (show (rd_L2 t224 0 ++ rd_L2 t224 1).length ≤ c71 from (Kd.R_reads' (Kd.R_over' R2.out (Kd.R_typed R3.out) (by decide) hg_)).2.1);have R2:=G (show Kd.C (Kd.int .i64) wh A71 (rd_L2 t224 0 ++ rd_L2 t224 1).length (rd_L2 t224 0 ++ rd_L2 t224 1) from (Kd.R_reads' (Kd.R_over' R2.out (Kd.R_typed R3.out) (by decide) hg_)).2.2);have R4:=G ho;have BW:=G hb;clear ho hb hg_ hn_ R3;refine hK.out _ _ ⟨pw_cell_below BW.out HX0.out,pw_cell_below BW.out HX1.out⟩ (fun hHeld => ?_);clear hK K;refine norm_ (a':=?_) ?_ ?_;rotate_left
       ·show Act.put _ (some 75) _ = _
        simp only [Act.put,U,O,I,i64_w,i32_w];rfl
       obtain ⟨A75,c75,e75⟩:=Kd.R_slice R4.out;subst e75;refine pure_ (i:=13) (N:=some 8) (v:=?_) (a':=?_) #[true,true,true,true,true,true,true,true,true,true,true,true,true,true] rfl rfl (any_of HT_.out (by kernel_rfl)) (fun _ _ _ h => h) (Or.inl ⟨by rfl,?_⟩) ?_ ?_;rotate_left
       ·intro w';go_simp;with_reducible rfl
       rotate_left
       ·simp only [Act.put,U,O,I,i64_w,i32_w];rfl
       refine done_ (done_of HT_.out (by kernel_rfl)) ?_;clear hHeld HT_ HW_;have HLQ : vs.length + 1 = (weekOne t224).length:=by have h1:=HVL.out; simp [weekOne,h1]
       have HRR:=(Kd.R_reads' R4.out).2;have HONE:=G (show Kd.C (Kd.slice 3 (Kd.int .i64)) wh A75 (weekOne t224).length (weekOne t224) from (congrArg (fun n_ => Kd.C (Kd.slice 3 (Kd.int .i64)) wh A75 n_ (weekOne t224)) ((show ([(⟨.slice A71 (rd_L2 t224 0 ++ rd_L2 t224 1).length c71,rfl⟩ : VC)] ++ vs).length = vs.length + 1 from rfl).trans HLQ)).mp (week_rows BW.out HRR.2 HVL.out HCC.out R2.out (fun j v hj => ⟨rfl,(HVS.out j v hj).2⟩)));have HONC:=G (show (weekOne t224).length ≤ c75 from HLQ ▸ HRR.1);rw [HLQ];have n0_:=G (Kd.S_below HO_4.out BW.out);have n1_:=G (Kd.Q_below HO_228000.out BW.out);have n2_:=G (blk_below BK227.out BW.out);have n3_:=G (below_step HB.out BW.out);clear HRR HLQ R2 R4 HCC HYW HVL HVS HI0 HI1 HX0 HX1 HW0 HW1 qz0 qz1 qz2 qz3 hcutw HO_4 HO_228000 BK227 HB;have HO_4:=n0_;have HO_228000:=n1_;have BK227:=n2_;have HB:=n3_;clear n0_ n1_ n2_ n3_;have H:=HH.out;clear HH;replace H:=Option.bind_eq_some_iff.mp H;obtain ⟨t235,A340,H⟩:=H;replace H : (if t235 > t228 then (some false) else (if t228 ≤ t223 then (if t228 = x6_2 then (some true) else (if t228 = t223 then (some (decide (x6_2 > t228))) else (some false))) else (some false))) = some r:=H;have A34:=G A340;clear A340
       by_cases c35 : t235 > t228
       case pos =>
        rw [if_pos c35] at H;have c35b0 : decide (t228 < t235) = true:=decide_eq_true c35;clear c35;obtain rfl:=Option.some.inj H;have hcz36_0 : wh.cell? ⟨gb227,0,none⟩ = some (.slice Ao8 t219.length co8):=(blk_cell BK227.out 0).trans rfl;have hcz36_1 : wh.cell? ⟨gb227,1,none⟩ = some (.int .i64 t222):=(blk_cell BK227.out 1).trans rfl;have hcz36_2 : wh.cell? ⟨gb227,2,none⟩ = some (.int .i64 t223):=(blk_cell BK227.out 2).trans rfl;have hfz36_0:=blk_frozen BK227.out 0;have hfz36_1:=blk_frozen BK227.out 1;have hfz36_2:=blk_frozen BK227.out 2
        go_wp2_with (first | ((with_reducible refine gate_callee (f:=17) rfl ?_); refine goesL_ (some 78) rfl rfl Try.func17 (by kernel_rfl) rfl #[.agg #[.slice Ao8 t219.length co8,.int .i64 t222,.int .i64 t223],.slice A75 (weekOne t224).length c75] rfl (by (try simp only [List.map_toArray,List.map_cons,List.map_nil]); first | done | rfl | (simp only [List.length_drop,List.length_take]; rfl)) ?_; (with_reducible refine (impl_FareWeek.calls kj26 _ _ t219 t222 t223 _ _ (weekOne t224) t235 _ ?side1 ?side2 ?side3 ?side4 A34.out).mono ?_); (case side1 => repeat (first | exact (Kd.Q_reads' HO_228000.out).2.2 | (with_reducible refine Kd.C_alloc ?_ _) | (with_reducible refine Kd.C_drewN ?_ _) | (with_reducible refine Kd.C_drew ?_))); (case side2 => exact (Kd.Q_reads' HO_228000.out).2.1); (case side3 => repeat (first | exact HONE.out | (with_reducible refine Kd.C_alloc ?_ _) | (with_reducible refine Kd.C_drewN ?_ _) | (with_reducible refine Kd.C_drew ?_))); (case side4 => exact HONC.out); rintro e w37 ⟨rfl,hb⟩; refine ⟨_,rfl,?_⟩; have n0_:=G (Kd.S_below (by (with_reducible repeat (first | apply Kd.S_alloc | apply Kd.S_drewN | apply Kd.S_drew)); exact HO_4.out) hb); have n1_:=G (Kd.Q_below (by (with_reducible repeat (first | apply Kd.Q_alloc | apply Kd.Q_drewN | apply Kd.Q_drew)); exact HO_228000.out) hb); have n2_:=G (blk_below (g:=gb227) (o:=.cells #[.slice Ao8 t219.length co8,.int .i64 t222,.int .i64 t223] 25 (0,0)) (by (with_reducible repeat (first | refine blk_drewN ?_ _ | refine blk_drew ?_ | refine blk_alloc ?_ _)); exact BK227.out) hb); have n3_:=G (below_step (by repeat (first | (with_reducible first | exact HB.out | apply below_alloc | apply pw_below_drewN | apply below_drew1 | refine below_set ?_ GE227.out) | exact HB.out)) hb); clear HO_4; clear HO_228000; clear BK227; clear HB; have HO_4:=n0_; have HO_228000:=n1_; have BK227:=n2_; have HB:=n3_; clear n0_ n1_ n2_ n3_; (try clear hb); (try clear hb2); (try clear hk); (try clear hi)))
        go_ret;exact ⟨by first | rfl | (simp [errW_none,errW_some] <;> rfl) | (simp [*,errW_none,errW_some] <;> rfl),by repeat (first | (with_reducible first | exact HB.out | apply below_alloc | apply pw_below_drewN | apply below_drew1 | refine below_set ?_ GE227.out) | exact HB.out)⟩
       rw [if_neg c35] at H;have c35b0 : decide (t228 < t235) = false:=decide_eq_false c35;clear c35
       by_cases c38 : t228 ≤ t223
       case neg =>
        rw [if_neg c38] at H;have c38b0 : decide (t228 ≤ t223) = false:=decide_eq_false c38;clear c38;obtain rfl:=Option.some.inj H;have hcz50_0 : wh.cell? ⟨gb227,0,none⟩ = some (.slice Ao8 t219.length co8):=(blk_cell BK227.out 0).trans rfl;have hcz50_1 : wh.cell? ⟨gb227,1,none⟩ = some (.int .i64 t222):=(blk_cell BK227.out 1).trans rfl;have hcz50_2 : wh.cell? ⟨gb227,2,none⟩ = some (.int .i64 t223):=(blk_cell BK227.out 2).trans rfl;have hfz50_0:=blk_frozen BK227.out 0;have hfz50_1:=blk_frozen BK227.out 1;have hfz50_2:=blk_frozen BK227.out 2
        go_wp2_with (first | ((with_reducible refine gate_callee (f:=17) rfl ?_); refine goesL_ (some 78) rfl rfl Try.func17 (by kernel_rfl) rfl #[.agg #[.slice Ao8 t219.length co8,.int .i64 t222,.int .i64 t223],.slice A75 (weekOne t224).length c75] rfl (by (try simp only [List.map_toArray,List.map_cons,List.map_nil]); first | done | rfl | (simp only [List.length_drop,List.length_take]; rfl)) ?_; (with_reducible refine (impl_FareWeek.calls kj26 _ _ t219 t222 t223 _ _ (weekOne t224) t235 _ ?side1 ?side2 ?side3 ?side4 A34.out).mono ?_); (case side1 => repeat (first | exact (Kd.Q_reads' HO_228000.out).2.2 | (with_reducible refine Kd.C_alloc ?_ _) | (with_reducible refine Kd.C_drewN ?_ _) | (with_reducible refine Kd.C_drew ?_))); (case side2 => exact (Kd.Q_reads' HO_228000.out).2.1); (case side3 => repeat (first | exact HONE.out | (with_reducible refine Kd.C_alloc ?_ _) | (with_reducible refine Kd.C_drewN ?_ _) | (with_reducible refine Kd.C_drew ?_))); (case side4 => exact HONC.out); rintro e w51 ⟨rfl,hb⟩; refine ⟨_,rfl,?_⟩; have n0_:=G (Kd.S_below (by (with_reducible repeat (first | apply Kd.S_alloc | apply Kd.S_drewN | apply Kd.S_drew)); exact HO_4.out) hb); have n1_:=G (Kd.Q_below (by (with_reducible repeat (first | apply Kd.Q_alloc | apply Kd.Q_drewN | apply Kd.Q_drew)); exact HO_228000.out) hb); have n2_:=G (blk_below (g:=gb227) (o:=.cells #[.slice Ao8 t219.length co8,.int .i64 t222,.int .i64 t223] 25 (0,0)) (by (with_reducible repeat (first | refine blk_drewN ?_ _ | refine blk_drew ?_ | refine blk_alloc ?_ _)); exact BK227.out) hb); have n3_:=G (below_step (by repeat (first | (with_reducible first | exact HB.out | apply below_alloc | apply pw_below_drewN | apply below_drew1 | refine below_set ?_ GE227.out) | exact HB.out)) hb); clear HO_4; clear HO_228000; clear BK227; clear HB; have HO_4:=n0_; have HO_228000:=n1_; have BK227:=n2_; have HB:=n3_; clear n0_ n1_ n2_ n3_; (try clear hb); (try clear hb2); (try clear hk); (try clear hi); have hcz52_0 : w51.cell? ⟨gb227,0,none⟩ = some (.slice Ao8 t219.length co8):=(blk_cell BK227.out 0).trans rfl; have hcz52_1 : w51.cell? ⟨gb227,1,none⟩ = some (.int .i64 t222):=(blk_cell BK227.out 1).trans rfl; have hcz52_2 : w51.cell? ⟨gb227,2,none⟩ = some (.int .i64 t223):=(blk_cell BK227.out 2).trans rfl; have hfz52_0:=blk_frozen BK227.out 0; have hfz52_1:=blk_frozen BK227.out 1; have hfz52_2:=blk_frozen BK227.out 2))
        go_ret;exact ⟨by first | rfl | (simp [errW_none,errW_some] <;> rfl) | (simp [*,errW_none,errW_some] <;> rfl),by repeat (first | (with_reducible first | exact HB.out | apply below_alloc | apply pw_below_drewN | apply below_drew1 | refine below_set ?_ GE227.out) | exact HB.out)⟩
       rw [if_pos c38] at H;have c38b0 : decide (t228 ≤ t223) = true:=decide_eq_true c38;clear c38
       by_cases c39 : t228 = x6_2
       case pos =>
        rw [if_pos c39] at H;have c39b0 : (t228 == x6_2) = true:=beq_iff_eq.mpr c39;have c39b1 : (t228 != x6_2) = false:=bne_eq_false_iff_eq.mpr c39;clear c39;obtain rfl:=Option.some.inj H;have hcz40_0 : wh.cell? ⟨gb227,0,none⟩ = some (.slice Ao8 t219.length co8):=(blk_cell BK227.out 0).trans rfl;have hcz40_1 : wh.cell? ⟨gb227,1,none⟩ = some (.int .i64 t222):=(blk_cell BK227.out 1).trans rfl;have hcz40_2 : wh.cell? ⟨gb227,2,none⟩ = some (.int .i64 t223):=(blk_cell BK227.out 2).trans rfl;have hfz40_0:=blk_frozen BK227.out 0;have hfz40_1:=blk_frozen BK227.out 1;have hfz40_2:=blk_frozen BK227.out 2
        go_wp2_with (first | ((with_reducible refine gate_callee (f:=17) rfl ?_); refine goesL_ (some 78) rfl rfl Try.func17 (by kernel_rfl) rfl #[.agg #[.slice Ao8 t219.length co8,.int .i64 t222,.int .i64 t223],.slice A75 (weekOne t224).length c75] rfl (by (try simp only [List.map_toArray,List.map_cons,List.map_nil]); first | done | rfl | (simp only [List.length_drop,List.length_take]; rfl)) ?_; (with_reducible refine (impl_FareWeek.calls kj26 _ _ t219 t222 t223 _ _ (weekOne t224) t235 _ ?side1 ?side2 ?side3 ?side4 A34.out).mono ?_); (case side1 => repeat (first | exact (Kd.Q_reads' HO_228000.out).2.2 | (with_reducible refine Kd.C_alloc ?_ _) | (with_reducible refine Kd.C_drewN ?_ _) | (with_reducible refine Kd.C_drew ?_))); (case side2 => exact (Kd.Q_reads' HO_228000.out).2.1); (case side3 => repeat (first | exact HONE.out | (with_reducible refine Kd.C_alloc ?_ _) | (with_reducible refine Kd.C_drewN ?_ _) | (with_reducible refine Kd.C_drew ?_))); (case side4 => exact HONC.out); rintro e w41 ⟨rfl,hb⟩; refine ⟨_,rfl,?_⟩; have n0_:=G (Kd.S_below (by (with_reducible repeat (first | apply Kd.S_alloc | apply Kd.S_drewN | apply Kd.S_drew)); exact HO_4.out) hb); have n1_:=G (Kd.Q_below (by (with_reducible repeat (first | apply Kd.Q_alloc | apply Kd.Q_drewN | apply Kd.Q_drew)); exact HO_228000.out) hb); have n2_:=G (blk_below (g:=gb227) (o:=.cells #[.slice Ao8 t219.length co8,.int .i64 t222,.int .i64 t223] 25 (0,0)) (by (with_reducible repeat (first | refine blk_drewN ?_ _ | refine blk_drew ?_ | refine blk_alloc ?_ _)); exact BK227.out) hb); have n3_:=G (below_step (by repeat (first | (with_reducible first | exact HB.out | apply below_alloc | apply pw_below_drewN | apply below_drew1 | refine below_set ?_ GE227.out) | exact HB.out)) hb); clear HO_4; clear HO_228000; clear BK227; clear HB; have HO_4:=n0_; have HO_228000:=n1_; have BK227:=n2_; have HB:=n3_; clear n0_ n1_ n2_ n3_; (try clear hb); (try clear hb2); (try clear hk); (try clear hi); have hcz42_0 : w41.cell? ⟨gb227,0,none⟩ = some (.slice Ao8 t219.length co8):=(blk_cell BK227.out 0).trans rfl; have hcz42_1 : w41.cell? ⟨gb227,1,none⟩ = some (.int .i64 t222):=(blk_cell BK227.out 1).trans rfl; have hcz42_2 : w41.cell? ⟨gb227,2,none⟩ = some (.int .i64 t223):=(blk_cell BK227.out 2).trans rfl; have hfz42_0:=blk_frozen BK227.out 0; have hfz42_1:=blk_frozen BK227.out 1; have hfz42_2:=blk_frozen BK227.out 2))
        go_ret;exact ⟨by first | rfl | (simp [errW_none,errW_some] <;> rfl) | (simp [*,errW_none,errW_some] <;> rfl),by repeat (first | (with_reducible first | exact HB.out | apply below_alloc | apply pw_below_drewN | apply below_drew1 | refine below_set ?_ GE227.out) | exact HB.out)⟩
       rw [if_neg c39] at H;have c39b0 : (t228 == x6_2) = false:=beq_eq_false_iff_ne.mpr c39;have c39b1 : (t228 != x6_2) = true:=bne_iff_ne.mpr c39
       by_cases c43 : t228 = t223
       case neg =>
        rw [if_neg c43] at H;have c43b0 : (t228 == t223) = false:=beq_eq_false_iff_ne.mpr c43;have c43b1 : (t228 != t223) = true:=bne_iff_ne.mpr c43;obtain rfl:=Option.some.inj H;have hcz47_0 : wh.cell? ⟨gb227,0,none⟩ = some (.slice Ao8 t219.length co8):=(blk_cell BK227.out 0).trans rfl;have hcz47_1 : wh.cell? ⟨gb227,1,none⟩ = some (.int .i64 t222):=(blk_cell BK227.out 1).trans rfl;have hcz47_2 : wh.cell? ⟨gb227,2,none⟩ = some (.int .i64 t223):=(blk_cell BK227.out 2).trans rfl;have hfz47_0:=blk_frozen BK227.out 0;have hfz47_1:=blk_frozen BK227.out 1;have hfz47_2:=blk_frozen BK227.out 2
        go_wp2_with (first | ((with_reducible refine gate_callee (f:=17) rfl ?_); refine goesL_ (some 78) rfl rfl Try.func17 (by kernel_rfl) rfl #[.agg #[.slice Ao8 t219.length co8,.int .i64 t222,.int .i64 t223],.slice A75 (weekOne t224).length c75] rfl (by (try simp only [List.map_toArray,List.map_cons,List.map_nil]); first | done | rfl | (simp only [List.length_drop,List.length_take]; rfl)) ?_; (with_reducible refine (impl_FareWeek.calls kj26 _ _ t219 t222 t223 _ _ (weekOne t224) t235 _ ?side1 ?side2 ?side3 ?side4 A34.out).mono ?_); (case side1 => repeat (first | exact (Kd.Q_reads' HO_228000.out).2.2 | (with_reducible refine Kd.C_alloc ?_ _) | (with_reducible refine Kd.C_drewN ?_ _) | (with_reducible refine Kd.C_drew ?_))); (case side2 => exact (Kd.Q_reads' HO_228000.out).2.1); (case side3 => repeat (first | exact HONE.out | (with_reducible refine Kd.C_alloc ?_ _) | (with_reducible refine Kd.C_drewN ?_ _) | (with_reducible refine Kd.C_drew ?_))); (case side4 => exact HONC.out); rintro e w48 ⟨rfl,hb⟩; refine ⟨_,rfl,?_⟩; have n0_:=G (Kd.S_below (by (with_reducible repeat (first | apply Kd.S_alloc | apply Kd.S_drewN | apply Kd.S_drew)); exact HO_4.out) hb); have n1_:=G (Kd.Q_below (by (with_reducible repeat (first | apply Kd.Q_alloc | apply Kd.Q_drewN | apply Kd.Q_drew)); exact HO_228000.out) hb); have n2_:=G (blk_below (g:=gb227) (o:=.cells #[.slice Ao8 t219.length co8,.int .i64 t222,.int .i64 t223] 25 (0,0)) (by (with_reducible repeat (first | refine blk_drewN ?_ _ | refine blk_drew ?_ | refine blk_alloc ?_ _)); exact BK227.out) hb); have n3_:=G (below_step (by repeat (first | (with_reducible first | exact HB.out | apply below_alloc | apply pw_below_drewN | apply below_drew1 | refine below_set ?_ GE227.out) | exact HB.out)) hb); clear HO_4; clear HO_228000; clear BK227; clear HB; have HO_4:=n0_; have HO_228000:=n1_; have BK227:=n2_; have HB:=n3_; clear n0_ n1_ n2_ n3_; (try clear hb); (try clear hb2); (try clear hk); (try clear hi); have hcz49_0 : w48.cell? ⟨gb227,0,none⟩ = some (.slice Ao8 t219.length co8):=(blk_cell BK227.out 0).trans rfl; have hcz49_1 : w48.cell? ⟨gb227,1,none⟩ = some (.int .i64 t222):=(blk_cell BK227.out 1).trans rfl; have hcz49_2 : w48.cell? ⟨gb227,2,none⟩ = some (.int .i64 t223):=(blk_cell BK227.out 2).trans rfl; have hfz49_0:=blk_frozen BK227.out 0; have hfz49_1:=blk_frozen BK227.out 1; have hfz49_2:=blk_frozen BK227.out 2))
        go_ret;exact ⟨by first | rfl | (simp [errW_none,errW_some] <;> rfl) | (simp [*,errW_none,errW_some] <;> rfl),by repeat (first | (with_reducible first | exact HB.out | apply below_alloc | apply pw_below_drewN | apply below_drew1 | refine below_set ?_ GE227.out) | exact HB.out)⟩
       rw [if_pos c43] at H;have c43b0 : (t228 == t223) = true:=beq_iff_eq.mpr c43;have c43b1 : (t228 != t223) = false:=bne_eq_false_iff_eq.mpr c43;clear c43;obtain rfl:=Option.some.inj H;have hcz44_0 : wh.cell? ⟨gb227,0,none⟩ = some (.slice Ao8 t219.length co8):=(blk_cell BK227.out 0).trans rfl;have hcz44_1 : wh.cell? ⟨gb227,1,none⟩ = some (.int .i64 t222):=(blk_cell BK227.out 1).trans rfl;have hcz44_2 : wh.cell? ⟨gb227,2,none⟩ = some (.int .i64 t223):=(blk_cell BK227.out 2).trans rfl;have hfz44_0:=blk_frozen BK227.out 0;have hfz44_1:=blk_frozen BK227.out 1;have hfz44_2:=blk_frozen BK227.out 2
       go_wp2_with (first | ((with_reducible refine gate_callee (f:=17) rfl ?_); refine goesL_ (some 78) rfl rfl Try.func17 (by kernel_rfl) rfl #[.agg #[.slice Ao8 t219.length co8,.int .i64 t222,.int .i64 t223],.slice A75 (weekOne t224).length c75] rfl (by (try simp only [List.map_toArray,List.map_cons,List.map_nil]); first | done | rfl | (simp only [List.length_drop,List.length_take]; rfl)) ?_; (with_reducible refine (impl_FareWeek.calls kj26 _ _ t219 t222 t223 _ _ (weekOne t224) t235 _ ?side1 ?side2 ?side3 ?side4 A34.out).mono ?_); (case side1 => repeat (first | exact (Kd.Q_reads' HO_228000.out).2.2 | (with_reducible refine Kd.C_alloc ?_ _) | (with_reducible refine Kd.C_drewN ?_ _) | (with_reducible refine Kd.C_drew ?_))); (case side2 => exact (Kd.Q_reads' HO_228000.out).2.1); (case side3 => repeat (first | exact HONE.out | (with_reducible refine Kd.C_alloc ?_ _) | (with_reducible refine Kd.C_drewN ?_ _) | (with_reducible refine Kd.C_drew ?_))); (case side4 => exact HONC.out); rintro e w45 ⟨rfl,hb⟩; refine ⟨_,rfl,?_⟩; have n0_:=G (Kd.S_below (by (with_reducible repeat (first | apply Kd.S_alloc | apply Kd.S_drewN | apply Kd.S_drew)); exact HO_4.out) hb); have n1_:=G (Kd.Q_below (by (with_reducible repeat (first | apply Kd.Q_alloc | apply Kd.Q_drewN | apply Kd.Q_drew)); exact HO_228000.out) hb); have n2_:=G (blk_below (g:=gb227) (o:=.cells #[.slice Ao8 t219.length co8,.int .i64 t222,.int .i64 t223] 25 (0,0)) (by (with_reducible repeat (first | refine blk_drewN ?_ _ | refine blk_drew ?_ | refine blk_alloc ?_ _)); exact BK227.out) hb); have n3_:=G (below_step (by repeat (first | (with_reducible first | exact HB.out | apply below_alloc | apply pw_below_drewN | apply below_drew1 | refine below_set ?_ GE227.out) | exact HB.out)) hb); clear HO_4; clear HO_228000; clear BK227; clear HB; have HO_4:=n0_; have HO_228000:=n1_; have BK227:=n2_; have HB:=n3_; clear n0_ n1_ n2_ n3_; (try clear hb); (try clear hb2); (try clear hk); (try clear hi); have hcz46_0 : w45.cell? ⟨gb227,0,none⟩ = some (.slice Ao8 t219.length co8):=(blk_cell BK227.out 0).trans rfl; have hcz46_1 : w45.cell? ⟨gb227,1,none⟩ = some (.int .i64 t222):=(blk_cell BK227.out 1).trans rfl; have hcz46_2 : w45.cell? ⟨gb227,2,none⟩ = some (.int .i64 t223):=(blk_cell BK227.out 2).trans rfl; have hfz46_0:=blk_frozen BK227.out 0; have hfz46_1:=blk_frozen BK227.out 1; have hfz46_2:=blk_frozen BK227.out 2))
       go_ret;exact ⟨by first | rfl | (simp [errW_none,errW_some] <;> rfl) | (simp [*,errW_none,errW_some] <;> rfl),by repeat (first | (with_reducible first | exact HB.out | apply below_alloc | apply pw_below_drewN | apply below_drew1 | refine below_set ?_ GE227.out) | exact HB.out)⟩
end Go.Proofs.Ytlhmljngjdfbpaa.Pr
end
section
set_option linter.unusedVariables false
namespace Go.Proofs.YtlhmljngjdfbpaaW.PrintWords
open Go.RowKit Go.ChangeShapes Go.WideShapes
def Opens (P : Program) {α : Type} (d : Kd α) (t : TypeId) (wf : α → Prop) : Prop :=
 ∀ {H : Type} {enc : TypeId × Value → H} {w : World} {sp : Nat → Bool} {held : Bool} {fuel : Nat} {cs : List Value} {x : DataW H × List MemPlace},DataW.trod enc P w 0 sp held fuel t cs = some x → ∃ a,d.K w a cs ∧ wf a
section
variable {P : Program} {α β : Type}
theorem opens_int {t : TypeId} {k : IntKind} (ht : P.underlying t = some (.int k)) : Opens P (Kd.int k) t (fun n => (Lit.int k n).wf = true):=by
 intro H enc w sp held fuel cs x h;obtain ⟨n,rfl,_,hw⟩:=DataW.trod_int ht h;exact ⟨n,rfl,hw⟩
theorem addr_add_add (a : Addr) (i j : Nat) : (a.add i).add j = a.add (i + j):=by
 unfold Addr.add
 by_cases hi : i = 0 <;> by_cases hj : j = 0 <;> simp [hi,hj,Nat.add_assoc]
theorem opens_slice [Inhabited α] {d : Kd α} {t e : TypeId} {wf : α → Prop} (ht : P.underlying t = some (.slice e)) (hc : P.cellsOf e = d.sz) (he : Opens P d e wf) : Opens P (Kd.slice e d) t (fun l => l.length ≤ maxLen ∧ ∀ x ∈ l,wf x):=by
 intro H enc w sp held fuel cs x h
 rcases Deep.open_slice ht h with ⟨rfl,_⟩ | ⟨a,len,cap,m,n,D,Pl,rfl,_,hl,hm,hmm,_,hel⟩
 ·exact ⟨[],⟨none,0,rfl,Nat.le_refl _,Kd.C_nil d w⟩,by simp,by simp⟩
 ·have hlm : len ≤ m:=by rw [hmm]; split <;> omega
  have hx : ∀ i,i < len → ∃ y : α,(∃ c,c.length = d.sz ∧ d.K w y c ∧ ∀ j u,c[j]? = some u → w.cell? (a.add (i * d.sz + j)) = some u) ∧ wf y:=by
   intro i hi;obtain ⟨cs',hcs,htr⟩:=hel i (by omega);obtain ⟨y,hk,hw⟩:=he htr;obtain ⟨_,hlen,hcell⟩:=World.cells?_some hcs;refine ⟨y,⟨cs',d.K_len hk,hk,fun j u hu => ?_⟩,hw⟩;have hj : j < P.cellsOf e:=by
    have:=(List.getElem?_eq_some_iff.1 hu).1;omega
   have:=hcell j hj;rw [addr_add_add,hc,hu] at this;exact this
  obtain ⟨f,hf⟩:=Deep.choose_lt hx;refine ⟨(List.range len).map f,⟨some a,cap,by simp,by simpa using hl,by simp,by simp only [maxLen] at hm; simp; omega,fun _ => ⟨a,rfl,fun j p hj => ?_⟩⟩,by simp; omega,fun y hy => ?_⟩
  ·obtain ⟨hj1,hj2⟩:=List.getElem?_eq_some_iff.1 hj;simp at hj1 hj2;subst hj2;exact (hf j hj1).1
  ·simp only [List.mem_map,List.mem_range] at hy;obtain ⟨i,hi,rfl⟩:=hy;exact (hf i hi).2
end
end Go.Proofs.YtlhmljngjdfbpaaW.PrintWords
end
section
namespace Go.Proofs.Ytlhmljngjdfbpaa.Pr
open Go.RowKit Go.Proofs.YtlhmljngjdfbpaaW.PrintWords Go.Proofs.YtlhmljngjdfbpaaW.PrintLast Go.Proofs.YtlhmljngjdfbpaaW.PrintMore
open List renaming setIfInBounds_toArray → U,set_cons_zero → O,set_cons_succ → I
open Go.Proofs.YtlhmljngjdfbpaaW.PrintWords.Aside0 renaming mk → G
def laws_FnFareWeek.Asked : Prop:=∀ (l0 : List Int),(l0.length ≤ maxLen ∧ ∀ x_ ∈ l0,(Lit.int .u8 x_).wf = true) → ∃ k,laws_FnFareWeek.f k l0 = some true
end Go.Proofs.Ytlhmljngjdfbpaa.Pr
end
section
set_option linter.unusedVariables false
namespace Go.Proofs.YtlhmljngjdfbpaaW.PrintWords
open Go.RowKit
section
variable {α β : Type}
theorem Ev.pos {c : Prop} [Decidable c] {t e : Nat → Option α} {r : α} (h : c) (k : Ev t r) : Ev (fun n => if c then t n else e n) r:=by
 simp only [if_pos h]; exact k
theorem Ev.neg {c : Prop} [Decidable c] {t e : Nat → Option α} {r : α} (h : ¬ c) (k : Ev e r) : Ev (fun n => if c then t n else e n) r:=by
 simp only [if_neg h]; exact k
theorem Ev.bind0 {g : Option α} {f : Nat → α → Option β} {a : α} {r : β} (h : g = some a) (k : Ev (fun n => f n a) r) : Ev (fun n => g.bind (f n)) r:=by
 subst h; exact k
theorem Ev.is {a r : α} (h : a = r) : Ev (fun _ => some a) r:=by subst h; exact Ev.now _
theorem Ev.cast {g : Nat → Option α} {a r : α} (k : Ev g a) (h : a = r) : Ev g r:=h ▸ k
theorem Ev.go {g f : Nat → Option α} {r : α} (k : Ev f r) (h : ∀ k,g (k + 1) = f k) : Ev g r:=Ev.step h k
end
theorem w64 {n : Int} (h : -9223372036854775808 ≤ n) (h' : n ≤ 9223372036854775807) : wrap64 n = n:=by unfold wrap64; omega
noncomputable def Bp (p : Prop) : Bool:=@decide p (Classical.propDecidable p)
theorem Bp_iff {p : Prop} : Bp p = true ↔ p:=by unfold Bp; exact @decide_eq_true_iff p (Classical.propDecidable p)
theorem Bp_true {p : Prop} (h : p) : Bp p = true:=Bp_iff.2 h
theorem Bp_false {p : Prop} (h : ¬ p) : Bp p = false:=by
 cases e : Bp p with
 | false => rfl
 | true => exact absurd (Bp_iff.1 e) h
theorem Bp_congr {p q : Prop} (h : p ↔ q) : Bp p = Bp q:=by rw [propext h]
theorem eq_Bp {b : Bool} {p : Prop} (h : b = true ↔ p) : b = Bp p:=by rw [Bool.eq_iff_iff,Bp_iff]; exact h
end Go.Proofs.YtlhmljngjdfbpaaW.PrintWords
end
section
namespace Go.Proofs.Ytlhmljngjdfbpaa.Pr
open Go.RowKit Go.Proofs.YtlhmljngjdfbpaaW.PrintWords Go.Proofs.YtlhmljngjdfbpaaW.PrintLast Go.Proofs.YtlhmljngjdfbpaaW.PrintMore
attribute [local go_sem] max2_int min2_int max_two min_two max_three min_three max_four min_four
set_option linter.unusedVariables false
set_option linter.unusedSimpArgs false
open List renaming setIfInBounds_toArray → U,set_cons_zero → O,set_cons_succ → I
open Go.Proofs.YtlhmljngjdfbpaaW.PrintWords.Aside0 renaming mk → G
def laws_toIntS.l0 : Nat → List Int → List Int → Int → Option (List Int)
 | 0,_,_,_ => none
 | k + 1,x0,x3,x4 => if x4 < (x0.length : Int) then (if 0 ≤ x4 then (if x4 < (x3.length : Int) then (laws_toIntS.l0 k x0 (x3.set (x4 : Int).toNat (rd x0 x4)) (wrap64 (x4 + 1))) else (none)) else (none)) else (some x3)
def laws_toIntS.f (k : Nat) (l0 : List Int) : Option (List Int):=if 0 ≤ (l0.length : Int) then (if ((l0.length : Int) : Int).toNat ≤ 35184372088832 then (laws_toIntS.l0 k l0 (List.replicate ((l0.length : Int) : Int).toNat 0) 0) else (none)) else (none)
theorem laws_toIntS.mono_l : ∀ k,(∀ y0 y1 y2,LeO (laws_toIntS.l0 k y0 y1 y2) (laws_toIntS.l0 (k + 1) y0 y1 y2))
 | 0 => fun _ _ _ r h => by simp [laws_toIntS.l0] at h
 | k + 1 => by
  have ih0:=laws_toIntS.mono_l k
  ·intro y0 y1 y2
   unfold laws_toIntS.l0
   repeat' first
   | (with_reducible exact ih0 _ _ _)
   | (with_reducible exact LeO.refl _)
   | (with_reducible exact LeO.none _)
   | (with_reducible refine LeO.ite ?_ ?_)
   | (with_reducible refine LeO.bind ?_ (fun _ => ?_))
   | exact ih0 _ _ _
   | exact LeO.none _
   | refine LeO.ite ?_ ?_
   | refine LeO.bind ?_ (fun _ => ?_)
theorem laws_toIntS.mono : ∀ a0 k,LeO (laws_toIntS.f k a0) (laws_toIntS.f (k + 1) a0):=by
 intro a0 k;have ih0:=laws_toIntS.mono_l k
 unfold laws_toIntS.f
 repeat' first
   | (with_reducible exact ih0 _ _ _)
   | (with_reducible exact LeO.refl _)
   | (with_reducible exact LeO.none _)
   | (with_reducible refine LeO.ite ?_ ?_)
   | (with_reducible refine LeO.bind ?_ (fun _ => ?_))
   | exact ih0 _ _ _
   | exact LeO.none _
   | refine LeO.ite ?_ ?_
   | refine LeO.bind ?_ (fun _ => ?_)
set_option maxHeartbeats 8000000 in
set_option maxRecDepth 100000 in
theorem laws_toIntS.calls (k : Nat) (A0 : Option Addr) (c0 : Nat) (l0 : List Int) (r : List Int) (w : World) (hr0 : Kd.C (Kd.int .i64) w A0 l0.length l0) (hc0 : l0.length ≤ c0) (h : laws_toIntS.f k l0 = some r) :
  Calls Try.prog 29 #[.slice A0 l0.length c0] w fun e w' => ∃ v0_ : Value,e = .returned (v0_) ∧ Kd.R (Kd.int .i64) 3 w' w.heap.size (fun _ => True) v0_ r ∧ Below w.heap.size w w':=by
 have HR0:=G hr0;have HC0:=G hc0;clear hr0 hc0;have HB:=G (Below.refl w.heap.size w);have H : (if 0 ≤ (l0.length : Int) then (if ((l0.length : Int) : Int).toNat ≤ 35184372088832 then (laws_toIntS.l0 k l0 (List.replicate ((l0.length : Int) : Int).toNat 0) 0) else (none)) else (none)) = some r:=h;clear h
 by_cases c2 : 0 ≤ (l0.length : Int)
 case neg =>
  rw [if_neg c2] at H;exact absurd H (by simp)
 rw [if_pos c2] at H;have c2b0:=eq_true c2;have c2b1 : decide (0 ≤ (l0.length : Int)) = true:=decide_eq_true c2;clear c2
 by_cases c3 : ((l0.length : Int) : Int).toNat ≤ 35184372088832
 case neg =>
  rw [if_neg c3] at H;exact absurd H (by simp)
 rw [if_pos c3] at H;have c3b0:=eq_true c3;have c3b1 : decide (((l0.length : Int) : Int).toNat ≤ 35184372088832) = true:=decide_eq_true c3;clear c3;obtain ⟨y481,hy481⟩ : ∃ y_ : List Int,y_ = (List.replicate ((l0.length : Int) : Int).toNat 0):=⟨_,rfl⟩
 replace H : (laws_toIntS.l0 k l0 y481 0) = some r:=by first | (rw [hy481]; with_reducible exact H) | (have H2_:=(Option.bind_some _ _).symm.trans H; rw [hy481]; with_reducible exact H2_) | (have H2_:=(Option.bind_some _ _).symm.trans H; with_reducible exact H2_) | with_reducible exact H | (rw [hy481]; exact H) | exact H
 have Ny481:=G hy481;clear hy481;have H':=G H;clear H
 go_enter Try.func29,Try.ntmps29
 go_wp2_with (first | ((with_reducible refine gate_dst (N:=7) rfl ?_); refine Kd.R_make (Kd.int .i64) _ 3 rfl (N:=7) rfl 23 _ _ rfl (l0.length : Int) (by first | rfl | (go_simp; done) | (go_simp; rfl)) (by first | rfl | (go_simp; done) | (go_simp; rfl)) Try.underlying23 (.int .i64 0) 8 info3 rfl (by decide) (by omega) 0 (ok:=fun _ => True) (okp:=fun _ => True) rfl (fun _ hk => hk) trivial (of_decide_eq_true (by first | (with_reducible assumption) | assumption)) (Nat.le_trans (Nat.mul_le_mul_right _ (of_decide_eq_true (by first | (with_reducible assumption) | assumption) : (l0.length : Int).toNat ≤ 35184372088832)) (by omega)) (Below.refl _ _) (Nat.le_refl _) ?_; intro v482 w4 ho5 hb hg_ hnew_; clear hg_ hnew_; (first | rw [← Ny481.out] at ho5 | (simp only [Int.reduceToNat] at ho5; rw [← Ny481.out] at ho5)); have n0_:=G (Kd.R_lower ho5 (below_size (by repeat (first | (with_reducible first | exact HB.out | apply below_alloc | apply pw_below_drewN | apply below_drew1) | exact HB.out)))); have n1_:=G (below_step (by repeat (first | (with_reducible first | exact HB.out | apply below_alloc | apply pw_below_drewN | apply below_drew1) | exact HB.out)) hb); clear HB; have HO483:=n0_; have HB:=n1_; clear n0_ n1_; clear hb ho5))
 go_loopg [4] k (fun kq v4 w' => ∃ (x3_1 : List Int) (x4_1 : Int),v4 = .int .i64 x4_1 ∧ Aside0 (laws_toIntS.l0 kq l0 x3_1 x4_1 = some r) ∧ Aside0 (kq ≤ k) ∧ Aside0 (Kd.R (Kd.int .i64) 3 w' w.heap.size (fun _ => True) v482 x3_1) ∧ Aside0 (Below w.heap.size w w'))
 case atStart => exact ⟨(y481),(0),(by first | rfl | (simp; done) | (simp [*]; done)),H',⟨Nat.le_refl _⟩,⟨by (with_reducible repeat (first | apply Kd.R_alloc | apply Kd.R_drewN | apply Kd.R_drew)); exact HO483.out⟩,⟨by repeat (first | (with_reducible first | exact HB.out | apply below_alloc | apply pw_below_drewN | apply below_drew1) | exact HB.out)⟩⟩
 case round =>
  clear H'
  try clear c2
  try clear c2b0
  try clear c2b1
  try clear p2
  try clear c3
  try clear c3b0
  try clear c3b1
  obtain ⟨x3_1,x4_1,rfl,HA,HK1,HO_3,HB⟩:=hrel;cases gk with
  | zero => exact absurd HA.out (by simp [laws_toIntS.l0])
  | succ k1 =>
   have H:=HA.out;clear HA;simp only [laws_toIntS.l0] at H
   by_cases c6 : x4_1 < (l0.length : Int)
   case neg =>
    rw [if_neg c6] at H;have c6b0 : decide (x4_1 < (l0.length : Int)) = false:=decide_eq_false c6;clear c6;obtain rfl:=Option.some.inj H
    go_wp2
    go_ret;exact ⟨_,by first | rfl | (simp [errW_none,errW_some] <;> rfl) | (simp [*,errW_none,errW_some] <;> rfl),by (with_reducible repeat (first | apply Kd.R_alloc | apply Kd.R_drewN | apply Kd.R_drew)); exact HO_3.out,by repeat (first | (with_reducible first | exact HB.out | apply below_alloc | apply pw_below_drewN | apply below_drew1) | exact HB.out)⟩
   rw [if_pos c6] at H;have c6b0 : decide (x4_1 < (l0.length : Int)) = true:=decide_eq_true c6;clear c6
   by_cases c7 : 0 ≤ x4_1
   case neg =>
    rw [if_neg c7] at H;exact absurd H (by simp)
   rw [if_pos c7] at H;have c7b0 : decide (0 ≤ x4_1) = true:=decide_eq_true c7;clear c7
   by_cases c8 : x4_1 < (x3_1.length : Int)
   case neg =>
    rw [if_neg c8] at H;exact absurd H (by simp)
   rw [if_pos c8] at H;have c8b0 : decide (x4_1 < (x3_1.length : Int)) = true:=decide_eq_true c8;clear c8;obtain ⟨y485,hy485⟩ : ∃ y_ : List Int,y_ = (x3_1.set (x4_1 : Int).toNat (rd l0 x4_1)):=⟨_,rfl⟩
   replace H : (laws_toIntS.l0 k1 l0 y485 (wrap64 (x4_1 + 1))) = some r:=by first | (rw [hy485]; with_reducible exact H) | (have H2_:=(Option.bind_some _ _).symm.trans H; rw [hy485]; with_reducible exact H2_) | (have H2_:=(Option.bind_some _ _).symm.trans H; with_reducible exact H2_) | with_reducible exact H | (rw [hy485]; exact H) | exact H
   have Ny485:=G hy485;clear hy485;have H':=G H;clear H;have p484 : 0 ≤ (x4_1 : Int):=of_decide_eq_true (by first | (with_reducible assumption) | assumption);have q484 : x4_1 < (l0.length : Int):=of_decide_eq_true (by first | (with_reducible assumption) | assumption);obtain ⟨ad484,e484,hx484_0⟩:=Kd.at_int HR0.out x4_1 p484 q484;cases e484;replace hx484_0:=(HB.out.cell (World.block_lt_of_cell? w _ hx484_0)).trans hx484_0;replace p484:=eq_true p484;replace q484:=eq_true q484;have p9 : 0 ≤ (x4_1 : Int):=of_decide_eq_true (by first | (with_reducible assumption) | assumption);have q9 : (x4_1 : Int) < ((x3_1.length : Int) : Int):=of_decide_eq_true (by first | (with_reducible assumption) | assumption);obtain ⟨go9,co9,eo9,gb9,gl9,cl9,HG9⟩:=Kd.R_form HO_3.out (by omega)
   (first | cases eo9 | (injection eo9 with ea_ en_ ec_; (first | subst ea_ | (injection ea_ with ea_; subst ea_)); subst ec_; clear en_))
   have GB9:=G gb9;have GG9:=G HG9;clear gb9 gl9 HG9;obtain ⟨hx9_0,hf9_0⟩:=Kd.R_celln 0 HO_3.out (x4_1 : Int) p9 q9;replace p9:=eq_true p9;replace q9:=eq_true q9;have HP10:=Kd.R_putg HO_3.out (x4_1 : Int) (rd l0 x4_1)
   go_wp2_with (first | ((with_reducible refine gate_store (t:=3) (p:=20) rfl ?_); refine store_event (t:=3) (p:=20) (v:=?vo_w11) (w1:=(wr.setCell ⟨go9,(x4_1 : Int).toNat,none⟩ (.int .i64 (rd l0 x4_1)))) ?hg ?ho ?hn ?hr ?_; (case ho => rfl); (case hg => rfl); (case hn => rfl); (case hr => first | (go_simp; done) | (go_simp; rfl)); intro w11 hw; have hg : wr.grownBy w11 (some go9):=(by rw [hw]; exact HP10.2); have hp_ : Kd.R (Kd.int .i64) 3 w11 w.heap.size (fun _ => True) (.slice (some ⟨go9,0,none⟩) x3_1.length co9) y485:=(by rw [hw,Ny485.out]; exact HP10.1); clear HP10; have n0_:=G (hp_); have n1_:=G ((by rw [hw]; exact below_set (HB.out) GB9.out : Below w.heap.size w w11)); clear HO_3; clear HB; have HO_3:=n0_; have HB:=n1_; clear n0_ n1_; clear hg hw hp_))
   go_roundg k1
   case measure => have:=HK1.out; omega
   case rel => exact ⟨(y485),(wrap64 (x4_1 + 1)),(by first | rfl | (simp; done) | (simp [*]; done)),H',⟨by have:=HK1.out; omega⟩,⟨by (with_reducible repeat (first | apply Kd.R_alloc | apply Kd.R_drewN | apply Kd.R_drew)); exact HO_3.out⟩,⟨by repeat (first | (with_reducible first | exact HB.out | apply below_alloc | apply pw_below_drewN | apply below_drew1) | exact HB.out)⟩⟩
def laws_eqIntS.l0 : Nat → List Int → List Int → Int → Option (Bool)
 | 0,_,_,_ => none
 | k + 1,x0,x1,x5 => if x5 < (x0.length : Int) then (if 0 ≤ x5 then (if x5 < (x1.length : Int) then (if (rd x0 x5) = (rd x1 x5) then (laws_eqIntS.l0 k x0 x1 (wrap64 (x5 + 1))) else (some false)) else (none)) else (none)) else (some true)
def laws_eqIntS.f (k : Nat) (l0 : List Int) (l1 : List Int) : Option (Bool):=if (l0.length : Int) = (l1.length : Int) then (laws_eqIntS.l0 k l0 l1 0) else (some false)
theorem laws_eqIntS.mono_l : ∀ k,(∀ y0 y1 y2,LeO (laws_eqIntS.l0 k y0 y1 y2) (laws_eqIntS.l0 (k + 1) y0 y1 y2))
 | 0 => fun _ _ _ r h => by simp [laws_eqIntS.l0] at h
 | k + 1 => by
  have ih0:=laws_eqIntS.mono_l k
  ·intro y0 y1 y2
   unfold laws_eqIntS.l0
   repeat' first
   | (with_reducible exact ih0 _ _ _)
   | (with_reducible exact LeO.refl _)
   | (with_reducible exact LeO.none _)
   | (with_reducible refine LeO.ite ?_ ?_)
   | (with_reducible refine LeO.bind ?_ (fun _ => ?_))
   | exact ih0 _ _ _
   | exact LeO.none _
   | refine LeO.ite ?_ ?_
   | refine LeO.bind ?_ (fun _ => ?_)
theorem laws_eqIntS.mono : ∀ a0 a1 k,LeO (laws_eqIntS.f k a0 a1) (laws_eqIntS.f (k + 1) a0 a1):=by
 intro a0 a1 k;have ih0:=laws_eqIntS.mono_l k
 unfold laws_eqIntS.f
 repeat' first
   | (with_reducible exact ih0 _ _ _)
   | (with_reducible exact LeO.refl _)
   | (with_reducible exact LeO.none _)
   | (with_reducible refine LeO.ite ?_ ?_)
   | (with_reducible refine LeO.bind ?_ (fun _ => ?_))
   | exact ih0 _ _ _
   | exact LeO.none _
   | refine LeO.ite ?_ ?_
   | refine LeO.bind ?_ (fun _ => ?_)
set_option maxHeartbeats 8000000 in
set_option maxRecDepth 100000 in
theorem laws_eqIntS.calls (k : Nat) (A0 : Option Addr) (c0 : Nat) (l0 : List Int) (A1 : Option Addr) (c1 : Nat) (l1 : List Int) (r : Bool) (w : World) (hr0 : Kd.C (Kd.int .i64) w A0 l0.length l0) (hc0 : l0.length ≤ c0) (hr1 : Kd.C (Kd.int .i64) w A1 l1.length l1) (hc1 : l1.length ≤ c1) (h : laws_eqIntS.f k l0 l1 = some r) :
  Calls Try.prog 32 #[.slice A0 l0.length c0,.slice A1 l1.length c1] w fun e w' => e = .returned (.bool r) ∧ Drawn0 w w':=by
 have HR0:=G hr0;have HC0:=G hc0;clear hr0 hc0;have HR1:=G hr1;have HC1:=G hc1;clear hr1 hc1;have H : (if (l0.length : Int) = (l1.length : Int) then (laws_eqIntS.l0 k l0 l1 0) else (some false)) = some r:=h;clear h
 by_cases c3 : (l0.length : Int) = (l1.length : Int)
 case neg =>
  rw [if_neg c3] at H;have c3b0 : ((l0.length : Int) == (l1.length : Int)) = false:=beq_eq_false_iff_ne.mpr c3;have c3b1 : ((l0.length : Int) != (l1.length : Int)) = true:=bne_iff_ne.mpr c3;have c3b2 : (l0.length == l1.length) = false:=by first | simpa using c3 | (simp at c3 ⊢; omega)
  obtain rfl:=Option.some.inj H
  go_enter Try.func32,Try.ntmps32
  go_wp2
  repeat (go_quiet (fail); try go_wp2)
  go_ret;exact ⟨by first | rfl | (simp; done) | (simp [*]; done),by repeat (first | exact Drawn0.refl _ | apply Drawn0.step)⟩
 rw [if_pos c3] at H;have c3b0 : ((l0.length : Int) == (l1.length : Int)) = true:=beq_iff_eq.mpr c3;have c3b1 : ((l0.length : Int) != (l1.length : Int)) = false:=bne_eq_false_iff_eq.mpr c3;have c3b2 : (l0.length == l1.length) = true:=by first | simpa using c3 | (simp at c3 ⊢; omega)
 clear c3;have H':=G H;clear H
 go_enter Try.func32,Try.ntmps32
 go_wp2
 repeat (go_quiet (fail); try go_wp2)
 go_loopg [5] k (fun kq v5 w' => ∃ (x5_1 : Int),v5 = .int .i64 x5_1 ∧ Aside0 (laws_eqIntS.l0 kq l0 l1 x5_1 = some r) ∧ Aside0 (kq ≤ k) ∧ Drawn0 w w')
 case atStart => exact ⟨(0),(by first | rfl | (simp; done) | (simp [*]; done)),H',⟨Nat.le_refl _⟩,by repeat (first | exact Drawn0.refl _ | apply Drawn0.step)⟩
 case round =>
  clear H'
  try clear c1
  try clear p2
  try clear c3
  try clear c3b0
  try clear c3b1
  try clear c3b2
  obtain ⟨x5_1,rfl,HA,HK1,⟨m1,rfl⟩⟩:=hrel;cases gk with
  | zero => exact absurd HA.out (by simp [laws_eqIntS.l0])
  | succ k1 =>
   have H:=HA.out;clear HA;simp only [laws_eqIntS.l0] at H
   by_cases c4 : x5_1 < (l0.length : Int)
   case neg =>
    rw [if_neg c4] at H;have c4b0 : decide (x5_1 < (l0.length : Int)) = false:=decide_eq_false c4;clear c4;obtain rfl:=Option.some.inj H
    go_wp2
    repeat (go_quiet (fail); try go_wp2)
    go_ret;exact ⟨by first | rfl | (simp; done) | (simp [*]; done),by repeat (first | exact Drawn0.refl _ | apply Drawn0.step)⟩
   rw [if_pos c4] at H;have c4b0 : decide (x5_1 < (l0.length : Int)) = true:=decide_eq_true c4;clear c4
   by_cases c5 : 0 ≤ x5_1
   case neg =>
    rw [if_neg c5] at H;exact absurd H (by simp)
   rw [if_pos c5] at H;have c5b0 : decide (0 ≤ x5_1) = true:=decide_eq_true c5;clear c5
   by_cases c6 : x5_1 < (l1.length : Int)
   case neg =>
    rw [if_neg c6] at H;exact absurd H (by simp)
   rw [if_pos c6] at H;have c6b0 : decide (x5_1 < (l1.length : Int)) = true:=decide_eq_true c6;clear c6
   by_cases c7 : (rd l0 x5_1) = (rd l1 x5_1)
   case neg =>
    rw [if_neg c7] at H;have c7b0 : ((rd l0 x5_1) == (rd l1 x5_1)) = false:=beq_eq_false_iff_ne.mpr c7;have c7b1 : ((rd l0 x5_1) != (rd l1 x5_1)) = true:=bne_iff_ne.mpr c7;obtain rfl:=Option.some.inj H;have p511 : 0 ≤ (x5_1 : Int):=of_decide_eq_true (by first | (with_reducible assumption) | assumption);have q511 : x5_1 < (l0.length : Int):=of_decide_eq_true (by first | (with_reducible assumption) | assumption);obtain ⟨ad511,e511,hx511_0⟩:=Kd.at_int HR0.out x5_1 p511 q511;cases e511;replace p511:=eq_true p511;replace q511:=eq_true q511;have p512 : 0 ≤ (x5_1 : Int):=of_decide_eq_true (by first | (with_reducible assumption) | assumption);have q512 : x5_1 < (l1.length : Int):=of_decide_eq_true (by first | (with_reducible assumption) | assumption);obtain ⟨ad512,e512,hx512_0⟩:=Kd.at_int HR1.out x5_1 p512 q512;cases e512;replace p512:=eq_true p512;replace q512:=eq_true q512
    go_wp2
    repeat (go_quiet (fail); try go_wp2)
    go_ret;exact ⟨by first | rfl | (simp; done) | (simp [*]; done),by repeat (first | exact Drawn0.refl _ | apply Drawn0.step)⟩
   rw [if_pos c7] at H;have c7b0 : ((rd l0 x5_1) == (rd l1 x5_1)) = true:=beq_iff_eq.mpr c7;have c7b1 : ((rd l0 x5_1) != (rd l1 x5_1)) = false:=bne_eq_false_iff_eq.mpr c7;clear c7;have H':=G H;clear H;have p511 : 0 ≤ (x5_1 : Int):=of_decide_eq_true (by first | (with_reducible assumption) | assumption);have q511 : x5_1 < (l0.length : Int):=of_decide_eq_true (by first | (with_reducible assumption) | assumption);obtain ⟨ad511,e511,hx511_0⟩:=Kd.at_int HR0.out x5_1 p511 q511;cases e511;replace p511:=eq_true p511;replace q511:=eq_true q511;have p512 : 0 ≤ (x5_1 : Int):=of_decide_eq_true (by first | (with_reducible assumption) | assumption);have q512 : x5_1 < (l1.length : Int):=of_decide_eq_true (by first | (with_reducible assumption) | assumption);obtain ⟨ad512,e512,hx512_0⟩:=Kd.at_int HR1.out x5_1 p512 q512;cases e512;replace p512:=eq_true p512;replace q512:=eq_true q512
   go_wp2
   repeat (go_quiet (fail); try go_wp2)
   go_roundg k1
   case measure => have:=HK1.out; omega
   case rel => exact ⟨(wrap64 (x5_1 + 1)),(by first | rfl | (simp; done) | (simp [*]; done)),H',⟨by have:=HK1.out; omega⟩,by repeat (first | exact Drawn0.refl _ | apply Drawn0.step)⟩
end Go.Proofs.Ytlhmljngjdfbpaa.Pr
end
section
set_option linter.unusedSimpArgs false
set_option linter.unusedVariables false
namespace Go.Proofs.Ytlhmljngjdfbpaa.Pure
open Go.RowKit Go.Proofs.Ytlhmljngjdfbpaa.Pr Go.Proofs.YtlhmljngjdfbpaaW.PrintWords Go.Proofs.YtlhmljngjdfbpaaW.PrintLast Go.Proofs.YtlhmljngjdfbpaaW.PrintMore
def inB (x a b : Int) : Bool:=decide (a ≤ x) && decide (x ≤ b)
theorem inB_iff {x a b : Int} : inB x a b = true ↔ a ≤ x ∧ x ≤ b:=by simp [inB]
theorem in1 (x a b : Int) : spec_l1In.f x a b = some (inB x a b):=by
 unfold spec_l1In.f inB
 by_cases h : x ≥ a
 case pos => rw [if_pos h]; simp [show a ≤ x from h]
 rw [if_neg h]; simp [show ¬ a ≤ x from h]
theorem within1 (x a b : Int) : impl_within.f x a b = some (inB x a b):=by
 unfold impl_within.f inB
 by_cases h : x ≥ a
 case pos => rw [if_pos h]; simp [show a ≤ x from h]
 rw [if_neg h]; simp [show ¬ a ≤ x from h]
theorem up1 {i n : Nat} (h : i < n) (hn : n ≤ maxLen) : wrap64 ((i : Int) + 1) = ((i + 1 : Nat) : Int):=by
 simp only [maxLen] at hn;rw [w64 (by omega) (by omega)]; omega
def nth (l : List Int) (i : Nat) : Int:=l.getD i 0
theorem rdg {l : List Int} (i : Nat) : rd l (i : Int) = nth l i:=by simp [rd,nth]
theorem nth_get {l : List Int} {i : Nat} (h : i < l.length) : nth l i = l[i]:=by simp [nth,h]
theorem getD_mem {l : List Int} {i : Nat} (h : i < l.length) : nth l i ∈ l:=by
 rw [nth_get h];exact List.getElem_mem h
theorem mem_getD {l : List Int} {x : Int} (h : x ∈ l) : ∃ i,i < l.length ∧ nth l i = x:=by
 obtain ⟨i,hi,rfl⟩:=List.getElem_of_mem h;exact ⟨i,hi,nth_get hi⟩
def Pv {α : Type} (g : Nat → Option α) (P : α → Prop) : Prop:=∃ r,Ev g r ∧ P r
section
variable {α β : Type} {P : α → Prop}
theorem Pv.of {g : Nat → Option α} {r : α} (h : Ev g r) (hp : P r) : Pv g P:=⟨r,h,hp⟩
theorem Pv.now {a : α} (h : P a) : Pv (fun _ => some a) P:=⟨a,Ev.now a,h⟩
theorem Pv.pos {c : Prop} [Decidable c] {t e : Nat → Option α} (h : c) (k : Pv t P) : Pv (fun n => if c then t n else e n) P:=by
 obtain ⟨r,k,hp⟩:=k;exact ⟨r,Ev.pos h k,hp⟩
theorem Pv.neg {c : Prop} [Decidable c] {t e : Nat → Option α} (h : ¬ c) (k : Pv e P) : Pv (fun n => if c then t n else e n) P:=by
 obtain ⟨r,k,hp⟩:=k;exact ⟨r,Ev.neg h k,hp⟩
theorem Pv.ite {c : Prop} [Decidable c] {t e : Nat → Option α} (h : c → Pv t P) (k : ¬ c → Pv e P) : Pv (fun n => if c then t n else e n) P:=by
 by_cases hc : c
 case neg => exact Pv.neg hc (k hc)
 exact Pv.pos hc (h hc)
theorem Pv.bind {g : Nat → Option β} {f : Nat → β → Option α} {R : β → Prop} (h : Pv g R) (k : ∀ b,R b → Pv (fun n => f n b) P) : Pv (fun n => (g n).bind (f n)) P:=by
 obtain ⟨b,h,hb⟩:=h;obtain ⟨r,k,hp⟩:=k b hb;exact ⟨r,Ev.bind h k,hp⟩
theorem Pv.bind0 {g : Option β} {f : Nat → β → Option α} {b : β} (h : g = some b) (k : Pv (fun n => f n b) P) : Pv (fun n => g.bind (f n)) P:=by
 obtain ⟨r,k,hp⟩:=k;exact ⟨r,Ev.bind0 h k,hp⟩
theorem Pv.go {g f : Nat → Option α} (k : Pv f P) (h : ∀ k,g (k + 1) = f k) : Pv g P:=by
 obtain ⟨r,k,hp⟩:=k;exact ⟨r,Ev.go k h,hp⟩
theorem Pv.mono {g : Nat → Option α} {R : α → Prop} (h : Pv g R) (k : ∀ a,R a → P a) : Pv g P:=by
 obtain ⟨r,h,hr⟩:=h;exact ⟨r,h,k r hr⟩
end
theorem Pv.rounds {g : Nat → Option Bool} (h : Pv g (· = true)) : ∃ k,g k = some true:=by
 obtain ⟨r,h,rfl⟩:=h;exact Ev.rounds h
end Go.Proofs.Ytlhmljngjdfbpaa.Pure
end
section
namespace Go.Proofs.Ytlhmljngjdfbpaa.Pr
open Go.RowKit Go.Proofs.YtlhmljngjdfbpaaW.PrintWords Go.Proofs.YtlhmljngjdfbpaaW.PrintLast Go.Proofs.YtlhmljngjdfbpaaW.PrintMore
attribute [local go_sem] max2_int min2_int max_two min_two max_three min_three max_four min_four
set_option linter.unusedVariables false
set_option linter.unusedSimpArgs false
open List renaming setIfInBounds_toArray → U,set_cons_zero → O,set_cons_succ → I
open Go.Proofs.YtlhmljngjdfbpaaW.PrintWords.Aside0 renaming mk → G
def laws_szIntS.f (l0 : List Int) (a1 : Int) : Option (Int):=if (wrap64 (a1 - (l0.length : Int))) < 0 then (some (-1)) else (some (wrap64 (a1 - (l0.length : Int))))
set_option maxHeartbeats 8000000 in
set_option maxRecDepth 100000 in
theorem laws_szIntS.calls (A0 : Option Addr) (c0 : Nat) (l0 : List Int) (a1 : Int) (r : Int) (w : World) (hr0 : Kd.C (Kd.int .i64) w A0 l0.length l0) (hc0 : l0.length ≤ c0) (h : laws_szIntS.f l0 a1 = some r) :
  Calls Try.prog 83 #[.slice A0 l0.length c0,.int .i64 a1] w fun e w' => e = .returned (.int .i64 r) ∧ Drawn0 w w':=by
 have HR0:=G hr0;have HC0:=G hc0;clear hr0 hc0;have H : (if (wrap64 (a1 - (l0.length : Int))) < 0 then (some (-1)) else (some (wrap64 (a1 - (l0.length : Int))))) = some r:=h;clear h
 by_cases c3 : (wrap64 (a1 - (l0.length : Int))) < 0
 case pos =>
  rw [if_pos c3] at H;have c3b0 : decide ((wrap64 (a1 - (l0.length : Int))) < 0) = true:=decide_eq_true c3;clear c3;obtain rfl:=Option.some.inj H
  go_enter Try.func83,Try.ntmps83
  go_wp2
  go_ret;exact ⟨by first | rfl | (simp; done) | (simp [*]; done),by repeat (first | exact Drawn0.refl _ | apply Drawn0.step)⟩
 rw [if_neg c3] at H;have c3b0 : decide ((wrap64 (a1 - (l0.length : Int))) < 0) = false:=decide_eq_false c3;clear c3;obtain rfl:=Option.some.inj H
 go_enter Try.func83,Try.ntmps83
 go_wp2
 go_ret;exact ⟨by first | rfl | (simp; done) | (simp [*]; done),by repeat (first | exact Drawn0.refl _ | apply Drawn0.step)⟩
def laws_szFare.f (l0_0 : List Int) (a0_1 : Int) (a0_2 : Int) (a1 : Int) : Option (Int):=(laws_szIntS.f l0_0 a1).bind fun t478 => (if t478 < 0 then (some (-1)) else (some t478))
set_option maxHeartbeats 8000000 in
set_option maxRecDepth 100000 in
theorem laws_szFare.calls (A0_0 : Option Addr) (c0_0 : Nat) (l0_0 : List Int) (a0_1 : Int) (a0_2 : Int) (a1 : Int) (r : Int) (w : World) (hr0_0 : Kd.C (Kd.int .i64) w A0_0 l0_0.length l0_0) (hc0_0 : l0_0.length ≤ c0_0) (h : laws_szFare.f l0_0 a0_1 a0_2 a1 = some r) :
  Calls Try.prog 25 #[.agg #[.slice A0_0 l0_0.length c0_0,.int .i64 a0_1,.int .i64 a0_2],.int .i64 a1] w fun e w' => e = .returned (.int .i64 r) ∧ Below w.heap.size w w':=by
 have hu40:=Try.underlying40;have HR0_0:=G hr0_0;have HC0_0:=G hc0_0;clear hr0_0 hc0_0;have HB:=G (Below.refl w.heap.size w);have H : ((laws_szIntS.f l0_0 a1).bind fun t478 => (if t478 < 0 then (some (-1)) else (some t478))) = some r:=h;clear h;replace H:=Option.bind_eq_some_iff.mp H;obtain ⟨t478,A30,H⟩:=H;replace H : (if t478 < 0 then (some (-1)) else (some t478)) = some r:=H;have A3:=G A30;clear A30
 by_cases c4 : t478 < 0
 case pos =>
  rw [if_pos c4] at H;have c4b0 : decide (t478 < 0) = true:=decide_eq_true c4;clear c4;obtain rfl:=Option.some.inj H
  go_enter Try.func25,Try.ntmps25
  go_wp2_with (first | ((with_reducible refine gate_dst (N:=2) rfl ?_); refine box_event ?hg (N:=2) ?hd (cs:=#[.slice A0_0 l0_0.length c0_0,.int .i64 a0_1,.int .i64 a0_2]) (t:=40) ?hr ?_; (case hd => rfl); (case hg => rfl); (case hr => first | (go_simp; done) | (go_simp; rfl)); intro gb477 hg w5 hbox hb; have n0_:=G (below_step (by repeat (first | (with_reducible first | exact HB.out | apply below_alloc | apply pw_below_drewN | apply below_drew1) | exact HB.out)) hb); have n1_:=G (hbox); have n2_:=G ((by rw [hg]; exact (below_size (by repeat (first | (with_reducible first | exact HB.out | apply below_alloc | apply pw_below_drewN | apply below_drew1) | exact HB.out))) : w.heap.size ≤ gb477)); have n3_:=G ((by rw [hg]; exact (below_size (by repeat (first | (with_reducible first | exact HB.out | apply below_alloc | apply pw_below_drewN | apply below_drew1) | exact HB.out))) : w.heap.size ≤ gb477)); clear HB; have HB:=n0_; have BK477:=n1_; have GW477:=n2_; have GE477:=n3_; clear n0_ n1_ n2_ n3_; clear hb hbox hg; have hcz6_0 : w5.cell? ⟨gb477,0,none⟩ = some (.slice A0_0 l0_0.length c0_0):=(blk_cell BK477.out 0).trans rfl; have hcz6_1 : w5.cell? ⟨gb477,1,none⟩ = some (.int .i64 a0_1):=(blk_cell BK477.out 1).trans rfl; have hcz6_2 : w5.cell? ⟨gb477,2,none⟩ = some (.int .i64 a0_2):=(blk_cell BK477.out 2).trans rfl; have hfz6_0:=blk_frozen BK477.out 0; have hfz6_1:=blk_frozen BK477.out 1; have hfz6_2:=blk_frozen BK477.out 2) | ((with_reducible refine gate_callee (f:=83) rfl ?_); refine goesL_ (some 8) rfl rfl Try.func83 (by kernel_rfl) rfl #[.slice A0_0 l0_0.length c0_0,.int .i64 a1] rfl (by (try simp only [List.map_toArray,List.map_cons,List.map_nil]); first | done | rfl | (simp only [List.length_drop,List.length_take]; rfl)) ?_; (with_reducible refine (laws_szIntS.calls _ _ l0_0 a1 t478 _ ?side1 ?side2 A3.out).mono ?_); (case side1 => repeat (first | exact (Kd.C_below HR0_0.out HB.out) | (with_reducible refine Kd.C_alloc ?_ _) | (with_reducible refine Kd.C_drewN ?_ _) | (with_reducible refine Kd.C_drew ?_))); (case side2 => exact HC0_0.out); rintro e w' ⟨rfl,⟨nd,rfl⟩⟩; refine ⟨_,rfl,?_⟩))
  go_ret;exact ⟨by first | rfl | (simp [errW_none,errW_some] <;> rfl) | (simp [*,errW_none,errW_some] <;> rfl),by repeat (first | (with_reducible first | exact HB.out | apply below_alloc | apply pw_below_drewN | apply below_drew1 | refine below_set ?_ GE477.out) | exact HB.out)⟩
 rw [if_neg c4] at H;have c4b0 : decide (t478 < 0) = false:=decide_eq_false c4;clear c4;obtain rfl:=Option.some.inj H
 go_enter Try.func25,Try.ntmps25
 go_wp2_with (first | ((with_reducible refine gate_dst (N:=2) rfl ?_); refine box_event ?hg (N:=2) ?hd (cs:=#[.slice A0_0 l0_0.length c0_0,.int .i64 a0_1,.int .i64 a0_2]) (t:=40) ?hr ?_; (case hd => rfl); (case hg => rfl); (case hr => first | (go_simp; done) | (go_simp; rfl)); intro gb477 hg w7 hbox hb; have n0_:=G (below_step (by repeat (first | (with_reducible first | exact HB.out | apply below_alloc | apply pw_below_drewN | apply below_drew1) | exact HB.out)) hb); have n1_:=G (hbox); have n2_:=G ((by rw [hg]; exact (below_size (by repeat (first | (with_reducible first | exact HB.out | apply below_alloc | apply pw_below_drewN | apply below_drew1) | exact HB.out))) : w.heap.size ≤ gb477)); have n3_:=G ((by rw [hg]; exact (below_size (by repeat (first | (with_reducible first | exact HB.out | apply below_alloc | apply pw_below_drewN | apply below_drew1) | exact HB.out))) : w.heap.size ≤ gb477)); clear HB; have HB:=n0_; have BK477:=n1_; have GW477:=n2_; have GE477:=n3_; clear n0_ n1_ n2_ n3_; clear hb hbox hg; have hcz8_0 : w7.cell? ⟨gb477,0,none⟩ = some (.slice A0_0 l0_0.length c0_0):=(blk_cell BK477.out 0).trans rfl; have hcz8_1 : w7.cell? ⟨gb477,1,none⟩ = some (.int .i64 a0_1):=(blk_cell BK477.out 1).trans rfl; have hcz8_2 : w7.cell? ⟨gb477,2,none⟩ = some (.int .i64 a0_2):=(blk_cell BK477.out 2).trans rfl; have hfz8_0:=blk_frozen BK477.out 0; have hfz8_1:=blk_frozen BK477.out 1; have hfz8_2:=blk_frozen BK477.out 2) | ((with_reducible refine gate_callee (f:=83) rfl ?_); refine goesL_ (some 8) rfl rfl Try.func83 (by kernel_rfl) rfl #[.slice A0_0 l0_0.length c0_0,.int .i64 a1] rfl (by (try simp only [List.map_toArray,List.map_cons,List.map_nil]); first | done | rfl | (simp only [List.length_drop,List.length_take]; rfl)) ?_; (with_reducible refine (laws_szIntS.calls _ _ l0_0 a1 t478 _ ?side1 ?side2 A3.out).mono ?_); (case side1 => repeat (first | exact (Kd.C_below HR0_0.out HB.out) | (with_reducible refine Kd.C_alloc ?_ _) | (with_reducible refine Kd.C_drewN ?_ _) | (with_reducible refine Kd.C_drew ?_))); (case side2 => exact HC0_0.out); rintro e w' ⟨rfl,⟨nd,rfl⟩⟩; refine ⟨_,rfl,?_⟩))
 go_ret;exact ⟨by first | rfl | (simp [errW_none,errW_some] <;> rfl) | (simp [*,errW_none,errW_some] <;> rfl),by repeat (first | (with_reducible first | exact HB.out | apply below_alloc | apply pw_below_drewN | apply below_drew1 | refine below_set ?_ GE477.out) | exact HB.out)⟩
end Go.Proofs.Ytlhmljngjdfbpaa.Pr
end
section
set_option linter.unusedSimpArgs false
set_option linter.unusedVariables false
set_option linter.unusedVariables false
end
section
set_option linter.unusedSimpArgs false
set_option linter.unusedVariables false
namespace Go.Proofs.Ytlhmljngjdfbpaa.Pure
open Go.RowKit Go.Proofs.Ytlhmljngjdfbpaa.Pr Go.Proofs.YtlhmljngjdfbpaaW.PrintWords Go.Proofs.YtlhmljngjdfbpaaW.PrintLast Go.Proofs.YtlhmljngjdfbpaaW.PrintMore
theorem costOk1 (c : Int) : impl_costOk.f c = some (inB c 0 99):=okC_costOk c
theorem less1 (a b : Int) : cmp_Less_int.f a b = some (decide (a < b)):=by
 unfold cmp_Less_int.f cmp_isNaN_int.f
 simp
def RisesFrom (l : List Int) (i : Nat) : Prop:=∀ j,j < l.length → i ≤ j → (0 ≤ nth l j ∧ nth l j ≤ 99) ∧ (0 < j → nth l (j - 1) ≤ nth l j)
def FareGood (l : List Int) (d w : Int) : Prop:=l.length = 4 ∧ RisesFrom l 0 ∧ (0 ≤ d ∧ d ≤ 99) ∧ (0 ≤ w ∧ w ≤ 990)
noncomputable def fareB (l : List Int) (d w : Int) : Bool:=Bp (FareGood l d w)
theorem specFareOk_l (l : List Int) (d w : Int) (hm : l.length ≤ maxLen) : ∀ (m i : Nat),l.length - i = m → i ≤ l.length → Ev (fun k => spec_l28Ok.l0 k (i : Int) l d w) (Bp (l.length = 4 ∧ RisesFrom l i ∧ (0 ≤ d ∧ d ≤ 99) ∧ (0 ≤ w ∧ w ≤ 990))):=by
 intro m
 induction m with
 | zero =>
  intro i hd hi;refine Ev.go ?_ (fun k => by rw [spec_l28Ok.l0]);refine Ev.neg (by omega) ?_;have hr : RisesFrom l i:=fun j h h' => absurd h (by omega)
  by_cases h4 : l.length = 4
  case neg => exact Ev.neg (by omega) (Ev.is (Bp_false (fun h => h4 h.1)).symm)
  refine Ev.pos (by omega) (Ev.bind0 (in1 _ _ _) ?_);cases hd : inB d 0 99 with
  | false => exact Ev.neg (by simp) (Ev.is (Bp_false (fun h => by have:=inB_iff.2 h.2.2.1; simp [hd] at this)).symm)
  | true =>
   refine Ev.pos rfl (Ev.bind0 (in1 _ _ _) (Ev.is (eq_Bp ?_)));rw [inB_iff];exact ⟨fun h => ⟨h4,hr,inB_iff.1 hd,h⟩,fun h => h.2.2.2⟩
 | succ m ih =>
  intro i hd hi;have hlt : i < l.length:=by omega
  have hstep : RisesFrom l i ↔ ((0 ≤ nth l i ∧ nth l i ≤ 99) ∧ (0 < i → nth l (i - 1) ≤ nth l i)) ∧ RisesFrom l (i + 1):=by
   constructor
   ·exact fun h => ⟨h i hlt (Nat.le_refl _),fun j hj hij => h j hj (by omega)⟩
   ·intro h j hj hij
    by_cases e : j = i
    case pos => subst e; exact h.1
    exact h.2 j hj (by omega)
  refine Ev.go ?_ (fun k => by rw [spec_l28Ok.l0]);refine Ev.pos (by omega) (Ev.pos (by omega) (Ev.bind0 (in1 _ _ _) ?_));rw [rdg i];cases hp : inB (nth l i) 0 99 with
  | false => exact Ev.neg (by simp) (Ev.is (Bp_false (fun h => by have:=inB_iff.2 (hstep.1 h.2.1).1.1; rw [hp] at this; exact absurd this (by simp))).symm)
  | true =>
   refine Ev.pos rfl ?_;have hnext:=ih (i + 1) (by omega) (by omega);rw [← up1 hlt hm] at hnext
   by_cases h0 : 0 < i
   case neg =>
    refine Ev.neg (by omega) (hnext.cast (Bp_congr ?_));rw [hstep];have:=inB_iff.1 hp;exact ⟨fun h => ⟨h.1,⟨⟨this,fun h' => absurd h' h0⟩,h.2.1⟩,h.2.2⟩,fun h => ⟨h.1,h.2.1.2,h.2.2⟩⟩
   have hw : wrap64 ((i : Int) - 1) = ((i - 1 : Nat) : Int):=by
    simp only [maxLen] at hm;rw [w64 (by omega) (by omega)]; omega
   refine Ev.pos (by omega) ?_;rw [hw];refine Ev.pos (by omega) (Ev.pos (by omega) ?_);rw [rdg (i - 1)]
   by_cases hl : nth l i < nth l (i - 1)
   case pos =>
    refine Ev.pos hl (Ev.is (Bp_false (fun h => ?_)).symm);have:=(hstep.1 h.2.1).1.2 h0;omega
   refine Ev.neg hl (hnext.cast (Bp_congr ?_));rw [hstep];have:=inB_iff.1 hp;exact ⟨fun h => ⟨h.1,⟨⟨this,fun _ => by omega⟩,h.2.1⟩,h.2.2⟩,fun h => ⟨h.1,h.2.1.2,h.2.2⟩⟩
theorem specFareOk_ev (l : List Int) (d w : Int) (hm : l.length ≤ maxLen) : Ev (fun k => spec_l28Ok.f k l d w) (fareB l d w) :=
 specFareOk_l l d w hm _ 0 rfl (by omega)
def SortedTo (l : List Int) (i : Nat) : Prop:=∀ j,j < l.length → j ≤ i → 0 < j → nth l (j - 1) ≤ nth l j
theorem isSorted_l (l : List Int) (hm : l.length ≤ maxLen) : ∀ (i : Nat),i < l.length → Ev (fun k => slices_IsSorted_int_int.l0 k l (i : Int)) (Bp (SortedTo l i)):=by
 intro i
 induction i with
 | zero =>
  intro hi;refine Ev.go ?_ (fun k => by rw [slices_IsSorted_int_int.l0]);exact Ev.neg (by simp) (Ev.is (Bp_true (fun j h h1 h2 => absurd h2 (by omega))).symm)
 | succ i ih =>
  intro hi;have hw : wrap64 (((i + 1 : Nat) : Int) - 1) = (i : Int):=by
   simp only [maxLen] at hm;rw [w64 (by omega) (by omega)]; omega
  refine Ev.go ?_ (fun k => by rw [slices_IsSorted_int_int.l0]);refine Ev.pos (by omega) (Ev.pos (by omega) (Ev.pos (by omega) ?_));rw [hw];refine Ev.pos (by omega) (Ev.pos (by omega) (Ev.bind0 (less1 _ _) ?_));rw [rdg (i + 1),rdg i]
  by_cases hl : nth l (i + 1) < nth l i
  case pos =>
   rw [decide_eq_true hl];refine Ev.pos rfl (Ev.is (Bp_false (fun h => ?_)).symm);have:=h (i + 1) hi (Nat.le_refl _) (by omega);rw [Nat.add_sub_cancel] at this;omega
  rw [decide_eq_false hl];refine Ev.neg (by simp) ((ih (by omega)).cast (Bp_congr ?_));constructor
  ·intro h j hj hij h0
   by_cases e : j = i + 1
   case neg => exact h j hj (by omega) h0
   subst e; rw [Nat.add_sub_cancel]; omega
  ·exact fun h j hj hij h0 => h j hj (by omega) h0
theorem implFareOk_ev (l : List Int) (d w : Int) (hm : l.length ≤ maxLen) : Ev (fun k => impl_FareOk.f k l d w) (fareB l d w):=by
 unfold impl_FareOk.f fareB
 by_cases h4 : l.length = 4
 case neg => exact Ev.neg (by omega) (Ev.is (Bp_false (fun h => h4 h.1)).symm)
 refine Ev.pos (by omega) (Ev.bind0 rfl ?_);have hall : (!(l.any fun c => !okC c)) = true ↔ ∀ c ∈ l,0 ≤ c ∧ c ≤ 99:=by
  simp [okC]
 cases hp : (!(l.any fun c => !okC c)) with
 | false =>
  refine Ev.neg (by simp) (Ev.is (Bp_false (fun h => ?_)).symm);have : (!(l.any fun c => !okC c)) = true:=hall.2 (fun c hc => by
   obtain ⟨j,hj,rfl⟩:=mem_getD hc;exact (h.2.1 j hj (by omega)).1)
  rw [hp] at this;simp at this
 | true =>
  have hpr:=hall.1 hp;refine Ev.pos rfl ?_;have hs : Ev (fun k => slices_IsSorted_int_int.f k l) (Bp (SortedTo l 3)):=by
   unfold slices_IsSorted_int_int.f
   have:=isSorted_l l hm 3 (by omega);have e : wrap64 ((l.length : Int) - 1) = ((3 : Nat) : Int):=by rw [w64 (by omega) (by omega)]; omega
   rw [e];exact this
  refine Ev.bind hs ?_;cases hb : Bp (SortedTo l 3) with
  | false =>
   refine Ev.neg (by simp) (Ev.is (Bp_false (fun h => ?_)).symm);have : Bp (SortedTo l 3) = true:=Bp_true (fun j hj _ h0 => (h.2.1 j hj (by omega)).2 h0);rw [hb] at this;simp at this
  | true =>
   have hso:=Bp_iff.1 hb;have hr : RisesFrom l 0:=fun j hj _ => ⟨hpr _ (getD_mem hj),fun h0 => hso j hj (by omega) h0⟩
   refine Ev.pos rfl (Ev.bind0 (costOk1 _) ?_);cases hd : inB d 0 99 with
   | false => exact Ev.neg (by simp) (Ev.is (Bp_false (fun h => by have:=inB_iff.2 h.2.2.1; simp [hd] at this)).symm)
   | true =>
    refine Ev.pos rfl (Ev.bind0 (within1 _ _ _) (Ev.is (eq_Bp ?_)));rw [inB_iff];exact ⟨fun h => ⟨h4,hr,inB_iff.1 hd,h⟩,fun h => h.2.2.2⟩
def sumTo (l : List Int) : Nat → Int
 | 0 => 0
 | i + 1 => sumTo l i + nth l i
def Prices (l : List Int) : Prop:=∀ i,i < l.length → 0 ≤ nth l i ∧ nth l i ≤ 99
theorem sumTo_bd {l : List Int} (h : Prices l) : ∀ i,i ≤ l.length → 0 ≤ sumTo l i ∧ sumTo l i ≤ 99 * (i : Int):=by
 intro i
 induction i with
 | zero => intro _; simp [sumTo]
 | succ i ih =>
  intro hi;have h1:=ih (by omega);have h2:=h i (by omega);simp only [sumTo];omega
def RidesOk (l : List Int) : Prop:=Prices l ∧ l.length ≤ 10
open Classical in
noncomputable def dayV (l : List Int) (d w : Int) (r : List Int) : Int:=if FareGood l d w ∧ RidesOk r then min (sumTo r r.length) d else -1
theorem ridesOk_l (r : List Int) (hm : r.length ≤ maxLen) : ∀ (m i : Nat),r.length - i = m → i ≤ r.length → Ev (fun k => spec_l28Rides.l0 k r (i : Int)) (Bp ((∀ j,j < r.length → i ≤ j → 0 ≤ nth r j ∧ nth r j ≤ 99) ∧ r.length ≤ 10)):=by
 intro m
 induction m with
 | zero =>
  intro i hd hi;refine Ev.go ?_ (fun k => by rw [spec_l28Rides.l0]);refine Ev.neg (by omega) (Ev.is (eq_Bp ?_));rw [decide_eq_true_eq];exact ⟨fun h => ⟨fun j hj hij => absurd hj (by omega),by omega⟩,fun h => by have:=h.2; omega⟩
 | succ m ih =>
  intro i hd hi;have hlt : i < r.length:=by omega
  refine Ev.go ?_ (fun k => by rw [spec_l28Rides.l0]);refine Ev.pos (by omega) (Ev.pos (by omega) (Ev.bind0 (in1 _ _ _) ?_));rw [rdg i];cases hp : inB (nth r i) 0 99 with
  | false => exact Ev.neg (by simp) (Ev.is (Bp_false (fun h => by have:=inB_iff.2 (h.1 i hlt (Nat.le_refl _)); rw [hp] at this; exact absurd this (by simp))).symm)
  | true =>
   refine Ev.pos rfl ?_;rw [up1 hlt hm];refine (ih (i + 1) (by omega) (by omega)).cast (Bp_congr ?_);have hb:=inB_iff.1 hp;constructor
   ·refine fun h => ⟨fun j hj hij => ?_,h.2⟩
    by_cases e : j = i
    case pos => subst e; exact hb
    exact h.1 j hj (by omega)
   ·exact fun h => ⟨fun j hj hij => h.1 j hj (by omega),h.2⟩
theorem ridesOk_ev (r : List Int) (hm : r.length ≤ maxLen) : Ev (fun k => spec_l28Rides.f k r) (Bp (RidesOk r)) :=
 (ridesOk_l r hm _ 0 rfl (by omega)).cast (Bp_congr ⟨fun h => ⟨fun i hi => h.1 i hi (by omega),h.2⟩,fun h => ⟨fun j hj _ => h.1 j hj,h.2⟩⟩)
theorem day_l (l : List Int) (d w : Int) (r : List Int) (hr : RidesOk r) : ∀ (m i : Nat),r.length - i = m → i ≤ r.length → Ev (fun k => spec_l28Day.l0 k r (sumTo r i) (i : Int) l d w) (min (sumTo r r.length) d):=by
 intro m;have h10:=hr.2
 induction m with
 | zero =>
  intro i hd hi;refine Ev.go ?_ (fun k => by rw [spec_l28Day.l0]);refine Ev.neg (by omega) ?_;have e : i = r.length:=by omega
  subst e
  by_cases h : sumTo r r.length > d
  case neg => exact Ev.neg h (Ev.is (by omega))
  exact Ev.pos h (Ev.is (by omega))
 | succ m ih =>
  intro i hd hi;have hlt : i < r.length:=by omega
  refine Ev.go ?_ (fun k => by rw [spec_l28Day.l0]);refine Ev.pos (by omega) (Ev.pos (by omega) ?_);have h1:=sumTo_bd hr.1 i (by omega);have h2:=hr.1 i hlt;rw [rdg i,w64 (by omega) (by omega),up1 hlt (by simp only [maxLen]; omega)];exact ih (i + 1) (by omega) (by omega)
theorem mn_min (a b : Int) : mn a b = min a b:=by unfold mn; omega
theorem implDay_l (l : List Int) (d w : Int) (r : List Int) (hr : RidesOk r) : ∀ (m i : Nat),r.length - i = m → i ≤ r.length → Ev (fun k => impl_FareDay.l0 k (sumTo r i) r (r.length : Int) (i : Int) l d w) (min (sumTo r r.length) d):=by
 intro m;have h10:=hr.2
 induction m with
 | zero =>
  intro i hd hi;refine Ev.go ?_ (fun k => by rw [impl_FareDay.l0]);have e : i = r.length:=by omega
  subst e;exact Ev.neg (by omega) (Ev.is (mn_min _ _))
 | succ m ih =>
  intro i hd hi;have hlt : i < r.length:=by omega
  refine Ev.go ?_ (fun k => by rw [impl_FareDay.l0]);refine Ev.pos (by omega) (Ev.pos (by omega) (Ev.pos (by omega) ?_));have h1:=sumTo_bd hr.1 i (by omega);have h2:=hr.1 i hlt;rw [rdg i,w64 (by omega) (by omega),up1 hlt (by simp only [maxLen]; omega)];exact ih (i + 1) (by omega) (by omega)
theorem implFareDay_ev (l : List Int) (d w : Int) (r : List Int) (hm : l.length ≤ maxLen) (hr : r.length ≤ maxLen) : Ev (fun k => impl_FareDay.f k l d w r) (dayV l d w r):=by
 unfold impl_FareDay.f
 refine Ev.bind (implFareOk_ev l d w hm) ?_
 unfold dayV
 by_cases hg : FareGood l d w
 case neg =>
  rw [show fareB l d w = false from Bp_false hg,if_neg (fun h => hg h.1)];refine Ev.neg (by simp) (Ev.go ?_ (fun k => by rw [impl_FareDay.j0]));exact Ev.pos rfl (Ev.now _)
 rw [show fareB l d w = true from Bp_true hg];refine Ev.pos rfl ?_
 by_cases h10 : r.length ≤ 10
 case neg =>
  rw [if_neg (fun h => h10 h.2.2)];refine Ev.pos (by omega) (Ev.go ?_ (fun k => by rw [impl_FareDay.j0]));exact Ev.pos rfl (Ev.now _)
 refine Ev.neg (by omega) (Ev.bind0 rfl ?_);have hall : (!(r.any fun c => !okC c)) = true ↔ ∀ c ∈ r,0 ≤ c ∧ c ≤ 99:=by simp [okC]
 by_cases ho : RidesOk r
 case pos =>
  have e : (!(r.any fun c => !okC c)) = true:=hall.2 (fun c hc => by
   obtain ⟨j,hj,rfl⟩:=mem_getD hc;exact ho.1 j hj)
  rw [e,if_pos ⟨hg,ho⟩];refine Ev.go ?_ (fun k => by rw [impl_FareDay.j0]);exact Ev.neg (by simp) (implDay_l l d w r ho _ 0 rfl (by omega))
 have e : (!(r.any fun c => !okC c)) = false:=by
  cases h : (!(r.any fun c => !okC c)) with
  | false => rfl
  | true => exact absurd ⟨fun i hi => hall.1 h _ (getD_mem hi),h10⟩ ho
 rw [e,if_neg (fun h => ho h.2)];refine Ev.go ?_ (fun k => by rw [impl_FareDay.j0]);exact Ev.pos rfl (Ev.now _)
def row (l : List (List Int)) (i : Nat) : List Int:=rd_L2 l (i : Int)
theorem rdr (l : List (List Int)) (i : Nat) : rd_L2 l (i : Int) = row l i:=rfl
theorem row_get {l : List (List Int)} {i : Nat} (h : i < l.length) : row l i = l[i]:=by simp [row,rd_L2,h]
theorem row_mem {l : List (List Int)} {i : Nat} (h : i < l.length) : row l i ∈ l:=by
 rw [row_get h];exact List.getElem_mem h
def weekTo (l : List (List Int)) (d : Int) : Nat → Int
 | 0 => 0
 | i + 1 => weekTo l d i + min (sumTo (row l i) (row l i).length) d
def DaysFrom (l : List (List Int)) (i : Nat) : Prop:=∀ j,j < l.length → i ≤ j → RidesOk (row l j)
open Classical in
noncomputable def weekV (p : List Int) (d w : Int) (l : List (List Int)) : Int:=if FareGood p d w ∧ l.length ≤ 7 ∧ DaysFrom l 0 then min (weekTo l d l.length) w else -1
theorem days_step {l : List (List Int)} {i : Nat} (h : i < l.length) : DaysFrom l i ↔ RidesOk (row l i) ∧ DaysFrom l (i + 1):=by
 constructor
 ·exact fun k => ⟨k i h (Nat.le_refl _),fun j hj hij => k j hj (by omega)⟩
 ·intro k j hj hij
  by_cases e : j = i
  case pos => subst e; exact k.1
  exact k.2 j hj (by omega)
theorem weekTo_bd {l : List (List Int)} {d : Int} (hd : 0 ≤ d ∧ d ≤ 99) : ∀ i,(∀ j,j < i → RidesOk (row l j)) → 0 ≤ weekTo l d i ∧ weekTo l d i ≤ 99 * (i : Int):=by
 intro i
 induction i with
 | zero => intro _; simp [weekTo]
 | succ i ih =>
  intro h;have h1:=ih (fun j hj => h j (by omega));have h2:=h i (Nat.lt_succ_self _);have h3:=sumTo_bd h2.1 (row l i).length (Nat.le_refl _);simp only [weekTo];omega
open Classical in
theorem specWeek_l {p : List Int} {d w : Int} (hg : FareGood p d w) (l : List (List Int)) (h7 : l.length ≤ 7) (hm : ∀ r ∈ l,r.length ≤ maxLen) : ∀ (m i : Nat),l.length - i = m → i ≤ l.length → (∀ j,j < i → RidesOk (row l j)) → Ev (fun k => spec_FareWeek.l0 k l (weekTo l d i) (i : Int) p d w) (if DaysFrom l i then min (weekTo l d l.length) w else -1):=by
 intro m
 induction m with
 | zero =>
  intro i hd hi hr;have e : i = l.length:=by omega
  subst e;refine Ev.go ?_ (fun k => by rw [spec_FareWeek.l0]);rw [if_pos (show DaysFrom l l.length from fun j h1 h2 => absurd h1 (by omega))];refine Ev.neg (by omega) ?_
  by_cases h : weekTo l d l.length > w
  case neg => exact Ev.neg h (Ev.is (by omega))
  exact Ev.pos h (Ev.is (by omega))
 | succ m ih =>
  intro i hd hi hr;have hlt : i < l.length:=by omega
  refine Ev.go ?_ (fun k => by rw [spec_FareWeek.l0]);refine Ev.pos (by omega) (Ev.pos (by omega) ?_);rw [rdr];refine Ev.bind (ridesOk_ev (row l i) (hm _ (row_mem hlt))) ?_
  by_cases ho : RidesOk (row l i)
  case neg =>
   rw [Bp_false ho,if_neg (fun h => ho ((days_step hlt).1 h).1)];exact Ev.neg (by simp) (Ev.now _)
  rw [Bp_true ho];have hr' : ∀ j,j < i + 1 → RidesOk (row l j):=by
   intro j hj
   by_cases e : j = i
   case pos => subst e; exact ho
   exact hr j (by omega)
  refine Ev.pos rfl (Ev.bind (show Ev (fun k => spec_l28Day.f k p d w (row l i)) _ from day_l p d w (row l i) ho _ 0 rfl (Nat.zero_le _)) ?_);have hn:=ih (i + 1) (by omega) (by omega) hr';rw [← up1 hlt (by simp only [maxLen]; omega)] at hn;have hw : wrap64 (weekTo l d i + min (sumTo (row l i) (row l i).length) d) = weekTo l d (i + 1):=by
   have b:=weekTo_bd (l:=l) hg.2.2.1 (i + 1) hr';rw [show weekTo l d i + min (sumTo (row l i) (row l i).length) d = weekTo l d (i + 1) from rfl];exact w64 (by omega) (by omega)
  rw [hw];refine hn.cast ?_;have hp : DaysFrom l i = DaysFrom l (i + 1):=propext ⟨fun h => ((days_step hlt).1 h).2,fun h => (days_step hlt).2 ⟨ho,h⟩⟩;rw [hp]
theorem specWeek_ev (p : List Int) (d w : Int) (l : List (List Int)) (hp : p.length ≤ maxLen) (hm : ∀ r ∈ l,r.length ≤ maxLen) : Ev (fun k => spec_FareWeek.f k p d w l) (weekV p d w l):=by
 unfold spec_FareWeek.f
 refine Ev.bind (specFareOk_ev p d w hp) ?_
 unfold weekV
 by_cases hg : FareGood p d w
 case neg =>
  rw [show fareB p d w = false from Bp_false hg,if_neg (fun h => hg h.1)];refine Ev.neg (by simp) (Ev.go ?_ (fun k => by rw [spec_FareWeek.j0]));exact Ev.pos rfl (Ev.now _)
 rw [show fareB p d w = true from Bp_true hg];refine Ev.pos rfl (Ev.go ?_ (fun k => by rw [spec_FareWeek.j0]))
 by_cases h7 : l.length ≤ 7
 case neg =>
  rw [if_neg (fun h => h7 h.2.1)];exact Ev.pos (by simp; omega) (Ev.now _)
 refine Ev.neg (by simp; omega) ((specWeek_l hg l h7 hm _ 0 rfl (Nat.zero_le _) (fun j h => absurd h (by omega))).cast ?_)
 by_cases hd : DaysFrom l 0
 case pos => rw [if_pos hd,if_pos ⟨hg,h7,hd⟩]
 rw [if_neg hd,if_neg (fun h => hd h.2.2)]
open Classical in
theorem implWeek_l {p : List Int} {d w : Int} (hg : FareGood p d w) (hpm : p.length ≤ maxLen) (l : List (List Int)) (h7 : l.length ≤ 7) (hm : ∀ r ∈ l,r.length ≤ maxLen) : ∀ (m i : Nat),l.length - i = m → i ≤ l.length → (∀ j,j < i → RidesOk (row l j)) → Ev (fun k => impl_FareWeek.l0 k (weekTo l d i) l (l.length : Int) (i : Int) p d w) (if DaysFrom l i then min (weekTo l d l.length) w else -1):=by
 intro m
 induction m with
 | zero =>
  intro i hd hi hr;have e : i = l.length:=by omega
  subst e;refine Ev.go ?_ (fun k => by rw [impl_FareWeek.l0]);rw [if_pos (show DaysFrom l l.length from fun j h1 h2 => absurd h1 (by omega))];exact Ev.neg (by omega) (Ev.is (mn_min _ _))
 | succ m ih =>
  intro i hd hi hr;have hlt : i < l.length:=by omega
  refine Ev.go ?_ (fun k => by rw [impl_FareWeek.l0]);refine Ev.pos (by omega) (Ev.pos (by omega) (Ev.pos (by omega) ?_));rw [rdr];refine Ev.bind (implFareDay_ev p d w (row l i) hpm (hm _ (row_mem hlt))) ?_
  unfold dayV
  by_cases ho : RidesOk (row l i)
  case neg =>
   rw [if_neg (fun h => ho h.2),if_neg (fun h => ho ((days_step hlt).1 h).1)];exact Ev.pos (by omega) (Ev.now _)
  rw [if_pos ⟨hg,ho⟩];have hr' : ∀ j,j < i + 1 → RidesOk (row l j):=by
   intro j hj
   by_cases e : j = i
   case pos => subst e; exact ho
   exact hr j (by omega)
  have h3:=sumTo_bd ho.1 (row l i).length (Nat.le_refl _);have h4:=hg.2.2.1;refine Ev.neg (by omega) ?_;have hn:=ih (i + 1) (by omega) (by omega) hr';rw [← up1 hlt (by simp only [maxLen]; omega)] at hn;have hw : wrap64 (weekTo l d i + min (sumTo (row l i) (row l i).length) d) = weekTo l d (i + 1):=by
   have b:=weekTo_bd (l:=l) hg.2.2.1 (i + 1) hr';rw [show weekTo l d i + min (sumTo (row l i) (row l i).length) d = weekTo l d (i + 1) from rfl];exact w64 (by omega) (by omega)
  rw [hw];refine hn.cast ?_;have hp : DaysFrom l i = DaysFrom l (i + 1):=propext ⟨fun h => ((days_step hlt).1 h).2,fun h => (days_step hlt).2 ⟨ho,h⟩⟩;rw [hp]
theorem implWeek_ev (p : List Int) (d w : Int) (l : List (List Int)) (hp : p.length ≤ maxLen) (hm : ∀ r ∈ l,r.length ≤ maxLen) : Ev (fun k => impl_FareWeek.f k p d w l) (weekV p d w l):=by
 unfold impl_FareWeek.f
 refine Ev.bind (implFareOk_ev p d w hp) ?_
 unfold weekV
 by_cases hg : FareGood p d w
 case neg =>
  rw [show fareB p d w = false from Bp_false hg,if_neg (fun h => hg h.1)];refine Ev.neg (by simp) (Ev.go ?_ (fun k => by rw [impl_FareWeek.j0]));exact Ev.pos rfl (Ev.now _)
 rw [show fareB p d w = true from Bp_true hg];refine Ev.pos rfl (Ev.go ?_ (fun k => by rw [impl_FareWeek.j0]))
 by_cases h7 : l.length ≤ 7
 case neg =>
  rw [if_neg (fun h => h7 h.2.1)];exact Ev.pos (by simp; omega) (Ev.now _)
 refine Ev.neg (by simp; omega) ((implWeek_l hg hp l h7 hm _ 0 rfl (Nat.zero_le _) (fun j h => absurd h (by omega))).cast ?_)
 by_cases hd : DaysFrom l 0
 case pos => rw [if_pos hd,if_pos ⟨hg,h7,hd⟩]
 rw [if_neg hd,if_neg (fun h => hd h.2.2)]
structure Rdr (b : List Int) : Prop where
 len : b.length ≤ 2000
 rng : ∀ i,i < b.length → 0 ≤ nth b i ∧ nth b i ≤ 255
theorem Rdr.rd {b : List Int} (h : Rdr b) (i : Int) : 0 ≤ Go.Proofs.YtlhmljngjdfbpaaW.PrintWords.rd b i ∧ Go.Proofs.YtlhmljngjdfbpaaW.PrintWords.rd b i ≤ 255:=by
 have e : Go.Proofs.YtlhmljngjdfbpaaW.PrintWords.rd b i = nth b i.toNat:=rfl;rw [e]
 by_cases c : i.toNat < b.length
 case pos => exact h.rng _ c
 have c2 : b.length ≤ i.toNat:=by omega
 simp [nth,List.getElem?_eq_none c2]
theorem tm {x a : Int} (hx : 0 ≤ x) (ha : 0 < a) : 0 ≤ Int.tmod x a ∧ Int.tmod x a < a:=by
 rw [Int.tmod_eq_emod_of_nonneg hx];exact ⟨Int.emod_nonneg _ (by omega),Int.emod_lt_of_pos _ ha⟩
theorem td {x a : Int} (hx : 0 ≤ x) (ha : 0 < a) : 0 ≤ Int.tdiv x a ∧ Int.tdiv x a ≤ x:=by
 rw [Int.tdiv_eq_ediv_of_nonneg hx];exact ⟨Int.ediv_nonneg hx (by omega),Int.ediv_le_self _ hx⟩
theorem xor_nn {x y : Int} (hx : 0 ≤ x) (hx' : x < 4294967296) (hy : 0 ≤ y) (hy' : y < 4294967296) : 0 ≤ Go.bits .xor .i64 x y:=by
 obtain ⟨x,rfl⟩:=Int.eq_ofNat_of_zero_le hx;obtain ⟨y,rfl⟩:=Int.eq_ofNat_of_zero_le hy;have h1 : x ^^^ y < 2 ^ 32:=Nat.xor_lt_two_pow (by omega) (by omega);have e : Go.bits .xor .i64 ((x : Nat) : Int) ((y : Nat) : Int) = wrap64 (((BitVec.ofInt 64 ((x : Nat) : Int) ^^^ BitVec.ofInt 64 ((y : Nat) : Int)).toNat : Nat) : Int):=by
  unfold Go.bits
  simp only [i64_w];rfl
 rw [e,BitVec.toNat_xor,BitVec.ofInt_natCast,BitVec.ofInt_natCast,BitVec.toNat_ofNat,BitVec.toNat_ofNat,Nat.mod_eq_of_lt (by omega),Nat.mod_eq_of_lt (by omega),w64 (by omega) (by omega)];omega
theorem pick_pv {b : List Int} (h : Rdr b) {p a : Int} (hp : 0 ≤ p) (hp' : p ≤ 1000000) : Pv (fun k => spec_l30Rd_pick.f k b p a) (fun r => (0 ≤ r.1 ∧ (a < 1 → r.1 = 0) ∧ (1 ≤ a → r.1 < a)) ∧ r.2 = p + 1):=by
 have w1 : wrap64 (p + 1) = p + 1:=w64 (by omega) (by omega);have w2 : wrap64 (p + 1 - 1) = p:=by rw [w64 (by omega) (by omega)]; omega
 unfold spec_l30Rd_pick.f
 refine Pv.ite (fun c => ?_) (fun c => ?_)
 ·refine Pv.go ?_ (fun k => by rw [spec_l30Rd_pick.j0]);exact Pv.pos rfl (Pv.now ⟨⟨Int.le_refl _,fun _ => rfl,fun c2 => by omega⟩,w1⟩)
 ·refine Pv.go ?_ (fun k => by rw [spec_l30Rd_pick.j0]);refine Pv.ite (fun _ => Pv.now ⟨⟨Int.le_refl _,fun _ => rfl,fun c2 => by dsimp only; omega⟩,w1⟩) (fun c0 => ?_);have hb : 0 < (b.length : Int):=by
   have : (b.length : Int) ≠ 0:=by simpa using c0
   omega
  have hb2:=h.len;rw [w1,w2];have fin : ∀ X : Int,0 ≤ X → Pv (fun _ => some (Int.tmod X a,p + 1)) (fun r => (0 ≤ r.1 ∧ (a < 1 → r.1 = 0) ∧ (1 ≤ a → r.1 < a)) ∧ r.2 = p + 1):=by
   intro X hX;have:=tm hX (show 0 < a by omega);exact Pv.now ⟨⟨this.1,fun c2 => absurd c2 c,fun _ => this.2⟩,rfl⟩
  refine Pv.ite (fun c1 => Pv.pos hp (Pv.neg (by omega) ?_)) (fun c1 => ?_)
  ·have:=h.rd p;rw [w64 (n:=Go.Proofs.YtlhmljngjdfbpaaW.PrintWords.rd b p) (by omega) (by omega)];exact fin _ (by omega)
  ·have t1:=tm hp hb;have e1 : wrap64 (p * 7) = p * 7:=w64 (by omega) (by omega);have e2 : wrap64 (p * 7 + 3) = p * 7 + 3:=w64 (by omega) (by omega);rw [e1,e2];have t2:=tm (show 0 ≤ p * 7 + 3 by omega) hb;have r1:=h.rd (Int.tmod p b.length);have r2:=h.rd (Int.tmod (p * 7 + 3) b.length);have d1:=td hp hb;refine Pv.neg (by omega) (Pv.pos t1.1 (Pv.pos t1.2 (Pv.pos t2.1 (Pv.pos t2.2 (Pv.neg (by omega) ?_)))));generalize Go.Proofs.YtlhmljngjdfbpaaW.PrintWords.rd b (Int.tmod p b.length) = u at r1;generalize Go.Proofs.YtlhmljngjdfbpaaW.PrintWords.rd b (Int.tmod (p * 7 + 3) b.length) = v at r2;generalize Int.tdiv p b.length = q at d1;rw [w64 (n:=u) (by omega) (by omega),w64 (n:=v) (by omega) (by omega),w64 (n:=q) (by omega) (by omega),w64 (n:=u * 131) (by omega) (by omega),w64 (n:=v * 1117) (by omega) (by omega),w64 (n:=p * 29) (by omega) (by omega),w64 (n:=q * 53) (by omega) (by omega),w64 (n:=u * 131 + v * 1117) (by omega) (by omega),w64 (n:=u * 131 + v * 1117 + p * 29) (by omega) (by omega),w64 (n:=u * 131 + v * 1117 + p * 29 + q * 53) (by omega) (by omega)];have d2:=td (show 0 ≤ u * 131 + v * 1117 + p * 29 + q * 53 by omega) (show (0 : Int) < 64 by omega);generalize Int.tdiv (u * 131 + v * 1117 + p * 29 + q * 53) 64 = z at d2;rw [w64 (n:=z) (by omega) (by omega)];exact fin _ (xor_nn (by omega) (by omega) (by omega) (by omega))
theorem one_pv {b : List Int} (h : Rdr b) {p : Int} (hp : 0 ≤ p) (hp' : p ≤ 1000000) {l : List Int} (hl : 0 < l.length) : Pv (fun k => spec_l30Rd_one.f k b p l) (fun r => r.1 ∈ l ∧ r.2 = p + 1):=by
 unfold spec_l30Rd_one.f
 refine Pv.bind (pick_pv h hp hp') (fun r ⟨⟨h1,_,h2⟩,h3⟩ => ?_);have h2:=h2 (by omega);refine Pv.pos h1 (Pv.pos h2 (Pv.now ⟨?_,h3⟩));have e : Go.Proofs.YtlhmljngjdfbpaaW.PrintWords.rd l r.1 = nth l r.1.toNat:=rfl;dsimp only;rw [e];exact getD_mem (by omega)
theorem u8_range {x : Int} (h : (Lit.int .u8 x).wf = true) : 0 ≤ x ∧ x ≤ 255:=by
 simp only [Lit.wf] at h;have h2 : IntKind.u8.min ≤ x ∧ x ≤ IntKind.u8.max:=by simpa using h
 have e1 : IntKind.u8.min = 0:=by decide
 have e2 : IntKind.u8.max = 255:=by decide
 omega
theorem open_pv {l : List Int} (hl : ∀ x ∈ l,(Lit.int .u8 x).wf = true) : ∃ b,spec_l30Open.f l = some (b,0) ∧ Rdr b:=by
 have key : ∀ m : List Int,m.length ≤ 2000 → (∀ x ∈ m,x ∈ l) → Rdr m:=fun m h1 h2 => ⟨h1,fun i hi => u8_range (hl _ (h2 _ (getD_mem hi)))⟩
 unfold spec_l30Open.f
 by_cases c : (l.length : Int) > 2000
 case neg =>
  rw [if_neg c];exact ⟨_,rfl,key _ (by omega) (fun x hx => hx)⟩
 rw [if_pos c,if_pos (by omega)];exact ⟨_,rfl,key _ (by simp; omega) (fun x hx => List.mem_of_mem_take hx)⟩
theorem sumTo_sum (l : List Int) : ∀ i,i ≤ l.length → sumTo l i = (l.take i).sum:=by
 intro i
 induction i with
 | zero => intro _; simp [sumTo]
 | succ i ih =>
  intro hi;simp only [sumTo];rw [ih (by omega),List.take_succ_eq_append_getElem (by omega),List.sum_append_int,nth_get (by omega)];simp
theorem sumTo_all (l : List Int) : sumTo l l.length = l.sum:=by rw [sumTo_sum l _ (Nat.le_refl _),List.take_length]
theorem prices_iff (l : List Int) : Prices l ↔ ∀ x ∈ l,0 ≤ x ∧ x ≤ 99:=by
 constructor
 ·intro h x hx;obtain ⟨i,hi,rfl⟩:=mem_getD hx;exact h i hi
 ·intro h i hi;exact h _ (getD_mem hi)
theorem fare_l {b : List Int} (h : Rdr b) (d w : Int) : ∀ (m : Nat) (c p : Int) (l : List Int),(0 ≤ p ∧ p + m ≤ 100000) → (0 ≤ c ∧ c + 5 * m ≤ 1000) → m ≤ 4 → l.length + m = 4 → Pv (fun k => spec_l30Fare.l0 k c (4 - (m : Int)) b p l d w) (fun r => r.1.length ≤ 4 ∧ (p ≤ r.2.2.2 ∧ r.2.2.2 ≤ p + m + 3)):=by
 intro m
 induction m with
 | zero =>
  intro c p l hp hc hm hl;refine Pv.go ?_ (fun k => by rw [spec_l30Fare.l0]);refine Pv.neg (by omega) (Pv.bind (pick_pv h (by omega) (by omega)) (fun r1 ⟨a1,e1⟩ => ?_));refine Pv.ite (fun c1 => Pv.bind (one_pv h (p:=r1.2) (by omega) (by omega) (by simp)) (fun r2 ⟨a2,e2⟩ => Pv.pos (by omega) (Pv.now ⟨by simp; omega,by dsimp only; omega⟩))) (fun c1 => ?_);refine Pv.ite (fun c2 => Pv.bind (one_pv h (p:=r1.2) (by omega) (by omega) (by simp)) (fun r2 ⟨a2,e2⟩ => Pv.now ⟨by dsimp only; omega,by dsimp only; omega⟩)) (fun c2 => ?_);exact Pv.ite (fun c3 => Pv.pos (by omega) (Pv.now ⟨by simp; omega,by dsimp only; omega⟩)) (fun c3 => Pv.now ⟨by dsimp only; omega,by dsimp only; omega⟩)
 | succ m ih =>
  intro c p l hp hc hm hl;refine Pv.go ?_ (fun k => by rw [spec_l30Fare.l0]);refine Pv.pos (by omega) (Pv.pos (by omega) (Pv.bind (pick_pv h (by omega) (by omega)) (fun r1 ⟨a1,e1⟩ => ?_)));have b1:=a1.2.2 (by omega);have w1 : wrap64 (c + r1.1) = c + r1.1:=w64 (by omega) (by omega);have w2 : wrap64 (4 - ((m + 1 : Nat) : Int) + 1) = 4 - (m : Int):=by rw [w64 (by omega) (by omega)]; omega
  rw [w1,w2];exact (ih (c + r1.1) r1.2 (l ++ [c]) (by omega) (by omega) (by omega) (by simp; omega)).mono (fun r hr => ⟨hr.1,by omega⟩)
theorem fare_pv {b : List Int} (h : Rdr b) {p : Int} (hp : 0 ≤ p) (hp' : p ≤ 10000) : Pv (fun k => spec_l30Fare.f k b p) (fun r => r.1.length ≤ 4 ∧ (p ≤ r.2.2.2 ∧ r.2.2.2 ≤ p + 10)):=by
 unfold spec_l30Fare.f
 refine Pv.bind (pick_pv h hp (by omega)) (fun r1 ⟨a1,e1⟩ => Pv.bind (pick_pv h (p:=r1.2) (by omega) (by omega)) (fun r2 ⟨a2,e2⟩ => Pv.bind (pick_pv h (p:=r2.2) (by omega) (by omega)) (fun r3 ⟨a3,e3⟩ => ?_)));have b3:=a3.2.2 (by omega);exact (fare_l h _ _ 4 r3.1 r3.2 [] (by omega) (by omega) (by omega) (by simp)).mono (fun r hr => ⟨hr.1,by omega⟩)
theorem rides_l {b : List Int} (h : Rdr b) : ∀ (m : Nat) (p : Int) (l : List Int),(0 ≤ p ∧ p + m ≤ 100000) → m ≤ 5 → l.length + m ≤ 5 → Pv (fun k => spec_l30Rides.l0 k l (m : Int) b p) (fun r => r.1.length ≤ 6 ∧ (p ≤ r.2 ∧ r.2 ≤ p + m + 3)):=by
 intro m
 induction m with
 | zero =>
  intro p l hp hm hl;refine Pv.go ?_ (fun k => by rw [spec_l30Rides.l0]);refine Pv.neg (by omega) (Pv.bind (pick_pv h (by omega) (by omega)) (fun r1 ⟨a1,e1⟩ => ?_));exact Pv.ite (fun c1 => Pv.bind (one_pv h (p:=r1.2) (by omega) (by omega) (by simp)) (fun r2 ⟨a2,e2⟩ => Pv.pos (by omega) (Pv.now ⟨by simp; omega,by dsimp only; omega⟩))) (fun c1 => Pv.now ⟨by dsimp only; omega,by dsimp only; omega⟩)
 | succ m ih =>
  intro p l hp hm hl;refine Pv.go ?_ (fun k => by rw [spec_l30Rides.l0]);have w2 : wrap64 (((m + 1 : Nat) : Int) - 1) = (m : Int):=by rw [w64 (by omega) (by omega)]; omega
  rw [w2];refine Pv.pos (by omega) (Pv.bind (pick_pv h (by omega) (by omega)) (fun r1 ⟨a1,e1⟩ => Pv.pos (by omega) ?_));exact (ih r1.2 (l ++ [r1.1]) (by omega) (by omega) (by simp; omega)).mono (fun r hr => ⟨hr.1,by omega⟩)
theorem rides_pv {b : List Int} (h : Rdr b) {p : Int} (hp : 0 ≤ p) (hp' : p ≤ 10000) : Pv (fun k => spec_l30Rides.f k b p) (fun r => r.1.length ≤ 6 ∧ (p ≤ r.2 ∧ r.2 ≤ p + 10)):=by
 unfold spec_l30Rides.f
 refine Pv.bind (pick_pv h hp (by omega)) (fun r1 ⟨a1,e1⟩ => ?_);have b1:=a1.2.2 (by omega);have:=rides_l h r1.1.toNat r1.2 [] (by omega) (by omega) (by simp; omega);rw [Int.toNat_of_nonneg a1.1] at this;exact this.mono (fun r hr => ⟨hr.1,by omega⟩)
theorem weekdraw_l {b : List Int} (h : Rdr b) (s : List Int) (d w : Int) (hs : s.length ≤ 4) : ∀ (m : Nat) (p : Int) (l : List (List Int)),(0 ≤ p ∧ p + 11 * m ≤ 5000) → l.length + m ≤ 9 → (∀ r ∈ l,r.length ≤ 6) → Pv (fun k => spec_DrawFareWeek.l0 k l (m : Int) b p s d w) (fun r => r.1.length ≤ 4 ∧ r.2.2.2.length ≤ 9 ∧ ∀ q ∈ r.2.2.2,q.length ≤ 6):=by
 intro m
 induction m with
 | zero =>
  intro p l hp hl hr;refine Pv.go ?_ (fun k => by rw [spec_DrawFareWeek.l0]);exact Pv.neg (by omega) (Pv.now ⟨hs,by dsimp only; omega,hr⟩)
 | succ m ih =>
  intro p l hp hl hr;refine Pv.go ?_ (fun k => by rw [spec_DrawFareWeek.l0]);have w2 : wrap64 (((m + 1 : Nat) : Int) - 1) = (m : Int):=by rw [w64 (by omega) (by omega)]; omega
  rw [w2];refine Pv.pos (by omega) (Pv.bind (rides_pv h (p:=p) (by omega) (by omega)) (fun r1 ⟨a1,e1⟩ => Pv.pos (by omega) ?_));refine ih r1.2 (l ++ [r1.1]) (by omega) (by simp; omega) (fun q hq => ?_)
  rcases List.mem_append.1 hq with k | k
  ·exact hr q k
  ·rw [List.mem_singleton.1 k]; exact a1
theorem wk_row0 (l : List (List Int)) : row (weekOne l) 0 = row l 0 ++ row l 1:=rfl
theorem wk_row (l : List (List Int)) (i : Nat) : row (weekOne l) (i + 1) = row l (i + 2):=by
 unfold row rd_L2 weekOne
 simp [Nat.add_comm];rw [show ((i : Int) + 2).toNat = i + 2 by omega]
theorem wk_len (l : List (List Int)) (h : 2 ≤ l.length) : (weekOne l).length = l.length - 1:=by simp [weekOne]; omega
theorem wk_rides {l : List (List Int)} (hd : DaysFrom l 0) (h2 : 2 ≤ l.length) (hc : (row l 0).length + (row l 1).length ≤ 10) : DaysFrom (weekOne l) 0:=by
 intro j hj _;rw [wk_len l h2] at hj;cases j with
 | zero =>
  rw [wk_row0];have h0:=hd 0 (by omega) (Nat.zero_le _);have h1:=hd 1 (by omega) (Nat.zero_le _);refine ⟨(prices_iff _).2 (fun x hx => ?_),by simp; omega⟩
  rcases List.mem_append.1 hx with k | k
  ·exact (prices_iff _).1 h0.1 x k
  ·exact (prices_iff _).1 h1.1 x k
 | succ j =>
  rw [wk_row];exact hd (j + 2) (by omega) (Nat.zero_le _)
theorem sum_nn {r : List Int} (h : RidesOk r) : 0 ≤ r.sum:=by
 have:=(sumTo_bd h.1 r.length (Nat.le_refl _)).1
 rwa [sumTo_all] at this
theorem wk_le {l : List (List Int)} {d : Int} (hd0 : 0 ≤ d) (hd : DaysFrom l 0) : ∀ i,i + 2 ≤ l.length → weekTo (weekOne l) d (i + 1) ≤ weekTo l d (i + 2):=by
 intro i
 induction i with
 | zero =>
  intro h;have h0:=sum_nn (hd 0 (by omega) (Nat.zero_le _));have h1:=sum_nn (hd 1 (by omega) (Nat.zero_le _))
  show 0 + min (sumTo (row (weekOne l) 0) (row (weekOne l) 0).length) d ≤ 0 + min (sumTo (row l 0) (row l 0).length) d + min (sumTo (row l 1) (row l 1).length) d
  rw [sumTo_all,sumTo_all,sumTo_all,wk_row0,List.sum_append_int];omega
 | succ i ih =>
  intro h;have:=ih (by omega)
  show weekTo (weekOne l) d (i + 1) + min (sumTo (row (weekOne l) (i + 1)) (row (weekOne l) (i + 1)).length) d ≤ weekTo l d (i + 2) + min (sumTo (row l (i + 2)) (row l (i + 2)).length) d
  rw [wk_row];omega
theorem wk_end {c S w : Int} (h : c = min S w) : Ev (fun _ => if c ≤ w then (if c = S then (some true) else (if c = w then (some (decide (S > c))) else (some false))) else (some false)) true:=by
 by_cases q : S ≤ w
 case pos => exact Ev.pos (by omega) (Ev.pos (by omega) (Ev.now _))
 refine Ev.pos (by omega) (Ev.neg (by omega) (Ev.pos (by omega) (Ev.is ?_)));exact decide_eq_true (by omega)
open Classical in
theorem wk_j2 {s : List Int} {d w : Int} (hg : FareGood s d w) (hs : s.length ≤ maxLen) {l : List (List Int)} (h7 : l.length ≤ 7) (hm : ∀ r ∈ l,r.length ≤ maxLen) (hd : DaysFrom l 0) (b : Bool) (hb : b = true → 2 ≤ l.length ∧ (row l 0).length + (row l 1).length ≤ 10) : Ev (fun k => laws_FnFareWeek.j2 k l (min (weekTo l d l.length) w) (weekTo l d l.length) b s d w) true:=by
 refine Ev.go ?_ (fun k => by rw [laws_FnFareWeek.j2])
 by_cases hbb : b = true
 case neg => exact Ev.neg hbb (wk_end rfl)
 obtain ⟨h2,hc⟩:=hb hbb;have hdo:=wk_rides hd h2 hc;have hlo:=wk_len l h2;have hmo : ∀ r ∈ weekOne l,r.length ≤ maxLen:=by
  intro r hr
  rcases List.mem_cons.1 hr with rfl | hr
  ·have e : (rd_L2 l 0 ++ rd_L2 l 1).length = (row l 0).length + (row l 1).length:=by rw [List.length_append]; rfl
   rw [e]; simp only [maxLen]; omega
  ·exact hm r (List.mem_of_mem_drop hr)
 have hv:=implWeek_ev s d w (weekOne l) hs hmo
 unfold weekV at hv
 rw [if_pos ⟨hg,by omega,hdo⟩] at hv;have hle:=wk_le hg.2.2.1.1 hd (l.length - 2) (by omega);rw [show l.length - 2 + 1 = (weekOne l).length by omega,show l.length - 2 + 2 = l.length by omega] at hle;refine Ev.pos hbb (Ev.pos ⟨h2,?_,by omega⟩ (Ev.bind hv (Ev.neg (by omega) (wk_end rfl))));have e : (rd_L2 l 0).length + (rd_L2 l 1).length = (row l 0).length + (row l 1).length:=rfl;rw [e]; omega
theorem wk_l {s : List Int} {d w : Int} (hg : FareGood s d w) (hs : s.length ≤ maxLen) {l : List (List Int)} (h7 : l.length ≤ 7) (hm : ∀ r ∈ l,r.length ≤ maxLen) (hd : DaysFrom l 0) : ∀ (m i : Nat),l.length - i = m → i ≤ l.length → Ev (fun k => laws_FnFareWeek.l0 k l (min (weekTo l d l.length) w) (weekTo l d i) (i : Int) s d w) true:=by
 intro m
 induction m with
 | zero =>
  intro i hi hle;have e : i = l.length:=by omega
  subst e;refine Ev.go ?_ (fun k => by rw [laws_FnFareWeek.l0]);refine Ev.neg (by omega) ?_
  by_cases h1 : (l.length : Int) > 1
  case neg => exact Ev.neg h1 (wk_j2 hg hs h7 hm hd false (fun hb => by cases hb))
  refine Ev.pos h1 (Ev.pos (by omega) (Ev.pos (by omega) (wk_j2 hg hs h7 hm hd _ (fun hb => ⟨by omega,?_⟩))));have h0:=(hd 0 (by omega) (Nat.zero_le _)).2;have h1:=(hd 1 (by omega) (Nat.zero_le _)).2;have e0 : (rd_L2 l 0).length = (row l 0).length:=rfl;have e1 : (rd_L2 l 1).length = (row l 1).length:=rfl;rw [e0,e1,w64 (by omega) (by omega)] at hb;have:=of_decide_eq_true hb;omega
 | succ m ih =>
  intro i hi hle;have hlt : i < l.length:=by omega
  have ho:=hd i hlt (Nat.zero_le _);have hv:=implFareDay_ev s d w (row l i) hs (hm _ (row_mem hlt))
  unfold dayV at hv
  rw [if_pos ⟨hg,ho⟩] at hv;have hb:=weekTo_bd (l:=l) hg.2.2.1 (i + 1) (fun j hj => hd j (by omega) (Nat.zero_le _));refine Ev.go ?_ (fun k => by rw [laws_FnFareWeek.l0]);refine Ev.pos (by omega) (Ev.pos (by omega) ?_);rw [rdr];refine Ev.bind hv ?_;rw [w64 (n:=weekTo l d i + min (sumTo (row l i) (row l i).length) d) (by have e : weekTo l d (i + 1) = weekTo l d i + min (sumTo (row l i) (row l i).length) d:=rfl; omega) (by have e : weekTo l d (i + 1) = weekTo l d i + min (sumTo (row l i) (row l i).length) d:=rfl; omega),w64 (n:=(i : Int) + 1) (by omega) (by omega)];exact ih (i + 1) (by omega) (by omega)
theorem FnFareWeek : laws_FnFareWeek.Asked:=by
 intro b hc;refine Pv.rounds ?_
 unfold laws_FnFareWeek.f
 by_cases hs : (b.length : Int) > 1048576
 ·exact Pv.pos hs (Pv.now rfl)
 refine Pv.neg hs ?_
 unfold spec_DrawFareWeek.f
 obtain ⟨bb,e,hb⟩:=open_pv hc.2;refine Pv.bind (R:=fun r => r.1.length ≤ 4 ∧ r.2.2.2.length ≤ 9 ∧ ∀ q ∈ r.2.2.2,q.length ≤ 6) (Pv.bind0 e (Pv.bind (fare_pv hb (p:=0) (by omega) (by omega)) (fun r1 h1 => Pv.bind (pick_pv hb (p:=r1.2.2.2) (by omega) (by omega)) (fun r2 h2 => ?_)))) (fun r hr => ?_)
 ·obtain ⟨a2,e2⟩:=h2;have b2:=a2.2.2 (by omega);have:=weekdraw_l hb r1.1 r1.2.1 r1.2.2.1 h1.1 r2.1.toNat r2.2 [] (by omega) (by simp; omega) (fun q hq => by cases hq);rw [Int.toNat_of_nonneg a2.1] at this;exact this
 obtain ⟨s,d,w,l⟩:=r;dsimp only at hr ⊢;have hsm : s.length ≤ maxLen:=by simp only [maxLen]; omega
 have hlm : ∀ q ∈ l,q.length ≤ maxLen:=fun q hq => by have:=hr.2.2 q hq; simp only [maxLen]; omega
 have hi:=implWeek_ev s d w l hsm hlm;have hp:=specWeek_ev s d w l hsm hlm;refine Pv.of (Ev.bind hi (Ev.bind hp (Ev.pos rfl (Ev.go (r:=true) ?_ (fun k => by rw [laws_FnFareWeek.j0]))))) rfl
 by_cases hneg : weekV s d w l < 0
 case pos => exact Ev.pos (decide_eq_true hneg) (Ev.bind hp (Ev.is (by simp)))
 refine Ev.neg (by simpa using hneg) ?_;have hgood : FareGood s d w ∧ l.length ≤ 7 ∧ DaysFrom l 0:=by
  unfold weekV at hneg
  split at hneg
  ·assumption
  ·exact absurd (by omega) hneg
 have:=wk_l hgood.1 hsm hgood.2.1 hlm hgood.2.2 l.length 0 rfl (Nat.zero_le _)
 unfold weekV
 rw [if_pos hgood];exact this
end Go.Proofs.Ytlhmljngjdfbpaa.Pure
end
section
namespace Go.Proofs.Ytlhmljngjdfbpaa.fnFareWeek
open Go.ChangeShapes Go.WideShapes Go.ChangeAt Go.RowKit Go.Proofs.YtlhmljngjdfbpaaW.PrintWords Go.Proofs.Ytlhmljngjdfbpaa.Pr
open Go.ChangeMaps (open_string shut_string)
set_option linter.unusedVariables false
set_option linter.unusedSimpArgs false
theorem own : ownKnob Try.prog.godebug = none:=by kernel_rfl
theorem laidOut : laidOutB Try.prog = true:=by kernel_rfl
theorem opens0 : Opens Try.prog (Kd.slice 5 (Kd.int .u8)) 22 (fun l => l.length ≤ maxLen ∧ ∀ x ∈ l,(fun n => (Lit.int .u8 n).wf = true) x):=(opens_slice (P:=Try.prog) Try.underlying22 (by kernel_rfl) (opens_int (P:=Try.prog) (k:=.u8) Try.underlying5))
set_option maxRecDepth 100000 in
set_option maxHeartbeats 2000000 in
theorem lifted (os : Os) (started : os.Started) (H : Type) (enc : TypeId × Value → H) :
  ReturnsInHanded {} Try.checked os 3 .any (Rows.fnFareWeekSpec.pre6 enc Try.prog Try.f3 Rows.fnFareWeekRow.domain false) (Rows.fnFareWeekSpec.post enc Try.prog Try.f3 false true false false):=by
 refine returnsInHanded_of_change_sized (C:=Try.checked) own started (by kernel_rfl) Try.func3
  (ChangeSpec.witness6 (enc:=enc) (C:=Try.checked) false ⟨#[],#[(.slice none 0 0)],[]⟩ 8 (by kernel_rfl) (by kernel_rfl) (by kernel_rfl) (by kernel_rfl)) ?_
 intro W base args ds gs before hval0 hW hcnd hsz0 _;have hval : ∀ (j : Nat) t v,Try.f3.params[j]? = some t → args[j]? = some v → Value.okWide Try.prog W .any base t v:=hval0
 have hW':=hW;obtain ⟨p,q,hA0,hV,rfl,hfz,hnd⟩:=hW;have hA : DataW.TrodAll enc Try.prog W 0 (fun _ => true) true Try.f3.params.toList args.toList ds p:=hA0;rw [Try.params3] at hA hval;obtain ⟨v0,vs0,d0,ds0,p0,q0,hargs,rfl,rfl,h0,r0⟩:=trodAll_cons hA;obtain ⟨rfl,rfl,rfl⟩:=trodAll_nil r0;obtain rfl : args = #[v0]:=by cases args; simp_all
 obtain ⟨rfl,rfl⟩:=trodVars_none hV;have k0:=h0;have lt0 : ∀ x ∈ p0,x.block < W.heap.size:=by obtain ⟨m,hm⟩:=k0; exact DataW.trod_lt m _ _ _ hm
 obtain ⟨a0,len0,cap0,rfl⟩:=okWide_slice Try.underlying22 (hval 0 22 v0 rfl rfl);obtain ⟨fuel0,hf0⟩:=h0;obtain ⟨l0,⟨A0,c0,e0,hc0,hr0⟩,w0⟩:=opens0 hf0;have e0' : (Value.slice a0 len0 cap0) = .slice A0 l0.length c0:=(List.cons.inj e0).1;injection e0' with e0a e0b e0c
 subst e0a e0b e0c;obtain ⟨k,hh⟩:=Pure.FnFareWeek l0 w0;refine (laws_FnFareWeek.calls k _ _ l0 true W hr0 hc0 hh).mono fun e W' ⟨he,bel0⟩ => ?_
 have bel : Below W.heap.size W W':=bel0;subst he;exact ⟨_,rfl,_,_,_,[],_,[],hW',trodAll_mk1 (shut_bool Try.underlying4 _),(trodAll_cons_mk (Below.trod laidOut (by kernel_rfl) (of_decide_eq_true (by kernel_rfl)) k0 bel lt0) trodAll_mk0),rfl,bel.frame _,fun h => by cases h⟩
theorem over : Rows.fnFareWeekRow.holds Try.pinned (OpenSpec.ofChange Rows.fnFareWeekSpec) :=
 OpenClaim.holds_of_wide 3 Try.f3 rfl rfl rfl rfl rfl rfl rfl ⟨rfl,rfl,rfl,rfl,rfl⟩ rfl rfl rfl rfl rfl (by kernel_rfl) Try.func3 (by kernel_rfl)
  (of_decide_eq_true (by kernel_rfl)) (by unfold Func.isWrapper; first | (rw [if_pos (by decide +kernel)]; kernel_rfl) | (rw [if_neg (by decide +kernel)]; exact ⟨rfl,rfl⟩))
  (fun os started H enc _ => lifted os started H enc)
theorem proved : Rows.FnFareWeekSaid:=over
#print axioms proved
end Go.Proofs.Ytlhmljngjdfbpaa.fnFareWeek
namespace Go.Proofs.Ytlhmljngjdfbpaa
theorem fnFareWeek_holds : Rows.FnFareWeekSaid:=fnFareWeek.proved
end Go.Proofs.Ytlhmljngjdfbpaa
end
