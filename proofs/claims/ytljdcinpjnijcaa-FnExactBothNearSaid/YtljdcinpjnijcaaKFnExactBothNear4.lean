/- For the statement FnExactBothNear of this seat: it is proved here, with no further conditions (part 5 of its texts: words, walks of the functions, the plain law, the row). -/
import Derived.StillTailTactics
import Derived.ChangeArms
import Derived.ChangeSlices
import Derived.Deep.Slices
import Derived.WideShapes
import Derived.DataReads
import Derived.Test.YtljdcinpjnijcaaKFnExactBothNear3
section
namespace Go.Proofs.Ytljdcinpjnijcaa.Pr
open Go.RowKit Go.Proofs.YtljdcinpjnijcaaW.PrintWords Go.Proofs.YtljdcinpjnijcaaW.PrintLast Go.Proofs.YtljdcinpjnijcaaW.PrintMore
attribute [local go_sem] max2_int min2_int max_two min_two max_three min_three max_four min_four
set_option linter.unusedVariables false
set_option linter.unusedSimpArgs false
open List renaming setIfInBounds_toArray → J,set_cons_zero → U,set_cons_succ → V
open Go.Proofs.YtljdcinpjnijcaaW.PrintWords.Aside0 renaming mk → Z
def slices_Repeat_int_int.f (l0 : List Int) (a1 : Int) : Option (List Int):=if l0.length = 1 then if 0 ≤ a1 then if a1 ≤ 64 then some (List.replicate a1.toNat (l0.getD 0 0)) else none else none else none
theorem mul1_116 : ∀ n : Fin 65,bits_Mul.f 1 ((n.val : Nat) : Int) = some (0,((n.val : Nat) : Int)):=by decide +kernel
set_option maxHeartbeats 4000000 in
set_option maxRecDepth 100000 in
theorem rep116 (N : Nat) (hN : N ≤ 64) (x : Int) (A0 : Option Addr) (c0 : Nat) (w : World) (hr0 : Kd.C (Kd.int .i64) w A0 1 [x]) (hc0 : 1 ≤ c0) :
  Calls Try.prog 116 #[.slice A0 1 c0,.int .i64 (N : Int)] w fun e w' => ∃ v0_,e = .returned v0_ ∧ Kd.R (Kd.int .i64) 3 w' w.heap.size (fun _ => True) v0_ (List.replicate N x) ∧ Below w.heap.size w w':=by
 obtain ⟨ad,c,hA,hcl,hK,hcc⟩:=Kd.C_get hr0 x 0 (by omega) (by omega);obtain rfl : c = [.int .i64 x]:=hK;subst hA;replace hcc : ∀ j u,([.int .i64 x] : List Value)[j]? = some u → w.cell? (ad.add j) = some u:=fun j u h => by have:=hcc j u h; simpa using this
 have hblk : ad.block < w.heap.size:=by
  have:=World.block_lt_of_cell? w _ (hcc 0 _ rfl)
  simpa [Addr.add] using this
 clear hr0 hcl
 try clear hK
 have HCC:=Z hcc;have HBL:=Z hblk;clear hcc hblk;obtain ⟨i0,hi0,hz0,hsz,hby⟩:=info_parts (P:=Try.prog) (e:=3) (z:=(.int .i64 0)) (size:=1) (bytes:=8) (by kernel_rfl);have hmk : ∀ W : World,(Instr.makeSlice 29 (.int .i64 (N : Int)) (.int .i64 (N : Int))).run Try.prog W = .ok (.slice (some ⟨W.heap.size,0,none⟩) N N) (W.alloc (.cells (madeCells #[.int .i64 0] (N * 1)) 3)):=by
  intro W;have:=run_make (P:=Try.prog) W 29 3 i0 (.int .i64 0) Try.underlying29 hi0 hz0 .i64 .i64 (N : Int) (N : Int) (by omega) (Int.le_refl _) (by rw [hby]; omega) (by omega);rw [hsz] at this;exact this
 have hmul:=fun (W : World) => bits_Mul.calls 1 (N : Int) 0 (N : Int) W (mul1_116 ⟨N,by omega⟩)
 have HMK:=Z hmk;have HI:=Z hi0;have HSZ:=Z hsz;clear hmk hi0 hz0 hsz hby;have hN1 : (N : Int) ≤ 64:=by omega
 have hN0 : (0 : Int) ≤ N:=by omega
 have hN2 : ((N : Int) < 0) = False:=eq_false (by omega);have hN3 : decide ((9223372036854775807 : Int) < (N : Int)) = false:=decide_eq_false (by omega);obtain ⟨n0,hn0⟩ : ∃ n0,n0 = if N = 0 then 0 else 1:=⟨_,rfl⟩
 obtain ⟨cs0,hcs0⟩ : ∃ cs0 : List Value,cs0 = if N = 0 then [] else [.int .i64 x]:=⟨_,rfl⟩
 have HN0:=Z hn0;have HCS:=Z hcs0;clear hn0 hcs0;have HN:=Z hN;clear hN
 go_enter Try.func116,Try.ntmps116
 go_wp2_with (first | (go_at_call 132; (with_reducible refine (hmul _).mono ?_); rintro e w1 ⟨rfl,⟨nd,rfl⟩⟩) | ((with_reducible refine gate_dst (N:=30) rfl ?_); refine make_event rfl (n:=N) (cs:=madeCells #[.int .i64 0] (N * 1)) (t:=3) (by have hmk:=HMK.out; first | (go_simp; done) | (go_simp; rfl)) ?_; intro g hg w2 hblk hb; have B0:=Z (below_step (pw_below_drewN (Below.refl _ _) nd) hb); have G0:=Z (show w.heap.size ≤ g by rw [hg]; exact Nat.le_refl _); have K0:=Z hblk; clear hg hblk hb) | ((with_reducible refine gate_builtin (b:=.copy) (xs:=#[.tmp 31,.tmp 32]) rfl ?_); refine copy_event rfl 1 (.tmp 31) (.tmp 32) 29 29 rfl 3 Try.underlying29 (by kernel_rfl) (some ⟨g,0,none⟩) (some ad) N N 1 c0 rfl rfl g 0 _ _ K0.out cs0 n0 ?cpk ?cpn ?cpp ?cpf ?cpo (by decide) ?_; (case cpk => rw [HN0.out]; by_cases h0 : N = 0; (rw [if_pos h0,h0]; rfl); (rw [if_neg h0]; exact Nat.min_eq_left (by omega))); (case cpn => rw [HN0.out,HCS.out]; by_cases h0 : N = 0; (rw [if_pos h0,if_pos h0]; rfl); (rw [if_neg h0,if_neg h0]; rfl)); (case cpp => intro hp; refine ⟨rfl,ad,rfl,fun j v hj => ?_⟩; rw [HCS.out] at hj; by_cases hz : N = 0; (rw [if_pos hz] at hj; simp at hj); (rw [if_neg hz] at hj; exact pw_cell_below B0.out (HCC.out j v hj))); (case cpf => rw [size_madeCells,HCS.out]; by_cases h0 : N = 0; (rw [if_pos h0]; simp); (rw [if_neg h0]; simp; omega)); (case cpo => intro v hv; rw [HCS.out] at hv; by_cases h0 : N = 0; (rw [if_pos h0] at hv; simp at hv); (rw [if_neg h0] at hv; simp only [List.mem_cons,List.not_mem_nil,or_false] at hv; first | (subst hv; rfl) | (rcases hv with rfl | rfl <;> rfl))); intro w3 hc hg3; have K1:=Z hc; have B1:=Z (pw_below_grown B0.out _ (B0.out.size) hg3 (fun k hk => by obtain rfl : g = k:=Option.some.inj hk; exact G0.out)); clear hc hg3 K0 B0))
 have K2 : Aside0 (∃ cur,w3.heap[g]? = some (.cells cur 3 (0,0)) ∧ cur.size = N * 1 ∧ cur.toList.take (n0 * 1) = (madeCells #[.int .i64 x] (n0 * 1)).toList):=by
  obtain ⟨cur,h1,h2,h3⟩:=K1.out;refine ⟨⟨cur,h1,by rw [h2,size_madeCells],?_⟩⟩;rw [h3,HCS.out,HN0.out]
  by_cases h0 : N = 0
  case pos => rw [if_pos h0]; simp [madeCells]
  rw [if_neg h0,if_neg h0]; simp [madeCells]; try rfl
 clear K1;have HS : Aside0 (n0 ≤ N ∧ (0 < N → 1 ≤ n0)):=⟨by rw [HN0.out]; split <;> omega⟩
 go_loopg [8] N (fun gg v8 wr => ∃ n : Nat,v8 = .int .i64 (n : Int) ∧ Aside0 (n ≤ N ∧ (0 < N → 1 ≤ n)) ∧ Aside0 (∃ cur,wr.heap[g]? = some (.cells cur 3 (0,0)) ∧ cur.size = N * 1 ∧ cur.toList.take (n * 1) = (madeCells #[.int .i64 x] (n * 1)).toList) ∧ Aside0 (Below w.heap.size w wr) ∧ Aside0 (N - n ≤ gg))
 case atStart => exact ⟨n0,rfl,HS,K2,B1,⟨by omega⟩⟩
 case round =>
  clear HS K2 B1;obtain ⟨n,rfl,HS,K2,B1,HG⟩:=hrel
  by_cases hlt : n < N
  case neg =>
   have c1 : decide ((n : Int) < (N : Int)) = false:=decide_eq_false (by omega);have c2 : decide (n < N) = false:=decide_eq_false hlt;have hnN : n = N:=by have:=HS.out.1; omega
   subst hnN;have c3 : decide (n < n) = false:=decide_eq_false (by omega)
   go_wp2
   go_ret;obtain ⟨cur,hb,hs,ht⟩:=K2.out;refine ⟨_,rfl,⟨fun _ _ => trivial,(madeCells #[.int .i64 x] (n * 1)).toList,⟨by rw [Array.length_toList,size_madeCells,List.length_replicate]; rfl,.inr ⟨g,n,cur,by first | (rw [List.length_replicate]; done) | (rw [List.length_replicate]; rfl),G0.out,hb,by rw [List.length_replicate]; exact Nat.le_refl _,by have:=HN.out; simp only [maxLen]; omega,Nat.le_of_eq hs.symm,by rw [List.length_replicate]; exact ht⟩⟩,?_⟩,B1.out⟩;exact Kd.reps_made (R:=(Kd.int .i64).M _ _ _) (z0:=x) (z:=(.int .i64 x)) (size:=1) rfl (by decide) (rfl) n
  have c1 : decide ((n : Int) < (N : Int)) = true:=decide_eq_true (by omega);have c2 : decide (n < N) = true:=decide_eq_true hlt;obtain ⟨cur,hb,hs,ht⟩:=K2.out;obtain ⟨m,hm⟩ : ∃ m,Nat.min n (N - n) = m:=⟨_,rfl⟩
  have hm1 : m ≤ n ∧ m ≤ N - n:=by rw [← hm]; exact ⟨Nat.min_le_left _ _,Nat.min_le_right _ _⟩
  have hm2 : 1 ≤ m:=by
   have:=HS.out.2 (by omega);rw [← hm];exact Nat.le_min.2 ⟨this,by omega⟩
  have hmn : m * 1 ≤ n * 1:=Nat.mul_le_mul_right _ hm1.1;have h1 : cur.toList.take (m * 1) = (madeCells #[.int .i64 x] (m * 1)).toList:=by
   rw [← made_take #[.int .i64 x] (m * 1) (n * 1) hmn,← ht,List.take_take,Nat.min_eq_left hmn]
  have HSRC : Aside0 (∀ W : World,W.heap[g]? = some (.cells cur 3 (0,0)) → ∀ j v,(madeCells #[.int .i64 x] (m * 1)).toList[j]? = some v → W.cell? ((⟨g,0,none⟩ : Addr).add j) = some v):=⟨by
   intro W hW j v hj;rw [add_plain,blk_cell hW j,← Array.getElem?_toList];rw [← h1,List.getElem?_take] at hj
   split at hj
   ·exact hj
   ·cases hj⟩
  have HLEN : Aside0 ((madeCells #[.int .i64 x] (m * 1)).toList.length = m * 1):=⟨by rw [Array.length_toList,size_madeCells]⟩
  have HFIT : Aside0 (n * 1 + (madeCells #[.int .i64 x] (m * 1)).toList.length ≤ cur.size):=⟨by rw [HLEN.out,hs]; omega⟩
  have HONE : Aside0 (∀ v ∈ (madeCells #[.int .i64 x] (m * 1)).toList,v.oneCell' = true):=⟨by
   intro v hv;have h:=made_mem #[.int .i64 x] (m * 1) (by simp) v hv;simp only [List.mem_cons,List.not_mem_nil,or_false] at h
   first | (subst h; rfl) | (rcases h with rfl | rfl <;> rfl)⟩
  have hcut1 : ∀ W : World,(Instr.slice 29 (.slice (some ⟨g,0,none⟩) N N) (some (.int .i64 (n : Int))) none none).run Try.prog W = .ok (.slice (some ⟨g,n * 1,none⟩) (N - n) (N - n)) W:=by
   intro W;have h:=cut_from (P:=Try.prog) 29 3 .i64 Try.underlying29 HI.out 1 HSZ.out (some ⟨g,0,none⟩) N N (n : Int) (by omega) (by omega) W;simp only [Int.toNat_natCast,Option.map_some,add_plain] at h;rw [if_neg (by omega)] at h;exact h
  have hcut2 : ∀ W : World,(Instr.slice 29 (.slice (some ⟨g,0,none⟩) N N) none (some (.int .i64 (n : Int))) none).run Try.prog W = .ok (.slice (some ⟨g,0,none⟩) n N) W:=by
   have h:=cut_to (P:=Try.prog) 29 3 .i64 Try.underlying29 HI.out (some ⟨g,0,none⟩) N N (n : Int) (by omega) (by omega) (Nat.le_refl _)
   simpa only [Int.toNat_natCast] using h
  have hw : IntKind.i64.wrap ((n : Int) + (m : Int)) = (n : Int) + (m : Int):=by
   have:=HN.out;rw [i64_w,wrap64]; omega
  have HB:=Z hb;have HM:=Z hm;have HST:=Z (And.intro hs (And.intro ht (And.intro hm1 (And.intro hm2 hlt))));clear hb hs ht hm hm1 hm2 hmn h1 hlt
  go_wp2
  go_region_law (refine copy_step rfl 1 (.tmp 41) (.tmp 44) 29 29 ?cpo 3 Try.underlying29 (by kernel_rfl) (some ⟨g,n * 1,none⟩) (some ⟨g,0,none⟩) (N - n) (N - n) n N ?cpd ?cps g (n * 1) cur 3 HB.out (madeCells #[.int .i64 x] (m * 1)).toList m HM.out HLEN.out (fun _ => ⟨rfl,_,rfl,HSRC.out _ HB.out⟩) HFIT.out HONE.out (by decide) ?_; (case cpo => rfl); (case cpd => go_simp); (case cps => go_simp); intro w4 hc hg4)
  have K3 : Aside0 (∃ cur',w4.heap[g]? = some (.cells cur' 3 (0,0)) ∧ cur'.size = N * 1 ∧ cur'.toList.take ((n + m) * 1) = (madeCells #[.int .i64 x] ((n + m) * 1)).toList):=by
   obtain ⟨cur',e1,e2,e3⟩:=hc;obtain ⟨s1,s2,s3,s4,s5⟩:=HST.out;refine ⟨⟨cur',e1,by rw [e2,s1],?_⟩⟩;have hl : (cur.toList.take (n * 1)).length = n * 1:=by rw [s2,Array.length_toList,size_madeCells]
   have e4 : (n + m) * 1 = (cur.toList.take (n * 1) ++ (madeCells #[.int .i64 x] (m * 1)).toList).length:=by rw [List.length_append,hl,HLEN.out,Nat.add_mul]
   have e5 : cur'.toList.take ((n + m) * 1) = cur.toList.take (n * 1) ++ (madeCells #[.int .i64 x] (m * 1)).toList:=by
    rw [e3,e4,List.take_left]
   rw [e5,s2];exact made_append #[.int .i64 x] 1 n m (by simp)
  have B3 : Aside0 (Below w.heap.size w w4):=⟨pw_below_grown B1.out.drew _ (B1.out.size) hg4 (fun k hk => by obtain rfl : g = k:=Option.some.inj hk; exact G0.out)⟩
  have HS3 : Aside0 (n + m ≤ N ∧ (0 < N → 1 ≤ n + m) ∧ n + m ≤ n + m ∧ 1 ≤ m):=⟨by
   obtain ⟨s1,s2,s3,s4,s5⟩:=HST.out;exact ⟨by omega,fun _ => by omega,Nat.le_refl _,s4⟩⟩
  have HG3 : Aside0 (N - (n + m) ≤ N - (n + m)):=⟨Nat.le_refl _⟩
  clear hc hg4
  go_wp2
  go_roundg (N - (n + m))
  case measure => have h1:=HG.out; have h2:=HS3.out; omega
  case rel => exact ⟨n + m,by first | (simp only [hw]; done) | (simp only [hw,Int.natCast_add]; done) | (rw [hw]; rfl),⟨HS3.out.1,HS3.out.2.1⟩,K3,B3,HG3⟩
theorem slices_Repeat_int_int.calls (A0 : Option Addr) (c0 : Nat) (l0 : List Int) (a1 : Int) (r : List Int) (w : World) (hr0 : Kd.C (Kd.int .i64) w A0 l0.length l0) (hc0 : l0.length ≤ c0) (h : slices_Repeat_int_int.f l0 a1 = some r) :
  Calls Try.prog 116 #[.slice A0 l0.length c0,.int .i64 a1] w fun e w' => ∃ v0_,e = .returned v0_ ∧ Kd.R (Kd.int .i64) 3 w' w.heap.size (fun _ => True) v0_ r ∧ Below w.heap.size w w':=by
 unfold slices_Repeat_int_int.f at h
 by_cases h1 : l0.length = 1
 case neg => rw [if_neg h1] at h; cases h
 rw [if_pos h1] at h
 by_cases h2 : 0 ≤ a1
 case neg => rw [if_neg h2] at h; cases h
 rw [if_pos h2] at h
 by_cases h3 : a1 ≤ 64
 case neg => rw [if_neg h3] at h; cases h
 rw [if_pos h3] at h;obtain rfl:=Option.some.inj h;obtain ⟨x,rfl⟩:=List.length_eq_one_iff.1 h1;obtain ⟨N,rfl⟩:=Int.eq_ofNat_of_zero_le h2;exact rep116 N (by omega) x A0 c0 w hr0 hc0
theorem rep_nines {N : Nat} (h : N ≤ 64) : slices_Repeat_int_int.f [99999] (N : Int) = some (List.replicate N 99999):=by
 unfold slices_Repeat_int_int.f
 rw [if_pos (show ([99999] : List Int).length = 1 from rfl),if_pos (show (0 : Int) ≤ N by omega),if_pos (show (N : Int) ≤ 64 by omega)];simp
theorem headN {α : Type} {d : Kd α} {e : TypeId} {w : World} {base : Nat} {ok : Nat → Prop} {v : Value} {o : List α} (h : Kd.R d e w base ok v o) (h1 : 1 ≤ o.length) : ∃ b cp,v = .slice (some ⟨b,0,none⟩) o.length cp ∧ base ≤ b:=by
 obtain ⟨r0,inner,ro,rr⟩:=h
 rcases ro.2 with ⟨hv,hn⟩ | ⟨g,cap,cur,hv,hb,_⟩
 ·omega
 ·exact ⟨g,cap,hv,hb⟩
theorem R_only {α : Type} {enc : α → Value} {h1 : ∀ x,(enc x).oneCell' = true} {e : TypeId} {w : World} {base : Nat} {ok : Nat → Prop} {g n c : Nat} {xs : List α} (h : Kd.R (Kd.scalar enc h1) e w base ok (.slice (some ⟨g,0,none⟩) n c) xs) : Kd.R (Kd.scalar enc h1) e w base (fun k => k = g) (.slice (some ⟨g,0,none⟩) n c) xs:=by
 have hn:=(Kd.R_reads' h).1;subst hn;exact Kd.R_of_own (Kd.own_of_R h) (fun k hk => (Option.some.inj hk).symm)
def searchFrom_T : Bool × List (List Nat × List Nat):=(true,[([],[]),([],[]),([],[]),([2],[2]),([1,3],[1,3]),([],[]),([5],[5]),([6,6],[6]),([0,4,7],[0,4,7]),([8],[8]),([9,4,0,1,2,3,4,5,6,7,8,9],[9])])
def searchFrom_B : List Nat:=[0,0,0,4,14,0,32,96,255,511,1023]
theorem searchFrom_tab : rtab .any (opsOf Try.f101 1) = searchFrom_T:=by kernel_rfl
theorem searchFrom_bits : waitsOk searchFrom_T.2 searchFrom_B = true:=by kernel_rfl
set_option maxHeartbeats 8000000 in
set_option maxRecDepth 100000 in
theorem searchFrom_calls (w : World) (N : Nat) (hN : N ≤ 64) (h1 : 1 ≤ N) (A0 : Option Addr) (c0 : Nat) (l : List S34) (v : Nat) (hv : v < N) :
  Calls Try.prog 101 #[.agg #[.int .i64 (N : Int),.slice A0 l.length c0],.int .i64 (v : Int)] w fun e w' => ∃ gs gc gd cc cd,e = .returned (.pointer (some ⟨gs,0,none⟩)) ∧ Sch w.heap.size w' gs gc gd (N : Int) A0 l.length c0 cc cd N ((List.replicate N 99999).set v 0) (List.replicate N false) ∧ w.heap.size ≤ gs ∧ w.heap.size ≤ gc ∧ w.heap.size ≤ gd ∧ Below w.heap.size w w':=by
 have hu:=Try.underlying116;have hu2:=Try.underlying25;have HN:=Z hN;have H1:=Z h1;have HV:=Z hv;clear hN h1 hv
 go_enter Try.func101,Try.ntmps101
 go_wp2_with (first
  | ((with_reducible refine gate_dst (N:=2) rfl ?_); refine box_event ?hg (N:=2) ?hd (cs:=#[.int .i64 (N : Int),.slice A0 l.length c0]) (t:=25) ?hr ?_; (case hd => rfl); (case hg => rfl); (case hr => first | (go_simp; done) | (go_simp; rfl)); intro gb hgb w1 hbox hb; have BK:=Z (blk_drew hbox); have HB:=Z (below_drew1 hb); clear hbox hb hgb))
 refine start_ (n:=11) (S:=fun w' => w'.cell? ⟨gb,0,none⟩ = some (.int .i64 (N : Int)) ∧ w'.cell? ⟨gb,1,none⟩ = some (.slice A0 l.length c0)) (ds:=[]) #[X,X,X,X,X,X,X,X,X,X,X] (by kernel_rfl) rfl rfl ⟨(blk_cell BK.out 0).trans rfl,(blk_cell BK.out 1).trans rfl⟩ (fun hHeld => ?_); refine with_tabW searchFrom_tab searchFrom_bits (fun HT_ HW_ => ?_);generalize w1.drew = w2 at BK HB hHeld ⊢;refine pure_ (i:=2) (N:=some 8) (v:=?_) (a':=?_) #[X,X,Y,X,X,X,X,X,X,X,X] rfl rfl (any_of HT_.out (by kernel_rfl)) (fun _ _ _ h => h) (Or.inl ⟨by rfl,?_⟩) ?_ ?_;rotate_left
 ·intro w';go_simp;with_reducible rfl
 rotate_left
 ·simp only [Act.put,J,U,V,i64_w,i32_w];rfl
 refine pure_ (i:=5) (N:=some 11) (v:=?_) (a':=?_) #[X,X,Y,X,X,Y,X,X,X,X,X] rfl rfl (any_of HT_.out (by kernel_rfl)) (fun _ _ _ h => h) (Or.inl ⟨by rfl,?_⟩) ?_ ?_;rotate_left
 ·intro w';go_simp;with_reducible rfl
 rotate_left
 ·simp only [Act.put,J,U,V,i64_w,i32_w];rfl
 refine take_ (i:=0) (N:=some 6) (v:=?_) (a':=?_) #[Y,X,Y,X,X,Y,X,X,X,X,X] rfl rfl (take_ofW HT_.out HW_.out (by kernel_rfl)) (fun _ _ _ h => h) (Or.inl ⟨by rfl,?_⟩) hHeld ?_ ?_;rotate_left
 ·rintro w' ⟨s0,s1⟩;go_simp;with_reducible rfl
 rotate_left
 ·simp only [Act.put,J,U,V,i64_w,i32_w];rfl
 refine take_ (i:=3) (N:=some 9) (v:=?_) (a':=?_) #[Y,X,Y,Y,X,Y,X,X,X,X,X] rfl rfl (take_ofW HT_.out HW_.out (by kernel_rfl)) (fun _ _ _ h => h) (Or.inl ⟨by rfl,?_⟩) hHeld ?_ ?_;rotate_left
 ·rintro w' ⟨s0,s1⟩;go_simp;with_reducible rfl
 rotate_left
 ·simp only [Act.put,J,U,V,i64_w,i32_w];rfl
 refine take_ (i:=6) (N:=some 12) (v:=?_) (a':=?_) #[Y,X,Y,Y,X,Y,Y,X,X,X,X] rfl rfl (take_ofW HT_.out HW_.out (by kernel_rfl)) (fun _ _ _ h => h) (Or.inl ⟨by rfl,?_⟩) hHeld ?_ ?_;rotate_left
 ·rintro w' ⟨s0,s1⟩;go_simp;with_reducible rfl
 rotate_left
 ·simp only [Act.put,J,U,V,i64_w,i32_w];rfl
 refine two_ (i:=1) (j:=7) (Ni:=some 7) (Nj:=some 13) #[true,true,true,true,false,true,true,false,false,false,false] #[true,false,true,true,false,true,true,true,false,false,false] rfl rfl rfl rfl (two_of HT_.out (by kernel_rfl)) (by decide) (by decide) (fun K hK => ?_) (fun K hK => ?_)
 ·refine Kd.R_lit_step (Kd.int .i64) _ 3 ?hgl1 (N:=7) ?hdl1 (xs:=([99999] : List Int)) (inner:=[.int .i64 99999]) (ok:=fun _ => True) (okp:=fun _ => True) ?hrl1 ?hpl1 (fun _ hk => hk) trivial (Below.refl _ _) (Nat.le_refl _) (by simp) ?_; (case hdl1 => rfl); (case hgl1 => rfl); (case hrl1 => first | (go_simp; done) | (go_simp; rfl)); (case hpl1 => exact (Reps.one (show Kd.M (Kd.int .i64) _ _ _ 99999 [.int .i64 99999] from rfl) (Reps.none _ _)));intro vl wl1 hl hb hg_ hnew_;clear hg_ hnew_;have BK:=Z (blk_below BK.out hb);have HB:=Z (below_step HB.out hb);obtain ⟨Al,cl,rfl⟩:=Kd.R_slice hl;have HL:=Z hl;clear hb hl;refine hK.out _ _ ⟨(blk_cell BK.out 0).trans rfl,(blk_cell BK.out 1).trans rfl⟩ (fun hHeld => ?_);clear hK K;refine norm_ (a':=?_) ?_ ?_;rotate_left
  ·show Act.put _ (some 7) _ = _
   simp only [Act.put,J,U,V,i64_w,i32_w];rfl
  refine two_ (i:=4) (j:=7) (Ni:=some 10) (Nj:=some 13) #[true,true,true,true,true,true,true,false,false,false,false] #[true,true,true,true,false,true,true,true,false,false,false] rfl rfl rfl rfl (two_of HT_.out (by kernel_rfl)) (by decide) (by decide) (fun K hK => ?_) (fun K hK => ?_)
  ·refine goes_ Try.func116 (by kernel_rfl) rfl #[.slice Al 1 cl,.int .i64 (N : Int)] (by rfl) rfl rfl (by (try simp only [List.map_toArray,List.map_cons,List.map_nil]); first | done | rfl | (go_simp; done)) ?_;refine (slices_Repeat_int_int.calls Al cl [99999] (N : Int) (List.replicate N 99999) _ (Kd.R_reads' HL.out).2.2 (Kd.R_reads' HL.out).2.1 (rep_nines HN.out)).mono ?_;rintro e wc2 ⟨vc,rfl,hc,hb⟩;refine ⟨_,rfl,?_⟩;have HC:=Z (Kd.R_lower hc (below_size HB.out));have BK:=Z (blk_below BK.out hb);have HB:=Z (below_step HB.out hb);clear hb hc HL;refine hK.out _ _ ⟨(blk_cell BK.out 0).trans rfl,(blk_cell BK.out 1).trans rfl⟩ (fun hHeld => ?_);clear hK K;refine norm_ (a':=?_) ?_ ?_;rotate_left
   ·show Act.put _ (some 10) _ = _
    simp only [Act.put,J,U,V,i64_w,i32_w];rfl
   refine one_ (i:=7) (N:=some 13) #[Y,Y,Y,Y,Y,Y,Y,Y,X,X,X] rfl rfl (one_of HT_.out (by kernel_rfl)) (by decide) (fun K hK => ?_);refine Kd.R_make_step Kd.bool (w0:=_) _ 4 (by rfl) (N:=13) rfl 107 _ _ rfl (N : Int) (by first | rfl | (go_simp; done) | (go_simp; rfl)) (by first | rfl | (go_simp; done) | (go_simp; rfl)) Try.underlying107 (.bool false) 1 info4 rfl (by decide) (by omega) false (ok:=fun _ => True) (okp:=fun _ => True) rfl (fun _ hk => hk) trivial (by omega) (by have:=HN.out; omega) (Below.refl _ _) (Nat.le_refl _) ?_;intro vd wm3 hd hb hg_ ho_;clear hg_ ho_;rw [Int.toNat_natCast] at hd;have HD:=Z (Kd.R_lower hd (below_size HB.out));have BK:=Z (blk_below BK.out hb);have HB:=Z (below_step HB.out hb);have HC:=Z (Kd.R_below HC.out hb);clear hb hd;refine hK.out _ _ ⟨(blk_cell BK.out 0).trans rfl,(blk_cell BK.out 1).trans rfl⟩ (fun hHeld => ?_);clear hK K;refine norm_ (a':=?_) ?_ ?_;rotate_left
   ·show Act.put _ (some 13) _ = _
    simp only [Act.put,J,U,V,i64_w,i32_w];rfl
   obtain ⟨gc,cc,rfl,hgc⟩:=headN HC.out (by rw [List.length_replicate]; exact H1.out);obtain ⟨gd,cd,rfl,hgd⟩:=headN HD.out (by rw [List.length_replicate]; exact H1.out);rw [List.length_replicate] at HC HD ⊢;refine pure_ (i:=8) (N:=some 14) (v:=?_) (a':=?_) #[Y,Y,Y,Y,Y,Y,Y,Y,Y,X,X] rfl rfl (any_of HT_.out (by kernel_rfl)) (fun _ _ _ h => h) (Or.inl ⟨by rfl,?_⟩) ?_ ?_;rotate_left
   ·intro w';go_simp;with_reducible rfl
   rotate_left
   ·simp only [Act.put,J,U,V,i64_w,i32_w];rfl
   refine one_ (i:=9) (N:=some 15) #[Y,Y,Y,Y,Y,Y,Y,Y,Y,Y,X] rfl rfl (one_of HT_.out (by kernel_rfl)) (by decide) (fun K hK => ?_);refine box_step ?hgb (N:=15) ?hdb (cs:=#[.int .i64 (N : Int),.slice A0 l.length c0,.slice (some ⟨gc,0,none⟩) N cc,.slice (some ⟨gd,0,none⟩) N cd]) (t:=116) ?hrb ?_; (case hdb => rfl); (case hgb => rfl); (case hrb => first | (go_simp; done) | (go_simp; rfl));intro gs hgs wb hbox hb;have O1:=Z hbox;have O2:=Z (Kd.R_below HC.out hb);have O3:=Z (Kd.R_below HD.out hb);have O4:=Z (show w.heap.size ≤ gs by rw [hgs]; exact below_size HB.out);have HGC:=Z hgc;have HGD:=Z hgd;have BK:=Z (blk_below BK.out hb);have HB:=Z (below_step HB.out hb);clear hb hbox hgs HC HD hgc hgd;refine hK.out _ _ ⟨(blk_cell BK.out 0).trans rfl,(blk_cell BK.out 1).trans rfl⟩ (fun hHeld => ?_);clear hK K;refine norm_ (a':=?_) ?_ ?_;rotate_left
   ·show Act.put _ (some 15) _ = _
    simp only [Act.put,J,U,V,i64_w,i32_w];rfl
   refine pure_ (i:=10) (N:=some 5) (v:=?_) (a':=?_) #[Y,Y,Y,Y,Y,Y,Y,Y,Y,Y,Y] rfl rfl (any_of HT_.out (by kernel_rfl)) (fun _ _ _ h => h) (Or.inl ⟨by rfl,?_⟩) ?_ ?_;rotate_left
   ·intro w';go_simp;with_reducible rfl
   rotate_left
   ·simp only [Act.put,J,U,V,i64_w,i32_w];rfl
   refine done_ (done_of HT_.out (by kernel_rfl)) ?_;clear hHeld HT_ HW_;have n1:=ne_obj O2.out O1.out (by decide);have n3:=apartN O2.out O3.out;have q2 : wb.cell? ⟨gs,2,none⟩ = some (.slice (some ⟨gc,0,none⟩) N cc):=(blk_cell O1.out 2).trans rfl;have hO2:=O2.out;obtain ⟨xo,xf⟩:=Kd.R_celln 0 hO2 (v : Int) (by omega) (by have:=HV.out; omega);have HP:=Kd.R_putg hO2 (v : Int) 0;rw [Int.toNat_natCast] at xo xf HP;have p2 : ((0 : Int) ≤ (v : Int)) = True:=eq_true (by omega);have p3 : ((v : Int) < (N : Int)) = True:=eq_true (by have:=HV.out; omega);have NN:=Z (And.intro n1 n3);clear n1 n3 hO2
   go_wp2_with (first
    | ((with_reducible refine gate_store (t:=3) (p:=21) rfl ?_); refine store_event (t:=3) (p:=21) (v:=?vs4) (w1:=(wb.setCell ⟨gc,v,none⟩ (.int .i64 0))) ?hgs4 ?hos4 ?hns4 ?hrs4 ?_; (case hos4 => rfl); (case hgs4 => rfl); (case hns4 => rfl); (case hrs4 => first | (go_simp; done) | (go_simp; rfl)); intro w5 hw5; have hg5 : wb.grownBy w5 (some gc):=(by rw [hw5]; exact HP.2); have N1:=Z (show Sch w.heap.size w5 gs gc gd (N : Int) A0 l.length c0 cc cd N ((List.replicate N 99999).set v 0) (List.replicate N false) from ⟨blk_grown O1.out hg5 (fun e => NN.out.1 (Option.some.inj e)),R_only (by rw [hw5]; exact HP.1),R_only (Kd.R_grown (R_only O3.out) hg5 (fun k hk e => NN.out.2 (by rw [← hk]; exact (Option.some.inj e).symm)))⟩); have N2:=Z (show Below w.heap.size w w5 by rw [hw5]; exact below_set HB.out HGC.out); clear hg5 hw5 HP xo xf q2))
   go_ret;exact ⟨gs,gc,gd,cc,cd,rfl,N1.out,O4.out,HGC.out,HGD.out,N2.out⟩
  ·refine Kd.R_make_step Kd.bool (w0:=_) _ 4 (by rfl) (N:=13) rfl 107 _ _ rfl (N : Int) (by first | rfl | (go_simp; done) | (go_simp; rfl)) (by first | rfl | (go_simp; done) | (go_simp; rfl)) Try.underlying107 (.bool false) 1 info4 rfl (by decide) (by omega) false (ok:=fun _ => True) (okp:=fun _ => True) rfl (fun _ hk => hk) trivial (by omega) (by have:=HN.out; omega) (Below.refl _ _) (Nat.le_refl _) ?_;intro vd wm5 hd hb hg_ ho_;clear hg_ ho_;rw [Int.toNat_natCast] at hd;have HD:=Z (Kd.R_lower hd (below_size HB.out));have BK:=Z (blk_below BK.out hb);have HB:=Z (below_step HB.out hb);have HL:=Z (Kd.R_below HL.out hb);clear hb hd;refine hK.out _ _ ⟨(blk_cell BK.out 0).trans rfl,(blk_cell BK.out 1).trans rfl⟩ (fun hHeld => ?_);clear hK K;refine norm_ (a':=?_) ?_ ?_;rotate_left
   ·show Act.put _ (some 13) _ = _
    simp only [Act.put,J,U,V,i64_w,i32_w];rfl
   refine one_ (i:=4) (N:=some 10) #[Y,Y,Y,Y,Y,Y,Y,Y,X,X,X] rfl rfl (one_of HT_.out (by kernel_rfl)) (by decide) (fun K hK => ?_);refine goes_ Try.func116 (by kernel_rfl) rfl #[.slice Al 1 cl,.int .i64 (N : Int)] (by rfl) rfl rfl (by (try simp only [List.map_toArray,List.map_cons,List.map_nil]); first | done | rfl | (go_simp; done)) ?_;refine (slices_Repeat_int_int.calls Al cl [99999] (N : Int) (List.replicate N 99999) _ (Kd.R_reads' HL.out).2.2 (Kd.R_reads' HL.out).2.1 (rep_nines HN.out)).mono ?_;rintro e wc6 ⟨vc,rfl,hc,hb⟩;refine ⟨_,rfl,?_⟩;have HC:=Z (Kd.R_lower hc (below_size HB.out));have BK:=Z (blk_below BK.out hb);have HB:=Z (below_step HB.out hb);have HD:=Z (Kd.R_below HD.out hb);clear hb hc HL;refine hK.out _ _ ⟨(blk_cell BK.out 0).trans rfl,(blk_cell BK.out 1).trans rfl⟩ (fun hHeld => ?_);clear hK K;refine norm_ (a':=?_) ?_ ?_;rotate_left
   ·show Act.put _ (some 10) _ = _
    simp only [Act.put,J,U,V,i64_w,i32_w];rfl
   obtain ⟨gc,cc,rfl,hgc⟩:=headN HC.out (by rw [List.length_replicate]; exact H1.out);obtain ⟨gd,cd,rfl,hgd⟩:=headN HD.out (by rw [List.length_replicate]; exact H1.out);rw [List.length_replicate] at HC HD ⊢;refine pure_ (i:=8) (N:=some 14) (v:=?_) (a':=?_) #[Y,Y,Y,Y,Y,Y,Y,Y,Y,X,X] rfl rfl (any_of HT_.out (by kernel_rfl)) (fun _ _ _ h => h) (Or.inl ⟨by rfl,?_⟩) ?_ ?_;rotate_left
   ·intro w';go_simp;with_reducible rfl
   rotate_left
   ·simp only [Act.put,J,U,V,i64_w,i32_w];rfl
   refine one_ (i:=9) (N:=some 15) #[Y,Y,Y,Y,Y,Y,Y,Y,Y,Y,X] rfl rfl (one_of HT_.out (by kernel_rfl)) (by decide) (fun K hK => ?_);refine box_step ?hgb (N:=15) ?hdb (cs:=#[.int .i64 (N : Int),.slice A0 l.length c0,.slice (some ⟨gc,0,none⟩) N cc,.slice (some ⟨gd,0,none⟩) N cd]) (t:=116) ?hrb ?_; (case hdb => rfl); (case hgb => rfl); (case hrb => first | (go_simp; done) | (go_simp; rfl));intro gs hgs wb hbox hb;have O1:=Z hbox;have O2:=Z (Kd.R_below HC.out hb);have O3:=Z (Kd.R_below HD.out hb);have O4:=Z (show w.heap.size ≤ gs by rw [hgs]; exact below_size HB.out);have HGC:=Z hgc;have HGD:=Z hgd;have BK:=Z (blk_below BK.out hb);have HB:=Z (below_step HB.out hb);clear hb hbox hgs HC HD hgc hgd;refine hK.out _ _ ⟨(blk_cell BK.out 0).trans rfl,(blk_cell BK.out 1).trans rfl⟩ (fun hHeld => ?_);clear hK K;refine norm_ (a':=?_) ?_ ?_;rotate_left
   ·show Act.put _ (some 15) _ = _
    simp only [Act.put,J,U,V,i64_w,i32_w];rfl
   refine pure_ (i:=10) (N:=some 5) (v:=?_) (a':=?_) #[Y,Y,Y,Y,Y,Y,Y,Y,Y,Y,Y] rfl rfl (any_of HT_.out (by kernel_rfl)) (fun _ _ _ h => h) (Or.inl ⟨by rfl,?_⟩) ?_ ?_;rotate_left
   ·intro w';go_simp;with_reducible rfl
   rotate_left
   ·simp only [Act.put,J,U,V,i64_w,i32_w];rfl
   refine done_ (done_of HT_.out (by kernel_rfl)) ?_;clear hHeld HT_ HW_;have n1:=ne_obj O2.out O1.out (by decide);have n3:=apartN O2.out O3.out;have q2 : wb.cell? ⟨gs,2,none⟩ = some (.slice (some ⟨gc,0,none⟩) N cc):=(blk_cell O1.out 2).trans rfl;have hO2:=O2.out;obtain ⟨xo,xf⟩:=Kd.R_celln 0 hO2 (v : Int) (by omega) (by have:=HV.out; omega);have HP:=Kd.R_putg hO2 (v : Int) 0;rw [Int.toNat_natCast] at xo xf HP;have p2 : ((0 : Int) ≤ (v : Int)) = True:=eq_true (by omega);have p3 : ((v : Int) < (N : Int)) = True:=eq_true (by have:=HV.out; omega);have NN:=Z (And.intro n1 n3);clear n1 n3 hO2
   go_wp2_with (first
    | ((with_reducible refine gate_store (t:=3) (p:=21) rfl ?_); refine store_event (t:=3) (p:=21) (v:=?vs7) (w1:=(wb.setCell ⟨gc,v,none⟩ (.int .i64 0))) ?hgs7 ?hos7 ?hns7 ?hrs7 ?_; (case hos7 => rfl); (case hgs7 => rfl); (case hns7 => rfl); (case hrs7 => first | (go_simp; done) | (go_simp; rfl)); intro w5 hw5; have hg5 : wb.grownBy w5 (some gc):=(by rw [hw5]; exact HP.2); have N1:=Z (show Sch w.heap.size w5 gs gc gd (N : Int) A0 l.length c0 cc cd N ((List.replicate N 99999).set v 0) (List.replicate N false) from ⟨blk_grown O1.out hg5 (fun e => NN.out.1 (Option.some.inj e)),R_only (by rw [hw5]; exact HP.1),R_only (Kd.R_grown (R_only O3.out) hg5 (fun k hk e => NN.out.2 (by rw [← hk]; exact (Option.some.inj e).symm)))⟩); have N2:=Z (show Below w.heap.size w w5 by rw [hw5]; exact below_set HB.out HGC.out); clear hg5 hw5 HP xo xf q2))
   go_ret;exact ⟨gs,gc,gd,cc,cd,rfl,N1.out,O4.out,HGC.out,HGD.out,N2.out⟩
 ·refine Kd.R_make_step Kd.bool (w0:=_) _ 4 (by rfl) (N:=13) rfl 107 _ _ rfl (N : Int) (by first | rfl | (go_simp; done) | (go_simp; rfl)) (by first | rfl | (go_simp; done) | (go_simp; rfl)) Try.underlying107 (.bool false) 1 info4 rfl (by decide) (by omega) false (ok:=fun _ => True) (okp:=fun _ => True) rfl (fun _ hk => hk) trivial (by omega) (by have:=HN.out; omega) (Below.refl _ _) (Nat.le_refl _) ?_;intro vd wm8 hd hb hg_ ho_;clear hg_ ho_;rw [Int.toNat_natCast] at hd;have HD:=Z (Kd.R_lower hd (below_size HB.out));have BK:=Z (blk_below BK.out hb);have HB:=Z (below_step HB.out hb);clear hb hd;refine hK.out _ _ ⟨(blk_cell BK.out 0).trans rfl,(blk_cell BK.out 1).trans rfl⟩ (fun hHeld => ?_);clear hK K;refine norm_ (a':=?_) ?_ ?_;rotate_left
  ·show Act.put _ (some 13) _ = _
   simp only [Act.put,J,U,V,i64_w,i32_w];rfl
  refine one_ (i:=1) (N:=some 7) #[Y,Y,Y,Y,X,Y,Y,Y,X,X,X] rfl rfl (one_of HT_.out (by kernel_rfl)) (by decide) (fun K hK => ?_);refine Kd.R_lit_step (Kd.int .i64) _ 3 ?hgl9 (N:=7) ?hdl9 (xs:=([99999] : List Int)) (inner:=[.int .i64 99999]) (ok:=fun _ => True) (okp:=fun _ => True) ?hrl9 ?hpl9 (fun _ hk => hk) trivial (Below.refl _ _) (Nat.le_refl _) (by simp) ?_; (case hdl9 => rfl); (case hgl9 => rfl); (case hrl9 => first | (go_simp; done) | (go_simp; rfl)); (case hpl9 => exact (Reps.one (show Kd.M (Kd.int .i64) _ _ _ 99999 [.int .i64 99999] from rfl) (Reps.none _ _)));intro vl wl9 hl hb hg_ hnew_;clear hg_ hnew_;have BK:=Z (blk_below BK.out hb);have HB:=Z (below_step HB.out hb);have HD:=Z (Kd.R_below HD.out hb);obtain ⟨Al,cl,rfl⟩:=Kd.R_slice hl;have HL:=Z hl;clear hb hl;refine hK.out _ _ ⟨(blk_cell BK.out 0).trans rfl,(blk_cell BK.out 1).trans rfl⟩ (fun hHeld => ?_);clear hK K;refine norm_ (a':=?_) ?_ ?_;rotate_left
  ·show Act.put _ (some 7) _ = _
   simp only [Act.put,J,U,V,i64_w,i32_w];rfl
  refine one_ (i:=4) (N:=some 10) #[Y,Y,Y,Y,Y,Y,Y,Y,X,X,X] rfl rfl (one_of HT_.out (by kernel_rfl)) (by decide) (fun K hK => ?_);refine goes_ Try.func116 (by kernel_rfl) rfl #[.slice Al 1 cl,.int .i64 (N : Int)] (by rfl) rfl rfl (by (try simp only [List.map_toArray,List.map_cons,List.map_nil]); first | done | rfl | (go_simp; done)) ?_;refine (slices_Repeat_int_int.calls Al cl [99999] (N : Int) (List.replicate N 99999) _ (Kd.R_reads' HL.out).2.2 (Kd.R_reads' HL.out).2.1 (rep_nines HN.out)).mono ?_;rintro e wc10 ⟨vc,rfl,hc,hb⟩;refine ⟨_,rfl,?_⟩;have HC:=Z (Kd.R_lower hc (below_size HB.out));have BK:=Z (blk_below BK.out hb);have HB:=Z (below_step HB.out hb);have HD:=Z (Kd.R_below HD.out hb);clear hb hc HL;refine hK.out _ _ ⟨(blk_cell BK.out 0).trans rfl,(blk_cell BK.out 1).trans rfl⟩ (fun hHeld => ?_);clear hK K;refine norm_ (a':=?_) ?_ ?_;rotate_left
  ·show Act.put _ (some 10) _ = _
   simp only [Act.put,J,U,V,i64_w,i32_w];rfl
  obtain ⟨gc,cc,rfl,hgc⟩:=headN HC.out (by rw [List.length_replicate]; exact H1.out);obtain ⟨gd,cd,rfl,hgd⟩:=headN HD.out (by rw [List.length_replicate]; exact H1.out);rw [List.length_replicate] at HC HD ⊢;refine pure_ (i:=8) (N:=some 14) (v:=?_) (a':=?_) #[Y,Y,Y,Y,Y,Y,Y,Y,Y,X,X] rfl rfl (any_of HT_.out (by kernel_rfl)) (fun _ _ _ h => h) (Or.inl ⟨by rfl,?_⟩) ?_ ?_;rotate_left
  ·intro w';go_simp;with_reducible rfl
  rotate_left
  ·simp only [Act.put,J,U,V,i64_w,i32_w];rfl
  refine one_ (i:=9) (N:=some 15) #[Y,Y,Y,Y,Y,Y,Y,Y,Y,Y,X] rfl rfl (one_of HT_.out (by kernel_rfl)) (by decide) (fun K hK => ?_);refine box_step ?hgb (N:=15) ?hdb (cs:=#[.int .i64 (N : Int),.slice A0 l.length c0,.slice (some ⟨gc,0,none⟩) N cc,.slice (some ⟨gd,0,none⟩) N cd]) (t:=116) ?hrb ?_; (case hdb => rfl); (case hgb => rfl); (case hrb => first | (go_simp; done) | (go_simp; rfl));intro gs hgs wb hbox hb;have O1:=Z hbox;have O2:=Z (Kd.R_below HC.out hb);have O3:=Z (Kd.R_below HD.out hb);have O4:=Z (show w.heap.size ≤ gs by rw [hgs]; exact below_size HB.out);have HGC:=Z hgc;have HGD:=Z hgd;have BK:=Z (blk_below BK.out hb);have HB:=Z (below_step HB.out hb);clear hb hbox hgs HC HD hgc hgd;refine hK.out _ _ ⟨(blk_cell BK.out 0).trans rfl,(blk_cell BK.out 1).trans rfl⟩ (fun hHeld => ?_);clear hK K;refine norm_ (a':=?_) ?_ ?_;rotate_left
  ·show Act.put _ (some 15) _ = _
   simp only [Act.put,J,U,V,i64_w,i32_w];rfl
  refine pure_ (i:=10) (N:=some 5) (v:=?_) (a':=?_) #[Y,Y,Y,Y,Y,Y,Y,Y,Y,Y,Y] rfl rfl (any_of HT_.out (by kernel_rfl)) (fun _ _ _ h => h) (Or.inl ⟨by rfl,?_⟩) ?_ ?_;rotate_left
  ·intro w';go_simp;with_reducible rfl
  rotate_left
  ·simp only [Act.put,J,U,V,i64_w,i32_w];rfl
  refine done_ (done_of HT_.out (by kernel_rfl)) ?_;clear hHeld HT_ HW_;have n1:=ne_obj O2.out O1.out (by decide);have n3:=apartN O2.out O3.out;have q2 : wb.cell? ⟨gs,2,none⟩ = some (.slice (some ⟨gc,0,none⟩) N cc):=(blk_cell O1.out 2).trans rfl;have hO2:=O2.out;obtain ⟨xo,xf⟩:=Kd.R_celln 0 hO2 (v : Int) (by omega) (by have:=HV.out; omega);have HP:=Kd.R_putg hO2 (v : Int) 0;rw [Int.toNat_natCast] at xo xf HP;have p2 : ((0 : Int) ≤ (v : Int)) = True:=eq_true (by omega);have p3 : ((v : Int) < (N : Int)) = True:=eq_true (by have:=HV.out; omega);have NN:=Z (And.intro n1 n3);clear n1 n3 hO2
  go_wp2_with (first
   | ((with_reducible refine gate_store (t:=3) (p:=21) rfl ?_); refine store_event (t:=3) (p:=21) (v:=?vs11) (w1:=(wb.setCell ⟨gc,v,none⟩ (.int .i64 0))) ?hgs11 ?hos11 ?hns11 ?hrs11 ?_; (case hos11 => rfl); (case hgs11 => rfl); (case hns11 => rfl); (case hrs11 => first | (go_simp; done) | (go_simp; rfl)); intro w5 hw5; have hg5 : wb.grownBy w5 (some gc):=(by rw [hw5]; exact HP.2); have N1:=Z (show Sch w.heap.size w5 gs gc gd (N : Int) A0 l.length c0 cc cd N ((List.replicate N 99999).set v 0) (List.replicate N false) from ⟨blk_grown O1.out hg5 (fun e => NN.out.1 (Option.some.inj e)),R_only (by rw [hw5]; exact HP.1),R_only (Kd.R_grown (R_only O3.out) hg5 (fun k hk e => NN.out.2 (by rw [← hk]; exact (Option.some.inj e).symm)))⟩); have N2:=Z (show Below w.heap.size w w5 by rw [hw5]; exact below_set HB.out HGC.out); clear hg5 hw5 HP xo xf q2))
  go_ret;exact ⟨gs,gc,gd,cc,cd,rfl,N1.out,O4.out,HGC.out,HGD.out,N2.out⟩
theorem mn_lt {a b : Int} (h : b < a) : mn a b = b:=by unfold mn; first | rw [if_pos h] | (split <;> omega)
theorem mn_ge {a b : Int} (h : ¬ b < a) : mn a b = a:=by unfold mn; first | rw [if_neg h] | (split <;> omega)
def lkS (v : Int) (a : S34) (x : List Int) : List Int:=if a.f0 = v then x.set a.f1.toNat (mn (rd x a.f1) (wrap64 (rd x v + a.f2))) else x
def lkF (l : List S34) (v : Int) : Nat → Nat → List Int → List Int
 | 0,_,x => x
 | d + 1,i,x => lkF l v d (i + 1) (lkS v (rd_T34 l (i : Int)) x)
set_option maxHeartbeats 4000000 in
set_option maxRecDepth 100000 in
theorem search_examine_calls {w0 W : World} {gs gc gd : Nat} {n : Int} {A : Option Addr} {c cc cd N : Nat} {l : List S34} {x : List Int} {y : List Bool} (hN : N ≤ 64) (hL : l.length ≤ 1000) (h : Sch w0.heap.size W gs gc gd n A l.length c cc cd N x y) (hB : Below w0.heap.size w0 W) (hbc : w0.heap.size ≤ gc) (hbd : w0.heap.size ≤ gd)
  (hA : ∀ W',Kept W W' (fun k => k = gc ∨ k = gd) → Kd.C k34 W' A l.length l) (v : Nat) (hv : v < N) (hok : ∀ i,i < l.length → (rd_T34 l (i : Int)).f0 = (v : Int) → 0 ≤ (rd_T34 l (i : Int)).f1 ∧ (rd_T34 l (i : Int)).f1 < (N : Int)) :
  Calls Try.prog 103 #[.pointer (some ⟨gs,0,none⟩),.int .i64 (v : Int)] W fun e w' => e = .returned (.tuple #[]) ∧ Sch w0.heap.size w' gs gc gd n A l.length c cc cd N (lkF l (v : Int) l.length 0 x) (y.set v true) ∧ Kept W w' (fun k => k = gc ∨ k = gd) ∧ Below w0.heap.size w0 w':=by
 obtain ⟨hgc,hgd,hcd⟩:=h.ne;replace hA : ∀ W',KeepBut W W' gc (some gd) → Kd.C k34 W' A l.length l:=fun W' hk => hA W' ⟨hk.1,fun i hi hn => hk.2 i hi (fun e => hn (.inl e)) (fun e => hn (.inr (Option.some.inj e)))⟩
 have hu:=Try.underlying116;have hu2:=Try.underlying25;have hu3:=Try.underlying34;have q3 : W.cell? ⟨gs,3,none⟩ = some (.slice (some ⟨gd,0,none⟩) N cd):=(blk_cell h.obj 3).trans rfl;obtain ⟨yo,yf⟩:=Kd.R_celln false h.hd (v : Int) (by omega) (by omega);have HP:=Kd.R_putg h.hd (v : Int) true;rw [Int.toNat_natCast] at yo yf HP;have p2 : ((0 : Int) ≤ (v : Int)) = True:=eq_true (by omega);have p3 : ((v : Int) < (N : Int)) = True:=eq_true (by omega);have HS:=Z h;have HN:=Z hN;have HL:=Z hL;have G1:=Z hgc;have G2:=Z hgd;have G3:=Z hcd;have G4:=Z hB;have G5:=Z hbc;have G6:=Z hbd;have HA:=Z hA;have HV:=Z hv;have HOK:=Z hok;clear h hN hL hgc hgd hcd hA hv hok hB hbc hbd
 go_enter Try.func103,Try.ntmps103
 go_wp2_with (first
  | ((with_reducible refine gate_store (t:=4) (p:=11) rfl ?_); refine store_event (t:=4) (p:=11) (v:=?vo1_) (w1:=(W.setCell ⟨gd,v,none⟩ (.bool true))) ?hg ?ho ?hn ?hr ?_; (case ho => rfl); (case hg => rfl); (case hn => rfl); (case hr => first | (go_simp; done) | (go_simp; rfl)); intro w1 hw1; have hg1 : W.grownBy w1 (some gd):=(by rw [hw1]; exact HP.2); have K1:=Z (show Sch w0.heap.size w1 gs gc gd n A l.length c cc cd N x (y.set v true) from ⟨blk_grown HS.out.obj hg1 (fun e => G2.out (Option.some.inj e)),Kd.R_grown HS.out.hc hg1 (fun k hk e => G3.out (by rw [← hk]; exact Option.some.inj e)),by rw [hw1]; exact HP.1⟩); have K2:=Z (KeepBut.of_grown hg1 gc); have K3:=Z (show Below w0.heap.size w0 w1 by rw [hw1]; exact below_set G4.out G6.out); clear hg1 hw1 HP yo yf q3 p2 p3; have q1 : w1.cell? ⟨gs,1,none⟩ = some (.slice A l.length c):=(blk_cell K1.out.obj 1).trans rfl))
 clear q1
 go_loopg [18] l.length (fun gg s18 wr => ∃ (j : Nat) (x1 : List Int),s18 = .int .i64 (j : Int) ∧ Aside0 (j ≤ l.length) ∧ Aside0 (l.length - j ≤ gg) ∧ Aside0 (Sch w0.heap.size wr gs gc gd n A l.length c cc cd N x1 (y.set v true)) ∧ Aside0 (KeepBut W wr gc (some gd)) ∧ Aside0 (lkF l (v : Int) (l.length - j) j x1 = lkF l (v : Int) l.length 0 x) ∧ Aside0 (Below w0.heap.size w0 wr))
 case atStart => exact ⟨0,x,rfl,⟨by omega⟩,⟨by omega⟩,⟨by first | exact K1.out | exact K1.out.below (below_drew1 (Below.refl _ _))⟩,⟨by first | exact K2.out | exact K2.out.trans (KeepBut.of_below (below_drew1 (Below.refl _ _)) gc (some gd)) (.inl rfl)⟩,⟨by rw [Nat.sub_zero]⟩,⟨by first | exact K3.out | exact below_drew1 K3.out⟩⟩
 case round =>
  clear K1 K2 K3 G4;obtain ⟨j,x1,rfl,J0,J1,J2,J3,J4,J5⟩:=hrel
  by_cases hj : j < l.length
  case neg =>
   have c1 : decide ((j : Int) < (l.length : Int)) = false:=decide_eq_false (by omega);have c2 : decide (j < l.length) = false:=decide_eq_false hj;have hjn : j = l.length:=by have:=J0.out; omega
   have h5 : x1 = lkF l (v : Int) l.length 0 x:=by have h:=J4.out; rw [hjn,Nat.sub_self] at h; exact h
   have H5:=Z h5;clear h5 hjn hj
   go_wp2
   go_end0
   exact ⟨rfl,by rw [← H5.out]; exact J2.out,⟨J3.out.1,fun i hi hn => J3.out.2 i hi (fun e => hn (.inl e)) (fun e => hn (.inr (Option.some.inj e)))⟩,J5.out⟩
  have c1 : decide ((j : Int) < (l.length : Int)) = true:=decide_eq_true (by omega);have c2 : decide (j < l.length) = true:=decide_eq_true hj;have hw : wrap64 ((j : Int) + 1) = ((j + 1 : Nat) : Int):=by have h1:=HL.out; unfold wrap64; omega
  have HW:=Z hw;obtain ⟨d,hd⟩ : ∃ d,l.length - j = d + 1:=⟨l.length - j - 1,by omega⟩
  have h5:=J4.out;rw [hd] at h5;have hd2 : l.length - (j + 1) = d:=by omega
  replace h5 : lkF l (v : Int) (l.length - (j + 1)) (j + 1) (lkS (v : Int) (rd_T34 l (j : Int)) x1) = lkF l (v : Int) l.length 0 x:=by rw [hd2]; exact h5
  clear hd hd2;have hkk:=HOK.out j hj;have p2 : ((0 : Int) ≤ (j : Int)) = True:=eq_true (by omega);have p3 : ((j : Int) < (l.length : Int)) = True:=eq_true (by omega);have HJ:=Z hj;obtain ⟨ad,eA,hx0,hx1,hx2,hx3,hx4⟩:=at_T34 (HA.out _ J3.out) (j : Int) (by omega) (by omega);subst eA;rw [Int.toNat_natCast] at hx0 hx1 hx2 hx3 hx4;obtain ⟨f,hf⟩ : ∃ f,f = rd_T34 l (j : Int):=⟨_,rfl⟩
  rw [← hf] at hx0 hx1 hx2 hx3 hx4 h5 hkk;clear hf hj;have HK:=Z hkk;have H5:=Z h5;clear h5 hkk
  by_cases e0 : f.f0 = (v : Int)
  case neg =>
   have e1 : (f.f0 == (v : Int)) = false:=beq_eq_false_iff_ne.mpr e0;have H6 : Aside0 (lkF l (v : Int) (l.length - (j + 1)) (j + 1) x1 = lkF l (v : Int) l.length 0 x):=⟨by have h:=H5.out; unfold lkS at h; rw [if_neg e0] at h; exact h⟩
   clear H5 HK
   go_wp2_with (first
    | ((with_reducible refine gate_dst (N:=5) rfl ?_); refine box_event ?hg (N:=5) ?hd (cs:=#[.int .i64 0,.int .i64 0,.int .i64 0,.int .i64 0,.int .i64 0]) (t:=34) ?hr ?_; (case hd => rfl); (case hg => rfl); (case hr => first | (go_simp; done) | (go_simp; rfl)); intro ga hga w2 hbox hb2; have B1:=Z hbox; have B2:=Z (J2.out.below hb2); have B3:=Z (J3.out.trans (KeepBut.of_below hb2 gc (some gd)) (.inl rfl)); have B8:=Z (below_step J5.out hb2); have B9:=Z (show w0.heap.size ≤ ga by rw [hga]; exact below_size J5.out); have B4:=Z (show W.heap.size ≤ ga by rw [hga]; exact J3.out.1); have B5:=Z (show gs ≠ ga by rw [hga]; exact Nat.ne_of_lt (blk_lt J2.out.obj)); have B6:=Z (show gc ≠ ga by rw [hga]; exact Nat.ne_of_lt (Kd.R_lt J2.out.hc gc rfl)); have B7:=Z (show gd ≠ ga by rw [hga]; exact Nat.ne_of_lt (Kd.R_lt J2.out.hd gd rfl)); clear hx0 hx1 hx2 hx3 hx4 hbox hb2 hga)
    | ((with_reducible refine gate_store (t:=34) (p:=5) (v:=.tmp 21) rfl ?_); refine put_event rfl rfl rfl B1.out 0 #[.int .i64 f.f0,.int .i64 f.f1,.int .i64 f.f2,.int .i64 f.f3,.int .i64 f.f4] (.agg #[.int .i64 f.f0,.int .i64 f.f1,.int .i64 f.f2,.int .i64 f.f3,.int .i64 f.f4]) [.int .i64 f.f0,.int .i64 f.f1,.int .i64 f.f2,.int .i64 f.f3,.int .i64 f.f4] (by first | rfl | (go_simp; done) | (go_simp; rfl)) (by first | rfl | (go_simp; done) | (go_simp; rfl)) rfl (by kernel_rfl) (by simp) (by simp [Value.oneCell']) rfl ?_; intro w3 hc3 hg3; have D1:=Z hc3; have D2:=Z (B2.out.step (fun i hi hor => hg3.block i hi (fun e => by have e:=Option.some.inj e; rcases hor with h | h | h; exact B5.out (by rw [← h,← e]); exact B6.out (by rw [← h,← e]); exact B7.out (by rw [← h,← e])))); have D3:=Z (B3.out.trans (KeepBut.of_grown hg3 gc) (.inr ⟨ga,rfl,B4.out⟩)); have D4:=Z (pw_below_grown B8.out _ (below_size B8.out) hg3 (fun k hk => by obtain rfl:=Option.some.inj hk; exact B9.out)); clear B1 B2 B3 hc3 hg3; have z0 : w3.cell? ⟨ga,0,none⟩ = some (.int .i64 f.f0):=(blk_cell D1.out 0).trans rfl))
   have hj:=HJ.out;go_roundg (l.length - (j + 1))
   case measure => have:=J1.out; omega
   case rel => exact ⟨j + 1,x1,by first | rfl | (rw [HW.out]; done) | (simp [HW.out]; done),⟨hj⟩,⟨Nat.le_refl _⟩,D2,D3,H6,D4⟩
  have e1 : (f.f0 == (v : Int)) = true:=by simp [e0]
  have hf1:=HK.out e0;have H6 : Aside0 (lkF l (v : Int) (l.length - (j + 1)) (j + 1) (x1.set f.f1.toNat (mn (rd x1 f.f1) (wrap64 (rd x1 (v : Int) + f.f2)))) = lkF l (v : Int) l.length 0 x):=⟨by have h:=H5.out; unfold lkS at h; rw [if_pos e0] at h; exact h⟩
  have F0:=Z hf1.1;have F1:=Z hf1.2;clear H5 HK hf1
  go_wp2_with (first
   | ((with_reducible refine gate_dst (N:=5) rfl ?_); refine box_event ?hg (N:=5) ?hd (cs:=#[.int .i64 0,.int .i64 0,.int .i64 0,.int .i64 0,.int .i64 0]) (t:=34) ?hr ?_; (case hd => rfl); (case hg => rfl); (case hr => first | (go_simp; done) | (go_simp; rfl)); intro ga hga w2 hbox hb2; have B1:=Z hbox; have B2:=Z (J2.out.below hb2); have B3:=Z (J3.out.trans (KeepBut.of_below hb2 gc (some gd)) (.inl rfl)); have B8:=Z (below_step J5.out hb2); have B9:=Z (show w0.heap.size ≤ ga by rw [hga]; exact below_size J5.out); have B4:=Z (show W.heap.size ≤ ga by rw [hga]; exact J3.out.1); have B5:=Z (show gs ≠ ga by rw [hga]; exact Nat.ne_of_lt (blk_lt J2.out.obj)); have B6:=Z (show gc ≠ ga by rw [hga]; exact Nat.ne_of_lt (Kd.R_lt J2.out.hc gc rfl)); have B7:=Z (show gd ≠ ga by rw [hga]; exact Nat.ne_of_lt (Kd.R_lt J2.out.hd gd rfl)); clear hx0 hx1 hx2 hx3 hx4 hbox hb2 hga)
   | ((with_reducible refine gate_store (t:=34) (p:=5) (v:=.tmp 21) rfl ?_); refine put_event rfl rfl rfl B1.out 0 #[.int .i64 f.f0,.int .i64 f.f1,.int .i64 f.f2,.int .i64 f.f3,.int .i64 f.f4] (.agg #[.int .i64 f.f0,.int .i64 f.f1,.int .i64 f.f2,.int .i64 f.f3,.int .i64 f.f4]) [.int .i64 f.f0,.int .i64 f.f1,.int .i64 f.f2,.int .i64 f.f3,.int .i64 f.f4] (by first | rfl | (go_simp; done) | (go_simp; rfl)) (by first | rfl | (go_simp; done) | (go_simp; rfl)) rfl (by kernel_rfl) (by simp) (by simp [Value.oneCell']) rfl ?_; intro w3 hc3 hg3; have D1:=Z hc3; have D2:=Z (B2.out.step (fun i hi hor => hg3.block i hi (fun e => by have e:=Option.some.inj e; rcases hor with h | h | h; exact B5.out (by rw [← h,← e]); exact B6.out (by rw [← h,← e]); exact B7.out (by rw [← h,← e])))); have D3:=Z (B3.out.trans (KeepBut.of_grown hg3 gc) (.inr ⟨ga,rfl,B4.out⟩)); have D4:=Z (pw_below_grown B8.out _ (below_size B8.out) hg3 (fun k hk => by obtain rfl:=Option.some.inj hk; exact B9.out)); clear B1 B2 B3 hc3 hg3; have z0 : w3.cell? ⟨ga,0,none⟩ = some (.int .i64 f.f0):=(blk_cell D1.out 0).trans rfl))
  have hE:=D2.out.below (below_drew1 (Below.refl w3.heap.size w3));have E1:=Z hE;have E3:=Z (below_drew1 D4.out);have E2:=Z (D3.out.trans (KeepBut.of_below (below_drew1 (Below.refl w3.heap.size w3)) gc (some gd)) (.inl rfl));have q2 : w3.drew.cell? ⟨gs,2,none⟩ = some (.slice (some ⟨gc,0,none⟩) N cc):=(blk_cell hE.obj 2).trans rfl;have z1 : w3.drew.cell? ⟨ga,1,none⟩ = some (.int .i64 f.f1):=(blk_cell (blk_drew D1.out) 1).trans rfl;have z2 : w3.drew.cell? ⟨ga,2,none⟩ = some (.int .i64 f.f2):=(blk_cell (blk_drew D1.out) 2).trans rfl;obtain ⟨x2,xf⟩:=Kd.R_celln 0 hE.hc f.f1 F0.out F1.out;have x3:=(Kd.R_celln 0 hE.hc (v : Int) (by omega) (by have:=HV.out; omega)).1;rw [Int.toNat_natCast] at x3;have r0:=eq_true F0.out;have r1:=eq_true F1.out;have r2 : ((0 : Int) ≤ (v : Int)) = True:=eq_true (by omega);have r3 : ((v : Int) < (N : Int)) = True:=eq_true (by have:=HV.out; omega)
  by_cases hm : IntKind.i64.wrap (rdOf 0 x1 (v : Int) + f.f2) < rdOf 0 x1 f.f1
  case neg =>
   have m1 : (IntKind.i64.wrap (rdOf 0 x1 (v : Int) + f.f2) < rdOf 0 x1 f.f1) = False:=eq_false hm;have H7 : Aside0 (lkF l (v : Int) (l.length - (j + 1)) (j + 1) (x1.set f.f1.toNat (rdOf 0 x1 f.f1)) = lkF l (v : Int) l.length 0 x):=⟨by rw [← H6.out]; congr 2; rw [← i64_w]; exact (mn_ge hm).symm⟩
   clear hm H6;have HP:=Kd.R_putg hE.hc f.f1 (rdOf 0 x1 f.f1);clear hE z0 D1 D2 D3
   go_still_tail 26,(by kernel_rfl)
   change wpList _ _ _ _ _ w3.drew
   generalize w3.drew = w4 at E1 E2 E3 q2 z1 z2 x2 xf x3 HP ⊢
   go_wp2_with (first
    | ((with_reducible refine gate_store (t:=3) (p:=51) rfl ?_); refine store_event (t:=3) (p:=51) (v:=?vo3_) (w1:=(w4.setCell ⟨gc,f.f1.toNat,none⟩ (.int .i64 (rdOf 0 x1 f.f1)))) ?hg ?ho ?hn ?hr ?_; (case ho => rfl); (case hg => rfl); (case hn => rfl); (case hr => first | (go_simp; done) | (go_simp; rfl) | (go_simp; simp only [i64_w]; rfl)); intro w5 hw5; have hg5 : w4.grownBy w5 (some gc):=(by rw [hw5]; exact HP.2); have N1:=Z (show Sch w0.heap.size w5 gs gc gd n _ l.length c cc cd N (x1.set f.f1.toNat (rdOf 0 x1 f.f1)) (y.set v true) from ⟨blk_grown E1.out.obj hg5 (fun e => G1.out (Option.some.inj e)),by rw [hw5]; exact HP.1,Kd.R_grown E1.out.hd hg5 (fun k hk e => G3.out (by rw [← hk]; exact (Option.some.inj e).symm))⟩); have N2:=Z (E2.out.trans ⟨hg5.size,fun i hi hig _ => hg5.block i hi (fun e => hig (Option.some.inj e))⟩ (.inl rfl)); have N3:=Z (show Below w0.heap.size w0 w5 by rw [hw5]; exact below_set E3.out G5.out); clear hg5 hw5 HP))
   have hj:=HJ.out;go_roundg (l.length - (j + 1))
   case measure => have:=J1.out; omega
   case rel => exact ⟨j + 1,_,by first | rfl | (rw [HW.out]; done) | (simp [HW.out]; done),⟨hj⟩,⟨Nat.le_refl _⟩,N1,N2,H7,N3⟩
  have m1 : (IntKind.i64.wrap (rdOf 0 x1 (v : Int) + f.f2) < rdOf 0 x1 f.f1) = True:=eq_true hm;have H7 : Aside0 (lkF l (v : Int) (l.length - (j + 1)) (j + 1) (x1.set f.f1.toNat (IntKind.i64.wrap (rdOf 0 x1 (v : Int) + f.f2))) = lkF l (v : Int) l.length 0 x):=⟨by rw [← H6.out]; congr 2; rw [← i64_w]; exact (mn_lt hm).symm⟩
  clear hm H6;have HP:=Kd.R_putg hE.hc f.f1 (IntKind.i64.wrap (rdOf 0 x1 (v : Int) + f.f2));clear hE z0 D1 D2 D3
  go_still_tail 26,(by kernel_rfl)
  change wpList _ _ _ _ _ w3.drew
  generalize w3.drew = w4 at E1 E2 E3 q2 z1 z2 x2 xf x3 HP ⊢
  go_wp2_with (first
   | ((with_reducible refine gate_store (t:=3) (p:=51) rfl ?_); refine store_event (t:=3) (p:=51) (v:=?vo2_) (w1:=(w4.setCell ⟨gc,f.f1.toNat,none⟩ (.int .i64 (IntKind.i64.wrap (rdOf 0 x1 (v : Int) + f.f2))))) ?hg ?ho ?hn ?hr ?_; (case ho => rfl); (case hg => rfl); (case hn => rfl); (case hr => first | (go_simp; done) | (go_simp; rfl) | (go_simp; simp only [i64_w]; rfl)); intro w5 hw5; have hg5 : w4.grownBy w5 (some gc):=(by rw [hw5]; exact HP.2); have N1:=Z (show Sch w0.heap.size w5 gs gc gd n _ l.length c cc cd N (x1.set f.f1.toNat (IntKind.i64.wrap (rdOf 0 x1 (v : Int) + f.f2))) (y.set v true) from ⟨blk_grown E1.out.obj hg5 (fun e => G1.out (Option.some.inj e)),by rw [hw5]; exact HP.1,Kd.R_grown E1.out.hd hg5 (fun k hk e => G3.out (by rw [← hk]; exact (Option.some.inj e).symm))⟩); have N2:=Z (E2.out.trans ⟨hg5.size,fun i hi hig _ => hg5.block i hi (fun e => hig (Option.some.inj e))⟩ (.inl rfl)); have N3:=Z (show Below w0.heap.size w0 w5 by rw [hw5]; exact below_set E3.out G5.out); clear hg5 hw5 HP))
  have hj:=HJ.out;go_roundg (l.length - (j + 1))
  case measure => have:=J1.out; omega
  case rel => exact ⟨j + 1,_,by first | rfl | (rw [HW.out]; done) | (simp [HW.out]; done),⟨hj⟩,⟨Nat.le_refl _⟩,N1,N2,H7,N3⟩
def leF (a b : List Int) : Nat → Nat → Int → Int
 | 0,_,m => m
 | d + 1,i,m => leF a b d (i + 1) (if rd a (i : Int) ≠ 99999 ∧ rd b (i : Int) ≠ 99999 then mn m (wrap64 (rd a (i : Int) + rd b (i : Int))) else m)
def leV (a b : List Int) : Int:=leF a b a.length 0 99999
def bothF (l lb : List S34) : Nat → List Int → List Bool → List Int → List Bool → Int → Option (Int × Int)
 | 0,_,_,_,_,_ => none
 | k + 1,a,as_,b,bs,m => if nextV a as_ < 0 then some (leV a b,m) else if nextV b bs < 0 then some (leV a b,m) else if leV a b ≤ wrap64 (rd a (nextV a as_) + rd b (nextV b bs)) then some (leV a b,m)
   else if rd a (nextV a as_) ≤ rd b (nextV b bs) then bothF l lb k (lkF l (nextV a as_) l.length 0 a) (as_.set (nextV a as_).toNat true) b bs (wrap64 (m + 1))
   else bothF l lb k a as_ (lkF lb (nextV b bs) lb.length 0 b) (bs.set (nextV b bs).toNat true) (wrap64 (m + 1))
def okTo (N : Nat) (l : List S34) : Bool:=l.all fun a => decide (0 ≤ a.f1) && decide (a.f1 < (N : Int))
theorem okTo_at {N : Nat} {l : List S34} (h : okTo N l = true) {i : Nat} (hi : i < l.length) : 0 ≤ (rd_T34 l (i : Int)).f1 ∧ (rd_T34 l (i : Int)).f1 < (N : Int):=by
 unfold okTo at h
 have:=List.all_eq_true.1 h l[i] (List.getElem_mem hi);rw [Bool.and_eq_true,decide_eq_true_eq,decide_eq_true_eq] at this;have e : rd_T34 l (i : Int) = l[i]:=by simp [rd_T34,hi]
 rw [e]; exact this
def okB (N : Int) (l : List S34) (s t : Int) : Bool:=decide (1 ≤ N) && decide (N ≤ 64) && decide (l.length ≤ 1000) && decide (0 ≤ s) && decide (s < N) && decide (0 ≤ t) && decide (t < N) && okTo N.toNat l
def impl_Net_both.f (k : Nat) (a0_0 : Int) (l0_1 : List S34) (a1 : Int) (a2 : Int) : Option (Int × Int):=if okB a0_0 l0_1 a1 a2 = true then (impl_Net_back.f k a0_0 l0_1).bind fun r => if r.1 = a0_0 then if r.2.length ≤ 1000 then if okTo a0_0.toNat r.2 = true then bothF l0_1 r.2 k ((List.replicate a0_0.toNat 99999).set a1.toNat 0) (List.replicate a0_0.toNat false) ((List.replicate a0_0.toNat 99999).set a2.toNat 0) (List.replicate a0_0.toNat false) 0 else none else none else none else none
theorem heap_arc : Kd.Heap k34:=Kd.heap_iso _ (Kd.heap_pair (Kd.heap_int _) (Kd.heap_pair (Kd.heap_int _) (Kd.heap_pair (Kd.heap_int _) (Kd.heap_pair (Kd.heap_int _) (Kd.heap_int _)))))
theorem Sch.lower {b b' : Nat} {W : World} {gs gc gd : Nat} {n : Int} {A : Option Addr} {m c cc cd N : Nat} {x : List Int} {y : List Bool} (h : Sch b W gs gc gd n A m c cc cd N x y) (hb : b' ≤ b) : Sch b' W gs gc gd n A m c cc cd N x y:=⟨h.obj,Kd.R_lower h.hc hb,Kd.R_lower h.hd hb⟩
theorem Sch.kept {b : Nat} {W W1 : World} {gs gc gd : Nat} {n : Int} {A : Option Addr} {m c cc cd N : Nat} {x : List Int} {y : List Bool} {S : Nat → Prop} (h : Sch b W gs gc gd n A m c cc cd N x y) (hk : Kept W W1 S) (h1 : ¬ S gs) (h2 : ¬ S gc) (h3 : ¬ S gd) : Sch b W1 gs gc gd n A m c cc cd N x y :=
 h.step (fun i hi ho => hk.2 i hi (by rcases ho with e | e | e <;> rw [e] <;> assumption))
theorem search_examine_int {w0 W : World} {gs gc gd : Nat} {n : Int} {A : Option Addr} {c cc cd N : Nat} {l : List S34} {x : List Int} {y : List Bool} (hN : N ≤ 64) (hL : l.length ≤ 1000) (h : Sch w0.heap.size W gs gc gd n A l.length c cc cd N x y) (hB : Below w0.heap.size w0 W) (hbc : w0.heap.size ≤ gc) (hbd : w0.heap.size ≤ gd)
  (hA : ∀ W',Kept W W' (fun k => k = gc ∨ k = gd) → Kd.C k34 W' A l.length l) (v : Int) (h0 : 0 ≤ v) (h1 : v < (N : Int)) (hok : ∀ i,i < l.length → 0 ≤ (rd_T34 l (i : Int)).f1 ∧ (rd_T34 l (i : Int)).f1 < (N : Int)) :
  Calls Try.prog 103 #[.pointer (some ⟨gs,0,none⟩),.int .i64 v] W fun e w' => e = .returned (.tuple #[]) ∧ Sch w0.heap.size w' gs gc gd n A l.length c cc cd N (lkF l v l.length 0 x) (y.set v.toNat true) ∧ Kept W w' (fun k => k = gc ∨ k = gd) ∧ Below w0.heap.size w0 w':=by
 obtain ⟨q,rfl⟩:=Int.eq_ofNat_of_zero_le h0;exact search_examine_calls hN hL h hB hbc hbd hA q (by omega) (fun i hi _ => hok i hi)
def both_T : Bool × List (List Nat × List Nat):=(true,[([],[]),([],[]),([0,1],[0,1]),([],[]),([3,2],[3]),([],[]),([4,5,4],[4,5]),([2,6,0,1,2],[2]),([6,7,0,1,2,3,4,5,6,7],[6])])
def both_B : List Nat:=[0,0,3,0,15,0,63,127,255]
theorem both_tab : rtab .any (opsOf Try.f60 1) = both_T:=by kernel_rfl
theorem both_bits : waitsOk both_T.2 both_B = true:=by kernel_rfl
def both_T12 : Bool × List (List Nat × List Nat):=(true,[([],[]),([0],[0]),([1],[1]),([2],[2]),([3,2],[2,3]),([2,4],[2,4]),([5,2],[5]),([6],[6]),([7,6],[6,7]),([8,6],[6,8]),([9,6],[6,9]),([6],[6]),([10,11,6],[6,10,11]),([12,6],[6,12]),([6],[6]),([14,6],[6,14]),([15,6],[6,15]),([16,6],[6,16]),([6],[6]),([17,18,6],[6,17,18]),([19,6],[6,19]),([13,20,6],[6,13,20]),([6],[6]),([21,22,6],[6,21,22]),([6,23],[6,23])])
def both_B12 : List Nat:=[0,1,3,7,15,31,63,127,255,511,1023,127,4095,8191,127,16511,49279,114815,127,508031,1032319,2097151,127,8388607,16777215]
theorem both_tab12 : rtab .any (opsOf Try.f60 12) = both_T12:=by kernel_rfl
theorem both_bits12 : waitsOk both_T12.2 both_B12 = true:=by kernel_rfl
def Four (gc gd hc hd : Nat) (k : Nat) : Prop:=k = gc ∨ k = gd ∨ k = hc ∨ k = hd
theorem four_l {gc gd hc hd k : Nat} (h : k = gc ∨ k = gd) : Four gc gd hc hd k:=by unfold Four; omega
theorem four_r {gc gd hc hd k : Nat} (h : k = hc ∨ k = hd) : Four gc gd hc hd k:=by unfold Four; omega
set_option maxHeartbeats 16000000 in
set_option maxRecDepth 100000 in
theorem both_walk (k N : Nat) (hN : N ≤ 64) (h1 : 1 ≤ N) (A0 : Option Addr) (c0 : Nat) (l lb : List S34) (s t : Nat) (hs : s < N) (ht : t < N) (hl : l.length ≤ 1000) (hlb : lb.length ≤ 1000) (ho : okTo N l = true) (hob : okTo N lb = true) (r1 r2 : Int) (w : World) (hr : Kd.C k34 w A0 l.length l) (hc : l.length ≤ c0) (hbk : impl_Net_back.f k (N : Int) l = some ((N : Int),lb))
  (h : bothF l lb k ((List.replicate N 99999).set s 0) (List.replicate N false) ((List.replicate N 99999).set t 0) (List.replicate N false) 0 = some (r1,r2)) :
  Calls Try.prog 60 #[.agg #[.int .i64 (N : Int),.slice A0 l.length c0],.int .i64 (s : Int),.int .i64 (t : Int)] w fun e w' => e = .returned (.tuple #[.int .i64 r1,.int .i64 r2]) ∧ Below w.heap.size w w':=by
 have hu:=Try.underlying116;have hu2:=Try.underlying25;have HN:=Z hN;have H1:=Z h1;have HS:=Z hs;have HT:=Z ht;have HL:=Z hl;have HLB:=Z hlb;have HO:=Z ho;have HOB:=Z hob;have HR:=Z hr;have HC:=Z hc;have HBK:=Z hbk;have H:=Z h;clear hN h1 hs ht hl hlb ho hob hr hc hbk h
 go_enter Try.func60,Try.ntmps60
 go_wp2_with (first
  | ((with_reducible refine gate_dst (N:=3) rfl ?_); refine box_event ?hg (N:=3) ?hd (cs:=#[.int .i64 (N : Int),.slice A0 l.length c0]) (t:=25) ?hr ?_; (case hd => rfl); (case hg => rfl); (case hr => first | (go_simp; done) | (go_simp; rfl)); intro gb hgb w1 hbox hb; have BK:=Z (blk_drew hbox); have HB:=Z (below_drew1 hb); clear hbox hb hgb))
 refine start_ (n:=9) (S:=fun w' => w'.cell? ⟨gb,0,none⟩ = some (.int .i64 (N : Int)) ∧ w'.cell? ⟨gb,1,none⟩ = some (.slice A0 l.length c0)) (ds:=[]) #[X,X,X,X,X,X,X,X,X] (by kernel_rfl) rfl rfl ⟨(blk_cell BK.out 0).trans rfl,(blk_cell BK.out 1).trans rfl⟩ (fun hHeld => ?_); refine with_tabW both_tab both_bits (fun HT_ HW_ => ?_);generalize w1.drew = w2 at BK HB hHeld ⊢;refine pure_ (i:=1) (N:=some 17) (v:=?_) (a':=?_) #[X,Y,X,X,X,X,X,X,X] rfl rfl (any_of HT_.out (by kernel_rfl)) (fun _ _ _ h => h) (Or.inl ⟨by rfl,?_⟩) ?_ ?_;rotate_left
 ·intro w';go_simp;with_reducible rfl
 rotate_left
 ·simp only [Act.put,J,U,V,i64_w,i32_w];rfl
 refine pure_ (i:=5) (N:=some 21) (v:=?_) (a':=?_) #[X,Y,X,X,X,Y,X,X,X] rfl rfl (any_of HT_.out (by kernel_rfl)) (fun _ _ _ h => h) (Or.inl ⟨by rfl,?_⟩) ?_ ?_;rotate_left
 ·intro w';go_simp;with_reducible rfl
 rotate_left
 ·simp only [Act.put,J,U,V,i64_w,i32_w];rfl
 refine take_ (i:=0) (N:=some 16) (v:=?_) (a':=?_) #[Y,Y,X,X,X,Y,X,X,X] rfl rfl (take_ofW HT_.out HW_.out (by kernel_rfl)) (fun _ _ _ h => h) (Or.inl ⟨by rfl,?_⟩) hHeld ?_ ?_;rotate_left
 ·rintro w' ⟨s0,s1⟩;go_simp;with_reducible rfl
 rotate_left
 ·simp only [Act.put,J,U,V,i64_w,i32_w];rfl
 refine take_ (i:=3) (N:=some 19) (v:=?_) (a':=?_) #[Y,Y,X,Y,X,Y,X,X,X] rfl rfl (take_ofW HT_.out HW_.out (by kernel_rfl)) (fun _ _ _ h => h) (Or.inl ⟨by rfl,?_⟩) hHeld ?_ ?_;rotate_left
 ·rintro w' ⟨s0,s1⟩;go_simp;with_reducible rfl
 rotate_left
 ·simp only [Act.put,J,U,V,i64_w,i32_w];rfl
 refine one_ (i:=2) (N:=some 18) #[Y,Y,Y,Y,X,Y,X,X,X] rfl rfl (one_of HT_.out (by kernel_rfl)) (by decide) (fun K hK => ?_);refine goes_ Try.func101 (by kernel_rfl) rfl #[.agg #[.int .i64 (N : Int),.slice A0 l.length c0],.int .i64 (s : Int)] (by rfl) rfl rfl (by (try simp only [List.map_toArray,List.map_cons,List.map_nil]); first | done | rfl | (go_simp; done)) ?_;refine (searchFrom_calls _ N HN.out H1.out A0 c0 l s HS.out).mono ?_;rintro e w3 ⟨gs,gc,gd,cc,cd,rfl,hs1,hs2,hs3,hs4,hb⟩;refine ⟨_,rfl,?_⟩;have S1:=Z (hs1.lower (below_size HB.out));have D1:=Z (show w.heap.size ≤ gc ∧ w.heap.size ≤ gd from ⟨Nat.le_trans (below_size HB.out) hs3,Nat.le_trans (below_size HB.out) hs4⟩);have BK:=Z (blk_below BK.out hb);have HB:=Z (below_step HB.out hb);clear hs1 hs2 hs3 hs4 hb;refine hK.out _ _ ⟨(blk_cell BK.out 0).trans rfl,(blk_cell BK.out 1).trans rfl⟩ (fun hHeld => ?_);clear hK K;refine norm_ (a':=?_) ?_ ?_;rotate_left
 ·show Act.put _ (some 18) _ = _
  simp only [Act.put,J,U,V,i64_w,i32_w];rfl
 refine one_ (i:=4) (N:=some 20) #[Y,Y,Y,Y,Y,Y,X,X,X] rfl rfl (one_of HT_.out (by kernel_rfl)) (by decide) (fun K hK => ?_);refine goes_ Try.func92 (by kernel_rfl) rfl #[.agg #[.int .i64 (N : Int),.slice A0 l.length c0]] (by rfl) rfl rfl (by (try simp only [List.map_toArray,List.map_cons,List.map_nil]); first | done | rfl | (go_simp; done)) ?_;refine (impl_Net_back.calls k (N : Int) A0 c0 l (N : Int) lb w3 (Kd.C_below HR.out HB.out) HC.out HBK.out).mono ?_;rintro e w4 ⟨v1,rfl,hv1,hb⟩;refine ⟨_,rfl,?_⟩;obtain ⟨A1,c1,rfl⟩:=Kd.R_slice hv1;have RB:=Z (Kd.R_lower hv1 (below_size HB.out));have S1:=Z (S1.out.below hb);have BK:=Z (blk_below BK.out hb);have HB:=Z (below_step HB.out hb);clear hv1 hb;refine hK.out _ _ ⟨(blk_cell BK.out 0).trans rfl,(blk_cell BK.out 1).trans rfl⟩ (fun hHeld => ?_);clear hK K;refine norm_ (a':=?_) ?_ ?_;rotate_left
 ·show Act.put _ (some 20) _ = _
  simp only [Act.put,J,U,V,i64_w,i32_w];rfl
 refine one_ (i:=6) (N:=some 22) #[Y,Y,Y,Y,Y,Y,Y,X,X] rfl rfl (one_of HT_.out (by kernel_rfl)) (by decide) (fun K hK => ?_);refine goes_ Try.func101 (by kernel_rfl) rfl #[.agg #[.int .i64 (N : Int),.slice A1 lb.length c1],.int .i64 (t : Int)] (by rfl) rfl rfl (by (try simp only [List.map_toArray,List.map_cons,List.map_nil]); first | done | rfl | (go_simp; done)) ?_;refine (searchFrom_calls _ N HN.out H1.out A1 c1 lb t HT.out).mono ?_;rintro e w5 ⟨hs,hc,hd,dc,dd,rfl,hs1,hs2,hs3,hs4,hb⟩;refine ⟨_,rfl,?_⟩;have S2:=Z (hs1.lower (below_size HB.out));have D2:=Z (show w.heap.size ≤ hc ∧ w.heap.size ≤ hd from ⟨Nat.le_trans (below_size HB.out) hs3,Nat.le_trans (below_size HB.out) hs4⟩);have D3:=Z (show (gs < w4.heap.size ∧ gc < w4.heap.size ∧ gd < w4.heap.size) ∧ w4.heap.size ≤ hs ∧ w4.heap.size ≤ hc ∧ w4.heap.size ≤ hd from ⟨⟨blk_lt S1.out.obj,Kd.R_lt S1.out.hc gc rfl,Kd.R_lt S1.out.hd gd rfl⟩,hs2,hs3,hs4⟩);have S1:=Z (S1.out.below hb);have RB:=Z (Kd.R_below RB.out hb);have BK:=Z (blk_below BK.out hb);have HB:=Z (below_step HB.out hb);clear hs1 hs2 hs3 hs4 hb;refine hK.out _ _ ⟨(blk_cell BK.out 0).trans rfl,(blk_cell BK.out 1).trans rfl⟩ (fun hHeld => ?_);clear hK K;refine norm_ (a':=?_) ?_ ?_;rotate_left
 ·show Act.put _ (some 22) _ = _
  simp only [Act.put,J,U,V,i64_w,i32_w];rfl
 refine pure_ (i:=7) (N:=some 8) (v:=?_) (a':=?_) #[Y,Y,Y,Y,Y,Y,Y,Y,X] rfl rfl (any_of HT_.out (by kernel_rfl)) (fun _ _ _ h => h) (Or.inl ⟨by rfl,?_⟩) ?_ ?_;rotate_left
 ·intro w';go_simp;with_reducible rfl
 rotate_left
 ·simp only [Act.put,J,U,V,i64_w,i32_w];rfl
 refine pure_ (i:=8) (N:=some 9) (v:=?_) (a':=?_) #[Y,Y,Y,Y,Y,Y,Y,Y,Y] rfl rfl (any_of HT_.out (by kernel_rfl)) (fun _ _ _ h => h) (Or.inl ⟨by rfl,?_⟩) ?_ ?_;rotate_left
 ·intro w';go_simp;with_reducible rfl
 rotate_left
 ·simp only [Act.put,J,U,V,i64_w,i32_w];rfl
 refine done_ (done_of HT_.out (by kernel_rfl)) ?_;clear hHeld HT_ HW_;have DD:=Z (show (gs ≠ hs ∧ gs ≠ hc ∧ gs ≠ hd) ∧ (gc ≠ hs ∧ gc ≠ hc ∧ gc ≠ hd) ∧ gd ≠ hs ∧ gd ≠ hc ∧ gd ≠ hd by have:=D3.out; omega);have F1 : Aside0 (∀ W',Kept w5 W' (Four gc gd hc hd) → Kd.C k34 W' A0 l.length l):=⟨Kd.C_kept_came heap_arc HR.out HB.out (fun q hq => by have h1:=D1.out; have h2:=D2.out; rcases hq with e | e | e | e <;> omega)⟩
 have F2 : Aside0 (∀ W',Kept w5 W' (Four gc gd hc hd) → Kd.C k34 W' A1 lb.length lb):=⟨Kd.C_kept_own (Kd.R_bound RB.out) (fun q hq hf => by
  obtain ⟨_,_,_,z,hz,cells,hcell⟩:=hq;have hz2 : z = 34:=by
   rcases List.mem_cons.1 hz with e | e
   ·exact e
   ·exact absurd e (by show z ∉ ([] : List Nat); simp)
  subst hz2
  rcases hf with e | e | e | e <;> subst e
  ·exact ne_obj S1.out.hc hcell (by decide) rfl
  ·exact ne_objB S1.out.hd hcell (by decide) rfl
  ·exact ne_obj S2.out.hc hcell (by decide) rfl
  ·exact ne_objB S2.out.hd hcell (by decide) rfl)⟩
 clear D3 RB BK HBK HR
 go_wp2
 go_loopg [10] k (fun gg s10 wr => ∃ (m : Int) (a : List Int) (as_ : List Bool) (b : List Int) (bs : List Bool),s10 = .int .i64 m ∧ Aside0 (bothF l lb gg a as_ b bs m = some (r1,r2)) ∧ Aside0 (Sch w.heap.size wr gs gc gd (N : Int) A0 l.length c0 cc cd N a as_) ∧ Aside0 (Sch w.heap.size wr hs hc hd (N : Int) A1 lb.length c1 dc dd N b bs) ∧ Aside0 (Below w.heap.size w wr) ∧ Aside0 (∀ W',Kept wr W' (Four gc gd hc hd) → Kd.C k34 W' A0 l.length l) ∧ Aside0 (∀ W',Kept wr W' (Four gc gd hc hd) → Kd.C k34 W' A1 lb.length lb))
 case atStart => exact ⟨0,_,_,_,_,rfl,H,S1,S2,HB,F1,F2⟩
 case round =>
  clear S1 S2 HB F1 F2 H;obtain ⟨m,a,as_,b,bs,rfl,J0,S1,S2,HB,F1,F2⟩:=hrel;cases gk with
  | zero => exact absurd J0.out (by simp [bothF])
  | succ k1 =>
   obtain ⟨la,las⟩:=S1.out.lens;obtain ⟨lb1,lbs⟩:=S2.out.lens;have LA:=Z la;have LB:=Z lb1;have q2 : wr.cell? ⟨gs,2,none⟩ = some (.slice (some ⟨gc,0,none⟩) N cc):=(blk_cell S1.out.obj 2).trans rfl;have HE : Aside0 (leF a b (N - 0) 0 99999 = leV a b):=⟨by unfold leV; rw [la,Nat.sub_zero]⟩
   clear la las lb1 lbs
   go_wp2
   clear q2
   go_loopg [11,30] N (fun g2 s11 s30 w2 => ∃ (i : Nat) (q : Int),s11 = .int .i64 q ∧ s30 = .int .i64 (i : Int) ∧ Aside0 (i ≤ N) ∧ Aside0 (N - i ≤ g2) ∧ Aside0 (Below wr.heap.size wr w2) ∧ Aside0 (leF a b (N - i) i q = leV a b))
   case atStart => exact ⟨0,99999,rfl,rfl,⟨by omega⟩,⟨by omega⟩,⟨by first | exact Below.refl _ _ | exact below_drew1 (Below.refl _ _)⟩,HE⟩
   case round =>
    clear HE;obtain ⟨i,q,rfl,rfl,I0,I1,I2,I3⟩:=hrel
    by_cases hi : i < N
    case pos =>
     have c1 : decide ((i : Int) < (N : Int)) = true:=decide_eq_true (by omega);have c2 : decide (i < N) = true:=decide_eq_true hi;have p2 : ((0 : Int) ≤ (i : Int)) = True:=eq_true (by omega);have p3 : ((i : Int) < (N : Int)) = True:=eq_true (by omega);have T1:=S1.out.below I2.out;have T2:=S2.out.below I2.out;have y2 : wr.cell? ⟨hs,2,none⟩ = some (.slice (some ⟨hc,0,none⟩) N dc):=(blk_cell T2.obj 2).trans rfl;have x1:=(Kd.R_celln 0 T1.hc (i : Int) (by omega) (by omega)).1;have x2:=(Kd.R_celln 0 T2.hc (i : Int) (by omega) (by omega)).1;rw [Int.toNat_natCast] at x1 x2;have h5 : leF a b (N - (i + 1)) (i + 1) (if rdOf 0 a (i : Int) ≠ 99999 ∧ rdOf 0 b (i : Int) ≠ 99999 then mn q (wrap64 (rdOf 0 a (i : Int) + rdOf 0 b (i : Int))) else q) = leV a b:=by
      have h:=I3.out;rw [show N - i = (N - (i + 1)) + 1 by omega] at h;exact h
     obtain ⟨u,hu'⟩ : ∃ u,u = rdOf 0 a (i : Int):=⟨_,rfl⟩
     obtain ⟨v,hv'⟩ : ∃ v,v = rdOf 0 b (i : Int):=⟨_,rfl⟩
     rw [← hu'] at x1 h5;rw [← hv'] at x2 h5;have hw : wrap64 ((i : Int) + 1) = ((i + 1 : Nat) : Int):=by have h1:=HN.out; unfold wrap64; omega
     have HW:=Z hw;have HI:=Z hi;clear T1 T2 hu' hv' hi hw
     by_cases e0 : u = 99999
     case pos =>
      subst e0;have H6 : Aside0 (leF a b (N - (i + 1)) (i + 1) q = leV a b):=⟨by rw [if_neg (fun z => z.1 rfl)] at h5; exact h5⟩
      skip
      clear h5
      go_wp2
      have hi:=HI.out;go_roundg (N - (i + 1))
      case measure => have:=I1.out; omega
      case rel => exact ⟨i + 1,q,by first | rfl | (rw [i64_w]; done) | (simp only [i64_w]; done),by first | rfl | (rw [HW.out]; done) | (simp [HW.out]; done),⟨hi⟩,⟨Nat.le_refl _⟩,⟨by first | exact I2.out | (repeat (first | (with_reducible first | exact I2.out | apply below_alloc | apply pw_below_drewN | apply below_drew1)))⟩,H6⟩
     have e1 : (u != 99999) = true:=bne_iff_ne.mpr e0;have e2 : (u == 99999) = false:=beq_eq_false_iff_ne.mpr e0;have e3 : (u = 99999) = False:=eq_false e0
     by_cases f0 : v = 99999
     case pos =>
      subst f0;have H6 : Aside0 (leF a b (N - (i + 1)) (i + 1) q = leV a b):=⟨by rw [if_neg (fun z => z.2 rfl)] at h5; exact h5⟩
      skip
      clear h5
      go_wp2
      have hi:=HI.out;go_roundg (N - (i + 1))
      case measure => have:=I1.out; omega
      case rel => exact ⟨i + 1,q,by first | rfl | (rw [i64_w]; done) | (simp only [i64_w]; done),by first | rfl | (rw [HW.out]; done) | (simp [HW.out]; done),⟨hi⟩,⟨Nat.le_refl _⟩,⟨by first | exact I2.out | (repeat (first | (with_reducible first | exact I2.out | apply below_alloc | apply pw_below_drewN | apply below_drew1)))⟩,H6⟩
     have f1 : (v != 99999) = true:=bne_iff_ne.mpr f0;have f2 : (v == 99999) = false:=beq_eq_false_iff_ne.mpr f0;have f3 : (v = 99999) = False:=eq_false f0;rw [if_pos ⟨e0,f0⟩] at h5
     by_cases hm : wrap64 (u + v) < q
     case neg =>
      have m1 : (wrap64 (u + v) < q) = False:=eq_false hm;have m2 : (IntKind.i64.wrap (u + v) < q) = False:=eq_false (by rw [i64_w]; exact hm);have H6 : Aside0 (leF a b (N - (i + 1)) (i + 1) q = leV a b):=⟨by rw [← h5]; congr 1; exact (mn_ge hm).symm⟩
      clear hm;clear h5
      go_wp2
      have hi:=HI.out;go_roundg (N - (i + 1))
      case measure => have:=I1.out; omega
      case rel => exact ⟨i + 1,q,by first | rfl | (rw [i64_w]; done) | (simp only [i64_w]; done),by first | rfl | (rw [HW.out]; done) | (simp [HW.out]; done),⟨hi⟩,⟨Nat.le_refl _⟩,⟨by first | exact I2.out | (repeat (first | (with_reducible first | exact I2.out | apply below_alloc | apply pw_below_drewN | apply below_drew1)))⟩,H6⟩
     have m1 : (wrap64 (u + v) < q) = True:=eq_true hm;have m2 : (IntKind.i64.wrap (u + v) < q) = True:=eq_true (by rw [i64_w]; exact hm);have H6 : Aside0 (leF a b (N - (i + 1)) (i + 1) (wrap64 (u + v)) = leV a b):=⟨by rw [← h5]; congr 1; exact (mn_lt hm).symm⟩
     clear hm;clear h5
     go_wp2
     have hi:=HI.out;go_roundg (N - (i + 1))
     case measure => have:=I1.out; omega
     case rel => exact ⟨i + 1,(wrap64 (u + v)),by first | rfl | (rw [i64_w]; done) | (simp only [i64_w]; done),by first | rfl | (rw [HW.out]; done) | (simp [HW.out]; done),⟨hi⟩,⟨Nat.le_refl _⟩,⟨by first | exact I2.out | (repeat (first | (with_reducible first | exact I2.out | apply below_alloc | apply pw_below_drewN | apply below_drew1)))⟩,H6⟩
    have c1 : decide ((i : Int) < (N : Int)) = false:=decide_eq_false (by omega);have c2 : decide (i < N) = false:=decide_eq_false hi;have hiN : i = N:=by have:=I0.out; omega
    have hq : q = leV a b:=by have h:=I3.out; rw [hiN,Nat.sub_self] at h; exact h
    subst hq;clear hiN hi I0 I1 I3
    go_wp2_with (first
     | (go_at_call 102; (with_reducible refine (search_next_calls HN.out (S1.out.below I2.out)).mono ?_); rintro e w3 ⟨rfl,hb3⟩; have I4:=Z (below_step I2.out hb3); clear hb3)
     | (go_at_call 102; (with_reducible refine (search_next_calls HN.out (S2.out.below I4.out)).mono ?_); rintro e w4 ⟨rfl,hb4⟩; have I5:=Z (below_step I4.out hb4); clear hb4))
    have I6:=Z (below_drew1 I5.out);have I7:=Z (below_drew1 I6.out);have hE1:=S1.out.below I6.out;have hE2:=S2.out.below I6.out;have y1 : w4.drew.cell? ⟨gs,2,none⟩ = some (.slice (some ⟨gc,0,none⟩) N cc):=(blk_cell hE1.obj 2).trans rfl;have y2 : w4.drew.cell? ⟨hs,2,none⟩ = some (.slice (some ⟨hc,0,none⟩) N dc):=(blk_cell hE2.obj 2).trans rfl;have b1:=nextV_bd a as_;have b2:=nextV_bd b bs;rw [LA.out] at b1;rw [LB.out] at b2;have j0:=J0.out
    unfold bothF at j0
    clear I2 I4 I5 J0;obtain ⟨i0,hi0⟩ : ∃ i0,i0 = nextV a as_:=⟨_,rfl⟩
    obtain ⟨k0,hk0⟩ : ∃ k0,k0 = nextV b bs:=⟨_,rfl⟩
    rw [← hi0] at b1 j0 ⊢;rw [← hk0] at b2 j0 ⊢;clear hi0 hk0
    by_cases d0 : i0 < 0
    case pos =>
     have d1 : decide (i0 < 0) = true:=decide_eq_true d0;have d2 : (i0 < 0) = True:=eq_true d0;rw [if_pos d0] at j0;obtain ⟨rfl,rfl⟩ : leV a b = r1 ∧ m = r2:=by simpa using j0
     clear j0 d0 b1 b2 hE1 hE2;refine start_ (n:=25) (S:=fun w' => w'.cell? ⟨gs,2,none⟩ = some (.slice (some ⟨gc,0,none⟩) N cc) ∧ w'.cell? ⟨hs,2,none⟩ = some (.slice (some ⟨hc,0,none⟩) N dc)) (ds:=[]) #[X,X,X,X,X,X,X,X,X,X,X,X,X,X,X,X,X,X,X,X,X,X,X,X,X] (by kernel_rfl) rfl rfl ⟨y1,y2⟩ (fun hHeld => ?_); refine with_tabW both_tab12 both_bits12 (fun HT_ HW_ => ?_);refine pure_ (i:=0) (N:=some 63) (v:=?_) (a':=?_) #[Y,X,X,X,X,X,X,X,X,X,X,X,X,X,X,X,X,X,X,X,X,X,X,X,X] rfl rfl (any_of HT_.out (by kernel_rfl)) (fun _ _ _ h => h) (Or.inl ⟨by rfl,?_⟩) ?_ ?_;rotate_left
     ·intro w';go_simp;with_reducible rfl
     rotate_left
     ·simp only [Act.put,J,U,V,i64_w,i32_w];rfl
     refine pure_ (i:=1) (N:=some 64) (v:=?_) (a':=?_) #[Y,Y,X,X,X,X,X,X,X,X,X,X,X,X,X,X,X,X,X,X,X,X,X,X,X] rfl rfl (any_of HT_.out (by kernel_rfl)) (fun _ _ _ h => h) (Or.inl ⟨by rfl,?_⟩) ?_ ?_;rotate_left
     ·intro w';go_simp;with_reducible rfl
     rotate_left
     ·simp only [Act.put,J,U,V,i64_w,i32_w];rfl
     refine pure_ (i:=2) (N:=some 65) (v:=?_) (a':=?_) #[Y,Y,Y,X,X,X,X,X,X,X,X,X,X,X,X,X,X,X,X,X,X,X,X,X,X] rfl rfl (any_of HT_.out (by kernel_rfl)) (fun _ _ _ h => h) (Or.inl ⟨by rfl,?_⟩) ?_ ?_;rotate_left
     ·intro w';go_simp;with_reducible rfl
     rotate_left
     ·simp only [Act.put,J,U,V,i64_w,i32_w];rfl
     refine pure_ (i:=3) (N:=some 66) (v:=undef) (a':=?_) #[Y,Y,Y,Y,X,X,X,X,X,X,X,X,X,X,X,X,X,X,X,X,X,X,X,X,X] rfl rfl (any_of HT_.out (by kernel_rfl)) (fun _ _ _ h => h) (Or.inr ⟨by rfl,rfl⟩) ?_ ?_;rotate_left
     ·simp only [Act.put,J,U,V,i64_w,i32_w];rfl
     refine pure_ (i:=4) (N:=some 67) (v:=undef) (a':=?_) #[Y,Y,Y,Y,Y,X,X,X,X,X,X,X,X,X,X,X,X,X,X,X,X,X,X,X,X] rfl rfl (any_of HT_.out (by kernel_rfl)) (fun _ _ _ h => h) (Or.inr ⟨by rfl,rfl⟩) ?_ ?_;rotate_left
     ·simp only [Act.put,J,U,V,i64_w,i32_w];rfl
     refine pure_ (i:=5) (N:=some 68) (v:=?_) (a':=?_) #[Y,Y,Y,Y,Y,Y,X,X,X,X,X,X,X,X,X,X,X,X,X,X,X,X,X,X,X] rfl rfl (any_of HT_.out (by kernel_rfl)) (fun _ _ _ h => h) (Or.inl ⟨by rfl,?_⟩) ?_ ?_;rotate_left
     ·intro w';go_simp;with_reducible rfl
     rotate_left
     ·simp only [Act.put,J,U,V,i64_w,i32_w];rfl
     refine pure_ (i:=6) (N:=some 69) (v:=?_) (a':=?_) #[Y,Y,Y,Y,Y,Y,Y,X,X,X,X,X,X,X,X,X,X,X,X,X,X,X,X,X,X] rfl rfl (any_of HT_.out (by kernel_rfl)) (fun _ _ _ h => h) (Or.inl ⟨by rfl,?_⟩) ?_ ?_;rotate_left
     ·intro w';go_simp;with_reducible rfl
     rotate_left
     ·simp only [Act.put,J,U,V,i64_w,i32_w];rfl
     refine pure_ (i:=7) (N:=some 70) (v:=undef) (a':=?_) #[Y,Y,Y,Y,Y,Y,Y,Y,X,X,X,X,X,X,X,X,X,X,X,X,X,X,X,X,X] rfl rfl (any_of HT_.out (by kernel_rfl)) (fun _ _ _ h => h) (Or.inr ⟨by rfl,rfl⟩) ?_ ?_;rotate_left
     ·simp only [Act.put,J,U,V,i64_w,i32_w];rfl
     refine pure_ (i:=8) (N:=some 71) (v:=undef) (a':=?_) #[Y,Y,Y,Y,Y,Y,Y,Y,Y,X,X,X,X,X,X,X,X,X,X,X,X,X,X,X,X] rfl rfl (any_of HT_.out (by kernel_rfl)) (fun _ _ _ h => h) (Or.inr ⟨by rfl,rfl⟩) ?_ ?_;rotate_left
     ·simp only [Act.put,J,U,V,i64_w,i32_w];rfl
     refine pure_ (i:=9) (N:=some 72) (v:=undef) (a':=?_) #[Y,Y,Y,Y,Y,Y,Y,Y,Y,Y,X,X,X,X,X,X,X,X,X,X,X,X,X,X,X] rfl rfl (any_of HT_.out (by kernel_rfl)) (fun _ _ _ h => h) (Or.inr ⟨by rfl,rfl⟩) ?_ ?_;rotate_left
     ·simp only [Act.put,J,U,V,i64_w,i32_w];rfl
     refine pure_ (i:=10) (N:=some 73) (v:=undef) (a':=?_) #[Y,Y,Y,Y,Y,Y,Y,Y,Y,Y,Y,X,X,X,X,X,X,X,X,X,X,X,X,X,X] rfl rfl (any_of HT_.out (by kernel_rfl)) (fun _ _ _ h => h) (Or.inr ⟨by rfl,rfl⟩) ?_ ?_;rotate_left
     ·simp only [Act.put,J,U,V,i64_w,i32_w];rfl
     refine pure_ (i:=11) (N:=some 74) (v:=undef) (a':=?_) #[Y,Y,Y,Y,Y,Y,Y,Y,Y,Y,Y,Y,X,X,X,X,X,X,X,X,X,X,X,X,X] rfl rfl (any_of HT_.out (by kernel_rfl)) (fun _ _ _ h => h) (Or.inr ⟨by rfl,rfl⟩) ?_ ?_;rotate_left
     ·simp only [Act.put,J,U,V,i64_w,i32_w];rfl
     refine pure_ (i:=12) (N:=some 75) (v:=undef) (a':=?_) #[Y,Y,Y,Y,Y,Y,Y,Y,Y,Y,Y,Y,Y,X,X,X,X,X,X,X,X,X,X,X,X] rfl rfl (any_of HT_.out (by kernel_rfl)) (fun _ _ _ h => h) (Or.inr ⟨by rfl,rfl⟩) ?_ ?_;rotate_left
     ·simp only [Act.put,J,U,V,i64_w,i32_w];rfl
     refine pure_ (i:=13) (N:=some 76) (v:=undef) (a':=?_) #[Y,Y,Y,Y,Y,Y,Y,Y,Y,Y,Y,Y,Y,Y,X,X,X,X,X,X,X,X,X,X,X] rfl rfl (any_of HT_.out (by kernel_rfl)) (fun _ _ _ h => h) (Or.inr ⟨by rfl,rfl⟩) ?_ ?_;rotate_left
     ·simp only [Act.put,J,U,V,i64_w,i32_w];rfl
     refine pure_ (i:=14) (N:=some 77) (v:=undef) (a':=?_) #[Y,Y,Y,Y,Y,Y,Y,Y,Y,Y,Y,Y,Y,Y,Y,X,X,X,X,X,X,X,X,X,X] rfl rfl (any_of HT_.out (by kernel_rfl)) (fun _ _ _ h => h) (Or.inr ⟨by rfl,rfl⟩) ?_ ?_;rotate_left
     ·simp only [Act.put,J,U,V,i64_w,i32_w];rfl
     refine pure_ (i:=15) (N:=some 78) (v:=undef) (a':=?_) #[Y,Y,Y,Y,Y,Y,Y,Y,Y,Y,Y,Y,Y,Y,Y,Y,X,X,X,X,X,X,X,X,X] rfl rfl (any_of HT_.out (by kernel_rfl)) (fun _ _ _ h => h) (Or.inr ⟨by rfl,rfl⟩) ?_ ?_;rotate_left
     ·simp only [Act.put,J,U,V,i64_w,i32_w];rfl
     refine pure_ (i:=16) (N:=some 79) (v:=undef) (a':=?_) #[Y,Y,Y,Y,Y,Y,Y,Y,Y,Y,Y,Y,Y,Y,Y,Y,Y,X,X,X,X,X,X,X,X] rfl rfl (any_of HT_.out (by kernel_rfl)) (fun _ _ _ h => h) (Or.inr ⟨by rfl,rfl⟩) ?_ ?_;rotate_left
     ·simp only [Act.put,J,U,V,i64_w,i32_w];rfl
     refine pure_ (i:=17) (N:=some 80) (v:=undef) (a':=?_) #[Y,Y,Y,Y,Y,Y,Y,Y,Y,Y,Y,Y,Y,Y,Y,Y,Y,Y,X,X,X,X,X,X,X] rfl rfl (any_of HT_.out (by kernel_rfl)) (fun _ _ _ h => h) (Or.inr ⟨by rfl,rfl⟩) ?_ ?_;rotate_left
     ·simp only [Act.put,J,U,V,i64_w,i32_w];rfl
     refine pure_ (i:=18) (N:=some 81) (v:=undef) (a':=?_) #[Y,Y,Y,Y,Y,Y,Y,Y,Y,Y,Y,Y,Y,Y,Y,Y,Y,Y,Y,X,X,X,X,X,X] rfl rfl (any_of HT_.out (by kernel_rfl)) (fun _ _ _ h => h) (Or.inr ⟨by rfl,rfl⟩) ?_ ?_;rotate_left
     ·simp only [Act.put,J,U,V,i64_w,i32_w];rfl
     refine pure_ (i:=19) (N:=some 82) (v:=undef) (a':=?_) #[Y,Y,Y,Y,Y,Y,Y,Y,Y,Y,Y,Y,Y,Y,Y,Y,Y,Y,Y,Y,X,X,X,X,X] rfl rfl (any_of HT_.out (by kernel_rfl)) (fun _ _ _ h => h) (Or.inr ⟨by rfl,rfl⟩) ?_ ?_;rotate_left
     ·simp only [Act.put,J,U,V,i64_w,i32_w];rfl
     refine pure_ (i:=20) (N:=some 83) (v:=undef) (a':=?_) #[Y,Y,Y,Y,Y,Y,Y,Y,Y,Y,Y,Y,Y,Y,Y,Y,Y,Y,Y,Y,Y,X,X,X,X] rfl rfl (any_of HT_.out (by kernel_rfl)) (fun _ _ _ h => h) (Or.inr ⟨by rfl,rfl⟩) ?_ ?_;rotate_left
     ·simp only [Act.put,J,U,V,i64_w,i32_w];rfl
     refine pure_ (i:=21) (N:=some 84) (v:=undef) (a':=?_) #[Y,Y,Y,Y,Y,Y,Y,Y,Y,Y,Y,Y,Y,Y,Y,Y,Y,Y,Y,Y,Y,Y,X,X,X] rfl rfl (any_of HT_.out (by kernel_rfl)) (fun _ _ _ h => h) (Or.inr ⟨by rfl,rfl⟩) ?_ ?_;rotate_left
     ·simp only [Act.put,J,U,V,i64_w,i32_w];rfl
     refine pure_ (i:=22) (N:=some 85) (v:=undef) (a':=?_) #[Y,Y,Y,Y,Y,Y,Y,Y,Y,Y,Y,Y,Y,Y,Y,Y,Y,Y,Y,Y,Y,Y,Y,X,X] rfl rfl (any_of HT_.out (by kernel_rfl)) (fun _ _ _ h => h) (Or.inr ⟨by rfl,rfl⟩) ?_ ?_;rotate_left
     ·simp only [Act.put,J,U,V,i64_w,i32_w];rfl
     refine pure_ (i:=23) (N:=some 86) (v:=undef) (a':=?_) #[Y,Y,Y,Y,Y,Y,Y,Y,Y,Y,Y,Y,Y,Y,Y,Y,Y,Y,Y,Y,Y,Y,Y,Y,X] rfl rfl (any_of HT_.out (by kernel_rfl)) (fun _ _ _ h => h) (Or.inr ⟨by rfl,rfl⟩) ?_ ?_;rotate_left
     ·simp only [Act.put,J,U,V,i64_w,i32_w];rfl
     refine pure_ (i:=24) (N:=some 87) (v:=?_) (a':=?_) #[Y,Y,Y,Y,Y,Y,Y,Y,Y,Y,Y,Y,Y,Y,Y,Y,Y,Y,Y,Y,Y,Y,Y,Y,Y] rfl rfl (any_of HT_.out (by kernel_rfl)) (fun _ _ _ h => h) (Or.inl ⟨by rfl,?_⟩) ?_ ?_;rotate_left
     ·intro w';go_simp;with_reducible rfl
     rotate_left
     ·simp only [Act.put,J,U,V,i64_w,i32_w];rfl
     refine done_ (done_of HT_.out (by kernel_rfl)) ?_;clear hHeld HT_ HW_
     go_wp2
     go_ret2;exact ⟨rfl,below_step HB.out I6.out⟩
    have d1 : decide (i0 < 0) = false:=decide_eq_false d0;have d2 : (i0 < 0) = False:=eq_false d0;rw [if_neg d0] at j0
    by_cases d5 : k0 < 0
    case pos =>
     have d6 : decide (k0 < 0) = true:=decide_eq_true d5;have d7 : (k0 < 0) = True:=eq_true d5;rw [if_pos d5] at j0;obtain ⟨rfl,rfl⟩ : leV a b = r1 ∧ m = r2:=by simpa using j0
     clear j0 d0 d5 b1 b2 hE1 hE2;refine start_ (n:=25) (S:=fun w' => w'.cell? ⟨gs,2,none⟩ = some (.slice (some ⟨gc,0,none⟩) N cc) ∧ w'.cell? ⟨hs,2,none⟩ = some (.slice (some ⟨hc,0,none⟩) N dc)) (ds:=[]) #[X,X,X,X,X,X,X,X,X,X,X,X,X,X,X,X,X,X,X,X,X,X,X,X,X] (by kernel_rfl) rfl rfl ⟨y1,y2⟩ (fun hHeld => ?_); refine with_tabW both_tab12 both_bits12 (fun HT_ HW_ => ?_);refine pure_ (i:=0) (N:=some 63) (v:=?_) (a':=?_) #[Y,X,X,X,X,X,X,X,X,X,X,X,X,X,X,X,X,X,X,X,X,X,X,X,X] rfl rfl (any_of HT_.out (by kernel_rfl)) (fun _ _ _ h => h) (Or.inl ⟨by rfl,?_⟩) ?_ ?_;rotate_left
     ·intro w';go_simp;with_reducible rfl
     rotate_left
     ·simp only [Act.put,J,U,V,i64_w,i32_w];rfl
     refine pure_ (i:=1) (N:=some 64) (v:=?_) (a':=?_) #[Y,Y,X,X,X,X,X,X,X,X,X,X,X,X,X,X,X,X,X,X,X,X,X,X,X] rfl rfl (any_of HT_.out (by kernel_rfl)) (fun _ _ _ h => h) (Or.inl ⟨by rfl,?_⟩) ?_ ?_;rotate_left
     ·intro w';go_simp;with_reducible rfl
     rotate_left
     ·simp only [Act.put,J,U,V,i64_w,i32_w];rfl
     refine pure_ (i:=2) (N:=some 65) (v:=?_) (a':=?_) #[Y,Y,Y,X,X,X,X,X,X,X,X,X,X,X,X,X,X,X,X,X,X,X,X,X,X] rfl rfl (any_of HT_.out (by kernel_rfl)) (fun _ _ _ h => h) (Or.inl ⟨by rfl,?_⟩) ?_ ?_;rotate_left
     ·intro w';go_simp;with_reducible rfl
     rotate_left
     ·simp only [Act.put,J,U,V,i64_w,i32_w];rfl
     refine pure_ (i:=3) (N:=some 66) (v:=?_) (a':=?_) #[Y,Y,Y,Y,X,X,X,X,X,X,X,X,X,X,X,X,X,X,X,X,X,X,X,X,X] rfl rfl (any_of HT_.out (by kernel_rfl)) (fun _ _ _ h => h) (Or.inl ⟨by rfl,?_⟩) ?_ ?_;rotate_left
     ·intro w';go_simp;with_reducible rfl
     rotate_left
     ·simp only [Act.put,J,U,V,i64_w,i32_w];rfl
     refine pure_ (i:=4) (N:=some 67) (v:=?_) (a':=?_) #[Y,Y,Y,Y,Y,X,X,X,X,X,X,X,X,X,X,X,X,X,X,X,X,X,X,X,X] rfl rfl (any_of HT_.out (by kernel_rfl)) (fun _ _ _ h => h) (Or.inl ⟨by rfl,?_⟩) ?_ ?_;rotate_left
     ·intro w';go_simp;with_reducible rfl
     rotate_left
     ·simp only [Act.put,J,U,V,i64_w,i32_w];rfl
     refine pure_ (i:=5) (N:=some 68) (v:=?_) (a':=?_) #[Y,Y,Y,Y,Y,Y,X,X,X,X,X,X,X,X,X,X,X,X,X,X,X,X,X,X,X] rfl rfl (any_of HT_.out (by kernel_rfl)) (fun _ _ _ h => h) (Or.inl ⟨by rfl,?_⟩) ?_ ?_;rotate_left
     ·intro w';go_simp;with_reducible rfl
     rotate_left
     ·simp only [Act.put,J,U,V,i64_w,i32_w];rfl
     refine pure_ (i:=6) (N:=some 69) (v:=?_) (a':=?_) #[Y,Y,Y,Y,Y,Y,Y,X,X,X,X,X,X,X,X,X,X,X,X,X,X,X,X,X,X] rfl rfl (any_of HT_.out (by kernel_rfl)) (fun _ _ _ h => h) (Or.inl ⟨by rfl,?_⟩) ?_ ?_;rotate_left
     ·intro w';go_simp;with_reducible rfl
     rotate_left
     ·simp only [Act.put,J,U,V,i64_w,i32_w];rfl
     refine pure_ (i:=7) (N:=some 70) (v:=undef) (a':=?_) #[Y,Y,Y,Y,Y,Y,Y,Y,X,X,X,X,X,X,X,X,X,X,X,X,X,X,X,X,X] rfl rfl (any_of HT_.out (by kernel_rfl)) (fun _ _ _ h => h) (Or.inr ⟨by rfl,rfl⟩) ?_ ?_;rotate_left
     ·simp only [Act.put,J,U,V,i64_w,i32_w];rfl
     refine pure_ (i:=8) (N:=some 71) (v:=undef) (a':=?_) #[Y,Y,Y,Y,Y,Y,Y,Y,Y,X,X,X,X,X,X,X,X,X,X,X,X,X,X,X,X] rfl rfl (any_of HT_.out (by kernel_rfl)) (fun _ _ _ h => h) (Or.inr ⟨by rfl,rfl⟩) ?_ ?_;rotate_left
     ·simp only [Act.put,J,U,V,i64_w,i32_w];rfl
     refine pure_ (i:=9) (N:=some 72) (v:=undef) (a':=?_) #[Y,Y,Y,Y,Y,Y,Y,Y,Y,Y,X,X,X,X,X,X,X,X,X,X,X,X,X,X,X] rfl rfl (any_of HT_.out (by kernel_rfl)) (fun _ _ _ h => h) (Or.inr ⟨by rfl,rfl⟩) ?_ ?_;rotate_left
     ·simp only [Act.put,J,U,V,i64_w,i32_w];rfl
     refine pure_ (i:=10) (N:=some 73) (v:=undef) (a':=?_) #[Y,Y,Y,Y,Y,Y,Y,Y,Y,Y,Y,X,X,X,X,X,X,X,X,X,X,X,X,X,X] rfl rfl (any_of HT_.out (by kernel_rfl)) (fun _ _ _ h => h) (Or.inr ⟨by rfl,rfl⟩) ?_ ?_;rotate_left
     ·simp only [Act.put,J,U,V,i64_w,i32_w];rfl
     refine pure_ (i:=11) (N:=some 74) (v:=undef) (a':=?_) #[Y,Y,Y,Y,Y,Y,Y,Y,Y,Y,Y,Y,X,X,X,X,X,X,X,X,X,X,X,X,X] rfl rfl (any_of HT_.out (by kernel_rfl)) (fun _ _ _ h => h) (Or.inr ⟨by rfl,rfl⟩) ?_ ?_;rotate_left
     ·simp only [Act.put,J,U,V,i64_w,i32_w];rfl
     refine pure_ (i:=12) (N:=some 75) (v:=undef) (a':=?_) #[Y,Y,Y,Y,Y,Y,Y,Y,Y,Y,Y,Y,Y,X,X,X,X,X,X,X,X,X,X,X,X] rfl rfl (any_of HT_.out (by kernel_rfl)) (fun _ _ _ h => h) (Or.inr ⟨by rfl,rfl⟩) ?_ ?_;rotate_left
     ·simp only [Act.put,J,U,V,i64_w,i32_w];rfl
     refine pure_ (i:=13) (N:=some 76) (v:=undef) (a':=?_) #[Y,Y,Y,Y,Y,Y,Y,Y,Y,Y,Y,Y,Y,Y,X,X,X,X,X,X,X,X,X,X,X] rfl rfl (any_of HT_.out (by kernel_rfl)) (fun _ _ _ h => h) (Or.inr ⟨by rfl,rfl⟩) ?_ ?_;rotate_left
     ·simp only [Act.put,J,U,V,i64_w,i32_w];rfl
     refine pure_ (i:=14) (N:=some 77) (v:=undef) (a':=?_) #[Y,Y,Y,Y,Y,Y,Y,Y,Y,Y,Y,Y,Y,Y,Y,X,X,X,X,X,X,X,X,X,X] rfl rfl (any_of HT_.out (by kernel_rfl)) (fun _ _ _ h => h) (Or.inr ⟨by rfl,rfl⟩) ?_ ?_;rotate_left
     ·simp only [Act.put,J,U,V,i64_w,i32_w];rfl
     refine pure_ (i:=15) (N:=some 78) (v:=undef) (a':=?_) #[Y,Y,Y,Y,Y,Y,Y,Y,Y,Y,Y,Y,Y,Y,Y,Y,X,X,X,X,X,X,X,X,X] rfl rfl (any_of HT_.out (by kernel_rfl)) (fun _ _ _ h => h) (Or.inr ⟨by rfl,rfl⟩) ?_ ?_;rotate_left
     ·simp only [Act.put,J,U,V,i64_w,i32_w];rfl
     refine pure_ (i:=16) (N:=some 79) (v:=undef) (a':=?_) #[Y,Y,Y,Y,Y,Y,Y,Y,Y,Y,Y,Y,Y,Y,Y,Y,Y,X,X,X,X,X,X,X,X] rfl rfl (any_of HT_.out (by kernel_rfl)) (fun _ _ _ h => h) (Or.inr ⟨by rfl,rfl⟩) ?_ ?_;rotate_left
     ·simp only [Act.put,J,U,V,i64_w,i32_w];rfl
     refine pure_ (i:=17) (N:=some 80) (v:=undef) (a':=?_) #[Y,Y,Y,Y,Y,Y,Y,Y,Y,Y,Y,Y,Y,Y,Y,Y,Y,Y,X,X,X,X,X,X,X] rfl rfl (any_of HT_.out (by kernel_rfl)) (fun _ _ _ h => h) (Or.inr ⟨by rfl,rfl⟩) ?_ ?_;rotate_left
     ·simp only [Act.put,J,U,V,i64_w,i32_w];rfl
     refine pure_ (i:=18) (N:=some 81) (v:=undef) (a':=?_) #[Y,Y,Y,Y,Y,Y,Y,Y,Y,Y,Y,Y,Y,Y,Y,Y,Y,Y,Y,X,X,X,X,X,X] rfl rfl (any_of HT_.out (by kernel_rfl)) (fun _ _ _ h => h) (Or.inr ⟨by rfl,rfl⟩) ?_ ?_;rotate_left
     ·simp only [Act.put,J,U,V,i64_w,i32_w];rfl
     refine pure_ (i:=19) (N:=some 82) (v:=undef) (a':=?_) #[Y,Y,Y,Y,Y,Y,Y,Y,Y,Y,Y,Y,Y,Y,Y,Y,Y,Y,Y,Y,X,X,X,X,X] rfl rfl (any_of HT_.out (by kernel_rfl)) (fun _ _ _ h => h) (Or.inr ⟨by rfl,rfl⟩) ?_ ?_;rotate_left
     ·simp only [Act.put,J,U,V,i64_w,i32_w];rfl
     refine pure_ (i:=20) (N:=some 83) (v:=undef) (a':=?_) #[Y,Y,Y,Y,Y,Y,Y,Y,Y,Y,Y,Y,Y,Y,Y,Y,Y,Y,Y,Y,Y,X,X,X,X] rfl rfl (any_of HT_.out (by kernel_rfl)) (fun _ _ _ h => h) (Or.inr ⟨by rfl,rfl⟩) ?_ ?_;rotate_left
     ·simp only [Act.put,J,U,V,i64_w,i32_w];rfl
     refine pure_ (i:=21) (N:=some 84) (v:=undef) (a':=?_) #[Y,Y,Y,Y,Y,Y,Y,Y,Y,Y,Y,Y,Y,Y,Y,Y,Y,Y,Y,Y,Y,Y,X,X,X] rfl rfl (any_of HT_.out (by kernel_rfl)) (fun _ _ _ h => h) (Or.inr ⟨by rfl,rfl⟩) ?_ ?_;rotate_left
     ·simp only [Act.put,J,U,V,i64_w,i32_w];rfl
     refine pure_ (i:=22) (N:=some 85) (v:=undef) (a':=?_) #[Y,Y,Y,Y,Y,Y,Y,Y,Y,Y,Y,Y,Y,Y,Y,Y,Y,Y,Y,Y,Y,Y,Y,X,X] rfl rfl (any_of HT_.out (by kernel_rfl)) (fun _ _ _ h => h) (Or.inr ⟨by rfl,rfl⟩) ?_ ?_;rotate_left
     ·simp only [Act.put,J,U,V,i64_w,i32_w];rfl
     refine pure_ (i:=23) (N:=some 86) (v:=undef) (a':=?_) #[Y,Y,Y,Y,Y,Y,Y,Y,Y,Y,Y,Y,Y,Y,Y,Y,Y,Y,Y,Y,Y,Y,Y,Y,X] rfl rfl (any_of HT_.out (by kernel_rfl)) (fun _ _ _ h => h) (Or.inr ⟨by rfl,rfl⟩) ?_ ?_;rotate_left
     ·simp only [Act.put,J,U,V,i64_w,i32_w];rfl
     refine pure_ (i:=24) (N:=some 87) (v:=?_) (a':=?_) #[Y,Y,Y,Y,Y,Y,Y,Y,Y,Y,Y,Y,Y,Y,Y,Y,Y,Y,Y,Y,Y,Y,Y,Y,Y] rfl rfl (any_of HT_.out (by kernel_rfl)) (fun _ _ _ h => h) (Or.inl ⟨by rfl,?_⟩) ?_ ?_;rotate_left
     ·intro w';go_simp;with_reducible rfl
     rotate_left
     ·simp only [Act.put,J,U,V,i64_w,i32_w];rfl
     refine done_ (done_of HT_.out (by kernel_rfl)) ?_;clear hHeld HT_ HW_
     go_wp2
     go_ret2;exact ⟨rfl,below_step HB.out I6.out⟩
    have d6 : decide (k0 < 0) = false:=decide_eq_false d5;have d7 : (k0 < 0) = False:=eq_false d5;rw [if_neg d5] at j0;have z1:=(Kd.R_celln 0 hE1.hc i0 (by omega) (by omega)).1;have z2:=(Kd.R_celln 0 hE2.hc k0 (by omega) (by omega)).1;have p0 : ((0 : Int) ≤ i0) = True:=eq_true (by omega);have p1 : (i0 < (N : Int)) = True:=eq_true (by omega);have p2 : ((0 : Int) ≤ k0) = True:=eq_true (by omega);have p3 : (k0 < (N : Int)) = True:=eq_true (by omega);have R0:=Z (show (0 ≤ i0 ∧ i0 < (N : Int)) ∧ 0 ≤ k0 ∧ k0 < (N : Int) by omega);clear d0 d5 b1 b2 hE1 hE2
    by_cases d9 : leV a b ≤ wrap64 (rdOf 0 a i0 + rdOf 0 b k0)
    case pos =>
     have d10 : decide (leV a b ≤ wrap64 (rdOf 0 a i0 + rdOf 0 b k0)) = true:=decide_eq_true d9;have d11 : (leV a b ≤ wrap64 (rdOf 0 a i0 + rdOf 0 b k0)) = True:=eq_true d9;have d12 : decide (wrap64 (rdOf 0 a i0 + rdOf 0 b k0) ≥ leV a b) = true:=decide_eq_true d9;rw [if_pos (show leV a b ≤ wrap64 (rd a i0 + rd b k0) from d9)] at j0;obtain ⟨rfl,rfl⟩ : leV a b = r1 ∧ m = r2:=by simpa using j0
     clear j0 d9;refine start_ (n:=25) (S:=fun w' => w'.cell? ⟨gs,2,none⟩ = some (.slice (some ⟨gc,0,none⟩) N cc) ∧ w'.cell? ⟨hs,2,none⟩ = some (.slice (some ⟨hc,0,none⟩) N dc) ∧ w'.cell? ⟨gc,i0.toNat,none⟩ = some (.int .i64 (rdOf 0 a i0)) ∧ w'.cell? ⟨hc,k0.toNat,none⟩ = some (.int .i64 (rdOf 0 b k0))) (ds:=[]) #[X,X,X,X,X,X,X,X,X,X,X,X,X,X,X,X,X,X,X,X,X,X,X,X,X] (by kernel_rfl) rfl rfl ⟨y1,y2,z1,z2⟩ (fun hHeld => ?_); refine with_tabW both_tab12 both_bits12 (fun HT_ HW_ => ?_);refine pure_ (i:=0) (N:=some 63) (v:=?_) (a':=?_) #[Y,X,X,X,X,X,X,X,X,X,X,X,X,X,X,X,X,X,X,X,X,X,X,X,X] rfl rfl (any_of HT_.out (by kernel_rfl)) (fun _ _ _ h => h) (Or.inl ⟨by rfl,?_⟩) ?_ ?_;rotate_left
     ·intro w';go_simp;with_reducible rfl
     rotate_left
     ·simp only [Act.put,J,U,V,i64_w,i32_w];rfl
     refine pure_ (i:=1) (N:=some 64) (v:=?_) (a':=?_) #[Y,Y,X,X,X,X,X,X,X,X,X,X,X,X,X,X,X,X,X,X,X,X,X,X,X] rfl rfl (any_of HT_.out (by kernel_rfl)) (fun _ _ _ h => h) (Or.inl ⟨by rfl,?_⟩) ?_ ?_;rotate_left
     ·intro w';go_simp;with_reducible rfl
     rotate_left
     ·simp only [Act.put,J,U,V,i64_w,i32_w];rfl
     refine pure_ (i:=2) (N:=some 65) (v:=?_) (a':=?_) #[Y,Y,Y,X,X,X,X,X,X,X,X,X,X,X,X,X,X,X,X,X,X,X,X,X,X] rfl rfl (any_of HT_.out (by kernel_rfl)) (fun _ _ _ h => h) (Or.inl ⟨by rfl,?_⟩) ?_ ?_;rotate_left
     ·intro w';go_simp;with_reducible rfl
     rotate_left
     ·simp only [Act.put,J,U,V,i64_w,i32_w];rfl
     refine pure_ (i:=3) (N:=some 66) (v:=?_) (a':=?_) #[Y,Y,Y,Y,X,X,X,X,X,X,X,X,X,X,X,X,X,X,X,X,X,X,X,X,X] rfl rfl (any_of HT_.out (by kernel_rfl)) (fun _ _ _ h => h) (Or.inl ⟨by rfl,?_⟩) ?_ ?_;rotate_left
     ·intro w';go_simp;with_reducible rfl
     rotate_left
     ·simp only [Act.put,J,U,V,i64_w,i32_w];rfl
     refine pure_ (i:=4) (N:=some 67) (v:=?_) (a':=?_) #[Y,Y,Y,Y,Y,X,X,X,X,X,X,X,X,X,X,X,X,X,X,X,X,X,X,X,X] rfl rfl (any_of HT_.out (by kernel_rfl)) (fun _ _ _ h => h) (Or.inl ⟨by rfl,?_⟩) ?_ ?_;rotate_left
     ·intro w';go_simp;with_reducible rfl
     rotate_left
     ·simp only [Act.put,J,U,V,i64_w,i32_w];rfl
     refine pure_ (i:=5) (N:=some 68) (v:=?_) (a':=?_) #[Y,Y,Y,Y,Y,Y,X,X,X,X,X,X,X,X,X,X,X,X,X,X,X,X,X,X,X] rfl rfl (any_of HT_.out (by kernel_rfl)) (fun _ _ _ h => h) (Or.inl ⟨by rfl,?_⟩) ?_ ?_;rotate_left
     ·intro w';go_simp;with_reducible rfl
     rotate_left
     ·simp only [Act.put,J,U,V,i64_w,i32_w];rfl
     refine pure_ (i:=6) (N:=some 69) (v:=?_) (a':=?_) #[Y,Y,Y,Y,Y,Y,Y,X,X,X,X,X,X,X,X,X,X,X,X,X,X,X,X,X,X] rfl rfl (any_of HT_.out (by kernel_rfl)) (fun _ _ _ h => h) (Or.inl ⟨by rfl,?_⟩) ?_ ?_;rotate_left
     ·intro w';go_simp;with_reducible rfl
     rotate_left
     ·simp only [Act.put,J,U,V,i64_w,i32_w];rfl
     refine pure_ (i:=7) (N:=some 70) (v:=?_) (a':=?_) #[Y,Y,Y,Y,Y,Y,Y,Y,X,X,X,X,X,X,X,X,X,X,X,X,X,X,X,X,X] rfl rfl (any_of HT_.out (by kernel_rfl)) (fun _ _ _ h => h) (Or.inl ⟨by rfl,?_⟩) ?_ ?_;rotate_left
     ·intro w';go_simp;with_reducible rfl
     rotate_left
     ·simp only [Act.put,J,U,V,i64_w,i32_w];rfl
     refine pure_ (i:=8) (N:=some 71) (v:=?_) (a':=?_) #[Y,Y,Y,Y,Y,Y,Y,Y,Y,X,X,X,X,X,X,X,X,X,X,X,X,X,X,X,X] rfl rfl (any_of HT_.out (by kernel_rfl)) (fun _ _ _ h => h) (Or.inl ⟨by rfl,?_⟩) ?_ ?_;rotate_left
     ·intro w';go_simp;with_reducible rfl
     rotate_left
     ·simp only [Act.put,J,U,V,i64_w,i32_w];rfl
     refine pure_ (i:=9) (N:=some 72) (v:=?_) (a':=?_) #[Y,Y,Y,Y,Y,Y,Y,Y,Y,Y,X,X,X,X,X,X,X,X,X,X,X,X,X,X,X] rfl rfl (any_of HT_.out (by kernel_rfl)) (fun _ _ _ h => h) (Or.inl ⟨by rfl,?_⟩) ?_ ?_;rotate_left
     ·intro w';go_simp;with_reducible rfl
     rotate_left
     ·simp only [Act.put,J,U,V,i64_w,i32_w];rfl
     refine take_ (i:=10) (N:=some 73) (v:=?_) (a':=?_) #[Y,Y,Y,Y,Y,Y,Y,Y,Y,Y,Y,X,X,X,X,X,X,X,X,X,X,X,X,X,X] rfl rfl (take_ofW HT_.out HW_.out (by kernel_rfl)) (fun _ _ _ h => h) (Or.inl ⟨by rfl,?_⟩) hHeld ?_ ?_;rotate_left
     ·rintro w' ⟨s0,s1,s2,s3⟩;go_simp;with_reducible rfl
     rotate_left
     ·simp only [Act.put,J,U,V,i64_w,i32_w];rfl
     refine pure_ (i:=11) (N:=some 74) (v:=?_) (a':=?_) #[Y,Y,Y,Y,Y,Y,Y,Y,Y,Y,Y,Y,X,X,X,X,X,X,X,X,X,X,X,X,X] rfl rfl (any_of HT_.out (by kernel_rfl)) (fun _ _ _ h => h) (Or.inl ⟨by rfl,?_⟩) ?_ ?_;rotate_left
     ·intro w';go_simp;with_reducible rfl
     rotate_left
     ·simp only [Act.put,J,U,V,i64_w,i32_w];rfl
     refine pure_ (i:=12) (N:=some 75) (v:=?_) (a':=?_) #[Y,Y,Y,Y,Y,Y,Y,Y,Y,Y,Y,Y,Y,X,X,X,X,X,X,X,X,X,X,X,X] rfl rfl (any_of HT_.out (by kernel_rfl)) (fun _ _ _ h => h) (Or.inl ⟨by rfl,?_⟩) ?_ ?_;rotate_left
     ·intro w';go_simp;with_reducible rfl
     rotate_left
     ·simp only [Act.put,J,U,V,i64_w,i32_w];rfl
     refine take_ (i:=13) (N:=some 76) (v:=?_) (a':=?_) #[Y,Y,Y,Y,Y,Y,Y,Y,Y,Y,Y,Y,Y,Y,X,X,X,X,X,X,X,X,X,X,X] rfl rfl (take_ofW HT_.out HW_.out (by kernel_rfl)) (fun _ _ _ h => h) (Or.inl ⟨by rfl,?_⟩) hHeld ?_ ?_;rotate_left
     ·rintro w' ⟨s0,s1,s2,s3⟩;go_simp;with_reducible rfl
     rotate_left
     ·simp only [Act.put,J,U,V,i64_w,i32_w];rfl
     refine pure_ (i:=14) (N:=some 77) (v:=?_) (a':=?_) #[Y,Y,Y,Y,Y,Y,Y,Y,Y,Y,Y,Y,Y,Y,Y,X,X,X,X,X,X,X,X,X,X] rfl rfl (any_of HT_.out (by kernel_rfl)) (fun _ _ _ h => h) (Or.inl ⟨by rfl,?_⟩) ?_ ?_;rotate_left
     ·intro w';go_simp;with_reducible rfl
     rotate_left
     ·simp only [Act.put,J,U,V,i64_w,i32_w];rfl
     refine pure_ (i:=15) (N:=some 78) (v:=?_) (a':=?_) #[Y,Y,Y,Y,Y,Y,Y,Y,Y,Y,Y,Y,Y,Y,Y,Y,X,X,X,X,X,X,X,X,X] rfl rfl (any_of HT_.out (by kernel_rfl)) (fun _ _ _ h => h) (Or.inl ⟨by rfl,?_⟩) ?_ ?_;rotate_left
     ·intro w';go_simp;with_reducible rfl
     rotate_left
     ·simp only [Act.put,J,U,V,i64_w,i32_w];rfl
     refine pure_ (i:=16) (N:=some 79) (v:=?_) (a':=?_) #[Y,Y,Y,Y,Y,Y,Y,Y,Y,Y,Y,Y,Y,Y,Y,Y,Y,X,X,X,X,X,X,X,X] rfl rfl (any_of HT_.out (by kernel_rfl)) (fun _ _ _ h => h) (Or.inl ⟨by rfl,?_⟩) ?_ ?_;rotate_left
     ·intro w';go_simp;with_reducible rfl
     rotate_left
     ·simp only [Act.put,J,U,V,i64_w,i32_w];rfl
     refine take_ (i:=17) (N:=some 80) (v:=?_) (a':=?_) #[Y,Y,Y,Y,Y,Y,Y,Y,Y,Y,Y,Y,Y,Y,Y,Y,Y,Y,X,X,X,X,X,X,X] rfl rfl (take_ofW HT_.out HW_.out (by kernel_rfl)) (fun _ _ _ h => h) (Or.inl ⟨by rfl,?_⟩) hHeld ?_ ?_;rotate_left
     ·rintro w' ⟨s0,s1,s2,s3⟩;go_simp;with_reducible rfl
     rotate_left
     ·simp only [Act.put,J,U,V,i64_w,i32_w];rfl
     refine pure_ (i:=18) (N:=some 81) (v:=?_) (a':=?_) #[Y,Y,Y,Y,Y,Y,Y,Y,Y,Y,Y,Y,Y,Y,Y,Y,Y,Y,Y,X,X,X,X,X,X] rfl rfl (any_of HT_.out (by kernel_rfl)) (fun _ _ _ h => h) (Or.inl ⟨by rfl,?_⟩) ?_ ?_;rotate_left
     ·intro w';go_simp;with_reducible rfl
     rotate_left
     ·simp only [Act.put,J,U,V,i64_w,i32_w];rfl
     refine pure_ (i:=19) (N:=some 82) (v:=?_) (a':=?_) #[Y,Y,Y,Y,Y,Y,Y,Y,Y,Y,Y,Y,Y,Y,Y,Y,Y,Y,Y,Y,X,X,X,X,X] rfl rfl (any_of HT_.out (by kernel_rfl)) (fun _ _ _ h => h) (Or.inl ⟨by rfl,?_⟩) ?_ ?_;rotate_left
     ·intro w';go_simp;with_reducible rfl
     rotate_left
     ·simp only [Act.put,J,U,V,i64_w,i32_w];rfl
     refine take_ (i:=20) (N:=some 83) (v:=?_) (a':=?_) #[Y,Y,Y,Y,Y,Y,Y,Y,Y,Y,Y,Y,Y,Y,Y,Y,Y,Y,Y,Y,Y,X,X,X,X] rfl rfl (take_ofW HT_.out HW_.out (by kernel_rfl)) (fun _ _ _ h => h) (Or.inl ⟨by rfl,?_⟩) hHeld ?_ ?_;rotate_left
     ·rintro w' ⟨s0,s1,s2,s3⟩;go_simp;with_reducible rfl
     rotate_left
     ·simp only [Act.put,J,U,V,i64_w,i32_w];rfl
     refine pure_ (i:=21) (N:=some 84) (v:=?_) (a':=?_) #[Y,Y,Y,Y,Y,Y,Y,Y,Y,Y,Y,Y,Y,Y,Y,Y,Y,Y,Y,Y,Y,Y,X,X,X] rfl rfl (any_of HT_.out (by kernel_rfl)) (fun _ _ _ h => h) (Or.inl ⟨by rfl,?_⟩) ?_ ?_;rotate_left
     ·intro w';go_simp;with_reducible rfl
     rotate_left
     ·simp only [Act.put,J,U,V,i64_w,i32_w];rfl
     refine pure_ (i:=22) (N:=some 85) (v:=?_) (a':=?_) #[Y,Y,Y,Y,Y,Y,Y,Y,Y,Y,Y,Y,Y,Y,Y,Y,Y,Y,Y,Y,Y,Y,Y,X,X] rfl rfl (any_of HT_.out (by kernel_rfl)) (fun _ _ _ h => h) (Or.inl ⟨by rfl,?_⟩) ?_ ?_;rotate_left
     ·intro w';go_simp;with_reducible rfl
     rotate_left
     ·simp only [Act.put,J,U,V,i64_w,i32_w];rfl
     refine pure_ (i:=23) (N:=some 86) (v:=?_) (a':=?_) #[Y,Y,Y,Y,Y,Y,Y,Y,Y,Y,Y,Y,Y,Y,Y,Y,Y,Y,Y,Y,Y,Y,Y,Y,X] rfl rfl (any_of HT_.out (by kernel_rfl)) (fun _ _ _ h => h) (Or.inl ⟨by rfl,?_⟩) ?_ ?_;rotate_left
     ·intro w';go_simp;with_reducible rfl
     rotate_left
     ·simp only [Act.put,J,U,V,i64_w,i32_w];rfl
     refine pure_ (i:=24) (N:=some 87) (v:=?_) (a':=?_) #[Y,Y,Y,Y,Y,Y,Y,Y,Y,Y,Y,Y,Y,Y,Y,Y,Y,Y,Y,Y,Y,Y,Y,Y,Y] rfl rfl (any_of HT_.out (by kernel_rfl)) (fun _ _ _ h => h) (Or.inl ⟨by rfl,?_⟩) ?_ ?_;rotate_left
     ·intro w';go_simp;with_reducible rfl
     rotate_left
     ·simp only [Act.put,J,U,V,i64_w,i32_w];rfl
     refine done_ (done_of HT_.out (by kernel_rfl)) ?_;clear hHeld HT_ HW_
     go_wp2
     go_ret2;exact ⟨rfl,below_step HB.out I6.out⟩
    have d10 : decide (leV a b ≤ wrap64 (rdOf 0 a i0 + rdOf 0 b k0)) = false:=decide_eq_false d9;have d11 : (leV a b ≤ wrap64 (rdOf 0 a i0 + rdOf 0 b k0)) = False:=eq_false d9;have d12 : decide (wrap64 (rdOf 0 a i0 + rdOf 0 b k0) ≥ leV a b) = false:=decide_eq_false d9;rw [if_neg (show ¬ leV a b ≤ wrap64 (rd a i0 + rd b k0) from d9)] at j0;have J9:=Z j0;clear j0 d9;refine start_ (n:=25) (S:=fun w' => w'.cell? ⟨gs,2,none⟩ = some (.slice (some ⟨gc,0,none⟩) N cc) ∧ w'.cell? ⟨hs,2,none⟩ = some (.slice (some ⟨hc,0,none⟩) N dc) ∧ w'.cell? ⟨gc,i0.toNat,none⟩ = some (.int .i64 (rdOf 0 a i0)) ∧ w'.cell? ⟨hc,k0.toNat,none⟩ = some (.int .i64 (rdOf 0 b k0))) (ds:=[]) #[X,X,X,X,X,X,X,X,X,X,X,X,X,X,X,X,X,X,X,X,X,X,X,X,X] (by kernel_rfl) rfl rfl ⟨y1,y2,z1,z2⟩ (fun hHeld => ?_); refine with_tabW both_tab12 both_bits12 (fun HT_ HW_ => ?_);refine pure_ (i:=0) (N:=some 63) (v:=?_) (a':=?_) #[Y,X,X,X,X,X,X,X,X,X,X,X,X,X,X,X,X,X,X,X,X,X,X,X,X] rfl rfl (any_of HT_.out (by kernel_rfl)) (fun _ _ _ h => h) (Or.inl ⟨by rfl,?_⟩) ?_ ?_;rotate_left
    ·intro w';go_simp;with_reducible rfl
    rotate_left
    ·simp only [Act.put,J,U,V,i64_w,i32_w];rfl
    refine pure_ (i:=1) (N:=some 64) (v:=?_) (a':=?_) #[Y,Y,X,X,X,X,X,X,X,X,X,X,X,X,X,X,X,X,X,X,X,X,X,X,X] rfl rfl (any_of HT_.out (by kernel_rfl)) (fun _ _ _ h => h) (Or.inl ⟨by rfl,?_⟩) ?_ ?_;rotate_left
    ·intro w';go_simp;with_reducible rfl
    rotate_left
    ·simp only [Act.put,J,U,V,i64_w,i32_w];rfl
    refine pure_ (i:=2) (N:=some 65) (v:=?_) (a':=?_) #[Y,Y,Y,X,X,X,X,X,X,X,X,X,X,X,X,X,X,X,X,X,X,X,X,X,X] rfl rfl (any_of HT_.out (by kernel_rfl)) (fun _ _ _ h => h) (Or.inl ⟨by rfl,?_⟩) ?_ ?_;rotate_left
    ·intro w';go_simp;with_reducible rfl
    rotate_left
    ·simp only [Act.put,J,U,V,i64_w,i32_w];rfl
    refine pure_ (i:=3) (N:=some 66) (v:=?_) (a':=?_) #[Y,Y,Y,Y,X,X,X,X,X,X,X,X,X,X,X,X,X,X,X,X,X,X,X,X,X] rfl rfl (any_of HT_.out (by kernel_rfl)) (fun _ _ _ h => h) (Or.inl ⟨by rfl,?_⟩) ?_ ?_;rotate_left
    ·intro w';go_simp;with_reducible rfl
    rotate_left
    ·simp only [Act.put,J,U,V,i64_w,i32_w];rfl
    refine pure_ (i:=4) (N:=some 67) (v:=?_) (a':=?_) #[Y,Y,Y,Y,Y,X,X,X,X,X,X,X,X,X,X,X,X,X,X,X,X,X,X,X,X] rfl rfl (any_of HT_.out (by kernel_rfl)) (fun _ _ _ h => h) (Or.inl ⟨by rfl,?_⟩) ?_ ?_;rotate_left
    ·intro w';go_simp;with_reducible rfl
    rotate_left
    ·simp only [Act.put,J,U,V,i64_w,i32_w];rfl
    refine pure_ (i:=5) (N:=some 68) (v:=?_) (a':=?_) #[Y,Y,Y,Y,Y,Y,X,X,X,X,X,X,X,X,X,X,X,X,X,X,X,X,X,X,X] rfl rfl (any_of HT_.out (by kernel_rfl)) (fun _ _ _ h => h) (Or.inl ⟨by rfl,?_⟩) ?_ ?_;rotate_left
    ·intro w';go_simp;with_reducible rfl
    rotate_left
    ·simp only [Act.put,J,U,V,i64_w,i32_w];rfl
    refine pure_ (i:=6) (N:=some 69) (v:=?_) (a':=?_) #[Y,Y,Y,Y,Y,Y,Y,X,X,X,X,X,X,X,X,X,X,X,X,X,X,X,X,X,X] rfl rfl (any_of HT_.out (by kernel_rfl)) (fun _ _ _ h => h) (Or.inl ⟨by rfl,?_⟩) ?_ ?_;rotate_left
    ·intro w';go_simp;with_reducible rfl
    rotate_left
    ·simp only [Act.put,J,U,V,i64_w,i32_w];rfl
    refine pure_ (i:=7) (N:=some 70) (v:=?_) (a':=?_) #[Y,Y,Y,Y,Y,Y,Y,Y,X,X,X,X,X,X,X,X,X,X,X,X,X,X,X,X,X] rfl rfl (any_of HT_.out (by kernel_rfl)) (fun _ _ _ h => h) (Or.inl ⟨by rfl,?_⟩) ?_ ?_;rotate_left
    ·intro w';go_simp;with_reducible rfl
    rotate_left
    ·simp only [Act.put,J,U,V,i64_w,i32_w];rfl
    refine pure_ (i:=8) (N:=some 71) (v:=?_) (a':=?_) #[Y,Y,Y,Y,Y,Y,Y,Y,Y,X,X,X,X,X,X,X,X,X,X,X,X,X,X,X,X] rfl rfl (any_of HT_.out (by kernel_rfl)) (fun _ _ _ h => h) (Or.inl ⟨by rfl,?_⟩) ?_ ?_;rotate_left
    ·intro w';go_simp;with_reducible rfl
    rotate_left
    ·simp only [Act.put,J,U,V,i64_w,i32_w];rfl
    refine pure_ (i:=9) (N:=some 72) (v:=?_) (a':=?_) #[Y,Y,Y,Y,Y,Y,Y,Y,Y,Y,X,X,X,X,X,X,X,X,X,X,X,X,X,X,X] rfl rfl (any_of HT_.out (by kernel_rfl)) (fun _ _ _ h => h) (Or.inl ⟨by rfl,?_⟩) ?_ ?_;rotate_left
    ·intro w';go_simp;with_reducible rfl
    rotate_left
    ·simp only [Act.put,J,U,V,i64_w,i32_w];rfl
    refine take_ (i:=10) (N:=some 73) (v:=?_) (a':=?_) #[Y,Y,Y,Y,Y,Y,Y,Y,Y,Y,Y,X,X,X,X,X,X,X,X,X,X,X,X,X,X] rfl rfl (take_ofW HT_.out HW_.out (by kernel_rfl)) (fun _ _ _ h => h) (Or.inl ⟨by rfl,?_⟩) hHeld ?_ ?_;rotate_left
    ·rintro w' ⟨s0,s1,s2,s3⟩;go_simp;with_reducible rfl
    rotate_left
    ·simp only [Act.put,J,U,V,i64_w,i32_w];rfl
    refine pure_ (i:=11) (N:=some 74) (v:=?_) (a':=?_) #[Y,Y,Y,Y,Y,Y,Y,Y,Y,Y,Y,Y,X,X,X,X,X,X,X,X,X,X,X,X,X] rfl rfl (any_of HT_.out (by kernel_rfl)) (fun _ _ _ h => h) (Or.inl ⟨by rfl,?_⟩) ?_ ?_;rotate_left
    ·intro w';go_simp;with_reducible rfl
    rotate_left
    ·simp only [Act.put,J,U,V,i64_w,i32_w];rfl
    refine pure_ (i:=12) (N:=some 75) (v:=?_) (a':=?_) #[Y,Y,Y,Y,Y,Y,Y,Y,Y,Y,Y,Y,Y,X,X,X,X,X,X,X,X,X,X,X,X] rfl rfl (any_of HT_.out (by kernel_rfl)) (fun _ _ _ h => h) (Or.inl ⟨by rfl,?_⟩) ?_ ?_;rotate_left
    ·intro w';go_simp;with_reducible rfl
    rotate_left
    ·simp only [Act.put,J,U,V,i64_w,i32_w];rfl
    refine take_ (i:=13) (N:=some 76) (v:=?_) (a':=?_) #[Y,Y,Y,Y,Y,Y,Y,Y,Y,Y,Y,Y,Y,Y,X,X,X,X,X,X,X,X,X,X,X] rfl rfl (take_ofW HT_.out HW_.out (by kernel_rfl)) (fun _ _ _ h => h) (Or.inl ⟨by rfl,?_⟩) hHeld ?_ ?_;rotate_left
    ·rintro w' ⟨s0,s1,s2,s3⟩;go_simp;with_reducible rfl
    rotate_left
    ·simp only [Act.put,J,U,V,i64_w,i32_w];rfl
    refine pure_ (i:=14) (N:=some 77) (v:=?_) (a':=?_) #[Y,Y,Y,Y,Y,Y,Y,Y,Y,Y,Y,Y,Y,Y,Y,X,X,X,X,X,X,X,X,X,X] rfl rfl (any_of HT_.out (by kernel_rfl)) (fun _ _ _ h => h) (Or.inl ⟨by rfl,?_⟩) ?_ ?_;rotate_left
    ·intro w';go_simp;with_reducible rfl
    rotate_left
    ·simp only [Act.put,J,U,V,i64_w,i32_w];rfl
    refine pure_ (i:=15) (N:=some 78) (v:=?_) (a':=?_) #[Y,Y,Y,Y,Y,Y,Y,Y,Y,Y,Y,Y,Y,Y,Y,Y,X,X,X,X,X,X,X,X,X] rfl rfl (any_of HT_.out (by kernel_rfl)) (fun _ _ _ h => h) (Or.inl ⟨by rfl,?_⟩) ?_ ?_;rotate_left
    ·intro w';go_simp;with_reducible rfl
    rotate_left
    ·simp only [Act.put,J,U,V,i64_w,i32_w];rfl
    refine pure_ (i:=16) (N:=some 79) (v:=?_) (a':=?_) #[Y,Y,Y,Y,Y,Y,Y,Y,Y,Y,Y,Y,Y,Y,Y,Y,Y,X,X,X,X,X,X,X,X] rfl rfl (any_of HT_.out (by kernel_rfl)) (fun _ _ _ h => h) (Or.inl ⟨by rfl,?_⟩) ?_ ?_;rotate_left
    ·intro w';go_simp;with_reducible rfl
    rotate_left
    ·simp only [Act.put,J,U,V,i64_w,i32_w];rfl
    refine take_ (i:=17) (N:=some 80) (v:=?_) (a':=?_) #[Y,Y,Y,Y,Y,Y,Y,Y,Y,Y,Y,Y,Y,Y,Y,Y,Y,Y,X,X,X,X,X,X,X] rfl rfl (take_ofW HT_.out HW_.out (by kernel_rfl)) (fun _ _ _ h => h) (Or.inl ⟨by rfl,?_⟩) hHeld ?_ ?_;rotate_left
    ·rintro w' ⟨s0,s1,s2,s3⟩;go_simp;with_reducible rfl
    rotate_left
    ·simp only [Act.put,J,U,V,i64_w,i32_w];rfl
    refine pure_ (i:=18) (N:=some 81) (v:=?_) (a':=?_) #[Y,Y,Y,Y,Y,Y,Y,Y,Y,Y,Y,Y,Y,Y,Y,Y,Y,Y,Y,X,X,X,X,X,X] rfl rfl (any_of HT_.out (by kernel_rfl)) (fun _ _ _ h => h) (Or.inl ⟨by rfl,?_⟩) ?_ ?_;rotate_left
    ·intro w';go_simp;with_reducible rfl
    rotate_left
    ·simp only [Act.put,J,U,V,i64_w,i32_w];rfl
    refine pure_ (i:=19) (N:=some 82) (v:=?_) (a':=?_) #[Y,Y,Y,Y,Y,Y,Y,Y,Y,Y,Y,Y,Y,Y,Y,Y,Y,Y,Y,Y,X,X,X,X,X] rfl rfl (any_of HT_.out (by kernel_rfl)) (fun _ _ _ h => h) (Or.inl ⟨by rfl,?_⟩) ?_ ?_;rotate_left
    ·intro w';go_simp;with_reducible rfl
    rotate_left
    ·simp only [Act.put,J,U,V,i64_w,i32_w];rfl
    refine take_ (i:=20) (N:=some 83) (v:=?_) (a':=?_) #[Y,Y,Y,Y,Y,Y,Y,Y,Y,Y,Y,Y,Y,Y,Y,Y,Y,Y,Y,Y,Y,X,X,X,X] rfl rfl (take_ofW HT_.out HW_.out (by kernel_rfl)) (fun _ _ _ h => h) (Or.inl ⟨by rfl,?_⟩) hHeld ?_ ?_;rotate_left
    ·rintro w' ⟨s0,s1,s2,s3⟩;go_simp;with_reducible rfl
    rotate_left
    ·simp only [Act.put,J,U,V,i64_w,i32_w];rfl
    refine pure_ (i:=21) (N:=some 84) (v:=?_) (a':=?_) #[Y,Y,Y,Y,Y,Y,Y,Y,Y,Y,Y,Y,Y,Y,Y,Y,Y,Y,Y,Y,Y,Y,X,X,X] rfl rfl (any_of HT_.out (by kernel_rfl)) (fun _ _ _ h => h) (Or.inl ⟨by rfl,?_⟩) ?_ ?_;rotate_left
    ·intro w';go_simp;with_reducible rfl
    rotate_left
    ·simp only [Act.put,J,U,V,i64_w,i32_w];rfl
    refine pure_ (i:=22) (N:=some 85) (v:=?_) (a':=?_) #[Y,Y,Y,Y,Y,Y,Y,Y,Y,Y,Y,Y,Y,Y,Y,Y,Y,Y,Y,Y,Y,Y,Y,X,X] rfl rfl (any_of HT_.out (by kernel_rfl)) (fun _ _ _ h => h) (Or.inl ⟨by rfl,?_⟩) ?_ ?_;rotate_left
    ·intro w';go_simp;with_reducible rfl
    rotate_left
    ·simp only [Act.put,J,U,V,i64_w,i32_w];rfl
    refine pure_ (i:=23) (N:=some 86) (v:=?_) (a':=?_) #[Y,Y,Y,Y,Y,Y,Y,Y,Y,Y,Y,Y,Y,Y,Y,Y,Y,Y,Y,Y,Y,Y,Y,Y,X] rfl rfl (any_of HT_.out (by kernel_rfl)) (fun _ _ _ h => h) (Or.inl ⟨by rfl,?_⟩) ?_ ?_;rotate_left
    ·intro w';go_simp;with_reducible rfl
    rotate_left
    ·simp only [Act.put,J,U,V,i64_w,i32_w];rfl
    refine pure_ (i:=24) (N:=some 87) (v:=?_) (a':=?_) #[Y,Y,Y,Y,Y,Y,Y,Y,Y,Y,Y,Y,Y,Y,Y,Y,Y,Y,Y,Y,Y,Y,Y,Y,Y] rfl rfl (any_of HT_.out (by kernel_rfl)) (fun _ _ _ h => h) (Or.inl ⟨by rfl,?_⟩) ?_ ?_;rotate_left
    ·intro w';go_simp;with_reducible rfl
    rotate_left
    ·simp only [Act.put,J,U,V,i64_w,i32_w];rfl
    refine done_ (done_of HT_.out (by kernel_rfl)) ?_;clear hHeld HT_ HW_;clear y1 y2 z1 z2 I6;generalize w4.drew = w5 at I7 ⊢;have hG1:=S1.out.below I7.out;have hG2:=S2.out.below I7.out;have v1 : w5.drew.cell? ⟨gs,2,none⟩ = some (.slice (some ⟨gc,0,none⟩) N cc):=(blk_cell hG1.obj 2).trans rfl;have v2 : w5.drew.cell? ⟨hs,2,none⟩ = some (.slice (some ⟨hc,0,none⟩) N dc):=(blk_cell hG2.obj 2).trans rfl;have v3:=(Kd.R_celln 0 hG1.hc i0 R0.out.1.1 R0.out.1.2).1;have v4:=(Kd.R_celln 0 hG2.hc k0 R0.out.2.1 R0.out.2.2).1;have X1:=Z hG1;have X2:=Z hG2;have XB:=Z (below_step HB.out I7.out);have FA:=Z (Kd.C_kept_step F1.out (Kept.of_below I7.out _));have FB:=Z (Kd.C_kept_step F2.out (Kept.of_below I7.out _));clear hG1 hG2
    go_wp2
    have j0:=J9.out
    by_cases d14 : rdOf 0 a i0 ≤ rdOf 0 b k0
    case pos =>
     have d15 : decide (rdOf 0 a i0 ≤ rdOf 0 b k0) = true:=decide_eq_true d14;have d16 : (rdOf 0 a i0 ≤ rdOf 0 b k0) = True:=eq_true d14;rw [if_pos (show rd a i0 ≤ rd b k0 from d14)] at j0;clear d14
     go_still (by kernel_rfl)
     have FX : Aside0 (∀ W',Kept w5.drew W' (fun k => k = gc ∨ k = gd) → Kd.C k34 W' A0 l.length l):=⟨fun W' hk => FA.out W' (hk.mono (fun q hq => four_l hq))⟩
     go_wp2_with (first
      | (go_at_call 103; (with_reducible refine (search_examine_int HN.out HL.out X1.out XB.out D1.out.1 D1.out.2 FX.out i0 R0.out.1.1 R0.out.1.2 (fun i hi => okTo_at HO.out hi)).mono ?_); rintro e w6 ⟨rfl,n1,n2,n3⟩; have N1:=Z n1; have N2:=Z (X2.out.kept n2 (by have hD:=DD.out; intro hq; omega) (by have hD:=DD.out; intro hq; omega) (by have hD:=DD.out; intro hq; omega)); have N3:=Z n3; have N4:=Z (Kd.C_kept_step FA.out (n2.mono (fun q hq => four_l hq))); have N5:=Z (Kd.C_kept_step FB.out (n2.mono (fun q hq => four_l hq))); clear n1 n2 n3))
     go_roundg k1
     case measure => omega
     case rel => exact ⟨_,_,_,_,_,by first | rfl | (rw [i64_w]; done) | (simp only [i64_w]; done),⟨j0⟩,N1,N2,N3,N4,N5⟩
    have d15 : decide (rdOf 0 a i0 ≤ rdOf 0 b k0) = false:=decide_eq_false d14;have d16 : (rdOf 0 a i0 ≤ rdOf 0 b k0) = False:=eq_false d14;rw [if_neg (show ¬ rd a i0 ≤ rd b k0 from d14)] at j0;clear d14
    go_still (by kernel_rfl)
    have FX : Aside0 (∀ W',Kept w5.drew W' (fun k => k = hc ∨ k = hd) → Kd.C k34 W' A1 lb.length lb):=⟨fun W' hk => FB.out W' (hk.mono (fun q hq => four_r hq))⟩
    go_wp2_with (first
     | (go_at_call 103; (with_reducible refine (search_examine_int HN.out HLB.out X2.out XB.out D2.out.1 D2.out.2 FX.out k0 R0.out.2.1 R0.out.2.2 (fun i hi => okTo_at HOB.out hi)).mono ?_); rintro e w6 ⟨rfl,n1,n2,n3⟩; have N1:=Z n1; have N2:=Z (X1.out.kept n2 (by have hD:=DD.out; intro hq; omega) (by have hD:=DD.out; intro hq; omega) (by have hD:=DD.out; intro hq; omega)); have N3:=Z n3; have N4:=Z (Kd.C_kept_step FA.out (n2.mono (fun q hq => four_r hq))); have N5:=Z (Kd.C_kept_step FB.out (n2.mono (fun q hq => four_r hq))); clear n1 n2 n3))
    go_roundg k1
    case measure => omega
    case rel => exact ⟨_,_,_,_,_,by first | rfl | (rw [i64_w]; done) | (simp only [i64_w]; done),⟨j0⟩,N2,N1,N3,N4,N5⟩
theorem impl_Net_both.calls (k : Nat) (a0_0 : Int) (A0_1 : Option Addr) (c0_1 : Nat) (l0_1 : List S34) (a1 : Int) (a2 : Int) (r1 : Int) (r2 : Int) (w : World) (hr0_1 : Kd.C k34 w A0_1 l0_1.length l0_1) (hc0_1 : l0_1.length ≤ c0_1) (h : impl_Net_both.f k a0_0 l0_1 a1 a2 = some (r1,r2)) :
  Calls Try.prog 60 #[.agg #[.int .i64 a0_0,.slice A0_1 l0_1.length c0_1],.int .i64 a1,.int .i64 a2] w fun e w' => e = .returned (.tuple #[.int .i64 r1,.int .i64 r2]) ∧ Below w.heap.size w w':=by
 unfold impl_Net_both.f at h
 by_cases hb : okB a0_0 l0_1 a1 a2 = true
 case neg => rw [if_neg hb] at h; cases h
 rw [if_pos hb] at h;obtain ⟨⟨n2,lb⟩,hbk,h⟩:=Option.bind_eq_some_iff.1 h;dsimp only at h;simp only [okB,Bool.and_eq_true,decide_eq_true_eq] at hb;obtain ⟨⟨⟨⟨⟨⟨⟨b1,b2⟩,b3⟩,b4⟩,b5⟩,b6⟩,b7⟩,b8⟩:=hb;obtain ⟨N,rfl⟩:=Int.eq_ofNat_of_zero_le (show 0 ≤ a0_0 by omega);obtain ⟨s,rfl⟩:=Int.eq_ofNat_of_zero_le b4;obtain ⟨t,rfl⟩:=Int.eq_ofNat_of_zero_le b6
 by_cases e1 : n2 = (N : Int)
 case neg => rw [if_neg e1] at h; cases h
 rw [if_pos e1] at h
 by_cases e2 : lb.length ≤ 1000
 case neg => rw [if_neg e2] at h; cases h
 rw [if_pos e2] at h;rw [Int.toNat_natCast] at b8 h
 by_cases e3 : okTo N lb = true
 case neg => rw [if_neg e3] at h; cases h
 rw [if_pos e3,Int.toNat_natCast,Int.toNat_natCast] at h;subst e1;exact both_walk k N (by omega) (by omega) A0_1 c0_1 l0_1 lb s t (by omega) (by omega) b3 e2 b8 e3 r1 r2 w hr0_1 hc0_1 hbk h
def impl_BothNear.f (k : Nat) (a0_0 : Int) (l0_1 : List (S34)) (a1 : Int) (a2 : Int) : Option (Int × Int):=(impl_nodesIn.f a0_0 l0_1 (([a1,a2] : List Int))).bind fun t452 => (if t452 = true then ((impl_Net_both.f k a0_0 l0_1 a1 a2).bind fun bt453 => (some (bt453.1,bt453.2))) else (some ((-1),(-1))))
set_option maxHeartbeats 8000000 in
set_option maxRecDepth 100000 in
theorem impl_BothNear.calls (k : Nat) (a0_0 : Int) (A0_1 : Option Addr) (c0_1 : Nat) (l0_1 : List (S34)) (a1 : Int) (a2 : Int) (r1 : Int) (r2 : Int) (w : World) (hr0_1 : Kd.C k34 w A0_1 l0_1.length l0_1) (hc0_1 : l0_1.length ≤ c0_1) (h : impl_BothNear.f k a0_0 l0_1 a1 a2 = some (r1,r2)) :
  Calls Try.prog 22 #[.agg #[.int .i64 a0_0,.slice A0_1 l0_1.length c0_1],.int .i64 a1,.int .i64 a2] w fun e w' => e = .returned (.tuple #[.int .i64 r1,.int .i64 r2]) ∧ Below w.heap.size w w':=by
 have hu25:=Try.underlying25;have p3:=Z hr0_1;have p4:=Z hc0_1;clear hr0_1 hc0_1;have HB:=Z (Below.refl w.heap.size w);have H : ((impl_nodesIn.f a0_0 l0_1 (([a1,a2] : List Int))).bind fun t452 => (if t452 = true then ((impl_Net_both.f k a0_0 l0_1 a1 a2).bind fun bt453 => (some (bt453.1,bt453.2))) else (some ((-1),(-1))))) = some (r1,r2):=h;clear h;obtain ⟨y449,hy449⟩ : ∃ y_ : List Int,y_ = (([a1,a2] : List Int)):=⟨_,rfl⟩
 replace H : ((impl_nodesIn.f a0_0 l0_1 y449).bind fun t452 => (if t452 = true then ((impl_Net_both.f k a0_0 l0_1 a1 a2).bind fun bt453 => (some (bt453.1,bt453.2))) else (some ((-1),(-1))))) = some (r1,r2):=by first | (rw [hy449]; with_reducible exact H) | (have H2_:=(Option.bind_some _ _).symm.trans H; rw [hy449]; with_reducible exact H2_) | (have H2_:=(Option.bind_some _ _).symm.trans H; with_reducible exact H2_) | with_reducible exact H | (rw [hy449]; exact H) | exact H
 have p2:=Z hy449;clear hy449;replace H:=Option.bind_eq_some_iff.mp H;obtain ⟨t452,A40,H⟩:=H;replace H : (if t452 = true then ((impl_Net_both.f k a0_0 l0_1 a1 a2).bind fun bt453 => (some (bt453.1,bt453.2))) else (some ((-1),(-1)))) = some (r1,r2):=H;have A4:=Z A40;clear A40
 by_cases c5 : t452 = true
 case neg =>
  replace c5:=Bool.eq_false_iff.mpr c5;subst c5;have H1 : (some ((-1),(-1))) = some (r1,r2):=by rw [if_neg (show ¬ (false = true) by decide)] at H; exact H
  clear H;have H:=H1;clear H1;simp only [Option.some.injEq,Prod.mk.injEq] at H;obtain ⟨rfl,rfl⟩:=H
  go_enter Try.func22,Try.ntmps22
  go_wp2_with (first | ((with_reducible refine gate_dst (N:=3) rfl ?_); refine box_event ?hg (N:=3) ?hd (cs:=#[.int .i64 a0_0,.slice A0_1 l0_1.length c0_1]) (t:=25) ?hr ?_; (case hd => rfl); (case hg => rfl); (case hr => first | (go_simp; done) | (go_simp; rfl)); intro p1 hg w15 hbox hb; have n0_:=Z (below_step HB.out hb); have n1_:=Z (hbox); have n2_:=Z ((by rw [hg]; exact (below_size HB.out) : w.heap.size ≤ p1)); have n3_:=Z ((by rw [hg]; exact (below_size HB.out) : w.heap.size ≤ p1)); clear HB; have HB:=n0_; have p0:=n1_; have GW448:=n2_; have p5:=n3_; clear n0_ n1_ n2_ n3_; clear hb hbox hg; have hcz16_0 : w15.cell? ⟨p1,0,none⟩ = some (.int .i64 a0_0):=(blk_cell p0.out 0).trans rfl; have hcz16_1 : w15.cell? ⟨p1,1,none⟩ = some (.slice A0_1 l0_1.length c0_1):=(blk_cell p0.out 1).trans rfl; have hfz16_0:=blk_frozen p0.out 0; have hfz16_1:=blk_frozen p0.out 1) | ((with_reducible refine gate_dst (N:=11) rfl ?_); refine Kd.R_lit (Kd.int .i64) _ 3 ?hg (N:=11) ?hd (xs:=([a1,a2] : List Int)) (inner:=[.int .i64 a1,.int .i64 a2]) (ok:=fun _ => True) (okp:=fun _ => True) ?hr ?hp (fun _ hk => hk) trivial (Below.refl _ _) (Nat.le_refl _) (by simp) ?_; (case hd => rfl); (case hg => rfl); (case hr => first | (go_simp; done) | (go_simp; rfl)); (case hp => exact (Reps.one (show Kd.M (Kd.int .i64) _ _ _ a1 [.int .i64 a1] from rfl) (Reps.one (show Kd.M (Kd.int .i64) _ _ _ a2 [.int .i64 a2] from rfl) (Reps.none _ _)))); intro v450 w17 ho18 hb hg_ hnew_; clear hg_ hnew_; (first | rw [← p2.out] at ho18 | (simp only [Int.reduceToNat] at ho18; rw [← p2.out] at ho18)); have n0_:=Z (Kd.R_lower ho18 (below_size HB.out)); have n1_:=Z (blk_below (g:=p1) (o:=.cells #[.int .i64 a0_0,.slice A0_1 l0_1.length c0_1] 25 (0,0)) p0.out hb); have n2_:=Z (below_step HB.out hb); clear p0; clear HB; have HO451:=n0_; have p0:=n1_; have HB:=n2_; clear n0_ n1_ n2_; clear hb ho18; obtain ⟨Ao19,co19,eo19⟩:=Kd.R_slice HO451.out; subst eo19) | ((with_reducible refine gate_callee (f:=51) rfl ?_); refine goesL_ (some 12) rfl rfl Try.func51 (by kernel_rfl) rfl #[.agg #[.int .i64 a0_0,.slice A0_1 l0_1.length c0_1],.slice Ao19 y449.length co19] rfl (by (try simp only [List.map_toArray,List.map_cons,List.map_nil]); first | done | rfl | (simp only [List.length_drop,List.length_take]; rfl)) ?_; (with_reducible refine (impl_nodesIn.calls a0_0 _ _ l0_1 _ _ y449 false _ ?side1 ?side2 ?side3 ?side4 A4.out).mono ?_); (case side1 => repeat (first | exact (Kd.C_below p3.out HB.out) | (with_reducible refine Kd.C_alloc ?_ _) | (with_reducible refine Kd.C_drewN ?_ _) | (with_reducible refine Kd.C_drew ?_))); (case side2 => exact p4.out); (case side3 => repeat (first | exact (Kd.R_reads' HO451.out).2.2 | (with_reducible refine Kd.C_alloc ?_ _) | (with_reducible refine Kd.C_drewN ?_ _) | (with_reducible refine Kd.C_drew ?_))); (case side4 => exact (Kd.R_reads' HO451.out).2.1); rintro e w20 ⟨rfl,hb⟩; refine ⟨_,rfl,?_⟩; have n0_:=Z (Kd.R_below HO451.out hb); have n1_:=Z (blk_below (g:=p1) (o:=.cells #[.int .i64 a0_0,.slice A0_1 l0_1.length c0_1] 25 (0,0)) p0.out hb); have n2_:=Z (below_step HB.out hb); clear HO451; clear p0; clear HB; have HO451:=n0_; have p0:=n1_; have HB:=n2_; clear n0_ n1_ n2_; (try clear hb); (try clear hb2); (try clear hk); (try clear hi)))
  go_ret2;exact ⟨by first | rfl | (simp [errW_none,errW_some] <;> rfl) | (simp [*,errW_none,errW_some] <;> rfl),by repeat (first | (with_reducible first | exact HB.out | apply below_alloc | apply pw_below_drewN | apply below_drew1 | refine below_set ?_ p5.out) | exact HB.out)⟩
 subst c5;have H1 : ((impl_Net_both.f k a0_0 l0_1 a1 a2).bind fun bt453 => (some (bt453.1,bt453.2))) = some (r1,r2):=by rw [if_pos rfl] at H; exact H
 clear H;have H:=H1;clear H1;replace H:=Option.bind_eq_some_iff.mp H;obtain ⟨⟨t453,t454⟩,A60,H⟩:=H;replace H : (some (t453,t454)) = some (r1,r2):=H;have A6:=Z A60;clear A60;simp only [Option.some.injEq,Prod.mk.injEq] at H;obtain ⟨rfl,rfl⟩:=H
 go_enter Try.func22,Try.ntmps22
 go_wp2_with (first | ((with_reducible refine gate_dst (N:=3) rfl ?_); refine box_event ?hg (N:=3) ?hd (cs:=#[.int .i64 a0_0,.slice A0_1 l0_1.length c0_1]) (t:=25) ?hr ?_; (case hd => rfl); (case hg => rfl); (case hr => first | (go_simp; done) | (go_simp; rfl)); intro p1 hg w7 hbox hb; have n0_:=Z (below_step HB.out hb); have n1_:=Z (hbox); have n2_:=Z ((by rw [hg]; exact (below_size HB.out) : w.heap.size ≤ p1)); have n3_:=Z ((by rw [hg]; exact (below_size HB.out) : w.heap.size ≤ p1)); clear HB; have HB:=n0_; have p0:=n1_; have GW448:=n2_; have p5:=n3_; clear n0_ n1_ n2_ n3_; clear hb hbox hg; have hcz8_0 : w7.cell? ⟨p1,0,none⟩ = some (.int .i64 a0_0):=(blk_cell p0.out 0).trans rfl; have hcz8_1 : w7.cell? ⟨p1,1,none⟩ = some (.slice A0_1 l0_1.length c0_1):=(blk_cell p0.out 1).trans rfl; have hfz8_0:=blk_frozen p0.out 0; have hfz8_1:=blk_frozen p0.out 1) | ((with_reducible refine gate_dst (N:=11) rfl ?_); refine Kd.R_lit (Kd.int .i64) _ 3 ?hg (N:=11) ?hd (xs:=([a1,a2] : List Int)) (inner:=[.int .i64 a1,.int .i64 a2]) (ok:=fun _ => True) (okp:=fun _ => True) ?hr ?hp (fun _ hk => hk) trivial (Below.refl _ _) (Nat.le_refl _) (by simp) ?_; (case hd => rfl); (case hg => rfl); (case hr => first | (go_simp; done) | (go_simp; rfl)); (case hp => exact (Reps.one (show Kd.M (Kd.int .i64) _ _ _ a1 [.int .i64 a1] from rfl) (Reps.one (show Kd.M (Kd.int .i64) _ _ _ a2 [.int .i64 a2] from rfl) (Reps.none _ _)))); intro v450 w9 ho10 hb hg_ hnew_; clear hg_ hnew_; (first | rw [← p2.out] at ho10 | (simp only [Int.reduceToNat] at ho10; rw [← p2.out] at ho10)); have n0_:=Z (Kd.R_lower ho10 (below_size HB.out)); have n1_:=Z (blk_below (g:=p1) (o:=.cells #[.int .i64 a0_0,.slice A0_1 l0_1.length c0_1] 25 (0,0)) p0.out hb); have n2_:=Z (below_step HB.out hb); clear p0; clear HB; have HO451:=n0_; have p0:=n1_; have HB:=n2_; clear n0_ n1_ n2_; clear hb ho10; obtain ⟨Ao11,co11,eo11⟩:=Kd.R_slice HO451.out; subst eo11) | ((with_reducible refine gate_callee (f:=51) rfl ?_); refine goesL_ (some 12) rfl rfl Try.func51 (by kernel_rfl) rfl #[.agg #[.int .i64 a0_0,.slice A0_1 l0_1.length c0_1],.slice Ao11 y449.length co11] rfl (by (try simp only [List.map_toArray,List.map_cons,List.map_nil]); first | done | rfl | (simp only [List.length_drop,List.length_take]; rfl)) ?_; (with_reducible refine (impl_nodesIn.calls a0_0 _ _ l0_1 _ _ y449 true _ ?side1 ?side2 ?side3 ?side4 A4.out).mono ?_); (case side1 => repeat (first | exact (Kd.C_below p3.out HB.out) | (with_reducible refine Kd.C_alloc ?_ _) | (with_reducible refine Kd.C_drewN ?_ _) | (with_reducible refine Kd.C_drew ?_))); (case side2 => exact p4.out); (case side3 => repeat (first | exact (Kd.R_reads' HO451.out).2.2 | (with_reducible refine Kd.C_alloc ?_ _) | (with_reducible refine Kd.C_drewN ?_ _) | (with_reducible refine Kd.C_drew ?_))); (case side4 => exact (Kd.R_reads' HO451.out).2.1); rintro e w12 ⟨rfl,hb⟩; refine ⟨_,rfl,?_⟩; have n0_:=Z (Kd.R_below HO451.out hb); have n1_:=Z (blk_below (g:=p1) (o:=.cells #[.int .i64 a0_0,.slice A0_1 l0_1.length c0_1] 25 (0,0)) p0.out hb); have n2_:=Z (below_step HB.out hb); clear HO451; clear p0; clear HB; have HO451:=n0_; have p0:=n1_; have HB:=n2_; clear n0_ n1_ n2_; (try clear hb); (try clear hb2); (try clear hk); (try clear hi); have hcz13_0 : w12.cell? ⟨p1,0,none⟩ = some (.int .i64 a0_0):=(blk_cell p0.out 0).trans rfl; have hcz13_1 : w12.cell? ⟨p1,1,none⟩ = some (.slice A0_1 l0_1.length c0_1):=(blk_cell p0.out 1).trans rfl; have hfz13_0:=blk_frozen p0.out 0; have hfz13_1:=blk_frozen p0.out 1) | ((with_reducible refine gate_callee (f:=60) rfl ?_); refine goesL_ (some 17) rfl rfl Try.func60 (by kernel_rfl) rfl #[.agg #[.int .i64 a0_0,.slice A0_1 l0_1.length c0_1],.int .i64 a1,.int .i64 a2] rfl (by (try simp only [List.map_toArray,List.map_cons,List.map_nil]); first | done | rfl | (simp only [List.length_drop,List.length_take]; rfl)) ?_; (with_reducible refine (impl_Net_both.calls k a0_0 _ _ l0_1 a1 a2 t453 t454 _ ?side1 ?side2 A6.out).mono ?_); (case side1 => repeat (first | exact (Kd.C_below p3.out HB.out) | (with_reducible refine Kd.C_alloc ?_ _) | (with_reducible refine Kd.C_drewN ?_ _) | (with_reducible refine Kd.C_drew ?_))); (case side2 => exact p4.out); rintro e w14 ⟨rfl,hb⟩; refine ⟨_,rfl,?_⟩; have n0_:=Z (Kd.R_below HO451.out hb); have n1_:=Z (blk_below (g:=p1) (o:=.cells #[.int .i64 a0_0,.slice A0_1 l0_1.length c0_1] 25 (0,0)) p0.out hb); have n2_:=Z (below_step HB.out hb); clear HO451; clear p0; clear HB; have HO451:=n0_; have p0:=n1_; have HB:=n2_; clear n0_ n1_ n2_; (try clear hb); (try clear hb2); (try clear hk); (try clear hi)))
 go_ret2;exact ⟨by first | rfl | (simp [errW_none,errW_some] <;> rfl) | (simp [*,errW_none,errW_some] <;> rfl),by repeat (first | (with_reducible first | exact HB.out | apply below_alloc | apply pw_below_drewN | apply below_drew1 | refine below_set ?_ p5.out) | exact HB.out)⟩
def laws_eqArc.f (a0_0 : Int) (a0_1 : Int) (a0_2 : Int) (a0_3 : Int) (a0_4 : Int) (a1_0 : Int) (a1_1 : Int) (a1_2 : Int) (a1_3 : Int) (a1_4 : Int) : Option (Bool):=if a0_0 = a1_0 then (if a0_1 = a1_1 then (if a0_2 = a1_2 then (if a0_3 = a1_3 then (if a0_4 = a1_4 then (some true) else (some false)) else (some false)) else (some false)) else (some false)) else (some false)
set_option maxHeartbeats 8000000 in
set_option maxRecDepth 100000 in
theorem laws_eqArc.calls (a0_0 : Int) (a0_1 : Int) (a0_2 : Int) (a0_3 : Int) (a0_4 : Int) (a1_0 : Int) (a1_1 : Int) (a1_2 : Int) (a1_3 : Int) (a1_4 : Int) (r : Bool) (w : World) (h : laws_eqArc.f a0_0 a0_1 a0_2 a0_3 a0_4 a1_0 a1_1 a1_2 a1_3 a1_4 = some r) :
  Calls Try.prog 104 #[.agg #[.int .i64 a0_0,.int .i64 a0_1,.int .i64 a0_2,.int .i64 a0_3,.int .i64 a0_4],.agg #[.int .i64 a1_0,.int .i64 a1_1,.int .i64 a1_2,.int .i64 a1_3,.int .i64 a1_4]] w fun e w' => e = .returned (.bool r) ∧ Below w.heap.size w w':=by
 have hu34:=Try.underlying34;have HB:=Z (Below.refl w.heap.size w);have H : (if a0_0 = a1_0 then (if a0_1 = a1_1 then (if a0_2 = a1_2 then (if a0_3 = a1_3 then (if a0_4 = a1_4 then (some true) else (some false)) else (some false)) else (some false)) else (some false)) else (some false)) = some r:=h;clear h
 by_cases c3 : a0_0 = a1_0
 case neg =>
  rw [if_neg c3] at H;have c3b0 : (a0_0 == a1_0) = false:=beq_eq_false_iff_ne.mpr c3;have c3b1 : (a0_0 != a1_0) = true:=bne_iff_ne.mpr c3;obtain rfl:=Option.some.inj H
  go_enter Try.func104,Try.ntmps104
  go_wp2_with (first | ((with_reducible refine gate_dst (N:=2) rfl ?_); refine box_event ?hg (N:=2) ?hd (cs:=#[.int .i64 a0_0,.int .i64 a0_1,.int .i64 a0_2,.int .i64 a0_3,.int .i64 a0_4]) (t:=34) ?hr ?_; (case hd => rfl); (case hg => rfl); (case hr => first | (go_simp; done) | (go_simp; rfl)); intro gb455 hg w33 hbox hb; have n0_:=Z (below_step (by repeat (first | (with_reducible first | exact HB.out | apply below_alloc | apply pw_below_drewN | apply below_drew1) | exact HB.out)) hb); have n1_:=Z (hbox); have n2_:=Z ((by rw [hg]; exact (below_size (by repeat (first | (with_reducible first | exact HB.out | apply below_alloc | apply pw_below_drewN | apply below_drew1) | exact HB.out))) : w.heap.size ≤ gb455)); have n3_:=Z ((by rw [hg]; exact (below_size (by repeat (first | (with_reducible first | exact HB.out | apply below_alloc | apply pw_below_drewN | apply below_drew1) | exact HB.out))) : w.heap.size ≤ gb455)); clear HB; have HB:=n0_; have BK455:=n1_; have GW455:=n2_; have GE455:=n3_; clear n0_ n1_ n2_ n3_; clear hb hbox hg) | ((with_reducible refine gate_dst (N:=3) rfl ?_); refine box_event ?hg (N:=3) ?hd (cs:=#[.int .i64 a1_0,.int .i64 a1_1,.int .i64 a1_2,.int .i64 a1_3,.int .i64 a1_4]) (t:=34) ?hr ?_; (case hd => rfl); (case hg => rfl); (case hr => first | (go_simp; done) | (go_simp; rfl)); intro gb456 hg w34 hbox hb; have n0_:=Z (blk_below (g:=gb455) (o:=.cells #[.int .i64 a0_0,.int .i64 a0_1,.int .i64 a0_2,.int .i64 a0_3,.int .i64 a0_4] 34 (0,0)) (by (with_reducible repeat (first | refine blk_drewN ?_ _ | refine blk_drew ?_ | refine blk_alloc ?_ _)); exact BK455.out) hb); have n1_:=Z (below_step (by repeat (first | (with_reducible first | exact HB.out | apply below_alloc | apply pw_below_drewN | apply below_drew1 | refine below_set ?_ GE455.out) | exact HB.out)) hb); have n2_:=Z (hbox); have n3_:=Z ((by rw [hg]; exact (below_size (by repeat (first | (with_reducible first | exact HB.out | apply below_alloc | apply pw_below_drewN | apply below_drew1 | refine below_set ?_ GE455.out) | exact HB.out))) : w.heap.size ≤ gb456)); have n4_:=Z ((by rw [hg]; exact (below_size (by repeat (first | (with_reducible first | exact HB.out | apply below_alloc | apply pw_below_drewN | apply below_drew1 | refine below_set ?_ GE455.out) | exact HB.out))) : w.heap.size ≤ gb456)); have n5_:=Z ((by rw [hg]; exact Nat.ne_of_lt (blk_lt (g:=gb455) (o:=.cells #[.int .i64 a0_0,.int .i64 a0_1,.int .i64 a0_2,.int .i64 a0_3,.int .i64 a0_4] 34 (0,0)) (by (with_reducible repeat (first | refine blk_drewN ?_ _ | refine blk_drew ?_ | refine blk_alloc ?_ _)); exact BK455.out)) : gb455 ≠ gb456)); have n6_:=Z ((by rw [hg]; exact Nat.ne_of_gt (blk_lt (g:=gb455) (o:=.cells #[.int .i64 a0_0,.int .i64 a0_1,.int .i64 a0_2,.int .i64 a0_3,.int .i64 a0_4] 34 (0,0)) (by (with_reducible repeat (first | refine blk_drewN ?_ _ | refine blk_drew ?_ | refine blk_alloc ?_ _)); exact BK455.out)) : gb456 ≠ gb455)); clear BK455; clear HB; have BK455:=n0_; have HB:=n1_; have BK456:=n2_; have GW456:=n3_; have GE456:=n4_; have NB455_456:=n5_; have NB456_455:=n6_; clear n0_ n1_ n2_ n3_ n4_ n5_ n6_; clear hb hbox hg; have hnb35:=NB455_456.out; have hnc35:=NB456_455.out; have hcz36_0 : w34.cell? ⟨gb455,0,none⟩ = some (.int .i64 a0_0):=(blk_cell BK455.out 0).trans rfl; have hcz36_1 : w34.cell? ⟨gb455,1,none⟩ = some (.int .i64 a0_1):=(blk_cell BK455.out 1).trans rfl; have hcz36_2 : w34.cell? ⟨gb455,2,none⟩ = some (.int .i64 a0_2):=(blk_cell BK455.out 2).trans rfl; have hcz36_3 : w34.cell? ⟨gb455,3,none⟩ = some (.int .i64 a0_3):=(blk_cell BK455.out 3).trans rfl; have hcz36_4 : w34.cell? ⟨gb455,4,none⟩ = some (.int .i64 a0_4):=(blk_cell BK455.out 4).trans rfl; have hfz36_0:=blk_frozen BK455.out 0; have hfz36_1:=blk_frozen BK455.out 1; have hfz36_2:=blk_frozen BK455.out 2; have hfz36_3:=blk_frozen BK455.out 3; have hfz36_4:=blk_frozen BK455.out 4; have hcz37_0 : w34.cell? ⟨gb456,0,none⟩ = some (.int .i64 a1_0):=(blk_cell BK456.out 0).trans rfl; have hcz37_1 : w34.cell? ⟨gb456,1,none⟩ = some (.int .i64 a1_1):=(blk_cell BK456.out 1).trans rfl; have hcz37_2 : w34.cell? ⟨gb456,2,none⟩ = some (.int .i64 a1_2):=(blk_cell BK456.out 2).trans rfl; have hcz37_3 : w34.cell? ⟨gb456,3,none⟩ = some (.int .i64 a1_3):=(blk_cell BK456.out 3).trans rfl; have hcz37_4 : w34.cell? ⟨gb456,4,none⟩ = some (.int .i64 a1_4):=(blk_cell BK456.out 4).trans rfl; have hfz37_0:=blk_frozen BK456.out 0; have hfz37_1:=blk_frozen BK456.out 1; have hfz37_2:=blk_frozen BK456.out 2; have hfz37_3:=blk_frozen BK456.out 3; have hfz37_4:=blk_frozen BK456.out 4))
  go_ret;exact ⟨by first | rfl | (simp [errW_none,errW_some] <;> rfl) | (simp [*,errW_none,errW_some] <;> rfl),by repeat (first | (with_reducible first | exact HB.out | apply below_alloc | apply pw_below_drewN | apply below_drew1 | refine below_set ?_ GE455.out | refine below_set ?_ GE456.out) | exact HB.out)⟩
 rw [if_pos c3] at H;have c3b0 : (a0_0 == a1_0) = true:=beq_iff_eq.mpr c3;have c3b1 : (a0_0 != a1_0) = false:=bne_eq_false_iff_eq.mpr c3;clear c3
 by_cases c4 : a0_1 = a1_1
 case neg =>
  rw [if_neg c4] at H;have c4b0 : (a0_1 == a1_1) = false:=beq_eq_false_iff_ne.mpr c4;have c4b1 : (a0_1 != a1_1) = true:=bne_iff_ne.mpr c4;obtain rfl:=Option.some.inj H
  go_enter Try.func104,Try.ntmps104
  go_wp2_with (first | ((with_reducible refine gate_dst (N:=2) rfl ?_); refine box_event ?hg (N:=2) ?hd (cs:=#[.int .i64 a0_0,.int .i64 a0_1,.int .i64 a0_2,.int .i64 a0_3,.int .i64 a0_4]) (t:=34) ?hr ?_; (case hd => rfl); (case hg => rfl); (case hr => first | (go_simp; done) | (go_simp; rfl)); intro gb455 hg w28 hbox hb; have n0_:=Z (below_step (by repeat (first | (with_reducible first | exact HB.out | apply below_alloc | apply pw_below_drewN | apply below_drew1) | exact HB.out)) hb); have n1_:=Z (hbox); have n2_:=Z ((by rw [hg]; exact (below_size (by repeat (first | (with_reducible first | exact HB.out | apply below_alloc | apply pw_below_drewN | apply below_drew1) | exact HB.out))) : w.heap.size ≤ gb455)); have n3_:=Z ((by rw [hg]; exact (below_size (by repeat (first | (with_reducible first | exact HB.out | apply below_alloc | apply pw_below_drewN | apply below_drew1) | exact HB.out))) : w.heap.size ≤ gb455)); clear HB; have HB:=n0_; have BK455:=n1_; have GW455:=n2_; have GE455:=n3_; clear n0_ n1_ n2_ n3_; clear hb hbox hg) | ((with_reducible refine gate_dst (N:=3) rfl ?_); refine box_event ?hg (N:=3) ?hd (cs:=#[.int .i64 a1_0,.int .i64 a1_1,.int .i64 a1_2,.int .i64 a1_3,.int .i64 a1_4]) (t:=34) ?hr ?_; (case hd => rfl); (case hg => rfl); (case hr => first | (go_simp; done) | (go_simp; rfl)); intro gb456 hg w29 hbox hb; have n0_:=Z (blk_below (g:=gb455) (o:=.cells #[.int .i64 a0_0,.int .i64 a0_1,.int .i64 a0_2,.int .i64 a0_3,.int .i64 a0_4] 34 (0,0)) (by (with_reducible repeat (first | refine blk_drewN ?_ _ | refine blk_drew ?_ | refine blk_alloc ?_ _)); exact BK455.out) hb); have n1_:=Z (below_step (by repeat (first | (with_reducible first | exact HB.out | apply below_alloc | apply pw_below_drewN | apply below_drew1 | refine below_set ?_ GE455.out) | exact HB.out)) hb); have n2_:=Z (hbox); have n3_:=Z ((by rw [hg]; exact (below_size (by repeat (first | (with_reducible first | exact HB.out | apply below_alloc | apply pw_below_drewN | apply below_drew1 | refine below_set ?_ GE455.out) | exact HB.out))) : w.heap.size ≤ gb456)); have n4_:=Z ((by rw [hg]; exact (below_size (by repeat (first | (with_reducible first | exact HB.out | apply below_alloc | apply pw_below_drewN | apply below_drew1 | refine below_set ?_ GE455.out) | exact HB.out))) : w.heap.size ≤ gb456)); have n5_:=Z ((by rw [hg]; exact Nat.ne_of_lt (blk_lt (g:=gb455) (o:=.cells #[.int .i64 a0_0,.int .i64 a0_1,.int .i64 a0_2,.int .i64 a0_3,.int .i64 a0_4] 34 (0,0)) (by (with_reducible repeat (first | refine blk_drewN ?_ _ | refine blk_drew ?_ | refine blk_alloc ?_ _)); exact BK455.out)) : gb455 ≠ gb456)); have n6_:=Z ((by rw [hg]; exact Nat.ne_of_gt (blk_lt (g:=gb455) (o:=.cells #[.int .i64 a0_0,.int .i64 a0_1,.int .i64 a0_2,.int .i64 a0_3,.int .i64 a0_4] 34 (0,0)) (by (with_reducible repeat (first | refine blk_drewN ?_ _ | refine blk_drew ?_ | refine blk_alloc ?_ _)); exact BK455.out)) : gb456 ≠ gb455)); clear BK455; clear HB; have BK455:=n0_; have HB:=n1_; have BK456:=n2_; have GW456:=n3_; have GE456:=n4_; have NB455_456:=n5_; have NB456_455:=n6_; clear n0_ n1_ n2_ n3_ n4_ n5_ n6_; clear hb hbox hg; have hnb30:=NB455_456.out; have hnc30:=NB456_455.out; have hcz31_0 : w29.cell? ⟨gb455,0,none⟩ = some (.int .i64 a0_0):=(blk_cell BK455.out 0).trans rfl; have hcz31_1 : w29.cell? ⟨gb455,1,none⟩ = some (.int .i64 a0_1):=(blk_cell BK455.out 1).trans rfl; have hcz31_2 : w29.cell? ⟨gb455,2,none⟩ = some (.int .i64 a0_2):=(blk_cell BK455.out 2).trans rfl; have hcz31_3 : w29.cell? ⟨gb455,3,none⟩ = some (.int .i64 a0_3):=(blk_cell BK455.out 3).trans rfl; have hcz31_4 : w29.cell? ⟨gb455,4,none⟩ = some (.int .i64 a0_4):=(blk_cell BK455.out 4).trans rfl; have hfz31_0:=blk_frozen BK455.out 0; have hfz31_1:=blk_frozen BK455.out 1; have hfz31_2:=blk_frozen BK455.out 2; have hfz31_3:=blk_frozen BK455.out 3; have hfz31_4:=blk_frozen BK455.out 4; have hcz32_0 : w29.cell? ⟨gb456,0,none⟩ = some (.int .i64 a1_0):=(blk_cell BK456.out 0).trans rfl; have hcz32_1 : w29.cell? ⟨gb456,1,none⟩ = some (.int .i64 a1_1):=(blk_cell BK456.out 1).trans rfl; have hcz32_2 : w29.cell? ⟨gb456,2,none⟩ = some (.int .i64 a1_2):=(blk_cell BK456.out 2).trans rfl; have hcz32_3 : w29.cell? ⟨gb456,3,none⟩ = some (.int .i64 a1_3):=(blk_cell BK456.out 3).trans rfl; have hcz32_4 : w29.cell? ⟨gb456,4,none⟩ = some (.int .i64 a1_4):=(blk_cell BK456.out 4).trans rfl; have hfz32_0:=blk_frozen BK456.out 0; have hfz32_1:=blk_frozen BK456.out 1; have hfz32_2:=blk_frozen BK456.out 2; have hfz32_3:=blk_frozen BK456.out 3; have hfz32_4:=blk_frozen BK456.out 4))
  go_ret;exact ⟨by first | rfl | (simp [errW_none,errW_some] <;> rfl) | (simp [*,errW_none,errW_some] <;> rfl),by repeat (first | (with_reducible first | exact HB.out | apply below_alloc | apply pw_below_drewN | apply below_drew1 | refine below_set ?_ GE455.out | refine below_set ?_ GE456.out) | exact HB.out)⟩
 rw [if_pos c4] at H;have c4b0 : (a0_1 == a1_1) = true:=beq_iff_eq.mpr c4;have c4b1 : (a0_1 != a1_1) = false:=bne_eq_false_iff_eq.mpr c4;clear c4
 by_cases c5 : a0_2 = a1_2
 case neg =>
  rw [if_neg c5] at H;have c5b0 : (a0_2 == a1_2) = false:=beq_eq_false_iff_ne.mpr c5;have c5b1 : (a0_2 != a1_2) = true:=bne_iff_ne.mpr c5;obtain rfl:=Option.some.inj H
  go_enter Try.func104,Try.ntmps104
  go_wp2_with (first | ((with_reducible refine gate_dst (N:=2) rfl ?_); refine box_event ?hg (N:=2) ?hd (cs:=#[.int .i64 a0_0,.int .i64 a0_1,.int .i64 a0_2,.int .i64 a0_3,.int .i64 a0_4]) (t:=34) ?hr ?_; (case hd => rfl); (case hg => rfl); (case hr => first | (go_simp; done) | (go_simp; rfl)); intro gb455 hg w23 hbox hb; have n0_:=Z (below_step (by repeat (first | (with_reducible first | exact HB.out | apply below_alloc | apply pw_below_drewN | apply below_drew1) | exact HB.out)) hb); have n1_:=Z (hbox); have n2_:=Z ((by rw [hg]; exact (below_size (by repeat (first | (with_reducible first | exact HB.out | apply below_alloc | apply pw_below_drewN | apply below_drew1) | exact HB.out))) : w.heap.size ≤ gb455)); have n3_:=Z ((by rw [hg]; exact (below_size (by repeat (first | (with_reducible first | exact HB.out | apply below_alloc | apply pw_below_drewN | apply below_drew1) | exact HB.out))) : w.heap.size ≤ gb455)); clear HB; have HB:=n0_; have BK455:=n1_; have GW455:=n2_; have GE455:=n3_; clear n0_ n1_ n2_ n3_; clear hb hbox hg) | ((with_reducible refine gate_dst (N:=3) rfl ?_); refine box_event ?hg (N:=3) ?hd (cs:=#[.int .i64 a1_0,.int .i64 a1_1,.int .i64 a1_2,.int .i64 a1_3,.int .i64 a1_4]) (t:=34) ?hr ?_; (case hd => rfl); (case hg => rfl); (case hr => first | (go_simp; done) | (go_simp; rfl)); intro gb456 hg w24 hbox hb; have n0_:=Z (blk_below (g:=gb455) (o:=.cells #[.int .i64 a0_0,.int .i64 a0_1,.int .i64 a0_2,.int .i64 a0_3,.int .i64 a0_4] 34 (0,0)) (by (with_reducible repeat (first | refine blk_drewN ?_ _ | refine blk_drew ?_ | refine blk_alloc ?_ _)); exact BK455.out) hb); have n1_:=Z (below_step (by repeat (first | (with_reducible first | exact HB.out | apply below_alloc | apply pw_below_drewN | apply below_drew1 | refine below_set ?_ GE455.out) | exact HB.out)) hb); have n2_:=Z (hbox); have n3_:=Z ((by rw [hg]; exact (below_size (by repeat (first | (with_reducible first | exact HB.out | apply below_alloc | apply pw_below_drewN | apply below_drew1 | refine below_set ?_ GE455.out) | exact HB.out))) : w.heap.size ≤ gb456)); have n4_:=Z ((by rw [hg]; exact (below_size (by repeat (first | (with_reducible first | exact HB.out | apply below_alloc | apply pw_below_drewN | apply below_drew1 | refine below_set ?_ GE455.out) | exact HB.out))) : w.heap.size ≤ gb456)); have n5_:=Z ((by rw [hg]; exact Nat.ne_of_lt (blk_lt (g:=gb455) (o:=.cells #[.int .i64 a0_0,.int .i64 a0_1,.int .i64 a0_2,.int .i64 a0_3,.int .i64 a0_4] 34 (0,0)) (by (with_reducible repeat (first | refine blk_drewN ?_ _ | refine blk_drew ?_ | refine blk_alloc ?_ _)); exact BK455.out)) : gb455 ≠ gb456)); have n6_:=Z ((by rw [hg]; exact Nat.ne_of_gt (blk_lt (g:=gb455) (o:=.cells #[.int .i64 a0_0,.int .i64 a0_1,.int .i64 a0_2,.int .i64 a0_3,.int .i64 a0_4] 34 (0,0)) (by (with_reducible repeat (first | refine blk_drewN ?_ _ | refine blk_drew ?_ | refine blk_alloc ?_ _)); exact BK455.out)) : gb456 ≠ gb455)); clear BK455; clear HB; have BK455:=n0_; have HB:=n1_; have BK456:=n2_; have GW456:=n3_; have GE456:=n4_; have NB455_456:=n5_; have NB456_455:=n6_; clear n0_ n1_ n2_ n3_ n4_ n5_ n6_; clear hb hbox hg; have hnb25:=NB455_456.out; have hnc25:=NB456_455.out; have hcz26_0 : w24.cell? ⟨gb455,0,none⟩ = some (.int .i64 a0_0):=(blk_cell BK455.out 0).trans rfl; have hcz26_1 : w24.cell? ⟨gb455,1,none⟩ = some (.int .i64 a0_1):=(blk_cell BK455.out 1).trans rfl; have hcz26_2 : w24.cell? ⟨gb455,2,none⟩ = some (.int .i64 a0_2):=(blk_cell BK455.out 2).trans rfl; have hcz26_3 : w24.cell? ⟨gb455,3,none⟩ = some (.int .i64 a0_3):=(blk_cell BK455.out 3).trans rfl; have hcz26_4 : w24.cell? ⟨gb455,4,none⟩ = some (.int .i64 a0_4):=(blk_cell BK455.out 4).trans rfl; have hfz26_0:=blk_frozen BK455.out 0; have hfz26_1:=blk_frozen BK455.out 1; have hfz26_2:=blk_frozen BK455.out 2; have hfz26_3:=blk_frozen BK455.out 3; have hfz26_4:=blk_frozen BK455.out 4; have hcz27_0 : w24.cell? ⟨gb456,0,none⟩ = some (.int .i64 a1_0):=(blk_cell BK456.out 0).trans rfl; have hcz27_1 : w24.cell? ⟨gb456,1,none⟩ = some (.int .i64 a1_1):=(blk_cell BK456.out 1).trans rfl; have hcz27_2 : w24.cell? ⟨gb456,2,none⟩ = some (.int .i64 a1_2):=(blk_cell BK456.out 2).trans rfl; have hcz27_3 : w24.cell? ⟨gb456,3,none⟩ = some (.int .i64 a1_3):=(blk_cell BK456.out 3).trans rfl; have hcz27_4 : w24.cell? ⟨gb456,4,none⟩ = some (.int .i64 a1_4):=(blk_cell BK456.out 4).trans rfl; have hfz27_0:=blk_frozen BK456.out 0; have hfz27_1:=blk_frozen BK456.out 1; have hfz27_2:=blk_frozen BK456.out 2; have hfz27_3:=blk_frozen BK456.out 3; have hfz27_4:=blk_frozen BK456.out 4))
  go_ret;exact ⟨by first | rfl | (simp [errW_none,errW_some] <;> rfl) | (simp [*,errW_none,errW_some] <;> rfl),by repeat (first | (with_reducible first | exact HB.out | apply below_alloc | apply pw_below_drewN | apply below_drew1 | refine below_set ?_ GE455.out | refine below_set ?_ GE456.out) | exact HB.out)⟩
 rw [if_pos c5] at H;have c5b0 : (a0_2 == a1_2) = true:=beq_iff_eq.mpr c5;have c5b1 : (a0_2 != a1_2) = false:=bne_eq_false_iff_eq.mpr c5;clear c5
 by_cases c6 : a0_3 = a1_3
 case neg =>
  rw [if_neg c6] at H;have c6b0 : (a0_3 == a1_3) = false:=beq_eq_false_iff_ne.mpr c6;have c6b1 : (a0_3 != a1_3) = true:=bne_iff_ne.mpr c6;obtain rfl:=Option.some.inj H
  go_enter Try.func104,Try.ntmps104
  go_wp2_with (first | ((with_reducible refine gate_dst (N:=2) rfl ?_); refine box_event ?hg (N:=2) ?hd (cs:=#[.int .i64 a0_0,.int .i64 a0_1,.int .i64 a0_2,.int .i64 a0_3,.int .i64 a0_4]) (t:=34) ?hr ?_; (case hd => rfl); (case hg => rfl); (case hr => first | (go_simp; done) | (go_simp; rfl)); intro gb455 hg w18 hbox hb; have n0_:=Z (below_step (by repeat (first | (with_reducible first | exact HB.out | apply below_alloc | apply pw_below_drewN | apply below_drew1) | exact HB.out)) hb); have n1_:=Z (hbox); have n2_:=Z ((by rw [hg]; exact (below_size (by repeat (first | (with_reducible first | exact HB.out | apply below_alloc | apply pw_below_drewN | apply below_drew1) | exact HB.out))) : w.heap.size ≤ gb455)); have n3_:=Z ((by rw [hg]; exact (below_size (by repeat (first | (with_reducible first | exact HB.out | apply below_alloc | apply pw_below_drewN | apply below_drew1) | exact HB.out))) : w.heap.size ≤ gb455)); clear HB; have HB:=n0_; have BK455:=n1_; have GW455:=n2_; have GE455:=n3_; clear n0_ n1_ n2_ n3_; clear hb hbox hg) | ((with_reducible refine gate_dst (N:=3) rfl ?_); refine box_event ?hg (N:=3) ?hd (cs:=#[.int .i64 a1_0,.int .i64 a1_1,.int .i64 a1_2,.int .i64 a1_3,.int .i64 a1_4]) (t:=34) ?hr ?_; (case hd => rfl); (case hg => rfl); (case hr => first | (go_simp; done) | (go_simp; rfl)); intro gb456 hg w19 hbox hb; have n0_:=Z (blk_below (g:=gb455) (o:=.cells #[.int .i64 a0_0,.int .i64 a0_1,.int .i64 a0_2,.int .i64 a0_3,.int .i64 a0_4] 34 (0,0)) (by (with_reducible repeat (first | refine blk_drewN ?_ _ | refine blk_drew ?_ | refine blk_alloc ?_ _)); exact BK455.out) hb); have n1_:=Z (below_step (by repeat (first | (with_reducible first | exact HB.out | apply below_alloc | apply pw_below_drewN | apply below_drew1 | refine below_set ?_ GE455.out) | exact HB.out)) hb); have n2_:=Z (hbox); have n3_:=Z ((by rw [hg]; exact (below_size (by repeat (first | (with_reducible first | exact HB.out | apply below_alloc | apply pw_below_drewN | apply below_drew1 | refine below_set ?_ GE455.out) | exact HB.out))) : w.heap.size ≤ gb456)); have n4_:=Z ((by rw [hg]; exact (below_size (by repeat (first | (with_reducible first | exact HB.out | apply below_alloc | apply pw_below_drewN | apply below_drew1 | refine below_set ?_ GE455.out) | exact HB.out))) : w.heap.size ≤ gb456)); have n5_:=Z ((by rw [hg]; exact Nat.ne_of_lt (blk_lt (g:=gb455) (o:=.cells #[.int .i64 a0_0,.int .i64 a0_1,.int .i64 a0_2,.int .i64 a0_3,.int .i64 a0_4] 34 (0,0)) (by (with_reducible repeat (first | refine blk_drewN ?_ _ | refine blk_drew ?_ | refine blk_alloc ?_ _)); exact BK455.out)) : gb455 ≠ gb456)); have n6_:=Z ((by rw [hg]; exact Nat.ne_of_gt (blk_lt (g:=gb455) (o:=.cells #[.int .i64 a0_0,.int .i64 a0_1,.int .i64 a0_2,.int .i64 a0_3,.int .i64 a0_4] 34 (0,0)) (by (with_reducible repeat (first | refine blk_drewN ?_ _ | refine blk_drew ?_ | refine blk_alloc ?_ _)); exact BK455.out)) : gb456 ≠ gb455)); clear BK455; clear HB; have BK455:=n0_; have HB:=n1_; have BK456:=n2_; have GW456:=n3_; have GE456:=n4_; have NB455_456:=n5_; have NB456_455:=n6_; clear n0_ n1_ n2_ n3_ n4_ n5_ n6_; clear hb hbox hg; have hnb20:=NB455_456.out; have hnc20:=NB456_455.out; have hcz21_0 : w19.cell? ⟨gb455,0,none⟩ = some (.int .i64 a0_0):=(blk_cell BK455.out 0).trans rfl; have hcz21_1 : w19.cell? ⟨gb455,1,none⟩ = some (.int .i64 a0_1):=(blk_cell BK455.out 1).trans rfl; have hcz21_2 : w19.cell? ⟨gb455,2,none⟩ = some (.int .i64 a0_2):=(blk_cell BK455.out 2).trans rfl; have hcz21_3 : w19.cell? ⟨gb455,3,none⟩ = some (.int .i64 a0_3):=(blk_cell BK455.out 3).trans rfl; have hcz21_4 : w19.cell? ⟨gb455,4,none⟩ = some (.int .i64 a0_4):=(blk_cell BK455.out 4).trans rfl; have hfz21_0:=blk_frozen BK455.out 0; have hfz21_1:=blk_frozen BK455.out 1; have hfz21_2:=blk_frozen BK455.out 2; have hfz21_3:=blk_frozen BK455.out 3; have hfz21_4:=blk_frozen BK455.out 4; have hcz22_0 : w19.cell? ⟨gb456,0,none⟩ = some (.int .i64 a1_0):=(blk_cell BK456.out 0).trans rfl; have hcz22_1 : w19.cell? ⟨gb456,1,none⟩ = some (.int .i64 a1_1):=(blk_cell BK456.out 1).trans rfl; have hcz22_2 : w19.cell? ⟨gb456,2,none⟩ = some (.int .i64 a1_2):=(blk_cell BK456.out 2).trans rfl; have hcz22_3 : w19.cell? ⟨gb456,3,none⟩ = some (.int .i64 a1_3):=(blk_cell BK456.out 3).trans rfl; have hcz22_4 : w19.cell? ⟨gb456,4,none⟩ = some (.int .i64 a1_4):=(blk_cell BK456.out 4).trans rfl; have hfz22_0:=blk_frozen BK456.out 0; have hfz22_1:=blk_frozen BK456.out 1; have hfz22_2:=blk_frozen BK456.out 2; have hfz22_3:=blk_frozen BK456.out 3; have hfz22_4:=blk_frozen BK456.out 4))
  go_ret;exact ⟨by first | rfl | (simp [errW_none,errW_some] <;> rfl) | (simp [*,errW_none,errW_some] <;> rfl),by repeat (first | (with_reducible first | exact HB.out | apply below_alloc | apply pw_below_drewN | apply below_drew1 | refine below_set ?_ GE455.out | refine below_set ?_ GE456.out) | exact HB.out)⟩
 rw [if_pos c6] at H;have c6b0 : (a0_3 == a1_3) = true:=beq_iff_eq.mpr c6;have c6b1 : (a0_3 != a1_3) = false:=bne_eq_false_iff_eq.mpr c6;clear c6
 by_cases c7 : a0_4 = a1_4
 case pos =>
  rw [if_pos c7] at H;have c7b0 : (a0_4 == a1_4) = true:=beq_iff_eq.mpr c7;have c7b1 : (a0_4 != a1_4) = false:=bne_eq_false_iff_eq.mpr c7;clear c7;obtain rfl:=Option.some.inj H
  go_enter Try.func104,Try.ntmps104
  go_wp2_with (first | ((with_reducible refine gate_dst (N:=2) rfl ?_); refine box_event ?hg (N:=2) ?hd (cs:=#[.int .i64 a0_0,.int .i64 a0_1,.int .i64 a0_2,.int .i64 a0_3,.int .i64 a0_4]) (t:=34) ?hr ?_; (case hd => rfl); (case hg => rfl); (case hr => first | (go_simp; done) | (go_simp; rfl)); intro gb455 hg w8 hbox hb; have n0_:=Z (below_step (by repeat (first | (with_reducible first | exact HB.out | apply below_alloc | apply pw_below_drewN | apply below_drew1) | exact HB.out)) hb); have n1_:=Z (hbox); have n2_:=Z ((by rw [hg]; exact (below_size (by repeat (first | (with_reducible first | exact HB.out | apply below_alloc | apply pw_below_drewN | apply below_drew1) | exact HB.out))) : w.heap.size ≤ gb455)); have n3_:=Z ((by rw [hg]; exact (below_size (by repeat (first | (with_reducible first | exact HB.out | apply below_alloc | apply pw_below_drewN | apply below_drew1) | exact HB.out))) : w.heap.size ≤ gb455)); clear HB; have HB:=n0_; have BK455:=n1_; have GW455:=n2_; have GE455:=n3_; clear n0_ n1_ n2_ n3_; clear hb hbox hg) | ((with_reducible refine gate_dst (N:=3) rfl ?_); refine box_event ?hg (N:=3) ?hd (cs:=#[.int .i64 a1_0,.int .i64 a1_1,.int .i64 a1_2,.int .i64 a1_3,.int .i64 a1_4]) (t:=34) ?hr ?_; (case hd => rfl); (case hg => rfl); (case hr => first | (go_simp; done) | (go_simp; rfl)); intro gb456 hg w9 hbox hb; have n0_:=Z (blk_below (g:=gb455) (o:=.cells #[.int .i64 a0_0,.int .i64 a0_1,.int .i64 a0_2,.int .i64 a0_3,.int .i64 a0_4] 34 (0,0)) (by (with_reducible repeat (first | refine blk_drewN ?_ _ | refine blk_drew ?_ | refine blk_alloc ?_ _)); exact BK455.out) hb); have n1_:=Z (below_step (by repeat (first | (with_reducible first | exact HB.out | apply below_alloc | apply pw_below_drewN | apply below_drew1 | refine below_set ?_ GE455.out) | exact HB.out)) hb); have n2_:=Z (hbox); have n3_:=Z ((by rw [hg]; exact (below_size (by repeat (first | (with_reducible first | exact HB.out | apply below_alloc | apply pw_below_drewN | apply below_drew1 | refine below_set ?_ GE455.out) | exact HB.out))) : w.heap.size ≤ gb456)); have n4_:=Z ((by rw [hg]; exact (below_size (by repeat (first | (with_reducible first | exact HB.out | apply below_alloc | apply pw_below_drewN | apply below_drew1 | refine below_set ?_ GE455.out) | exact HB.out))) : w.heap.size ≤ gb456)); have n5_:=Z ((by rw [hg]; exact Nat.ne_of_lt (blk_lt (g:=gb455) (o:=.cells #[.int .i64 a0_0,.int .i64 a0_1,.int .i64 a0_2,.int .i64 a0_3,.int .i64 a0_4] 34 (0,0)) (by (with_reducible repeat (first | refine blk_drewN ?_ _ | refine blk_drew ?_ | refine blk_alloc ?_ _)); exact BK455.out)) : gb455 ≠ gb456)); have n6_:=Z ((by rw [hg]; exact Nat.ne_of_gt (blk_lt (g:=gb455) (o:=.cells #[.int .i64 a0_0,.int .i64 a0_1,.int .i64 a0_2,.int .i64 a0_3,.int .i64 a0_4] 34 (0,0)) (by (with_reducible repeat (first | refine blk_drewN ?_ _ | refine blk_drew ?_ | refine blk_alloc ?_ _)); exact BK455.out)) : gb456 ≠ gb455)); clear BK455; clear HB; have BK455:=n0_; have HB:=n1_; have BK456:=n2_; have GW456:=n3_; have GE456:=n4_; have NB455_456:=n5_; have NB456_455:=n6_; clear n0_ n1_ n2_ n3_ n4_ n5_ n6_; clear hb hbox hg; have hnb10:=NB455_456.out; have hnc10:=NB456_455.out; have hcz11_0 : w9.cell? ⟨gb455,0,none⟩ = some (.int .i64 a0_0):=(blk_cell BK455.out 0).trans rfl; have hcz11_1 : w9.cell? ⟨gb455,1,none⟩ = some (.int .i64 a0_1):=(blk_cell BK455.out 1).trans rfl; have hcz11_2 : w9.cell? ⟨gb455,2,none⟩ = some (.int .i64 a0_2):=(blk_cell BK455.out 2).trans rfl; have hcz11_3 : w9.cell? ⟨gb455,3,none⟩ = some (.int .i64 a0_3):=(blk_cell BK455.out 3).trans rfl; have hcz11_4 : w9.cell? ⟨gb455,4,none⟩ = some (.int .i64 a0_4):=(blk_cell BK455.out 4).trans rfl; have hfz11_0:=blk_frozen BK455.out 0; have hfz11_1:=blk_frozen BK455.out 1; have hfz11_2:=blk_frozen BK455.out 2; have hfz11_3:=blk_frozen BK455.out 3; have hfz11_4:=blk_frozen BK455.out 4; have hcz12_0 : w9.cell? ⟨gb456,0,none⟩ = some (.int .i64 a1_0):=(blk_cell BK456.out 0).trans rfl; have hcz12_1 : w9.cell? ⟨gb456,1,none⟩ = some (.int .i64 a1_1):=(blk_cell BK456.out 1).trans rfl; have hcz12_2 : w9.cell? ⟨gb456,2,none⟩ = some (.int .i64 a1_2):=(blk_cell BK456.out 2).trans rfl; have hcz12_3 : w9.cell? ⟨gb456,3,none⟩ = some (.int .i64 a1_3):=(blk_cell BK456.out 3).trans rfl; have hcz12_4 : w9.cell? ⟨gb456,4,none⟩ = some (.int .i64 a1_4):=(blk_cell BK456.out 4).trans rfl; have hfz12_0:=blk_frozen BK456.out 0; have hfz12_1:=blk_frozen BK456.out 1; have hfz12_2:=blk_frozen BK456.out 2; have hfz12_3:=blk_frozen BK456.out 3; have hfz12_4:=blk_frozen BK456.out 4))
  go_ret;exact ⟨by first | rfl | (simp [errW_none,errW_some] <;> rfl) | (simp [*,errW_none,errW_some] <;> rfl),by repeat (first | (with_reducible first | exact HB.out | apply below_alloc | apply pw_below_drewN | apply below_drew1 | refine below_set ?_ GE455.out | refine below_set ?_ GE456.out) | exact HB.out)⟩
 rw [if_neg c7] at H;have c7b0 : (a0_4 == a1_4) = false:=beq_eq_false_iff_ne.mpr c7;have c7b1 : (a0_4 != a1_4) = true:=bne_iff_ne.mpr c7;obtain rfl:=Option.some.inj H
 go_enter Try.func104,Try.ntmps104
 go_wp2_with (first | ((with_reducible refine gate_dst (N:=2) rfl ?_); refine box_event ?hg (N:=2) ?hd (cs:=#[.int .i64 a0_0,.int .i64 a0_1,.int .i64 a0_2,.int .i64 a0_3,.int .i64 a0_4]) (t:=34) ?hr ?_; (case hd => rfl); (case hg => rfl); (case hr => first | (go_simp; done) | (go_simp; rfl)); intro gb455 hg w13 hbox hb; have n0_:=Z (below_step (by repeat (first | (with_reducible first | exact HB.out | apply below_alloc | apply pw_below_drewN | apply below_drew1) | exact HB.out)) hb); have n1_:=Z (hbox); have n2_:=Z ((by rw [hg]; exact (below_size (by repeat (first | (with_reducible first | exact HB.out | apply below_alloc | apply pw_below_drewN | apply below_drew1) | exact HB.out))) : w.heap.size ≤ gb455)); have n3_:=Z ((by rw [hg]; exact (below_size (by repeat (first | (with_reducible first | exact HB.out | apply below_alloc | apply pw_below_drewN | apply below_drew1) | exact HB.out))) : w.heap.size ≤ gb455)); clear HB; have HB:=n0_; have BK455:=n1_; have GW455:=n2_; have GE455:=n3_; clear n0_ n1_ n2_ n3_; clear hb hbox hg) | ((with_reducible refine gate_dst (N:=3) rfl ?_); refine box_event ?hg (N:=3) ?hd (cs:=#[.int .i64 a1_0,.int .i64 a1_1,.int .i64 a1_2,.int .i64 a1_3,.int .i64 a1_4]) (t:=34) ?hr ?_; (case hd => rfl); (case hg => rfl); (case hr => first | (go_simp; done) | (go_simp; rfl)); intro gb456 hg w14 hbox hb; have n0_:=Z (blk_below (g:=gb455) (o:=.cells #[.int .i64 a0_0,.int .i64 a0_1,.int .i64 a0_2,.int .i64 a0_3,.int .i64 a0_4] 34 (0,0)) (by (with_reducible repeat (first | refine blk_drewN ?_ _ | refine blk_drew ?_ | refine blk_alloc ?_ _)); exact BK455.out) hb); have n1_:=Z (below_step (by repeat (first | (with_reducible first | exact HB.out | apply below_alloc | apply pw_below_drewN | apply below_drew1 | refine below_set ?_ GE455.out) | exact HB.out)) hb); have n2_:=Z (hbox); have n3_:=Z ((by rw [hg]; exact (below_size (by repeat (first | (with_reducible first | exact HB.out | apply below_alloc | apply pw_below_drewN | apply below_drew1 | refine below_set ?_ GE455.out) | exact HB.out))) : w.heap.size ≤ gb456)); have n4_:=Z ((by rw [hg]; exact (below_size (by repeat (first | (with_reducible first | exact HB.out | apply below_alloc | apply pw_below_drewN | apply below_drew1 | refine below_set ?_ GE455.out) | exact HB.out))) : w.heap.size ≤ gb456)); have n5_:=Z ((by rw [hg]; exact Nat.ne_of_lt (blk_lt (g:=gb455) (o:=.cells #[.int .i64 a0_0,.int .i64 a0_1,.int .i64 a0_2,.int .i64 a0_3,.int .i64 a0_4] 34 (0,0)) (by (with_reducible repeat (first | refine blk_drewN ?_ _ | refine blk_drew ?_ | refine blk_alloc ?_ _)); exact BK455.out)) : gb455 ≠ gb456)); have n6_:=Z ((by rw [hg]; exact Nat.ne_of_gt (blk_lt (g:=gb455) (o:=.cells #[.int .i64 a0_0,.int .i64 a0_1,.int .i64 a0_2,.int .i64 a0_3,.int .i64 a0_4] 34 (0,0)) (by (with_reducible repeat (first | refine blk_drewN ?_ _ | refine blk_drew ?_ | refine blk_alloc ?_ _)); exact BK455.out)) : gb456 ≠ gb455)); clear BK455; clear HB; have BK455:=n0_; have HB:=n1_; have BK456:=n2_; have GW456:=n3_; have GE456:=n4_; have NB455_456:=n5_; have NB456_455:=n6_; clear n0_ n1_ n2_ n3_ n4_ n5_ n6_; clear hb hbox hg; have hnb15:=NB455_456.out; have hnc15:=NB456_455.out; have hcz16_0 : w14.cell? ⟨gb455,0,none⟩ = some (.int .i64 a0_0):=(blk_cell BK455.out 0).trans rfl; have hcz16_1 : w14.cell? ⟨gb455,1,none⟩ = some (.int .i64 a0_1):=(blk_cell BK455.out 1).trans rfl; have hcz16_2 : w14.cell? ⟨gb455,2,none⟩ = some (.int .i64 a0_2):=(blk_cell BK455.out 2).trans rfl; have hcz16_3 : w14.cell? ⟨gb455,3,none⟩ = some (.int .i64 a0_3):=(blk_cell BK455.out 3).trans rfl; have hcz16_4 : w14.cell? ⟨gb455,4,none⟩ = some (.int .i64 a0_4):=(blk_cell BK455.out 4).trans rfl; have hfz16_0:=blk_frozen BK455.out 0; have hfz16_1:=blk_frozen BK455.out 1; have hfz16_2:=blk_frozen BK455.out 2; have hfz16_3:=blk_frozen BK455.out 3; have hfz16_4:=blk_frozen BK455.out 4; have hcz17_0 : w14.cell? ⟨gb456,0,none⟩ = some (.int .i64 a1_0):=(blk_cell BK456.out 0).trans rfl; have hcz17_1 : w14.cell? ⟨gb456,1,none⟩ = some (.int .i64 a1_1):=(blk_cell BK456.out 1).trans rfl; have hcz17_2 : w14.cell? ⟨gb456,2,none⟩ = some (.int .i64 a1_2):=(blk_cell BK456.out 2).trans rfl; have hcz17_3 : w14.cell? ⟨gb456,3,none⟩ = some (.int .i64 a1_3):=(blk_cell BK456.out 3).trans rfl; have hcz17_4 : w14.cell? ⟨gb456,4,none⟩ = some (.int .i64 a1_4):=(blk_cell BK456.out 4).trans rfl; have hfz17_0:=blk_frozen BK456.out 0; have hfz17_1:=blk_frozen BK456.out 1; have hfz17_2:=blk_frozen BK456.out 2; have hfz17_3:=blk_frozen BK456.out 3; have hfz17_4:=blk_frozen BK456.out 4))
 go_ret;exact ⟨by first | rfl | (simp [errW_none,errW_some] <;> rfl) | (simp [*,errW_none,errW_some] <;> rfl),by repeat (first | (with_reducible first | exact HB.out | apply below_alloc | apply pw_below_drewN | apply below_drew1 | refine below_set ?_ GE455.out | refine below_set ?_ GE456.out) | exact HB.out)⟩
def laws_eqArcS.l0 : Nat → List (S34) → List (S34) → Int → Option (Bool)
 | 0,_,_,_ => none
 | k + 1,x0,x1,x5 => if x5 < (x0.length : Int) then (if 0 ≤ x5 then (if x5 < (x1.length : Int) then ((laws_eqArc.f ((rd_T34 x0 x5).f0) ((rd_T34 x0 x5).f1) ((rd_T34 x0 x5).f2) ((rd_T34 x0 x5).f3) ((rd_T34 x0 x5).f4) ((rd_T34 x1 x5).f0) ((rd_T34 x1 x5).f1) ((rd_T34 x1 x5).f2) ((rd_T34 x1 x5).f3) ((rd_T34 x1 x5).f4)).bind fun t473 => (if t473 = true then (laws_eqArcS.l0 k x0 x1 (wrap64 (x5 + 1))) else (some false))) else (none)) else (none)) else (some true)
def laws_eqArcS.f (k : Nat) (l0 : List (S34)) (l1 : List (S34)) : Option (Bool):=if (l0.length : Int) = (l1.length : Int) then (laws_eqArcS.l0 k l0 l1 0) else (some false)
def laws_eqArcS.T6 : Bool × List (List Nat × List Nat):=(true,[([],[]),([],[]),([0,1],[0,1]),([2],[2]),([],[]),([],[]),([4,5],[4,5]),([6],[6]),([3,7],[3,7]),([8],[8])])
def laws_eqArcS.B6 : List Nat:=[0,0,3,7,0,0,48,112,255,511]
theorem laws_eqArcS.tab6 : rtab .any (opsOf Try.f61 6) = laws_eqArcS.T6:=by kernel_rfl
theorem laws_eqArcS.bits6 : waitsOk laws_eqArcS.T6.2 laws_eqArcS.B6 = true:=by kernel_rfl
set_option maxHeartbeats 8000000 in
set_option maxRecDepth 100000 in
theorem laws_eqArcS.calls (k : Nat) (A0 : Option Addr) (c0 : Nat) (l0 : List (S34)) (A1 : Option Addr) (c1 : Nat) (l1 : List (S34)) (r : Bool) (w : World) (hr0 : Kd.C k34 w A0 l0.length l0) (hc0 : l0.length ≤ c0) (hr1 : Kd.C k34 w A1 l1.length l1) (hc1 : l1.length ≤ c1) (h : laws_eqArcS.f k l0 l1 = some r) :
  Calls Try.prog 61 #[.slice A0 l0.length c0,.slice A1 l1.length c1] w fun e w' => e = .returned (.bool r) ∧ Below w.heap.size w w':=by
 have hu34:=Try.underlying34;have HR0:=Z hr0;have HC0:=Z hc0;clear hr0 hc0;have HR1:=Z hr1;have HC1:=Z hc1;clear hr1 hc1;have HB:=Z (Below.refl w.heap.size w);have H : (if (l0.length : Int) = (l1.length : Int) then (laws_eqArcS.l0 k l0 l1 0) else (some false)) = some r:=h;clear h
 by_cases c3 : (l0.length : Int) = (l1.length : Int)
 case neg =>
  rw [if_neg c3] at H;have c3b0 : ((l0.length : Int) == (l1.length : Int)) = false:=beq_eq_false_iff_ne.mpr c3;have c3b1 : ((l0.length : Int) != (l1.length : Int)) = true:=bne_iff_ne.mpr c3;have c3b2 : (l0.length == l1.length) = false:=by first | simpa using c3 | (simp at c3 ⊢; omega)
  obtain rfl:=Option.some.inj H
  go_enter Try.func61,Try.ntmps61
  go_wp2
  go_ret;exact ⟨by first | rfl | (simp [errW_none,errW_some] <;> rfl) | (simp [*,errW_none,errW_some] <;> rfl),by repeat (first | (with_reducible first | exact HB.out | apply below_alloc | apply pw_below_drewN | apply below_drew1) | exact HB.out)⟩
 rw [if_pos c3] at H;have c3b0 : ((l0.length : Int) == (l1.length : Int)) = true:=beq_iff_eq.mpr c3;have c3b1 : ((l0.length : Int) != (l1.length : Int)) = false:=bne_eq_false_iff_eq.mpr c3;have c3b2 : (l0.length == l1.length) = true:=by first | simpa using c3 | (simp at c3 ⊢; omega)
 clear c3;have H':=Z H;clear H
 go_enter Try.func61,Try.ntmps61
 go_wp2
 go_loopg [5] k (fun kq v5 w' => ∃ (x5_1 : Int),v5 = .int .i64 x5_1 ∧ Aside0 (laws_eqArcS.l0 kq l0 l1 x5_1 = some r) ∧ Aside0 (kq ≤ k) ∧ Aside0 (Below w.heap.size w w'))
 case atStart => exact ⟨(0),(by first | rfl | (simp; done) | (simp [*]; done)),H',⟨Nat.le_refl _⟩,⟨by repeat (first | (with_reducible first | exact HB.out | apply below_alloc | apply pw_below_drewN | apply below_drew1) | exact HB.out)⟩⟩
 case round =>
  clear H'
  try clear c1
  try clear p2
  try clear c3
  try clear c3b0
  try clear c3b1
  try clear c3b2
  obtain ⟨x5_1,rfl,HA,HK1,HB⟩:=hrel;cases gk with
  | zero => exact absurd HA.out (by simp [laws_eqArcS.l0])
  | succ k1 =>
   have H:=HA.out;clear HA;simp only [laws_eqArcS.l0] at H
   by_cases c4 : x5_1 < (l0.length : Int)
   case neg =>
    rw [if_neg c4] at H;have c4b0 : decide (x5_1 < (l0.length : Int)) = false:=decide_eq_false c4;clear c4;obtain rfl:=Option.some.inj H
    go_wp2
    go_ret;exact ⟨by first | rfl | (simp [errW_none,errW_some] <;> rfl) | (simp [*,errW_none,errW_some] <;> rfl),by repeat (first | (with_reducible first | exact HB.out | apply below_alloc | apply pw_below_drewN | apply below_drew1) | exact HB.out)⟩
   rw [if_pos c4] at H;have c4b0 : decide (x5_1 < (l0.length : Int)) = true:=decide_eq_true c4;clear c4
   by_cases c5 : 0 ≤ x5_1
   case neg =>
    rw [if_neg c5] at H;exact absurd H (by simp)
   rw [if_pos c5] at H;have c5b0 : decide (0 ≤ x5_1) = true:=decide_eq_true c5;clear c5
   by_cases c6 : x5_1 < (l1.length : Int)
   case neg =>
    rw [if_neg c6] at H;exact absurd H (by simp)
   rw [if_pos c6] at H;have c6b0 : decide (x5_1 < (l1.length : Int)) = true:=decide_eq_true c6;clear c6;replace H:=Option.bind_eq_some_iff.mp H;obtain ⟨t473,A70,H⟩:=H;replace H : (if t473 = true then (laws_eqArcS.l0 k1 l0 l1 (wrap64 (x5_1 + 1))) else (some false)) = some r:=H;have A7:=Z A70;clear A70
   by_cases c8 : t473 = true
   case neg =>
    replace c8:=Bool.eq_false_iff.mpr c8;subst c8;have H1 : (some false) = some r:=by rw [if_neg (show ¬ (false = true) by decide)] at H; exact H
    clear H;have H:=H1;clear H1;obtain rfl:=Option.some.inj H
    try go_wp2
    have n0_:=Z (below_drew1 HB.out);clear HB;have HB:=n0_;clear n0_;have p471 : 0 ≤ (x5_1 : Int):=of_decide_eq_true (by first | (with_reducible assumption) | assumption);have q471 : x5_1 < (l0.length : Int):=of_decide_eq_true (by first | (with_reducible assumption) | assumption);obtain ⟨p0,e471,p1,p3,p4,p5,p6⟩:=at_T34 HR0.out x5_1 p471 q471;have q3:=p6;have q4:=p5;have q5:=p4;have q6:=p3;have q7:=p1;cases e471;replace p1:=(HB.out.cell (World.block_lt_of_cell? w _ p1)).trans p1;replace p3:=(HB.out.cell (World.block_lt_of_cell? w _ p3)).trans p3;replace p4:=(HB.out.cell (World.block_lt_of_cell? w _ p4)).trans p4;replace p5:=(HB.out.cell (World.block_lt_of_cell? w _ p5)).trans p5;replace p6:=(HB.out.cell (World.block_lt_of_cell? w _ p6)).trans p6;replace p471:=eq_true p471;replace q471:=eq_true q471;have p472 : 0 ≤ (x5_1 : Int):=of_decide_eq_true (by first | (with_reducible assumption) | assumption);have q472 : x5_1 < (l1.length : Int):=of_decide_eq_true (by first | (with_reducible assumption) | assumption);obtain ⟨p7,e472,p8,p9,q0,q1,q2⟩:=at_T34 HR1.out x5_1 p472 q472;have q8:=q2;have q9:=q1;have r0:=q0;have r1:=p9;have r2:=p8;cases e472;replace p8:=(HB.out.cell (World.block_lt_of_cell? w _ p8)).trans p8;replace p9:=(HB.out.cell (World.block_lt_of_cell? w _ p9)).trans p9;replace q0:=(HB.out.cell (World.block_lt_of_cell? w _ q0)).trans q0;replace q1:=(HB.out.cell (World.block_lt_of_cell? w _ q1)).trans q1;replace q2:=(HB.out.cell (World.block_lt_of_cell? w _ q2)).trans q2;replace p472:=eq_true p472;replace q472:=eq_true q472
    refine start_ (n:=10) (S:=fun w' => w'.cell? (p0.add ((x5_1).toNat * 5)) = some (.int .i64 ((rd_T34 l0 x5_1).f0)) ∧ w'.cell? ⟨(p0.add ((x5_1).toNat * 5)).block,(p0.add ((x5_1).toNat * 5)).off + 1,none⟩ = some (.int .i64 ((rd_T34 l0 x5_1).f1)) ∧ w'.cell? ⟨(p0.add ((x5_1).toNat * 5)).block,(p0.add ((x5_1).toNat * 5)).off + 2,none⟩ = some (.int .i64 ((rd_T34 l0 x5_1).f2)) ∧ w'.cell? ⟨(p0.add ((x5_1).toNat * 5)).block,(p0.add ((x5_1).toNat * 5)).off + 3,none⟩ = some (.int .i64 ((rd_T34 l0 x5_1).f3)) ∧ w'.cell? ⟨(p0.add ((x5_1).toNat * 5)).block,(p0.add ((x5_1).toNat * 5)).off + 4,none⟩ = some (.int .i64 ((rd_T34 l0 x5_1).f4)) ∧ w'.cell? (p7.add ((x5_1).toNat * 5)) = some (.int .i64 ((rd_T34 l1 x5_1).f0)) ∧ w'.cell? ⟨(p7.add ((x5_1).toNat * 5)).block,(p7.add ((x5_1).toNat * 5)).off + 1,none⟩ = some (.int .i64 ((rd_T34 l1 x5_1).f1)) ∧ w'.cell? ⟨(p7.add ((x5_1).toNat * 5)).block,(p7.add ((x5_1).toNat * 5)).off + 2,none⟩ = some (.int .i64 ((rd_T34 l1 x5_1).f2)) ∧ w'.cell? ⟨(p7.add ((x5_1).toNat * 5)).block,(p7.add ((x5_1).toNat * 5)).off + 3,none⟩ = some (.int .i64 ((rd_T34 l1 x5_1).f3)) ∧ w'.cell? ⟨(p7.add ((x5_1).toNat * 5)).block,(p7.add ((x5_1).toNat * 5)).off + 4,none⟩ = some (.int .i64 ((rd_T34 l1 x5_1).f4))) (ds:=[]) #[X,X,X,X,X,X,X,X,X,X] (by kernel_rfl) rfl rfl ⟨((HB.out.cell (World.block_lt_of_cell? w _ q7)).trans q7),((HB.out.cell (World.block_lt_of_cell? w _ q6)).trans q6),((HB.out.cell (World.block_lt_of_cell? w _ q5)).trans q5),((HB.out.cell (World.block_lt_of_cell? w _ q4)).trans q4),((HB.out.cell (World.block_lt_of_cell? w _ q3)).trans q3),((HB.out.cell (World.block_lt_of_cell? w _ r2)).trans r2),((HB.out.cell (World.block_lt_of_cell? w _ r1)).trans r1),((HB.out.cell (World.block_lt_of_cell? w _ r0)).trans r0),((HB.out.cell (World.block_lt_of_cell? w _ q9)).trans q9),((HB.out.cell (World.block_lt_of_cell? w _ q8)).trans q8)⟩ (fun hHeld => ?_); refine with_tabW laws_eqArcS.tab6 laws_eqArcS.bits6 (fun HT_ HW_ => ?_);generalize wr.drew = w11 at HB p1 p3 p4 p5 p6 p8 p9 q0 q1 q2 hHeld ⊢;refine pure_ (i:=0) (N:=some 17) (v:=?_) (a':=?_) #[Y,X,X,X,X,X,X,X,X,X] rfl rfl (any_of HT_.out (by kernel_rfl)) (fun _ _ _ h => h) (Or.inl ⟨by rfl,?_⟩) ?_ ?_;rotate_left
    ·intro w';go_simp;with_reducible rfl
    rotate_left
    ·simp only [Act.put,J,U,V,i64_w,i32_w];rfl
    refine pure_ (i:=1) (N:=some 18) (v:=?_) (a':=?_) #[Y,Y,X,X,X,X,X,X,X,X] rfl rfl (any_of HT_.out (by kernel_rfl)) (fun _ _ _ h => h) (Or.inl ⟨by rfl,?_⟩) ?_ ?_;rotate_left
    ·intro w';go_simp;with_reducible rfl
    rotate_left
    ·simp only [Act.put,J,U,V,i64_w,i32_w];rfl
    refine pure_ (i:=2) (N:=some 19) (v:=?_) (a':=?_) #[Y,Y,Y,X,X,X,X,X,X,X] rfl rfl (any_of HT_.out (by kernel_rfl)) (fun _ _ _ h => h) (Or.inl ⟨by rfl,?_⟩) ?_ ?_;rotate_left
    ·intro w';go_simp;with_reducible rfl
    rotate_left
    ·simp only [Act.put,J,U,V,i64_w,i32_w];rfl
    refine pure_ (i:=4) (N:=some 21) (v:=?_) (a':=?_) #[Y,Y,Y,X,Y,X,X,X,X,X] rfl rfl (any_of HT_.out (by kernel_rfl)) (fun _ _ _ h => h) (Or.inl ⟨by rfl,?_⟩) ?_ ?_;rotate_left
    ·intro w';go_simp;with_reducible rfl
    rotate_left
    ·simp only [Act.put,J,U,V,i64_w,i32_w];rfl
    refine pure_ (i:=5) (N:=some 22) (v:=?_) (a':=?_) #[Y,Y,Y,X,Y,Y,X,X,X,X] rfl rfl (any_of HT_.out (by kernel_rfl)) (fun _ _ _ h => h) (Or.inl ⟨by rfl,?_⟩) ?_ ?_;rotate_left
    ·intro w';go_simp;with_reducible rfl
    rotate_left
    ·simp only [Act.put,J,U,V,i64_w,i32_w];rfl
    refine pure_ (i:=6) (N:=some 23) (v:=?_) (a':=?_) #[Y,Y,Y,X,Y,Y,Y,X,X,X] rfl rfl (any_of HT_.out (by kernel_rfl)) (fun _ _ _ h => h) (Or.inl ⟨by rfl,?_⟩) ?_ ?_;rotate_left
    ·intro w';go_simp;with_reducible rfl
    rotate_left
    ·simp only [Act.put,J,U,V,i64_w,i32_w];rfl
    refine take_ (i:=3) (N:=some 20) (v:=?_) (a':=?_) #[Y,Y,Y,Y,Y,Y,Y,X,X,X] rfl rfl (take_ofW HT_.out HW_.out (by kernel_rfl)) (fun _ _ _ h => h) (Or.inl ⟨by rfl,?_⟩) hHeld ?_ ?_;rotate_left
    ·rintro w' ⟨s0,s1,s2,s3,s4,s5,s6,s7,s8,s9⟩;go_simp;with_reducible rfl
    rotate_left
    ·simp only [Act.put,J,U,V,i64_w,i32_w];rfl
    refine take_ (i:=7) (N:=some 24) (v:=?_) (a':=?_) #[Y,Y,Y,Y,Y,Y,Y,Y,X,X] rfl rfl (take_ofW HT_.out HW_.out (by kernel_rfl)) (fun _ _ _ h => h) (Or.inl ⟨by rfl,?_⟩) hHeld ?_ ?_;rotate_left
    ·rintro w' ⟨s0,s1,s2,s3,s4,s5,s6,s7,s8,s9⟩;go_simp;with_reducible rfl
    rotate_left
    ·simp only [Act.put,J,U,V,i64_w,i32_w];rfl
    refine one_ (i:=8) (N:=some 25) #[Y,Y,Y,Y,Y,Y,Y,Y,Y,X] rfl rfl (one_of HT_.out (by kernel_rfl)) (by decide) (fun K hK => ?_);refine goes_ Try.func104 (by kernel_rfl) rfl #[.agg #[.int .i64 ((rd_T34 l0 x5_1).f0),.int .i64 ((rd_T34 l0 x5_1).f1),.int .i64 ((rd_T34 l0 x5_1).f2),.int .i64 ((rd_T34 l0 x5_1).f3),.int .i64 ((rd_T34 l0 x5_1).f4)],.agg #[.int .i64 ((rd_T34 l1 x5_1).f0),.int .i64 ((rd_T34 l1 x5_1).f1),.int .i64 ((rd_T34 l1 x5_1).f2),.int .i64 ((rd_T34 l1 x5_1).f3),.int .i64 ((rd_T34 l1 x5_1).f4)]] (by rfl) rfl rfl (by (try simp only [List.map_toArray,List.map_cons,List.map_nil]); first | done | rfl | (simp only [List.length_drop,List.length_take]; rfl)) ?_;with_reducible refine (laws_eqArc.calls ((rd_T34 l0 x5_1).f0) ((rd_T34 l0 x5_1).f1) ((rd_T34 l0 x5_1).f2) ((rd_T34 l0 x5_1).f3) ((rd_T34 l0 x5_1).f4) ((rd_T34 l1 x5_1).f0) ((rd_T34 l1 x5_1).f1) ((rd_T34 l1 x5_1).f2) ((rd_T34 l1 x5_1).f3) ((rd_T34 l1 x5_1).f4) false _ A7.out).mono ?_
    rintro e w12 ⟨rfl,hb⟩;refine ⟨_,rfl,?_⟩;have n0_:=Z (below_step HB.out hb);clear HB;have HB:=n0_;clear n0_
    (try clear hb)
    (try clear hb2)
    (try clear hk)
    (try clear hi)
    refine hK.out _ _ ⟨((HB.out.cell (World.block_lt_of_cell? w _ q7)).trans q7),((HB.out.cell (World.block_lt_of_cell? w _ q6)).trans q6),((HB.out.cell (World.block_lt_of_cell? w _ q5)).trans q5),((HB.out.cell (World.block_lt_of_cell? w _ q4)).trans q4),((HB.out.cell (World.block_lt_of_cell? w _ q3)).trans q3),((HB.out.cell (World.block_lt_of_cell? w _ r2)).trans r2),((HB.out.cell (World.block_lt_of_cell? w _ r1)).trans r1),((HB.out.cell (World.block_lt_of_cell? w _ r0)).trans r0),((HB.out.cell (World.block_lt_of_cell? w _ q9)).trans q9),((HB.out.cell (World.block_lt_of_cell? w _ q8)).trans q8)⟩ (fun hHeld => ?_);clear hK K;refine norm_ (a':=?_) ?_ ?_;rotate_left
    ·show Act.put _ (some 25) _ = _
     simp only [Act.put,J,U,V,i64_w,i32_w];rfl
    refine pure_ (i:=9) (N:=some 26) (v:=?_) (a':=?_) #[Y,Y,Y,Y,Y,Y,Y,Y,Y,Y] rfl rfl (any_of HT_.out (by kernel_rfl)) (fun _ _ _ h => h) (Or.inl ⟨by rfl,?_⟩) ?_ ?_;rotate_left
    ·intro w';go_simp;with_reducible rfl
    rotate_left
    ·simp only [Act.put,J,U,V,i64_w,i32_w];rfl
    refine done_ (done_of HT_.out (by kernel_rfl)) ?_
    try go_wp2
    go_ret;exact ⟨by first | rfl | (simp [errW_none,errW_some] <;> rfl) | (simp [*,errW_none,errW_some] <;> rfl),by repeat (first | (with_reducible first | exact HB.out | apply below_alloc | apply pw_below_drewN | apply below_drew1) | exact HB.out)⟩
   subst c8;have H1 : (laws_eqArcS.l0 k1 l0 l1 (wrap64 (x5_1 + 1))) = some r:=by rw [if_pos rfl] at H; exact H
   clear H;have H:=H1;clear H1;have H':=Z H;clear H
   try go_wp2
   have n0_:=Z (below_drew1 HB.out);clear HB;have HB:=n0_;clear n0_;have p471 : 0 ≤ (x5_1 : Int):=of_decide_eq_true (by first | (with_reducible assumption) | assumption);have q471 : x5_1 < (l0.length : Int):=of_decide_eq_true (by first | (with_reducible assumption) | assumption);obtain ⟨p0,e471,p1,p3,p4,p5,p6⟩:=at_T34 HR0.out x5_1 p471 q471;have q3:=p6;have q4:=p5;have q5:=p4;have q6:=p3;have q7:=p1;cases e471;replace p1:=(HB.out.cell (World.block_lt_of_cell? w _ p1)).trans p1;replace p3:=(HB.out.cell (World.block_lt_of_cell? w _ p3)).trans p3;replace p4:=(HB.out.cell (World.block_lt_of_cell? w _ p4)).trans p4;replace p5:=(HB.out.cell (World.block_lt_of_cell? w _ p5)).trans p5;replace p6:=(HB.out.cell (World.block_lt_of_cell? w _ p6)).trans p6;replace p471:=eq_true p471;replace q471:=eq_true q471;have p472 : 0 ≤ (x5_1 : Int):=of_decide_eq_true (by first | (with_reducible assumption) | assumption);have q472 : x5_1 < (l1.length : Int):=of_decide_eq_true (by first | (with_reducible assumption) | assumption);obtain ⟨p7,e472,p8,p9,q0,q1,q2⟩:=at_T34 HR1.out x5_1 p472 q472;have q8:=q2;have q9:=q1;have r0:=q0;have r1:=p9;have r2:=p8;cases e472;replace p8:=(HB.out.cell (World.block_lt_of_cell? w _ p8)).trans p8;replace p9:=(HB.out.cell (World.block_lt_of_cell? w _ p9)).trans p9;replace q0:=(HB.out.cell (World.block_lt_of_cell? w _ q0)).trans q0;replace q1:=(HB.out.cell (World.block_lt_of_cell? w _ q1)).trans q1;replace q2:=(HB.out.cell (World.block_lt_of_cell? w _ q2)).trans q2;replace p472:=eq_true p472;replace q472:=eq_true q472
   refine start_ (n:=10) (S:=fun w' => w'.cell? (p0.add ((x5_1).toNat * 5)) = some (.int .i64 ((rd_T34 l0 x5_1).f0)) ∧ w'.cell? ⟨(p0.add ((x5_1).toNat * 5)).block,(p0.add ((x5_1).toNat * 5)).off + 1,none⟩ = some (.int .i64 ((rd_T34 l0 x5_1).f1)) ∧ w'.cell? ⟨(p0.add ((x5_1).toNat * 5)).block,(p0.add ((x5_1).toNat * 5)).off + 2,none⟩ = some (.int .i64 ((rd_T34 l0 x5_1).f2)) ∧ w'.cell? ⟨(p0.add ((x5_1).toNat * 5)).block,(p0.add ((x5_1).toNat * 5)).off + 3,none⟩ = some (.int .i64 ((rd_T34 l0 x5_1).f3)) ∧ w'.cell? ⟨(p0.add ((x5_1).toNat * 5)).block,(p0.add ((x5_1).toNat * 5)).off + 4,none⟩ = some (.int .i64 ((rd_T34 l0 x5_1).f4)) ∧ w'.cell? (p7.add ((x5_1).toNat * 5)) = some (.int .i64 ((rd_T34 l1 x5_1).f0)) ∧ w'.cell? ⟨(p7.add ((x5_1).toNat * 5)).block,(p7.add ((x5_1).toNat * 5)).off + 1,none⟩ = some (.int .i64 ((rd_T34 l1 x5_1).f1)) ∧ w'.cell? ⟨(p7.add ((x5_1).toNat * 5)).block,(p7.add ((x5_1).toNat * 5)).off + 2,none⟩ = some (.int .i64 ((rd_T34 l1 x5_1).f2)) ∧ w'.cell? ⟨(p7.add ((x5_1).toNat * 5)).block,(p7.add ((x5_1).toNat * 5)).off + 3,none⟩ = some (.int .i64 ((rd_T34 l1 x5_1).f3)) ∧ w'.cell? ⟨(p7.add ((x5_1).toNat * 5)).block,(p7.add ((x5_1).toNat * 5)).off + 4,none⟩ = some (.int .i64 ((rd_T34 l1 x5_1).f4))) (ds:=[]) #[X,X,X,X,X,X,X,X,X,X] (by kernel_rfl) rfl rfl ⟨((HB.out.cell (World.block_lt_of_cell? w _ q7)).trans q7),((HB.out.cell (World.block_lt_of_cell? w _ q6)).trans q6),((HB.out.cell (World.block_lt_of_cell? w _ q5)).trans q5),((HB.out.cell (World.block_lt_of_cell? w _ q4)).trans q4),((HB.out.cell (World.block_lt_of_cell? w _ q3)).trans q3),((HB.out.cell (World.block_lt_of_cell? w _ r2)).trans r2),((HB.out.cell (World.block_lt_of_cell? w _ r1)).trans r1),((HB.out.cell (World.block_lt_of_cell? w _ r0)).trans r0),((HB.out.cell (World.block_lt_of_cell? w _ q9)).trans q9),((HB.out.cell (World.block_lt_of_cell? w _ q8)).trans q8)⟩ (fun hHeld => ?_); refine with_tabW laws_eqArcS.tab6 laws_eqArcS.bits6 (fun HT_ HW_ => ?_);generalize wr.drew = w9 at HB p1 p3 p4 p5 p6 p8 p9 q0 q1 q2 hHeld ⊢;refine pure_ (i:=0) (N:=some 17) (v:=?_) (a':=?_) #[Y,X,X,X,X,X,X,X,X,X] rfl rfl (any_of HT_.out (by kernel_rfl)) (fun _ _ _ h => h) (Or.inl ⟨by rfl,?_⟩) ?_ ?_;rotate_left
   ·intro w';go_simp;with_reducible rfl
   rotate_left
   ·simp only [Act.put,J,U,V,i64_w,i32_w];rfl
   refine pure_ (i:=1) (N:=some 18) (v:=?_) (a':=?_) #[Y,Y,X,X,X,X,X,X,X,X] rfl rfl (any_of HT_.out (by kernel_rfl)) (fun _ _ _ h => h) (Or.inl ⟨by rfl,?_⟩) ?_ ?_;rotate_left
   ·intro w';go_simp;with_reducible rfl
   rotate_left
   ·simp only [Act.put,J,U,V,i64_w,i32_w];rfl
   refine pure_ (i:=2) (N:=some 19) (v:=?_) (a':=?_) #[Y,Y,Y,X,X,X,X,X,X,X] rfl rfl (any_of HT_.out (by kernel_rfl)) (fun _ _ _ h => h) (Or.inl ⟨by rfl,?_⟩) ?_ ?_;rotate_left
   ·intro w';go_simp;with_reducible rfl
   rotate_left
   ·simp only [Act.put,J,U,V,i64_w,i32_w];rfl
   refine pure_ (i:=4) (N:=some 21) (v:=?_) (a':=?_) #[Y,Y,Y,X,Y,X,X,X,X,X] rfl rfl (any_of HT_.out (by kernel_rfl)) (fun _ _ _ h => h) (Or.inl ⟨by rfl,?_⟩) ?_ ?_;rotate_left
   ·intro w';go_simp;with_reducible rfl
   rotate_left
   ·simp only [Act.put,J,U,V,i64_w,i32_w];rfl
   refine pure_ (i:=5) (N:=some 22) (v:=?_) (a':=?_) #[Y,Y,Y,X,Y,Y,X,X,X,X] rfl rfl (any_of HT_.out (by kernel_rfl)) (fun _ _ _ h => h) (Or.inl ⟨by rfl,?_⟩) ?_ ?_;rotate_left
   ·intro w';go_simp;with_reducible rfl
   rotate_left
   ·simp only [Act.put,J,U,V,i64_w,i32_w];rfl
   refine pure_ (i:=6) (N:=some 23) (v:=?_) (a':=?_) #[Y,Y,Y,X,Y,Y,Y,X,X,X] rfl rfl (any_of HT_.out (by kernel_rfl)) (fun _ _ _ h => h) (Or.inl ⟨by rfl,?_⟩) ?_ ?_;rotate_left
   ·intro w';go_simp;with_reducible rfl
   rotate_left
   ·simp only [Act.put,J,U,V,i64_w,i32_w];rfl
   refine take_ (i:=3) (N:=some 20) (v:=?_) (a':=?_) #[Y,Y,Y,Y,Y,Y,Y,X,X,X] rfl rfl (take_ofW HT_.out HW_.out (by kernel_rfl)) (fun _ _ _ h => h) (Or.inl ⟨by rfl,?_⟩) hHeld ?_ ?_;rotate_left
   ·rintro w' ⟨s0,s1,s2,s3,s4,s5,s6,s7,s8,s9⟩;go_simp;with_reducible rfl
   rotate_left
   ·simp only [Act.put,J,U,V,i64_w,i32_w];rfl
   refine take_ (i:=7) (N:=some 24) (v:=?_) (a':=?_) #[Y,Y,Y,Y,Y,Y,Y,Y,X,X] rfl rfl (take_ofW HT_.out HW_.out (by kernel_rfl)) (fun _ _ _ h => h) (Or.inl ⟨by rfl,?_⟩) hHeld ?_ ?_;rotate_left
   ·rintro w' ⟨s0,s1,s2,s3,s4,s5,s6,s7,s8,s9⟩;go_simp;with_reducible rfl
   rotate_left
   ·simp only [Act.put,J,U,V,i64_w,i32_w];rfl
   refine one_ (i:=8) (N:=some 25) #[Y,Y,Y,Y,Y,Y,Y,Y,Y,X] rfl rfl (one_of HT_.out (by kernel_rfl)) (by decide) (fun K hK => ?_);refine goes_ Try.func104 (by kernel_rfl) rfl #[.agg #[.int .i64 ((rd_T34 l0 x5_1).f0),.int .i64 ((rd_T34 l0 x5_1).f1),.int .i64 ((rd_T34 l0 x5_1).f2),.int .i64 ((rd_T34 l0 x5_1).f3),.int .i64 ((rd_T34 l0 x5_1).f4)],.agg #[.int .i64 ((rd_T34 l1 x5_1).f0),.int .i64 ((rd_T34 l1 x5_1).f1),.int .i64 ((rd_T34 l1 x5_1).f2),.int .i64 ((rd_T34 l1 x5_1).f3),.int .i64 ((rd_T34 l1 x5_1).f4)]] (by rfl) rfl rfl (by (try simp only [List.map_toArray,List.map_cons,List.map_nil]); first | done | rfl | (simp only [List.length_drop,List.length_take]; rfl)) ?_;with_reducible refine (laws_eqArc.calls ((rd_T34 l0 x5_1).f0) ((rd_T34 l0 x5_1).f1) ((rd_T34 l0 x5_1).f2) ((rd_T34 l0 x5_1).f3) ((rd_T34 l0 x5_1).f4) ((rd_T34 l1 x5_1).f0) ((rd_T34 l1 x5_1).f1) ((rd_T34 l1 x5_1).f2) ((rd_T34 l1 x5_1).f3) ((rd_T34 l1 x5_1).f4) true _ A7.out).mono ?_
   rintro e w10 ⟨rfl,hb⟩;refine ⟨_,rfl,?_⟩;have n0_:=Z (below_step HB.out hb);clear HB;have HB:=n0_;clear n0_
   (try clear hb)
   (try clear hb2)
   (try clear hk)
   (try clear hi)
   refine hK.out _ _ ⟨((HB.out.cell (World.block_lt_of_cell? w _ q7)).trans q7),((HB.out.cell (World.block_lt_of_cell? w _ q6)).trans q6),((HB.out.cell (World.block_lt_of_cell? w _ q5)).trans q5),((HB.out.cell (World.block_lt_of_cell? w _ q4)).trans q4),((HB.out.cell (World.block_lt_of_cell? w _ q3)).trans q3),((HB.out.cell (World.block_lt_of_cell? w _ r2)).trans r2),((HB.out.cell (World.block_lt_of_cell? w _ r1)).trans r1),((HB.out.cell (World.block_lt_of_cell? w _ r0)).trans r0),((HB.out.cell (World.block_lt_of_cell? w _ q9)).trans q9),((HB.out.cell (World.block_lt_of_cell? w _ q8)).trans q8)⟩ (fun hHeld => ?_);clear hK K;refine norm_ (a':=?_) ?_ ?_;rotate_left
   ·show Act.put _ (some 25) _ = _
    simp only [Act.put,J,U,V,i64_w,i32_w];rfl
   refine pure_ (i:=9) (N:=some 26) (v:=?_) (a':=?_) #[Y,Y,Y,Y,Y,Y,Y,Y,Y,Y] rfl rfl (any_of HT_.out (by kernel_rfl)) (fun _ _ _ h => h) (Or.inl ⟨by rfl,?_⟩) ?_ ?_;rotate_left
   ·intro w';go_simp;with_reducible rfl
   rotate_left
   ·simp only [Act.put,J,U,V,i64_w,i32_w];rfl
   refine done_ (done_of HT_.out (by kernel_rfl)) ?_
   try go_wp2
   go_roundg k1
   case measure => have:=HK1.out; omega
   case rel => exact ⟨(wrap64 (x5_1 + 1)),(by first | rfl | (simp; done) | (simp [*]; done)),H',⟨by have:=HK1.out; omega⟩,⟨by repeat (first | (with_reducible first | exact HB.out | apply below_alloc | apply pw_below_drewN | apply below_drew1) | exact HB.out)⟩⟩
def laws_eqNet.f (k : Nat) (a0_0 : Int) (l0_1 : List (S34)) (a1_0 : Int) (l1_1 : List (S34)) : Option (Bool):=if a0_0 = a1_0 then ((laws_eqArcS.f k l0_1 l1_1).bind fun t462 => (if t462 = true then (some true) else (some false))) else (some false)
set_option maxHeartbeats 8000000 in
set_option maxRecDepth 100000 in
theorem laws_eqNet.calls (k : Nat) (a0_0 : Int) (A0_1 : Option Addr) (c0_1 : Nat) (l0_1 : List (S34)) (a1_0 : Int) (A1_1 : Option Addr) (c1_1 : Nat) (l1_1 : List (S34)) (r : Bool) (w : World) (hr0_1 : Kd.C k34 w A0_1 l0_1.length l0_1) (hc0_1 : l0_1.length ≤ c0_1) (hr1_1 : Kd.C k34 w A1_1 l1_1.length l1_1) (hc1_1 : l1_1.length ≤ c1_1) (h : laws_eqNet.f k a0_0 l0_1 a1_0 l1_1 = some r) :
  Calls Try.prog 23 #[.agg #[.int .i64 a0_0,.slice A0_1 l0_1.length c0_1],.agg #[.int .i64 a1_0,.slice A1_1 l1_1.length c1_1]] w fun e w' => e = .returned (.bool r) ∧ Below w.heap.size w w':=by
 have hu25:=Try.underlying25;have HR0_1:=Z hr0_1;have HC0_1:=Z hc0_1;clear hr0_1 hc0_1;have HR1_1:=Z hr1_1;have HC1_1:=Z hc1_1;clear hr1_1 hc1_1;have HB:=Z (Below.refl w.heap.size w);have H : (if a0_0 = a1_0 then ((laws_eqArcS.f k l0_1 l1_1).bind fun t462 => (if t462 = true then (some true) else (some false))) else (some false)) = some r:=h;clear h
 by_cases c3 : a0_0 = a1_0
 case neg =>
  rw [if_neg c3] at H;have c3b0 : (a0_0 == a1_0) = false:=beq_eq_false_iff_ne.mpr c3;have c3b1 : (a0_0 != a1_0) = true:=bne_iff_ne.mpr c3;obtain rfl:=Option.some.inj H
  go_enter Try.func23,Try.ntmps23
  go_wp2_with (first | ((with_reducible refine gate_dst (N:=2) rfl ?_); refine box_event ?hg (N:=2) ?hd (cs:=#[.int .i64 a0_0,.slice A0_1 l0_1.length c0_1]) (t:=25) ?hr ?_; (case hd => rfl); (case hg => rfl); (case hr => first | (go_simp; done) | (go_simp; rfl)); intro gb460 hg w18 hbox hb; have n0_:=Z (below_step (by repeat (first | (with_reducible first | exact HB.out | apply below_alloc | apply pw_below_drewN | apply below_drew1) | exact HB.out)) hb); have n1_:=Z (hbox); have n2_:=Z ((by rw [hg]; exact (below_size (by repeat (first | (with_reducible first | exact HB.out | apply below_alloc | apply pw_below_drewN | apply below_drew1) | exact HB.out))) : w.heap.size ≤ gb460)); have n3_:=Z ((by rw [hg]; exact (below_size (by repeat (first | (with_reducible first | exact HB.out | apply below_alloc | apply pw_below_drewN | apply below_drew1) | exact HB.out))) : w.heap.size ≤ gb460)); clear HB; have HB:=n0_; have BK460:=n1_; have GW460:=n2_; have GE460:=n3_; clear n0_ n1_ n2_ n3_; clear hb hbox hg) | ((with_reducible refine gate_dst (N:=3) rfl ?_); refine box_event ?hg (N:=3) ?hd (cs:=#[.int .i64 a1_0,.slice A1_1 l1_1.length c1_1]) (t:=25) ?hr ?_; (case hd => rfl); (case hg => rfl); (case hr => first | (go_simp; done) | (go_simp; rfl)); intro gb461 hg w19 hbox hb; have n0_:=Z (blk_below (g:=gb460) (o:=.cells #[.int .i64 a0_0,.slice A0_1 l0_1.length c0_1] 25 (0,0)) (by (with_reducible repeat (first | refine blk_drewN ?_ _ | refine blk_drew ?_ | refine blk_alloc ?_ _)); exact BK460.out) hb); have n1_:=Z (below_step (by repeat (first | (with_reducible first | exact HB.out | apply below_alloc | apply pw_below_drewN | apply below_drew1 | refine below_set ?_ GE460.out) | exact HB.out)) hb); have n2_:=Z (hbox); have n3_:=Z ((by rw [hg]; exact (below_size (by repeat (first | (with_reducible first | exact HB.out | apply below_alloc | apply pw_below_drewN | apply below_drew1 | refine below_set ?_ GE460.out) | exact HB.out))) : w.heap.size ≤ gb461)); have n4_:=Z ((by rw [hg]; exact (below_size (by repeat (first | (with_reducible first | exact HB.out | apply below_alloc | apply pw_below_drewN | apply below_drew1 | refine below_set ?_ GE460.out) | exact HB.out))) : w.heap.size ≤ gb461)); have n5_:=Z ((by rw [hg]; exact Nat.ne_of_lt (blk_lt (g:=gb460) (o:=.cells #[.int .i64 a0_0,.slice A0_1 l0_1.length c0_1] 25 (0,0)) (by (with_reducible repeat (first | refine blk_drewN ?_ _ | refine blk_drew ?_ | refine blk_alloc ?_ _)); exact BK460.out)) : gb460 ≠ gb461)); have n6_:=Z ((by rw [hg]; exact Nat.ne_of_gt (blk_lt (g:=gb460) (o:=.cells #[.int .i64 a0_0,.slice A0_1 l0_1.length c0_1] 25 (0,0)) (by (with_reducible repeat (first | refine blk_drewN ?_ _ | refine blk_drew ?_ | refine blk_alloc ?_ _)); exact BK460.out)) : gb461 ≠ gb460)); clear BK460; clear HB; have BK460:=n0_; have HB:=n1_; have BK461:=n2_; have GW461:=n3_; have GE461:=n4_; have NB460_461:=n5_; have NB461_460:=n6_; clear n0_ n1_ n2_ n3_ n4_ n5_ n6_; clear hb hbox hg; have hnb20:=NB460_461.out; have hnc20:=NB461_460.out; have hcz21_0 : w19.cell? ⟨gb460,0,none⟩ = some (.int .i64 a0_0):=(blk_cell BK460.out 0).trans rfl; have hcz21_1 : w19.cell? ⟨gb460,1,none⟩ = some (.slice A0_1 l0_1.length c0_1):=(blk_cell BK460.out 1).trans rfl; have hfz21_0:=blk_frozen BK460.out 0; have hfz21_1:=blk_frozen BK460.out 1; have hcz22_0 : w19.cell? ⟨gb461,0,none⟩ = some (.int .i64 a1_0):=(blk_cell BK461.out 0).trans rfl; have hcz22_1 : w19.cell? ⟨gb461,1,none⟩ = some (.slice A1_1 l1_1.length c1_1):=(blk_cell BK461.out 1).trans rfl; have hfz22_0:=blk_frozen BK461.out 0; have hfz22_1:=blk_frozen BK461.out 1))
  go_ret;exact ⟨by first | rfl | (simp [errW_none,errW_some] <;> rfl) | (simp [*,errW_none,errW_some] <;> rfl),by repeat (first | (with_reducible first | exact HB.out | apply below_alloc | apply pw_below_drewN | apply below_drew1 | refine below_set ?_ GE460.out | refine below_set ?_ GE461.out) | exact HB.out)⟩
 rw [if_pos c3] at H;have c3b0 : (a0_0 == a1_0) = true:=beq_iff_eq.mpr c3;have c3b1 : (a0_0 != a1_0) = false:=bne_eq_false_iff_eq.mpr c3;clear c3;replace H:=Option.bind_eq_some_iff.mp H;obtain ⟨t462,A40,H⟩:=H;replace H : (if t462 = true then (some true) else (some false)) = some r:=H;have A4:=Z A40;clear A40
 by_cases c5 : t462 = true
 case pos =>
  subst c5;have H1 : (some true) = some r:=by rw [if_pos rfl] at H; exact H
  clear H;have H:=H1;clear H1;obtain rfl:=Option.some.inj H
  go_enter Try.func23,Try.ntmps23
  go_wp2_with (first | ((with_reducible refine gate_dst (N:=2) rfl ?_); refine box_event ?hg (N:=2) ?hd (cs:=#[.int .i64 a0_0,.slice A0_1 l0_1.length c0_1]) (t:=25) ?hr ?_; (case hd => rfl); (case hg => rfl); (case hr => first | (go_simp; done) | (go_simp; rfl)); intro gb460 hg w6 hbox hb; have n0_:=Z (below_step (by repeat (first | (with_reducible first | exact HB.out | apply below_alloc | apply pw_below_drewN | apply below_drew1) | exact HB.out)) hb); have n1_:=Z (hbox); have n2_:=Z ((by rw [hg]; exact (below_size (by repeat (first | (with_reducible first | exact HB.out | apply below_alloc | apply pw_below_drewN | apply below_drew1) | exact HB.out))) : w.heap.size ≤ gb460)); have n3_:=Z ((by rw [hg]; exact (below_size (by repeat (first | (with_reducible first | exact HB.out | apply below_alloc | apply pw_below_drewN | apply below_drew1) | exact HB.out))) : w.heap.size ≤ gb460)); clear HB; have HB:=n0_; have BK460:=n1_; have GW460:=n2_; have GE460:=n3_; clear n0_ n1_ n2_ n3_; clear hb hbox hg) | ((with_reducible refine gate_dst (N:=3) rfl ?_); refine box_event ?hg (N:=3) ?hd (cs:=#[.int .i64 a1_0,.slice A1_1 l1_1.length c1_1]) (t:=25) ?hr ?_; (case hd => rfl); (case hg => rfl); (case hr => first | (go_simp; done) | (go_simp; rfl)); intro gb461 hg w7 hbox hb; have n0_:=Z (blk_below (g:=gb460) (o:=.cells #[.int .i64 a0_0,.slice A0_1 l0_1.length c0_1] 25 (0,0)) (by (with_reducible repeat (first | refine blk_drewN ?_ _ | refine blk_drew ?_ | refine blk_alloc ?_ _)); exact BK460.out) hb); have n1_:=Z (below_step (by repeat (first | (with_reducible first | exact HB.out | apply below_alloc | apply pw_below_drewN | apply below_drew1 | refine below_set ?_ GE460.out) | exact HB.out)) hb); have n2_:=Z (hbox); have n3_:=Z ((by rw [hg]; exact (below_size (by repeat (first | (with_reducible first | exact HB.out | apply below_alloc | apply pw_below_drewN | apply below_drew1 | refine below_set ?_ GE460.out) | exact HB.out))) : w.heap.size ≤ gb461)); have n4_:=Z ((by rw [hg]; exact (below_size (by repeat (first | (with_reducible first | exact HB.out | apply below_alloc | apply pw_below_drewN | apply below_drew1 | refine below_set ?_ GE460.out) | exact HB.out))) : w.heap.size ≤ gb461)); have n5_:=Z ((by rw [hg]; exact Nat.ne_of_lt (blk_lt (g:=gb460) (o:=.cells #[.int .i64 a0_0,.slice A0_1 l0_1.length c0_1] 25 (0,0)) (by (with_reducible repeat (first | refine blk_drewN ?_ _ | refine blk_drew ?_ | refine blk_alloc ?_ _)); exact BK460.out)) : gb460 ≠ gb461)); have n6_:=Z ((by rw [hg]; exact Nat.ne_of_gt (blk_lt (g:=gb460) (o:=.cells #[.int .i64 a0_0,.slice A0_1 l0_1.length c0_1] 25 (0,0)) (by (with_reducible repeat (first | refine blk_drewN ?_ _ | refine blk_drew ?_ | refine blk_alloc ?_ _)); exact BK460.out)) : gb461 ≠ gb460)); clear BK460; clear HB; have BK460:=n0_; have HB:=n1_; have BK461:=n2_; have GW461:=n3_; have GE461:=n4_; have NB460_461:=n5_; have NB461_460:=n6_; clear n0_ n1_ n2_ n3_ n4_ n5_ n6_; clear hb hbox hg; have hnb8:=NB460_461.out; have hnc8:=NB461_460.out; have hcz9_0 : w7.cell? ⟨gb460,0,none⟩ = some (.int .i64 a0_0):=(blk_cell BK460.out 0).trans rfl; have hcz9_1 : w7.cell? ⟨gb460,1,none⟩ = some (.slice A0_1 l0_1.length c0_1):=(blk_cell BK460.out 1).trans rfl; have hfz9_0:=blk_frozen BK460.out 0; have hfz9_1:=blk_frozen BK460.out 1; have hcz10_0 : w7.cell? ⟨gb461,0,none⟩ = some (.int .i64 a1_0):=(blk_cell BK461.out 0).trans rfl; have hcz10_1 : w7.cell? ⟨gb461,1,none⟩ = some (.slice A1_1 l1_1.length c1_1):=(blk_cell BK461.out 1).trans rfl; have hfz10_0:=blk_frozen BK461.out 0; have hfz10_1:=blk_frozen BK461.out 1) | ((with_reducible refine gate_callee (f:=61) rfl ?_); refine goesL_ (some 14) rfl rfl Try.func61 (by kernel_rfl) rfl #[.slice A0_1 l0_1.length c0_1,.slice A1_1 l1_1.length c1_1] rfl (by (try simp only [List.map_toArray,List.map_cons,List.map_nil]); first | done | rfl | (simp only [List.length_drop,List.length_take]; rfl)) ?_; (with_reducible refine (laws_eqArcS.calls k _ _ l0_1 _ _ l1_1 true _ ?side1 ?side2 ?side3 ?side4 A4.out).mono ?_); (case side1 => repeat (first | exact (Kd.C_below HR0_1.out HB.out) | (with_reducible refine Kd.C_alloc ?_ _) | (with_reducible refine Kd.C_drewN ?_ _) | (with_reducible refine Kd.C_drew ?_))); (case side2 => exact HC0_1.out); (case side3 => repeat (first | exact (Kd.C_below HR1_1.out HB.out) | (with_reducible refine Kd.C_alloc ?_ _) | (with_reducible refine Kd.C_drewN ?_ _) | (with_reducible refine Kd.C_drew ?_))); (case side4 => exact HC1_1.out); rintro e w11 ⟨rfl,hb⟩; refine ⟨_,rfl,?_⟩; have n0_:=Z (blk_below (g:=gb460) (o:=.cells #[.int .i64 a0_0,.slice A0_1 l0_1.length c0_1] 25 (0,0)) (by (with_reducible repeat (first | refine blk_drewN ?_ _ | refine blk_drew ?_ | refine blk_alloc ?_ _)); exact BK460.out) hb); have n1_:=Z (blk_below (g:=gb461) (o:=.cells #[.int .i64 a1_0,.slice A1_1 l1_1.length c1_1] 25 (0,0)) (by (with_reducible repeat (first | refine blk_drewN ?_ _ | refine blk_drew ?_ | refine blk_alloc ?_ _)); exact BK461.out) hb); have n2_:=Z (below_step (by repeat (first | (with_reducible first | exact HB.out | apply below_alloc | apply pw_below_drewN | apply below_drew1 | refine below_set ?_ GE460.out | refine below_set ?_ GE461.out) | exact HB.out)) hb); clear BK460; clear BK461; clear HB; have BK460:=n0_; have BK461:=n1_; have HB:=n2_; clear n0_ n1_ n2_; (try clear hb); (try clear hb2); (try clear hk); (try clear hi)))
  go_ret;exact ⟨by first | rfl | (simp [errW_none,errW_some] <;> rfl) | (simp [*,errW_none,errW_some] <;> rfl),by repeat (first | (with_reducible first | exact HB.out | apply below_alloc | apply pw_below_drewN | apply below_drew1 | refine below_set ?_ GE460.out | refine below_set ?_ GE461.out) | exact HB.out)⟩
 replace c5:=Bool.eq_false_iff.mpr c5;subst c5;have H1 : (some false) = some r:=by rw [if_neg (show ¬ (false = true) by decide)] at H; exact H
 clear H;have H:=H1;clear H1;obtain rfl:=Option.some.inj H
 go_enter Try.func23,Try.ntmps23
 go_wp2_with (first | ((with_reducible refine gate_dst (N:=2) rfl ?_); refine box_event ?hg (N:=2) ?hd (cs:=#[.int .i64 a0_0,.slice A0_1 l0_1.length c0_1]) (t:=25) ?hr ?_; (case hd => rfl); (case hg => rfl); (case hr => first | (go_simp; done) | (go_simp; rfl)); intro gb460 hg w12 hbox hb; have n0_:=Z (below_step (by repeat (first | (with_reducible first | exact HB.out | apply below_alloc | apply pw_below_drewN | apply below_drew1) | exact HB.out)) hb); have n1_:=Z (hbox); have n2_:=Z ((by rw [hg]; exact (below_size (by repeat (first | (with_reducible first | exact HB.out | apply below_alloc | apply pw_below_drewN | apply below_drew1) | exact HB.out))) : w.heap.size ≤ gb460)); have n3_:=Z ((by rw [hg]; exact (below_size (by repeat (first | (with_reducible first | exact HB.out | apply below_alloc | apply pw_below_drewN | apply below_drew1) | exact HB.out))) : w.heap.size ≤ gb460)); clear HB; have HB:=n0_; have BK460:=n1_; have GW460:=n2_; have GE460:=n3_; clear n0_ n1_ n2_ n3_; clear hb hbox hg) | ((with_reducible refine gate_dst (N:=3) rfl ?_); refine box_event ?hg (N:=3) ?hd (cs:=#[.int .i64 a1_0,.slice A1_1 l1_1.length c1_1]) (t:=25) ?hr ?_; (case hd => rfl); (case hg => rfl); (case hr => first | (go_simp; done) | (go_simp; rfl)); intro gb461 hg w13 hbox hb; have n0_:=Z (blk_below (g:=gb460) (o:=.cells #[.int .i64 a0_0,.slice A0_1 l0_1.length c0_1] 25 (0,0)) (by (with_reducible repeat (first | refine blk_drewN ?_ _ | refine blk_drew ?_ | refine blk_alloc ?_ _)); exact BK460.out) hb); have n1_:=Z (below_step (by repeat (first | (with_reducible first | exact HB.out | apply below_alloc | apply pw_below_drewN | apply below_drew1 | refine below_set ?_ GE460.out) | exact HB.out)) hb); have n2_:=Z (hbox); have n3_:=Z ((by rw [hg]; exact (below_size (by repeat (first | (with_reducible first | exact HB.out | apply below_alloc | apply pw_below_drewN | apply below_drew1 | refine below_set ?_ GE460.out) | exact HB.out))) : w.heap.size ≤ gb461)); have n4_:=Z ((by rw [hg]; exact (below_size (by repeat (first | (with_reducible first | exact HB.out | apply below_alloc | apply pw_below_drewN | apply below_drew1 | refine below_set ?_ GE460.out) | exact HB.out))) : w.heap.size ≤ gb461)); have n5_:=Z ((by rw [hg]; exact Nat.ne_of_lt (blk_lt (g:=gb460) (o:=.cells #[.int .i64 a0_0,.slice A0_1 l0_1.length c0_1] 25 (0,0)) (by (with_reducible repeat (first | refine blk_drewN ?_ _ | refine blk_drew ?_ | refine blk_alloc ?_ _)); exact BK460.out)) : gb460 ≠ gb461)); have n6_:=Z ((by rw [hg]; exact Nat.ne_of_gt (blk_lt (g:=gb460) (o:=.cells #[.int .i64 a0_0,.slice A0_1 l0_1.length c0_1] 25 (0,0)) (by (with_reducible repeat (first | refine blk_drewN ?_ _ | refine blk_drew ?_ | refine blk_alloc ?_ _)); exact BK460.out)) : gb461 ≠ gb460)); clear BK460; clear HB; have BK460:=n0_; have HB:=n1_; have BK461:=n2_; have GW461:=n3_; have GE461:=n4_; have NB460_461:=n5_; have NB461_460:=n6_; clear n0_ n1_ n2_ n3_ n4_ n5_ n6_; clear hb hbox hg; have hnb14:=NB460_461.out; have hnc14:=NB461_460.out; have hcz15_0 : w13.cell? ⟨gb460,0,none⟩ = some (.int .i64 a0_0):=(blk_cell BK460.out 0).trans rfl; have hcz15_1 : w13.cell? ⟨gb460,1,none⟩ = some (.slice A0_1 l0_1.length c0_1):=(blk_cell BK460.out 1).trans rfl; have hfz15_0:=blk_frozen BK460.out 0; have hfz15_1:=blk_frozen BK460.out 1; have hcz16_0 : w13.cell? ⟨gb461,0,none⟩ = some (.int .i64 a1_0):=(blk_cell BK461.out 0).trans rfl; have hcz16_1 : w13.cell? ⟨gb461,1,none⟩ = some (.slice A1_1 l1_1.length c1_1):=(blk_cell BK461.out 1).trans rfl; have hfz16_0:=blk_frozen BK461.out 0; have hfz16_1:=blk_frozen BK461.out 1) | ((with_reducible refine gate_callee (f:=61) rfl ?_); refine goesL_ (some 14) rfl rfl Try.func61 (by kernel_rfl) rfl #[.slice A0_1 l0_1.length c0_1,.slice A1_1 l1_1.length c1_1] rfl (by (try simp only [List.map_toArray,List.map_cons,List.map_nil]); first | done | rfl | (simp only [List.length_drop,List.length_take]; rfl)) ?_; (with_reducible refine (laws_eqArcS.calls k _ _ l0_1 _ _ l1_1 false _ ?side1 ?side2 ?side3 ?side4 A4.out).mono ?_); (case side1 => repeat (first | exact (Kd.C_below HR0_1.out HB.out) | (with_reducible refine Kd.C_alloc ?_ _) | (with_reducible refine Kd.C_drewN ?_ _) | (with_reducible refine Kd.C_drew ?_))); (case side2 => exact HC0_1.out); (case side3 => repeat (first | exact (Kd.C_below HR1_1.out HB.out) | (with_reducible refine Kd.C_alloc ?_ _) | (with_reducible refine Kd.C_drewN ?_ _) | (with_reducible refine Kd.C_drew ?_))); (case side4 => exact HC1_1.out); rintro e w17 ⟨rfl,hb⟩; refine ⟨_,rfl,?_⟩; have n0_:=Z (blk_below (g:=gb460) (o:=.cells #[.int .i64 a0_0,.slice A0_1 l0_1.length c0_1] 25 (0,0)) (by (with_reducible repeat (first | refine blk_drewN ?_ _ | refine blk_drew ?_ | refine blk_alloc ?_ _)); exact BK460.out) hb); have n1_:=Z (blk_below (g:=gb461) (o:=.cells #[.int .i64 a1_0,.slice A1_1 l1_1.length c1_1] 25 (0,0)) (by (with_reducible repeat (first | refine blk_drewN ?_ _ | refine blk_drew ?_ | refine blk_alloc ?_ _)); exact BK461.out) hb); have n2_:=Z (below_step (by repeat (first | (with_reducible first | exact HB.out | apply below_alloc | apply pw_below_drewN | apply below_drew1 | refine below_set ?_ GE460.out | refine below_set ?_ GE461.out) | exact HB.out)) hb); clear BK460; clear BK461; clear HB; have BK460:=n0_; have BK461:=n1_; have HB:=n2_; clear n0_ n1_ n2_; (try clear hb); (try clear hb2); (try clear hk); (try clear hi)))
 go_ret;exact ⟨by first | rfl | (simp [errW_none,errW_some] <;> rfl) | (simp [*,errW_none,errW_some] <;> rfl),by repeat (first | (with_reducible first | exact HB.out | apply below_alloc | apply pw_below_drewN | apply below_drew1 | refine below_set ?_ GE460.out | refine below_set ?_ GE461.out) | exact HB.out)⟩
def laws_FnExactBothNear.j0 : Nat → Bool → Int → List (S112) → Int → List (S34) → Option (Bool)
 | 0,_,_,_,_,_ => none
 | k + 1,x42,q3,q4,q5,q6 => if x42 = true then (some false) else ((laws_toNet.f k q3 q4).bind fun bt478 => ((laws_eqNet.f k q5 q6 bt478.1 bt478.2).bind fun t482 => (if t482 = true then (some true) else (some false))))
def laws_FnExactBothNear.f (k : Nat) (a0_0 : Int) (l0_1 : List (S112)) (a1 : Int) (a2 : Int) : Option (Bool):=(laws_szNet.f a0_0 l0_1 1048576).bind fun t464 => (if t464 < 0 then (some true) else ((laws_toNet.f k a0_0 l0_1).bind fun bt465 => ((spec_BothNear.f k bt465.1 bt465.2 a1 a2).bind fun bt469 => ((laws_toNet.f k a0_0 l0_1).bind fun bt471 => ((impl_BothNear.f k bt471.1 bt471.2 a1 a2).bind fun bt476 => (if bt476.1 = bt469.1 then (laws_FnExactBothNear.j0 k (bt476.2 != bt469.2) a0_0 l0_1 bt471.1 bt471.2) else (laws_FnExactBothNear.j0 k true a0_0 l0_1 bt471.1 bt471.2)))))))
set_option maxHeartbeats 8000000 in
set_option maxRecDepth 100000 in
theorem laws_FnExactBothNear.calls (k : Nat) (a0_0 : Int) (A0_1 : Option Addr) (c0_1 : Nat) (l0_1 : List (S112)) (a1 : Int) (a2 : Int) (r : Bool) (w : World) (hr0_1 : Kd.C k112 w A0_1 l0_1.length l0_1) (hc0_1 : l0_1.length ≤ c0_1) (h : laws_FnExactBothNear.f k a0_0 l0_1 a1 a2 = some r) :
  Calls Try.prog 4 #[.agg #[.int .i64 a0_0,.slice A0_1 l0_1.length c0_1],.int .i64 a1,.int .i64 a2] w fun e w' => e = .returned (.bool r) ∧ Below w.heap.size w w':=by
 have hu38:=Try.underlying38;have hu25:=Try.underlying25;have p8:=Z hr0_1;have p9:=Z hc0_1;clear hr0_1 hc0_1;have HB:=Z (Below.refl w.heap.size w);have H : ((laws_szNet.f a0_0 l0_1 1048576).bind fun t464 => (if t464 < 0 then (some true) else ((laws_toNet.f k a0_0 l0_1).bind fun bt465 => ((spec_BothNear.f k bt465.1 bt465.2 a1 a2).bind fun bt469 => ((laws_toNet.f k a0_0 l0_1).bind fun bt471 => ((impl_BothNear.f k bt471.1 bt471.2 a1 a2).bind fun bt476 => (if bt476.1 = bt469.1 then (laws_FnExactBothNear.j0 k (bt476.2 != bt469.2) a0_0 l0_1 bt471.1 bt471.2) else (laws_FnExactBothNear.j0 k true a0_0 l0_1 bt471.1 bt471.2)))))))) = some r:=h;clear h;replace H:=Option.bind_eq_some_iff.mp H;obtain ⟨t464,A40,H⟩:=H;replace H : (if t464 < 0 then (some true) else ((laws_toNet.f k a0_0 l0_1).bind fun bt465 => ((spec_BothNear.f k bt465.1 bt465.2 a1 a2).bind fun bt469 => ((laws_toNet.f k a0_0 l0_1).bind fun bt471 => ((impl_BothNear.f k bt471.1 bt471.2 a1 a2).bind fun bt476 => (if bt476.1 = bt469.1 then (laws_FnExactBothNear.j0 k (bt476.2 != bt469.2) a0_0 l0_1 bt471.1 bt471.2) else (laws_FnExactBothNear.j0 k true a0_0 l0_1 bt471.1 bt471.2))))))) = some r:=H;have A4:=Z A40;clear A40
 by_cases c5 : t464 < 0
 case pos =>
  rw [if_pos c5] at H;have c5b0 : decide (t464 < 0) = true:=decide_eq_true c5;clear c5;obtain rfl:=Option.some.inj H
  go_enter Try.func4,Try.ntmps4
  go_wp2_with (first | ((with_reducible refine gate_dst (N:=3) rfl ?_); refine box_event ?hg (N:=3) ?hd (cs:=#[.int .i64 a0_0,.slice A0_1 l0_1.length c0_1]) (t:=38) ?hr ?_; (case hd => rfl); (case hg => rfl); (case hr => first | (go_simp; done) | (go_simp; rfl)); intro p4 hg w6 hbox hb; have n0_:=Z (below_step HB.out hb); have n1_:=Z (hbox); have n2_:=Z ((by rw [hg]; exact (below_size HB.out) : w.heap.size ≤ p4)); have n3_:=Z ((by rw [hg]; exact (below_size HB.out) : w.heap.size ≤ p4)); clear HB; have HB:=n0_; have p0:=n1_; have GW463:=n2_; have p7:=n3_; clear n0_ n1_ n2_ n3_; clear hb hbox hg; have hcz7_0 : w6.cell? ⟨p4,0,none⟩ = some (.int .i64 a0_0):=(blk_cell p0.out 0).trans rfl; have hcz7_1 : w6.cell? ⟨p4,1,none⟩ = some (.slice A0_1 l0_1.length c0_1):=(blk_cell p0.out 1).trans rfl; have hfz7_0:=blk_frozen p0.out 0; have hfz7_1:=blk_frozen p0.out 1) | ((with_reducible refine gate_callee (f:=19) rfl ?_); refine goesL_ (some 15) rfl rfl Try.func19 (by kernel_rfl) rfl #[.agg #[.int .i64 a0_0,.slice A0_1 l0_1.length c0_1],.int .i64 1048576] rfl (by (try simp only [List.map_toArray,List.map_cons,List.map_nil]); first | done | rfl | (simp only [List.length_drop,List.length_take]; rfl)) ?_; (with_reducible refine (laws_szNet.calls a0_0 _ _ l0_1 1048576 t464 _ ?side1 ?side2 A4.out).mono ?_); (case side1 => repeat (first | exact (Kd.C_below p8.out HB.out) | (with_reducible refine Kd.C_alloc ?_ _) | (with_reducible refine Kd.C_drewN ?_ _) | (with_reducible refine Kd.C_drew ?_))); (case side2 => exact p9.out); rintro e w8 ⟨rfl,hb⟩; refine ⟨_,rfl,?_⟩; have n0_:=Z (blk_below (g:=p4) (o:=.cells #[.int .i64 a0_0,.slice A0_1 l0_1.length c0_1] 38 (0,0)) p0.out hb); have n1_:=Z (below_step HB.out hb); clear p0; clear HB; have p0:=n0_; have HB:=n1_; clear n0_ n1_; (try clear hb); (try clear hb2); (try clear hk); (try clear hi)))
  go_ret;exact ⟨by first | rfl | (simp [errW_none,errW_some] <;> rfl) | (simp [*,errW_none,errW_some] <;> rfl),by repeat (first | (with_reducible first | exact HB.out | apply below_alloc | apply pw_below_drewN | apply below_drew1 | refine below_set ?_ p7.out) | exact HB.out)⟩
 rw [if_neg c5] at H;have c5b0 : decide (t464 < 0) = false:=decide_eq_false c5;clear c5;replace H:=Option.bind_eq_some_iff.mp H;obtain ⟨⟨t465,t466⟩,A90,H⟩:=H;replace H : ((spec_BothNear.f k t465 t466 a1 a2).bind fun bt469 => ((laws_toNet.f k a0_0 l0_1).bind fun bt471 => ((impl_BothNear.f k bt471.1 bt471.2 a1 a2).bind fun bt476 => (if bt476.1 = bt469.1 then (laws_FnExactBothNear.j0 k (bt476.2 != bt469.2) a0_0 l0_1 bt471.1 bt471.2) else (laws_FnExactBothNear.j0 k true a0_0 l0_1 bt471.1 bt471.2))))) = some r:=H;have A9:=Z A90;clear A90;replace H:=Option.bind_eq_some_iff.mp H;obtain ⟨⟨t469,t470⟩,A100,H⟩:=H;replace H : ((laws_toNet.f k a0_0 l0_1).bind fun bt471 => ((impl_BothNear.f k bt471.1 bt471.2 a1 a2).bind fun bt476 => (if bt476.1 = t469 then (laws_FnExactBothNear.j0 k (bt476.2 != t470) a0_0 l0_1 bt471.1 bt471.2) else (laws_FnExactBothNear.j0 k true a0_0 l0_1 bt471.1 bt471.2)))) = some r:=H;have A10:=Z A100;clear A100;replace H:=Option.bind_eq_some_iff.mp H;obtain ⟨⟨t471,t472⟩,A110,H⟩:=H;replace H : ((impl_BothNear.f k t471 t472 a1 a2).bind fun bt476 => (if bt476.1 = t469 then (laws_FnExactBothNear.j0 k (bt476.2 != t470) a0_0 l0_1 t471 t472) else (laws_FnExactBothNear.j0 k true a0_0 l0_1 t471 t472))) = some r:=H;have A11:=Z A110;clear A110;replace H:=Option.bind_eq_some_iff.mp H;obtain ⟨⟨t476,t477⟩,A120,H⟩:=H;replace H : (if t476 = t469 then (laws_FnExactBothNear.j0 k (t477 != t470) a0_0 l0_1 t471 t472) else (laws_FnExactBothNear.j0 k true a0_0 l0_1 t471 t472)) = some r:=H;have A12:=Z A120;clear A120;have HC13:=Z H;clear H
 go_enter Try.func4,Try.ntmps4
 go_upto_region 8 with (first | ((with_reducible refine gate_dst (N:=3) rfl ?_); refine box_event ?hg (N:=3) ?hd (cs:=#[.int .i64 a0_0,.slice A0_1 l0_1.length c0_1]) (t:=38) ?hr ?_; (case hd => rfl); (case hg => rfl); (case hr => first | (go_simp; done) | (go_simp; rfl)); intro p4 hg w14 hbox hb; have n0_:=Z (below_step HB.out hb); have n1_:=Z (hbox); have n2_:=Z ((by rw [hg]; exact (below_size HB.out) : w.heap.size ≤ p4)); have n3_:=Z ((by rw [hg]; exact (below_size HB.out) : w.heap.size ≤ p4)); clear HB; have HB:=n0_; have p0:=n1_; have GW463:=n2_; have p7:=n3_; clear n0_ n1_ n2_ n3_; clear hb hbox hg; have q7 : w14.cell? ⟨p4,0,none⟩ = some (.int .i64 a0_0):=(blk_cell p0.out 0).trans rfl; have q8 : w14.cell? ⟨p4,1,none⟩ = some (.slice A0_1 l0_1.length c0_1):=(blk_cell p0.out 1).trans rfl; have q9:=blk_frozen p0.out 0; have r0:=blk_frozen p0.out 1) | ((with_reducible refine gate_callee (f:=19) rfl ?_); refine goesL_ (some 15) rfl rfl Try.func19 (by kernel_rfl) rfl #[.agg #[.int .i64 a0_0,.slice A0_1 l0_1.length c0_1],.int .i64 1048576] rfl (by (try simp only [List.map_toArray,List.map_cons,List.map_nil]); first | done | rfl | (simp only [List.length_drop,List.length_take]; rfl)) ?_; (with_reducible refine (laws_szNet.calls a0_0 _ _ l0_1 1048576 t464 _ ?side1 ?side2 A4.out).mono ?_); (case side1 => repeat (first | exact (Kd.C_below p8.out HB.out) | (with_reducible refine Kd.C_alloc ?_ _) | (with_reducible refine Kd.C_drewN ?_ _) | (with_reducible refine Kd.C_drew ?_))); (case side2 => exact p9.out); rintro e w16 ⟨rfl,hb⟩; refine ⟨_,rfl,?_⟩; have n0_:=Z (blk_below (g:=p4) (o:=.cells #[.int .i64 a0_0,.slice A0_1 l0_1.length c0_1] 38 (0,0)) p0.out hb); have n1_:=Z (below_step HB.out hb); clear p0; clear HB; have p0:=n0_; have HB:=n1_; clear n0_ n1_; (try clear hb); (try clear hb2); (try clear hk); (try clear hi); have r1 : w16.cell? ⟨p4,0,none⟩ = some (.int .i64 a0_0):=(blk_cell p0.out 0).trans rfl; have r2 : w16.cell? ⟨p4,1,none⟩ = some (.slice A0_1 l0_1.length c0_1):=(blk_cell p0.out 1).trans rfl; have r3:=blk_frozen p0.out 0; have r4:=blk_frozen p0.out 1) | ((with_reducible refine gate_callee (f:=21) rfl ?_); refine goesL_ (some 20) rfl rfl Try.func21 (by kernel_rfl) rfl #[.agg #[.int .i64 a0_0,.slice A0_1 l0_1.length c0_1]] rfl (by (try simp only [List.map_toArray,List.map_cons,List.map_nil]); first | done | rfl | (simp only [List.length_drop,List.length_take]; rfl)) ?_; (with_reducible refine (laws_toNet.calls k a0_0 _ _ l0_1 t465 t466 _ ?side1 ?side2 A9.out).mono ?_); (case side1 => repeat (first | exact (Kd.C_below p8.out HB.out) | (with_reducible refine Kd.C_alloc ?_ _) | (with_reducible refine Kd.C_drewN ?_ _) | (with_reducible refine Kd.C_drew ?_))); (case side2 => exact p9.out); rintro e w18 ⟨v467,rfl,ho0,hb⟩; refine ⟨_,rfl,?_⟩; have n0_:=Z (Kd.R_lower ho0 (below_size HB.out)); have n1_:=Z (blk_below (g:=p4) (o:=.cells #[.int .i64 a0_0,.slice A0_1 l0_1.length c0_1] 38 (0,0)) p0.out hb); have n2_:=Z (below_step HB.out hb); clear p0; clear HB; have HO468:=n0_; have p0:=n1_; have HB:=n2_; clear n0_ n1_ n2_; (try clear hb); (try clear hb2); (try clear hk); (try clear hi); (try clear ho0); obtain ⟨Ao19,co19,eo19⟩:=Kd.R_slice HO468.out; subst eo19) | ((with_reducible refine gate_callee (f:=20) rfl ?_); refine goesL_ (some 23) rfl rfl Try.func20 (by kernel_rfl) rfl #[.agg #[.int .i64 t465,.slice Ao19 t466.length co19],.int .i64 a1,.int .i64 a2] rfl (by (try simp only [List.map_toArray,List.map_cons,List.map_nil]); first | done | rfl | (simp only [List.length_drop,List.length_take]; rfl)) ?_; (with_reducible refine (spec_BothNear.calls k t465 _ _ t466 a1 a2 t469 t470 _ ?side1 ?side2 A10.out).mono ?_); (case side1 => repeat (first | exact (Kd.R_reads' HO468.out).2.2 | (with_reducible refine Kd.C_alloc ?_ _) | (with_reducible refine Kd.C_drewN ?_ _) | (with_reducible refine Kd.C_drew ?_))); (case side2 => exact (Kd.R_reads' HO468.out).2.1); rintro e w20 ⟨rfl,hb⟩; refine ⟨_,rfl,?_⟩; have n0_:=Z (Kd.R_below HO468.out hb); have n1_:=Z (blk_below (g:=p4) (o:=.cells #[.int .i64 a0_0,.slice A0_1 l0_1.length c0_1] 38 (0,0)) p0.out hb); have n2_:=Z (below_step HB.out hb); clear HO468; clear p0; clear HB; have HO468:=n0_; have p0:=n1_; have HB:=n2_; clear n0_ n1_ n2_; (try clear hb); (try clear hb2); (try clear hk); (try clear hi); have r5 : w20.cell? ⟨p4,0,none⟩ = some (.int .i64 a0_0):=(blk_cell p0.out 0).trans rfl; have r6 : w20.cell? ⟨p4,1,none⟩ = some (.slice A0_1 l0_1.length c0_1):=(blk_cell p0.out 1).trans rfl; have r7:=blk_frozen p0.out 0; have r8:=blk_frozen p0.out 1) | ((with_reducible refine gate_callee (f:=21) rfl ?_); refine goesL_ (some 27) rfl rfl Try.func21 (by kernel_rfl) rfl #[.agg #[.int .i64 a0_0,.slice A0_1 l0_1.length c0_1]] rfl (by (try simp only [List.map_toArray,List.map_cons,List.map_nil]); first | done | rfl | (simp only [List.length_drop,List.length_take]; rfl)) ?_; (with_reducible refine (laws_toNet.calls k a0_0 _ _ l0_1 t471 t472 _ ?side1 ?side2 A11.out).mono ?_); (case side1 => repeat (first | exact (Kd.C_below p8.out HB.out) | (with_reducible refine Kd.C_alloc ?_ _) | (with_reducible refine Kd.C_drewN ?_ _) | (with_reducible refine Kd.C_drew ?_))); (case side2 => exact p9.out); rintro e w22 ⟨v473,rfl,ho0,hb⟩; refine ⟨_,rfl,?_⟩; have n0_:=Z (Kd.R_elder' HO468.out (Kd.R_base ho0) hb); have n1_:=Z (Kd.R_lower (Kd.R_new' ho0 (Kd.R_lt HO468.out)) (below_size HB.out)); have n2_:=Z (blk_below (g:=p4) (o:=.cells #[.int .i64 a0_0,.slice A0_1 l0_1.length c0_1] 38 (0,0)) p0.out hb); have n3_:=Z (below_step HB.out hb); clear HO468; clear p0; clear HB; have HO468:=n0_; have HO474:=n1_; have p0:=n2_; have HB:=n3_; clear n0_ n1_ n2_ n3_; (try clear hb); (try clear hb2); (try clear hk); (try clear hi); (try clear ho0)) | ((with_reducible refine gate_dst (N:=10) rfl ?_); refine box_event ?hg (N:=10) ?hd (cs:=#[.int .i64 0,.slice none 0 0]) (t:=25) ?hr ?_; (case hd => rfl); (case hg => rfl); (case hr => first | (go_simp; done) | (go_simp; rfl)); intro p5 hg w23 hbox hb; have n0_:=Z (Kd.R_below HO468.out hb); have n1_:=Z (Kd.R_below HO474.out hb); have n2_:=Z (blk_below (g:=p4) (o:=.cells #[.int .i64 a0_0,.slice A0_1 l0_1.length c0_1] 38 (0,0)) p0.out hb); have n3_:=Z (below_step HB.out hb); have n4_:=Z (hbox); have n5_:=Z ((by rw [hg]; exact (below_size HB.out) : w.heap.size ≤ p5)); have n6_:=Z ((by rw [hg]; exact (below_size HB.out) : w.heap.size ≤ p5)); have n7_:=Z ((by rw [hg]; exact Nat.ne_of_lt (blk_lt (g:=p4) (o:=.cells #[.int .i64 a0_0,.slice A0_1 l0_1.length c0_1] 38 (0,0)) p0.out) : p4 ≠ p5)); have n8_:=Z ((by rw [hg]; exact Nat.ne_of_gt (blk_lt (g:=p4) (o:=.cells #[.int .i64 a0_0,.slice A0_1 l0_1.length c0_1] 38 (0,0)) p0.out) : p5 ≠ p4)); clear HO468; clear HO474; clear p0; clear HB; have HO468:=n0_; have HO474:=n1_; have p0:=n2_; have HB:=n3_; have p3:=n4_; have GW475:=n5_; have q0:=n6_; have p6:=n7_; have q2:=n8_; clear n0_ n1_ n2_ n3_ n4_ n5_ n6_ n7_ n8_; clear hb hbox hg; have hnb24:=q2.out; have hnc24:=p6.out; have r9 : w23.cell? ⟨p5,0,none⟩ = some (.int .i64 0):=(blk_cell p3.out 0).trans rfl; have s4 : w23.cell? ⟨p5,1,none⟩ = some (.slice none 0 0):=(blk_cell p3.out 1).trans rfl; have s5:=blk_frozen p3.out 0; have s6:=blk_frozen p3.out 1; obtain ⟨Ao26,co26,eo26⟩:=Kd.R_slice HO474.out; subst eo26) | ((with_reducible refine gate_callee (f:=22) rfl ?_); refine goesL_ (some 32) rfl rfl Try.func22 (by kernel_rfl) rfl #[.agg #[.int .i64 t471,.slice Ao26 t472.length co26],.int .i64 a1,.int .i64 a2] rfl (by (try simp only [List.map_toArray,List.map_cons,List.map_nil]); first | done | rfl | (simp only [List.length_drop,List.length_take]; rfl)) ?_; (with_reducible refine (impl_BothNear.calls k t471 _ _ t472 a1 a2 t476 t477 _ ?side1 ?side2 A12.out).mono ?_); (case side1 => refine (Kd.R_reads' (e:=34) (base:=w.heap.size) (ok:=fun k_ => (True ∧ some k_ ≠ (.slice Ao19 t466.length co19 : Value).ownBlock)) (n:=t472.length) (c:=co26) ?_).2.2; exact (Kd.R_mono (Kd.R_far (p:=⟨p5,1,none⟩) (Kd.R_far (p:=⟨p5,0,none⟩) (Kd.R_types HO474.out p3.out (by decide)) (fun _ hk => hk.2) (.int .i64 t471)) (fun _ hk => hk.2) (.slice Ao26 t472.length co26)) (fun _ h_ => h_.1))); (case side2 => exact (Kd.R_reads' HO474.out).2.1); rintro e w27 ⟨rfl,hb⟩; refine ⟨_,rfl,?_⟩; have n0_:=Z (Kd.R_below (Kd.R_mono (Kd.R_far (p:=⟨p5,1,none⟩) (Kd.R_far (p:=⟨p5,0,none⟩) (Kd.R_types HO468.out p3.out (by decide)) (fun _ hk => hk.2) (.int .i64 t471)) (fun _ hk => hk.2) (.slice Ao26 t472.length co26)) (fun _ h_ => h_.1)) hb); have n1_:=Z (Kd.R_below (Kd.R_mono (Kd.R_far (p:=⟨p5,1,none⟩) (Kd.R_far (p:=⟨p5,0,none⟩) (Kd.R_types HO474.out p3.out (by decide)) (fun _ hk => hk.2) (.int .i64 t471)) (fun _ hk => hk.2) (.slice Ao26 t472.length co26)) (fun _ h_ => h_.1)) hb); have n2_:=Z (blk_below (g:=p4) (o:=.cells #[.int .i64 a0_0,.slice A0_1 l0_1.length c0_1] 38 (0,0)) (by refine blk_far ?_ p6.out _; refine blk_far ?_ p6.out _; exact p0.out) hb); have n3_:=Z (blk_below (g:=p5) (o:=.cells #[.int .i64 t471,.slice Ao26 t472.length co26] 25 (0,0)) (by refine blk_put (cs:=#[.int .i64 t471,.slice none 0 0]) ?_ 1 _ rfl; refine blk_put (cs:=#[.int .i64 0,.slice none 0 0]) ?_ 0 _ rfl; exact p3.out) hb); have n4_:=Z (below_step (by repeat (first | (with_reducible first | exact HB.out | apply below_alloc | apply pw_below_drewN | apply below_drew1 | refine below_set ?_ p7.out | refine below_set ?_ q0.out) | exact HB.out)) hb); clear HO468; clear HO474; clear p0; clear p3; clear HB; have HO468:=n0_; have HO474:=n1_; have p0:=n2_; have p3:=n3_; have HB:=n4_; clear n0_ n1_ n2_ n3_ n4_; (try clear hb); (try clear hb2); (try clear hk); (try clear hi)))
 (try simp only [Act.put,J,U,V])
 go_cut [42] (fun v42 wc => ∃ (kq : Nat) (q1 : Bool),v42 = .bool q1 ∧ Aside0 (laws_FnExactBothNear.j0 kq q1 a0_0 l0_1 t471 t472 = some r) ∧ Aside0 (kq ≤ k) ∧ Aside0 (Kd.R k34 34 wc w.heap.size (fun _ => True) (.slice Ao26 t472.length co26) t472) ∧ Aside0 (wc.heap[p4]? = some (.cells #[.int .i64 a0_0,(.slice A0_1 l0_1.length c0_1)] 38 (0,0))) ∧ Aside0 (wc.heap[p5]? = some (.cells #[.int .i64 t471,(.slice Ao26 t472.length co26)] 25 (0,0))) ∧ Aside0 (Below w.heap.size w wc))
 case first =>
  have H:=HC13.out;clear HC13
  by_cases c28 : t476 = t469
  case neg =>
   rw [if_neg c28] at H;have c28b0 : (t476 == t469) = false:=beq_eq_false_iff_ne.mpr c28;have c28b1 : (t476 != t469) = true:=bne_iff_ne.mpr c28
   (first | rw [c28b0] | (simp only [i64_w,i32_w]; rw [c28b0]) | skip)
   have H':=Z H;clear H
   go_wp2
   go_meet
   case rel => exact ⟨_,(true),(by first | rfl | (simp; done) | (simp [*]; done)),H',⟨by first | omega | exact Nat.le_refl _⟩,⟨by exact Kd.R_mono HO474.out (fun _ hk => trivial)⟩,⟨by exact p0.out⟩,⟨by exact p3.out⟩,⟨by repeat (first | (with_reducible first | exact HB.out | apply below_alloc | apply pw_below_drewN | apply below_drew1 | refine below_set ?_ p7.out | refine below_set ?_ q0.out) | exact HB.out)⟩⟩
  rw [if_pos c28] at H;have c28b0 : (t476 == t469) = true:=beq_iff_eq.mpr c28;have c28b1 : (t476 != t469) = false:=bne_eq_false_iff_eq.mpr c28;clear c28
  (first | rw [c28b0] | (simp only [i64_w,i32_w]; rw [c28b0]) | skip)
  have H':=Z H;clear H
  go_wp2
  go_meet
  case rel => exact ⟨_,((t477 != t470)),(by first | rfl | (simp; done) | (simp [*]; done)),H',⟨by first | omega | exact Nat.le_refl _⟩,⟨by exact Kd.R_mono HO474.out (fun _ hk => trivial)⟩,⟨by exact p0.out⟩,⟨by exact p3.out⟩,⟨by repeat (first | (with_reducible first | exact HB.out | apply below_alloc | apply pw_below_drewN | apply below_drew1 | refine below_set ?_ p7.out | refine below_set ?_ q0.out) | exact HB.out)⟩⟩
 case rest =>
  clear HC13
  try clear c1
  try clear c2
  try clear p2
  try clear c4
  try clear c5
  try clear c5b0
  try clear c19
  try clear c20
  try clear c21
  try clear c22
  try clear c24
  try clear c28
  try clear c28b0
  try clear c28b1
  try clear q7
  try clear q8
  try clear r1
  try clear r2
  try clear r5
  try clear r6
  try clear r9
  try clear s4
  try clear hcz7_0
  try clear hcz7_1
  try clear q9
  try clear r0
  try clear r3
  try clear r4
  try clear r7
  try clear r8
  try clear s5
  try clear s6
  try clear hfz7_0
  try clear hfz7_1
  obtain ⟨kq,q1,rfl,HA,HJ12,p1,p0,p3,HB⟩:=hcut;cases kq with
  | zero => exact absurd HA.out (by simp [laws_FnExactBothNear.j0])
  | succ kj12 =>
   have H:=HA.out;clear HA;simp only [laws_FnExactBothNear.j0] at H
   by_cases c29 : q1 = true
   case pos =>
    subst c29;have H1 : (some false) = some r:=by rw [if_pos rfl] at H; exact H
    clear H;have H:=H1;clear H1;obtain rfl:=Option.some.inj H
    go_wp2
    go_ret;exact ⟨by first | rfl | (simp [errW_none,errW_some] <;> rfl) | (simp [*,errW_none,errW_some] <;> rfl),by repeat (first | (with_reducible first | exact HB.out | apply below_alloc | apply pw_below_drewN | apply below_drew1 | refine below_set ?_ p7.out | refine below_set ?_ q0.out) | exact HB.out)⟩
   replace c29:=Bool.eq_false_iff.mpr c29;subst c29;have H1 : ((laws_toNet.f kj12 a0_0 l0_1).bind fun bt478 => ((laws_eqNet.f kj12 t471 t472 bt478.1 bt478.2).bind fun t482 => (if t482 = true then (some true) else (some false)))) = some r:=by rw [if_neg (show ¬ (false = true) by decide)] at H; exact H
   clear H;have H:=H1;clear H1;replace H:=Option.bind_eq_some_iff.mp H;obtain ⟨⟨t478,t479⟩,A300,H⟩:=H;replace H : ((laws_eqNet.f kj12 t471 t472 t478 t479).bind fun t482 => (if t482 = true then (some true) else (some false))) = some r:=H;have A30:=Z A300;clear A300;replace H:=Option.bind_eq_some_iff.mp H;obtain ⟨t482,A310,H⟩:=H;replace H : (if t482 = true then (some true) else (some false)) = some r:=H;have A31:=Z A310;clear A310
   by_cases c32 : t482 = true
   case pos =>
    subst c32;have H1 : (some true) = some r:=by rw [if_pos rfl] at H; exact H
    clear H;have H:=H1;clear H1;obtain rfl:=Option.some.inj H
    try go_wp2
    have n0_:=Z (Kd.R_drew p1.out);have n1_:=Z (blk_drew p0.out);have n2_:=Z (blk_drew p3.out);have n3_:=Z (below_drew1 HB.out);clear p1;clear p0;clear p3;clear HB;have p1:=n0_;have p0:=n1_;have p3:=n2_;have HB:=n3_;clear n0_ n1_ n2_ n3_;refine start_ (n:=5) (S:=fun w' => w'.cell? ⟨p5,0,none⟩ = some (.int .i64 t471) ∧ w'.cell? ⟨p5,1,none⟩ = some (.slice Ao26 t472.length co26) ∧ w'.cell? ⟨p4,0,none⟩ = some (.int .i64 a0_0) ∧ w'.cell? ⟨p4,1,none⟩ = some (.slice A0_1 l0_1.length c0_1)) (ds:=[]) #[false,false,false,false,false] (by kernel_rfl) rfl rfl ⟨(blk_cell p3.out 0).trans rfl,(blk_cell p3.out 1).trans rfl,(blk_cell p0.out 0).trans rfl,(blk_cell p0.out 1).trans rfl⟩ (fun hHeld => ?_);generalize wc.drew = w33 at p1 p0 p3 HB hHeld ⊢;refine take_ (i:=0) (N:=some 43) (v:=?_) (a':=?_) #[true,false,false,false,false] rfl rfl (by kernel_rfl) (fun _ _ _ h => h) (Or.inl ⟨by rfl,?_⟩) hHeld ?_ ?_;rotate_left
    ·rintro w' ⟨s0,s1,s2,s3⟩;go_simp;with_reducible rfl
    rotate_left
    ·simp only [Act.put,J,U,V,i64_w,i32_w];rfl
    refine take_ (i:=1) (N:=some 44) (v:=?_) (a':=?_) #[true,true,false,false,false] rfl rfl (by kernel_rfl) (fun _ _ _ h => h) (Or.inl ⟨by rfl,?_⟩) hHeld ?_ ?_;rotate_left
    ·rintro w' ⟨s0,s1,s2,s3⟩;go_simp;with_reducible rfl
    rotate_left
    ·simp only [Act.put,J,U,V,i64_w,i32_w];rfl
    refine one_ (i:=2) (N:=some 45) #[true,true,true,false,false] rfl rfl (by kernel_rfl) (by decide) (fun K hK => ?_);refine goes_ Try.func21 (by kernel_rfl) rfl #[.agg #[.int .i64 a0_0,.slice A0_1 l0_1.length c0_1]] (by rfl) rfl rfl (by (try simp only [List.map_toArray,List.map_cons,List.map_nil]); first | done | rfl | (simp only [List.length_drop,List.length_take]; rfl)) ?_;with_reducible refine (laws_toNet.calls kj12 a0_0 _ _ l0_1 t478 t479 _ ?side1 ?side2 A30.out).mono ?_
    (case side1 => repeat (first | exact (Kd.C_below p8.out HB.out) | (with_reducible refine Kd.C_alloc ?_ _) | (with_reducible refine Kd.C_drewN ?_ _) | (with_reducible refine Kd.C_drew ?_)))
    (case side2 => exact p9.out)
    rintro e w34 ⟨v480,rfl,ho0,hb⟩;refine ⟨_,rfl,?_⟩;have n0_:=Z (Kd.R_elder' p1.out (Kd.R_base ho0) hb);have n1_:=Z (Kd.R_lower (Kd.R_new' ho0 (Kd.R_lt p1.out)) (below_size HB.out));have n2_:=Z (blk_below (g:=p4) (o:=.cells #[.int .i64 a0_0,.slice A0_1 l0_1.length c0_1] 38 (0,0)) p0.out hb);have n3_:=Z (blk_below (g:=p5) (o:=.cells #[.int .i64 t471,.slice Ao26 t472.length co26] 25 (0,0)) p3.out hb);have n4_:=Z (below_step HB.out hb);clear p1;clear p0;clear p3;clear HB;have p1:=n0_;have HO481:=n1_;have p0:=n2_;have p3:=n3_;have HB:=n4_;clear n0_ n1_ n2_ n3_ n4_
    (try clear hb)
    (try clear hb2)
    (try clear hk)
    (try clear hi)
    (try clear ho0)
    obtain ⟨Ao35,co35,eo35⟩:=Kd.R_slice HO481.out
    (first | subst eo35 | (injection eo35 with f1_ f2_ f3_; have f4_:=f1_.symm; have f5_:=f3_.symm; clear f1_ f2_ f3_; subst f4_; subst f5_))
    refine hK.out _ _ ⟨(blk_cell p3.out 0).trans rfl,(blk_cell p3.out 1).trans rfl,(blk_cell p0.out 0).trans rfl,(blk_cell p0.out 1).trans rfl⟩ (fun hHeld => ?_);clear hK K;refine norm_ (a':=?_) ?_ ?_;rotate_left
    ·show Act.put _ (some 45) _ = _
     simp only [Act.put,J,U,V,i64_w,i32_w];rfl
    refine one_ (i:=3) (N:=some 46) #[true,true,true,true,false] rfl rfl (by kernel_rfl) (by decide) (fun K hK => ?_);refine goes_ Try.func23 (by kernel_rfl) rfl #[.agg #[.int .i64 t471,.slice Ao26 t472.length co26],.agg #[.int .i64 t478,.slice Ao35 t479.length co35]] (by rfl) rfl rfl (by (try simp only [List.map_toArray,List.map_cons,List.map_nil]); first | done | rfl | (simp only [List.length_drop,List.length_take]; rfl)) ?_;with_reducible refine (laws_eqNet.calls kj12 t471 _ _ t472 t478 _ _ t479 true _ ?side1 ?side2 ?side3 ?side4 A31.out).mono ?_
    (case side1 => repeat (first | exact (Kd.R_reads' p1.out).2.2 | (with_reducible refine Kd.C_alloc ?_ _) | (with_reducible refine Kd.C_drewN ?_ _) | (with_reducible refine Kd.C_drew ?_)))
    (case side2 => exact (Kd.R_reads' p1.out).2.1)
    (case side3 => repeat (first | exact (Kd.R_reads' HO481.out).2.2 | (with_reducible refine Kd.C_alloc ?_ _) | (with_reducible refine Kd.C_drewN ?_ _) | (with_reducible refine Kd.C_drew ?_)))
    (case side4 => exact (Kd.R_reads' HO481.out).2.1)
    rintro e w36 ⟨rfl,hb⟩;refine ⟨_,rfl,?_⟩;have n0_:=Z (Kd.R_below p1.out hb);have n1_:=Z (Kd.R_below HO481.out hb);have n2_:=Z (blk_below (g:=p4) (o:=.cells #[.int .i64 a0_0,.slice A0_1 l0_1.length c0_1] 38 (0,0)) p0.out hb);have n3_:=Z (blk_below (g:=p5) (o:=.cells #[.int .i64 t471,.slice Ao26 t472.length co26] 25 (0,0)) p3.out hb);have n4_:=Z (below_step HB.out hb);clear p1;clear HO481;clear p0;clear p3;clear HB;have p1:=n0_;have HO481:=n1_;have p0:=n2_;have p3:=n3_;have HB:=n4_;clear n0_ n1_ n2_ n3_ n4_
    (try clear hb)
    (try clear hb2)
    (try clear hk)
    (try clear hi)
    refine hK.out _ _ ⟨(blk_cell p3.out 0).trans rfl,(blk_cell p3.out 1).trans rfl,(blk_cell p0.out 0).trans rfl,(blk_cell p0.out 1).trans rfl⟩ (fun hHeld => ?_);clear hK K;refine norm_ (a':=?_) ?_ ?_;rotate_left
    ·show Act.put _ (some 46) _ = _
     simp only [Act.put,J,U,V,i64_w,i32_w];rfl
    refine pure_ (i:=4) (N:=some 47) (v:=?_) (a':=?_) #[true,true,true,true,true] rfl rfl (by kernel_rfl) (fun _ _ _ h => h) (Or.inl ⟨by rfl,?_⟩) ?_ ?_;rotate_left
    ·intro w';go_simp;with_reducible rfl
    rotate_left
    ·simp only [Act.put,J,U,V,i64_w,i32_w];rfl
    refine done_ (by kernel_rfl) ?_
    try go_wp2
    go_ret;exact ⟨by first | rfl | (simp [errW_none,errW_some] <;> rfl) | (simp [*,errW_none,errW_some] <;> rfl),by repeat (first | (with_reducible first | exact HB.out | apply below_alloc | apply pw_below_drewN | apply below_drew1 | refine below_set ?_ p7.out | refine below_set ?_ q0.out) | exact HB.out)⟩
   replace c32:=Bool.eq_false_iff.mpr c32;subst c32;have H1 : (some false) = some r:=by rw [if_neg (show ¬ (false = true) by decide)] at H; exact H
   clear H;have H:=H1;clear H1;obtain rfl:=Option.some.inj H
   try go_wp2
   have n0_:=Z (Kd.R_drew p1.out);have n1_:=Z (blk_drew p0.out);have n2_:=Z (blk_drew p3.out);have n3_:=Z (below_drew1 HB.out);clear p1;clear p0;clear p3;clear HB;have p1:=n0_;have p0:=n1_;have p3:=n2_;have HB:=n3_;clear n0_ n1_ n2_ n3_;refine start_ (n:=5) (S:=fun w' => w'.cell? ⟨p5,0,none⟩ = some (.int .i64 t471) ∧ w'.cell? ⟨p5,1,none⟩ = some (.slice Ao26 t472.length co26) ∧ w'.cell? ⟨p4,0,none⟩ = some (.int .i64 a0_0) ∧ w'.cell? ⟨p4,1,none⟩ = some (.slice A0_1 l0_1.length c0_1)) (ds:=[]) #[false,false,false,false,false] (by kernel_rfl) rfl rfl ⟨(blk_cell p3.out 0).trans rfl,(blk_cell p3.out 1).trans rfl,(blk_cell p0.out 0).trans rfl,(blk_cell p0.out 1).trans rfl⟩ (fun hHeld => ?_);generalize wc.drew = w37 at p1 p0 p3 HB hHeld ⊢;refine take_ (i:=0) (N:=some 43) (v:=?_) (a':=?_) #[true,false,false,false,false] rfl rfl (by kernel_rfl) (fun _ _ _ h => h) (Or.inl ⟨by rfl,?_⟩) hHeld ?_ ?_;rotate_left
   ·rintro w' ⟨s0,s1,s2,s3⟩;go_simp;with_reducible rfl
   rotate_left
   ·simp only [Act.put,J,U,V,i64_w,i32_w];rfl
   refine take_ (i:=1) (N:=some 44) (v:=?_) (a':=?_) #[true,true,false,false,false] rfl rfl (by kernel_rfl) (fun _ _ _ h => h) (Or.inl ⟨by rfl,?_⟩) hHeld ?_ ?_;rotate_left
   ·rintro w' ⟨s0,s1,s2,s3⟩;go_simp;with_reducible rfl
   rotate_left
   ·simp only [Act.put,J,U,V,i64_w,i32_w];rfl
   refine one_ (i:=2) (N:=some 45) #[true,true,true,false,false] rfl rfl (by kernel_rfl) (by decide) (fun K hK => ?_);refine goes_ Try.func21 (by kernel_rfl) rfl #[.agg #[.int .i64 a0_0,.slice A0_1 l0_1.length c0_1]] (by rfl) rfl rfl (by (try simp only [List.map_toArray,List.map_cons,List.map_nil]); first | done | rfl | (simp only [List.length_drop,List.length_take]; rfl)) ?_;with_reducible refine (laws_toNet.calls kj12 a0_0 _ _ l0_1 t478 t479 _ ?side1 ?side2 A30.out).mono ?_
   (case side1 => repeat (first | exact (Kd.C_below p8.out HB.out) | (with_reducible refine Kd.C_alloc ?_ _) | (with_reducible refine Kd.C_drewN ?_ _) | (with_reducible refine Kd.C_drew ?_)))
   (case side2 => exact p9.out)
   rintro e w38 ⟨v480,rfl,ho0,hb⟩;refine ⟨_,rfl,?_⟩;have n0_:=Z (Kd.R_elder' p1.out (Kd.R_base ho0) hb);have n1_:=Z (Kd.R_lower (Kd.R_new' ho0 (Kd.R_lt p1.out)) (below_size HB.out));have n2_:=Z (blk_below (g:=p4) (o:=.cells #[.int .i64 a0_0,.slice A0_1 l0_1.length c0_1] 38 (0,0)) p0.out hb);have n3_:=Z (blk_below (g:=p5) (o:=.cells #[.int .i64 t471,.slice Ao26 t472.length co26] 25 (0,0)) p3.out hb);have n4_:=Z (below_step HB.out hb);clear p1;clear p0;clear p3;clear HB;have p1:=n0_;have HO481:=n1_;have p0:=n2_;have p3:=n3_;have HB:=n4_;clear n0_ n1_ n2_ n3_ n4_
   (try clear hb)
   (try clear hb2)
   (try clear hk)
   (try clear hi)
   (try clear ho0)
   obtain ⟨Ao39,co39,eo39⟩:=Kd.R_slice HO481.out
   (first | subst eo39 | (injection eo39 with f1_ f2_ f3_; have f4_:=f1_.symm; have f5_:=f3_.symm; clear f1_ f2_ f3_; subst f4_; subst f5_))
   refine hK.out _ _ ⟨(blk_cell p3.out 0).trans rfl,(blk_cell p3.out 1).trans rfl,(blk_cell p0.out 0).trans rfl,(blk_cell p0.out 1).trans rfl⟩ (fun hHeld => ?_);clear hK K;refine norm_ (a':=?_) ?_ ?_;rotate_left
   ·show Act.put _ (some 45) _ = _
    simp only [Act.put,J,U,V,i64_w,i32_w];rfl
   refine one_ (i:=3) (N:=some 46) #[true,true,true,true,false] rfl rfl (by kernel_rfl) (by decide) (fun K hK => ?_);refine goes_ Try.func23 (by kernel_rfl) rfl #[.agg #[.int .i64 t471,.slice Ao26 t472.length co26],.agg #[.int .i64 t478,.slice Ao39 t479.length co39]] (by rfl) rfl rfl (by (try simp only [List.map_toArray,List.map_cons,List.map_nil]); first | done | rfl | (simp only [List.length_drop,List.length_take]; rfl)) ?_;with_reducible refine (laws_eqNet.calls kj12 t471 _ _ t472 t478 _ _ t479 false _ ?side1 ?side2 ?side3 ?side4 A31.out).mono ?_
   (case side1 => repeat (first | exact (Kd.R_reads' p1.out).2.2 | (with_reducible refine Kd.C_alloc ?_ _) | (with_reducible refine Kd.C_drewN ?_ _) | (with_reducible refine Kd.C_drew ?_)))
   (case side2 => exact (Kd.R_reads' p1.out).2.1)
   (case side3 => repeat (first | exact (Kd.R_reads' HO481.out).2.2 | (with_reducible refine Kd.C_alloc ?_ _) | (with_reducible refine Kd.C_drewN ?_ _) | (with_reducible refine Kd.C_drew ?_)))
   (case side4 => exact (Kd.R_reads' HO481.out).2.1)
   rintro e w40 ⟨rfl,hb⟩;refine ⟨_,rfl,?_⟩;have n0_:=Z (Kd.R_below p1.out hb);have n1_:=Z (Kd.R_below HO481.out hb);have n2_:=Z (blk_below (g:=p4) (o:=.cells #[.int .i64 a0_0,.slice A0_1 l0_1.length c0_1] 38 (0,0)) p0.out hb);have n3_:=Z (blk_below (g:=p5) (o:=.cells #[.int .i64 t471,.slice Ao26 t472.length co26] 25 (0,0)) p3.out hb);have n4_:=Z (below_step HB.out hb);clear p1;clear HO481;clear p0;clear p3;clear HB;have p1:=n0_;have HO481:=n1_;have p0:=n2_;have p3:=n3_;have HB:=n4_;clear n0_ n1_ n2_ n3_ n4_
   (try clear hb)
   (try clear hb2)
   (try clear hk)
   (try clear hi)
   refine hK.out _ _ ⟨(blk_cell p3.out 0).trans rfl,(blk_cell p3.out 1).trans rfl,(blk_cell p0.out 0).trans rfl,(blk_cell p0.out 1).trans rfl⟩ (fun hHeld => ?_);clear hK K;refine norm_ (a':=?_) ?_ ?_;rotate_left
   ·show Act.put _ (some 46) _ = _
    simp only [Act.put,J,U,V,i64_w,i32_w];rfl
   refine pure_ (i:=4) (N:=some 47) (v:=?_) (a':=?_) #[true,true,true,true,true] rfl rfl (by kernel_rfl) (fun _ _ _ h => h) (Or.inl ⟨by rfl,?_⟩) ?_ ?_;rotate_left
   ·intro w';go_simp;with_reducible rfl
   rotate_left
   ·simp only [Act.put,J,U,V,i64_w,i32_w];rfl
   refine done_ (by kernel_rfl) ?_
   try go_wp2
   go_ret;exact ⟨by first | rfl | (simp [errW_none,errW_some] <;> rfl) | (simp [*,errW_none,errW_some] <;> rfl),by repeat (first | (with_reducible first | exact HB.out | apply below_alloc | apply pw_below_drewN | apply below_drew1 | refine below_set ?_ p7.out | refine below_set ?_ q0.out) | exact HB.out)⟩
end Go.Proofs.Ytljdcinpjnijcaa.Pr
end
section
set_option linter.unusedVariables false
namespace Go.Proofs.YtljdcinpjnijcaaW.PrintWords
open Go.RowKit Go.ChangeShapes Go.WideShapes
def Opens (P : Program) {α : Type} (d : Kd α) (t : TypeId) (wf : α → Prop) : Prop :=
 ∀ {H : Type} {enc : TypeId × Value → H} {w : World} {sp : Nat → Bool} {held : Bool} {fuel : Nat} {cs : List Value} {x : DataW H × List MemPlace},DataW.trod enc P w 0 sp held fuel t cs = some x → ∃ a,d.K w a cs ∧ wf a
def OpensF (P : Program) {α : Type} (d : Kd α) (fs : List Field) (off tot : Nat) (wf : α → Prop) : Prop :=
 ∀ {H : Type} {enc : TypeId × Value → H} {w : World} {sp : Nat → Bool} {held : Bool} {fuel : Nat} {cs : List Value},cs.length = tot → (∀ f ∈ fs,∃ y,DataW.trod enc P w 0 sp held fuel f.type ((cs.drop f.offset).take (P.cellsOf f.type)) = some y) → ∃ a,d.K w a (cs.drop off) ∧ wf a
section
variable {P : Program} {α β : Type}
def I64 (n : Int) : Prop:=-9223372036854775808 ≤ n ∧ n ≤ 9223372036854775807
theorem I64_of {n : Int} (h : (Lit.int .i64 n).wf = true) : I64 n:=by
 simp only [Lit.wf,Bool.and_eq_true,decide_eq_true_eq] at h;have h1 : IntKind.i64.min = -9223372036854775808:=rfl;have h2 : IntKind.i64.max = 9223372036854775807:=rfl
 unfold I64
 omega
theorem opens_i64 {t : TypeId} (ht : P.underlying t = some (.int .i64)) : Opens P (Kd.int .i64) t I64:=by
 intro H enc w sp held fuel cs x h;obtain ⟨n,rfl,_,hw⟩:=DataW.trod_int ht h;exact ⟨n,rfl,I64_of hw⟩
theorem addr_add_add (a : Addr) (i j : Nat) : (a.add i).add j = a.add (i + j):=by
 unfold Addr.add
 by_cases hi : i = 0 <;> by_cases hj : j = 0 <;> simp [hi,hj,Nat.add_assoc]
theorem opens_slice [Inhabited α] {d : Kd α} {t e : TypeId} {wf : α → Prop} (ht : P.underlying t = some (.slice e)) (hc : P.cellsOf e = d.sz) (he : Opens P d e wf) : Opens P (Kd.slice e d) t (fun l => l.length ≤ maxLen ∧ ∀ x ∈ l,wf x):=by
 intro H enc w sp held fuel cs x h
 rcases Deep.open_slice ht h with ⟨rfl,_⟩ | ⟨a,len,cap,m,n,D,Pl,rfl,_,hl,hm,hmm,_,hel⟩
 ·exact ⟨[],⟨none,0,rfl,Nat.le_refl _,Kd.C_nil d w⟩,by simp,by simp⟩
 ·have hlm : len ≤ m:=by rw [hmm]; split <;> omega
  have hx : ∀ i,i < len → ∃ y : α,(∃ c,c.length = d.sz ∧ d.K w y c ∧ ∀ j u,c[j]? = some u → w.cell? (a.add (i * d.sz + j)) = some u) ∧ wf y:=by
   intro i hi;obtain ⟨cs',hcs,htr⟩:=hel i (by omega);obtain ⟨y,hk,hw⟩:=he htr;obtain ⟨_,hlen,hcell⟩:=World.cells?_some hcs;refine ⟨y,⟨cs',d.K_len hk,hk,fun j u hu => ?_⟩,hw⟩;have hj : j < P.cellsOf e:=by
    have:=(List.getElem?_eq_some_iff.1 hu).1;omega
   have:=hcell j hj;rw [addr_add_add,hc,hu] at this;exact this
  obtain ⟨f,hf⟩:=Deep.choose_lt hx;refine ⟨(List.range len).map f,⟨some a,cap,by simp,by simpa using hl,by simp,by simp only [maxLen] at hm; simp; omega,fun _ => ⟨a,rfl,fun j p hj => ?_⟩⟩,by simp; omega,fun y hy => ?_⟩
  ·obtain ⟨hj1,hj2⟩:=List.getElem?_eq_some_iff.1 hj;simp at hj1 hj2;subst hj2;exact (hf j hj1).1
  ·simp only [List.mem_map,List.mem_range] at hy;obtain ⟨i,hi,rfl⟩:=hy;exact (hf i hi).2
theorem opensF_last {d : Kd α} {f : Field} {off tot : Nat} {wf : α → Prop} (ho : f.offset = off) (hn : off + P.cellsOf f.type = tot) (h : Opens P d f.type wf) : OpensF P d [f] off tot wf:=by
 intro H enc w sp held fuel cs hl hf;obtain ⟨y,hy⟩:=hf f (by simp);obtain ⟨a,hk,hw⟩:=h hy;refine ⟨a,?_,hw⟩
 rwa [ho,List.take_of_length_le (by rw [List.length_drop]; omega)] at hk
theorem opensF_cons {d : Kd α} {d' : Kd β} {f : Field} {fs : List Field} {off tot : Nat} {wf : α → Prop} {wf' : β → Prop} (ho : f.offset = off) (h : Opens P d f.type wf) (h' : OpensF P d' fs (off + P.cellsOf f.type) tot wf') :
  OpensF P (Kd.pair d d') (f :: fs) off tot (fun x => wf x.1 ∧ wf' x.2):=by
 intro H enc w sp held fuel cs hl hf;obtain ⟨y,hy⟩:=hf f (by simp);obtain ⟨a,hk,hw⟩:=h hy;obtain ⟨b,hk',hw'⟩:=h' hl (fun g hg => hf g (by simp [hg]));refine ⟨(a,b),⟨_,_,?_,hk,hk'⟩,hw,hw'⟩;rw [ho,← List.drop_drop,List.take_append_drop]
theorem opens_struct {d : Kd α} {t : TypeId} {fs : Array Field} {wf : α → Prop} (ht : P.underlying t = some (.struct fs)) (h : OpensF P d fs.toList 0 (P.cellsOf t) wf) : Opens P d t wf:=by
 intro H enc w sp held fuel cs x hx;obtain ⟨xs,n,_,_,hl,hlen,hf⟩:=DataW.trod_struct ht hx;obtain ⟨a,hk,hw⟩:=h hl (fun f hfm => by
  obtain ⟨i,hi,rfl⟩:=List.getElem_of_mem hfm;have hi' : i < fs.size:=by simpa using hi
  have h1:=hf i fs[i] (Array.getElem?_eq_getElem hi');rw [List.getElem?_eq_getElem (by omega)] at h1;exact ⟨_,by simpa using h1⟩)
 exact ⟨a,by simpa using hk,hw⟩
theorem opens_iso {d : Kd α} {t : TypeId} {wf : α → Prop} (f : β → α) (g : α → β) (hfg : ∀ a,f (g a) = a) (h : Opens P d t wf) : Opens P (Kd.iso d f) t (fun b => wf (f b)):=by
 intro H enc w sp held fuel cs x hx;obtain ⟨a,hk,hw⟩:=h hx;exact ⟨g a,by show d.K w (f (g a)) cs; rw [hfg]; exact hk,by show wf (f (g a)); rw [hfg]; exact hw⟩
end
end Go.Proofs.YtljdcinpjnijcaaW.PrintWords
end
section
namespace Go.Proofs.Ytljdcinpjnijcaa.Pr
open Go.RowKit Go.Proofs.YtljdcinpjnijcaaW.PrintWords Go.Proofs.YtljdcinpjnijcaaW.PrintLast Go.Proofs.YtljdcinpjnijcaaW.PrintMore
open List renaming setIfInBounds_toArray → J,set_cons_zero → U,set_cons_succ → V
open Go.Proofs.YtljdcinpjnijcaaW.PrintWords.Aside0 renaming mk → Z
def laws_FnExactBothNear.Asked : Prop:=∀ (a0_0 : Int) (l0_1 : List (S112)) (a1 : Int) (a2 : Int),I64 a0_0 → (l0_1.length ≤ maxLen ∧ ∀ x_ ∈ l0_1,(I64 x_.f0 ∧ I64 x_.f1 ∧ I64 x_.f2 ∧ I64 x_.f3 ∧ I64 x_.f4)) → I64 a1 → I64 a2 → ∃ k,laws_FnExactBothNear.f k a0_0 l0_1 a1 a2 = some true
end Go.Proofs.Ytljdcinpjnijcaa.Pr
end
section
set_option linter.unusedVariables false
namespace Go.Proofs.YtljdcinpjnijcaaW.PrintWords
open Go.RowKit
section
variable {α β : Type}
theorem Ev.pos {c : Prop} [Decidable c] {t e : Nat → Option α} {r : α} (h : c) (k : Ev t r) : Ev (fun n => if c then t n else e n) r:=by
 simp only [if_pos h]; exact k
theorem Ev.neg {c : Prop} [Decidable c] {t e : Nat → Option α} {r : α} (h : ¬ c) (k : Ev e r) : Ev (fun n => if c then t n else e n) r:=by
 simp only [if_neg h]; exact k
theorem Ev.bind0 {g : Option α} {f : Nat → α → Option β} {a : α} {r : β} (h : g = some a) (k : Ev (fun n => f n a) r) : Ev (fun n => g.bind (f n)) r:=by
 subst h; exact k
theorem Ev.is {a r : α} (h : a = r) : Ev (fun _ => some a) r:=by subst h; exact Ev.now _
theorem Ev.cast {g : Nat → Option α} {a r : α} (k : Ev g a) (h : a = r) : Ev g r:=h ▸ k
theorem Ev.go {g f : Nat → Option α} {r : α} (k : Ev f r) (h : ∀ k,g (k + 1) = f k) : Ev g r:=Ev.step h k
end
theorem w64 {n : Int} (h : -9223372036854775808 ≤ n) (h' : n ≤ 9223372036854775807) : wrap64 n = n:=by unfold wrap64; omega
theorem rd_nat {l : List Int} {i : Nat} (h : i < l.length) : rd l (i : Int) = l[i]:=by simp [rd,h]
end Go.Proofs.YtljdcinpjnijcaaW.PrintWords
end
section
set_option linter.unusedSimpArgs false
set_option linter.unusedVariables false
namespace Go.Proofs.Ytljdcinpjnijcaa.Pure
open Go.RowKit Go.Proofs.Ytljdcinpjnijcaa.Pr Go.Proofs.YtljdcinpjnijcaaW.PrintWords Go.Proofs.YtljdcinpjnijcaaW.PrintLast Go.Proofs.YtljdcinpjnijcaaW.PrintMore
def inB (x a b : Int) : Bool:=decide (a ≤ x) && decide (x ≤ b)
theorem inB_iff {x a b : Int} : inB x a b = true ↔ a ≤ x ∧ x ≤ b:=by simp [inB]
theorem in1 (x a b : Int) : spec_l1In.f x a b = some (inB x a b):=by
 unfold spec_l1In.f inB
 by_cases h : x ≥ a
 case pos => rw [if_pos h]; simp [show a ≤ x from h]
 rw [if_neg h]; simp [show ¬ a ≤ x from h]
theorem up1 {i n : Nat} (h : i < n) (hn : n ≤ maxLen) : wrap64 ((i : Int) + 1) = ((i + 1 : Nat) : Int):=by
 simp only [maxLen] at hn;rw [w64 (by omega) (by omega)]; omega
theorem rdn {l : List Int} {i : Nat} (h : i < l.length) : rd l (i : Int) = l[i]:=rd_nat h
def nth (l : List Int) (i : Nat) : Int:=l.getD i 0
theorem nth_get {l : List Int} {i : Nat} (h : i < l.length) : nth l i = l[i]:=by simp [nth,h]
theorem drop_cons {α : Type} {l : List α} {i : Nat} (h : i < l.length) : l.drop i = l[i] :: l.drop (i + 1):=List.drop_eq_getElem_cons h
end Go.Proofs.Ytljdcinpjnijcaa.Pure
end
section
set_option linter.unusedSimpArgs false
set_option linter.unusedVariables false
namespace Go.Proofs.Ytljdcinpjnijcaa.Pure
open Go.RowKit Go.Proofs.Ytljdcinpjnijcaa.Pr Go.Proofs.YtljdcinpjnijcaaW.PrintWords Go.Proofs.YtljdcinpjnijcaaW.PrintLast Go.Proofs.YtljdcinpjnijcaaW.PrintMore
section
variable {t e : Nat → Option Bool} {r : Bool}
theorem Ev.and {b : Bool} (k : Ev t r) : Ev (fun n => if b = true then t n else some false) (b && r):=by
 cases b with
 | false => exact Ev.neg (by simp) (Ev.now _)
 | true => exact Ev.pos rfl k
theorem Ev.nand {c : Prop} [Decidable c] (k : Ev t r) : Ev (fun n => if c then some false else t n) (!decide c && r):=by
 by_cases h : c
 case pos => exact Ev.pos h (Ev.is (by simp [h]))
 exact Ev.neg h (k.cast (by simp [h]))
end
abbrev Arc:=S34
def arc (l : List Arc) (i : Nat) : Arc:=rd_T34 l (i : Int)
theorem rda (l : List Arc) (i : Nat) : rd_T34 l (i : Int) = arc l i:=rfl
theorem arc_get {l : List Arc} {i : Nat} (h : i < l.length) : arc l i = l[i]:=by simp [arc,rd_T34,h]
theorem arc_mem {l : List Arc} {i : Nat} (h : i < l.length) : arc l i ∈ l:=by
 rw [arc_get h];exact List.getElem_mem h
attribute [irreducible] arc
def okArcW (n : Int) (a : Arc) : Bool:=inB a.f0 0 (wrap64 (n - 1)) && (inB a.f1 0 (wrap64 (n - 1)) && (!decide (a.f0 = a.f1) && (inB a.f2 0 99 && (inB a.f3 0 99 && inB a.f4 0 9))))
theorem l1Ok_l (n : Int) (l : List Arc) (hm : l.length ≤ maxLen) : ∀ (m i : Nat),l.length - i = m → i ≤ l.length → Ev (fun k => spec_l1Ok.l0 k (i : Int) n l) ((l.drop i).all (okArcW n) && (inB n 1 8 && decide ((l.length : Int) ≤ 16))):=by
 intro m
 induction m with
 | zero =>
  intro i hd hi;refine Ev.go ?_ (fun k => by rw [spec_l1Ok.l0]);refine Ev.neg (by omega) (Ev.bind0 (in1 _ _ _) ?_);rw [List.drop_of_length_le (by omega)];exact (Ev.and (Ev.now _)).cast (by simp)
 | succ m ih =>
  intro i hd hi;have hlt : i < l.length:=by omega
  refine Ev.go ?_ (fun k => by rw [spec_l1Ok.l0]);rw [drop_cons hlt,← arc_get hlt,List.all_cons,rda,up1 hlt hm];refine Ev.pos (by omega) (Ev.pos (by omega) ?_);refine Ev.cast (Ev.bind0 (in1 _ _ _) (Ev.and (Ev.bind0 (in1 _ _ _) (Ev.and (Ev.nand (Ev.bind0 (in1 _ _ _) (Ev.and (Ev.bind0 (in1 _ _ _) (Ev.and (Ev.bind0 (in1 _ _ _) (Ev.and (ih (i + 1) (by omega) (by omega))))))))))))) ?_;simp only [okArcW,Bool.and_assoc]
theorem okArcW_okArc {n : Int} (h : 1 ≤ n) (h8 : n ≤ 8) (a : Arc) : okArcW n a = okArc n a:=by
 unfold okArcW okArc inB okN okC
 rw [w64 (by omega) (by omega)];have e : (a.f4 ≤ 9) ↔ (a.f4 ≤ 10 - 1):=by omega
 have e2 : (a.f0 == a.f1) = decide (a.f0 = a.f1):=by
  by_cases c : a.f0 = a.f1 <;> simp [c]
 rw [e2];simp only [Bool.and_assoc,e]
theorem l1Ok_ev (n : Int) (l : List Arc) (hm : l.length ≤ maxLen) : Ev (fun k => spec_l1Ok.f k n l) (netOkB n l):=by
 unfold spec_l1Ok.f
 refine (l1Ok_l n l hm _ 0 rfl (by omega)).cast ?_
 unfold netOkB
 rw [List.drop_zero]
 by_cases h : 1 ≤ n ∧ n ≤ 8
 case pos =>
  have e : l.all (okArcW n) = l.all (okArc n):=by
   congr 1
   funext a
   exact okArcW_okArc h.1 h.2 a
  rw [e,show inB n 1 8 = true from inB_iff.2 h];simp [h.1,h.2,Bool.and_comm]
 have e : inB n 1 8 = false:=by
  cases c : inB n 1 8 with
  | false => rfl
  | true => exact absurd (inB_iff.1 c) h
 rw [e];have e2 : (decide (1 ≤ n) && decide (n ≤ 8)) = false:=e;simp only [e2,Bool.false_and,Bool.and_false]
structure NetGood (n : Int) (l : List Arc) : Prop where
 n1 : 1 ≤ n
 n8 : n ≤ 8
 len : l.length ≤ 16
 ok : ∀ i,i < l.length → (0 ≤ (arc l i).f0 ∧ (arc l i).f0 < n) ∧ (0 ≤ (arc l i).f1 ∧ (arc l i).f1 < n) ∧ (arc l i).f0 ≠ (arc l i).f1 ∧ (0 ≤ (arc l i).f2 ∧ (arc l i).f2 ≤ 99) ∧ (0 ≤ (arc l i).f3 ∧ (arc l i).f3 ≤ 99) ∧ (0 ≤ (arc l i).f4 ∧ (arc l i).f4 ≤ 9)
theorem okArc_iff (n : Int) (a : Arc) : okArc n a = true ↔ (0 ≤ a.f0 ∧ a.f0 < n) ∧ (0 ≤ a.f1 ∧ a.f1 < n) ∧ a.f0 ≠ a.f1 ∧ (0 ≤ a.f2 ∧ a.f2 ≤ 99) ∧ (0 ≤ a.f3 ∧ a.f3 ≤ 99) ∧ (0 ≤ a.f4 ∧ a.f4 ≤ 9):=by
 simp only [okArc,okN,okC,Bool.and_eq_true,decide_eq_true_eq,Bool.not_eq_true',beq_eq_false_iff_ne];constructor
 ·rintro ⟨⟨⟨⟨⟨⟨a1,a2⟩,a3,a4⟩,a5⟩,a6⟩,a7⟩,a8,a9⟩;exact ⟨⟨a1,by omega⟩,⟨a3,by omega⟩,a5,a6,a7,a8,by omega⟩
 ·rintro ⟨⟨a1,a2⟩,⟨a3,a4⟩,a5,a6,a7,a8,a9⟩;exact ⟨⟨⟨⟨⟨⟨a1,by omega⟩,a3,by omega⟩,a5⟩,a6⟩,a7⟩,a8,by omega⟩
theorem netOkB_iff (n : Int) (l : List Arc) : netOkB n l = true ↔ NetGood n l:=by
 simp only [netOkB,Bool.and_eq_true,decide_eq_true_eq,List.all_eq_true];constructor
 ·rintro ⟨⟨⟨h1,h2⟩,h3⟩,h4⟩;exact ⟨h1,h2,by omega,fun i hi => (okArc_iff n _).1 (h4 _ (arc_mem hi))⟩
 ·rintro ⟨h1,h2,h3,h4⟩;refine ⟨⟨⟨h1,h2⟩,by omega⟩,fun a ha => ?_⟩;obtain ⟨i,hi,rfl⟩:=List.getElem_of_mem ha;rw [← arc_get hi];exact (okArc_iff n _).2 (h4 i hi)
theorem hasOf {n : Int} {l : List Arc} (h : NetGood n l) (v : List Int) : impl_Net_has.f n l v = some (v.all (okN n)):=by
 have:=h.n1;have:=h.n8
 unfold impl_Net_has.f
 rw [if_pos (by omega),if_pos (by omega)]
theorem nodesIn_eq (n : Int) (l : List Arc) (v : List Int) : impl_nodesIn.f n l v = some (netOkB n l && v.all (okN n)):=by
 unfold impl_nodesIn.f
 rw [show impl_NetOk.f n l = some (netOkB n l) from rfl,Option.bind_some];cases h : netOkB n l with
 | false => rfl
 | true => rw [if_pos rfl,hasOf ((netOkB_iff n l).1 h),Option.bind_some,Bool.true_and]
theorem szNet_eq (n : Int) (l : List S112) (a : Int) (ha : -1 ≤ a) (ha' : a ≤ 1048576) (hm : l.length ≤ maxLen) : laws_szNet.f n l a = some (if a - (l.length : Int) < 0 then -1 else a - (l.length : Int)):=by
 simp only [maxLen] at hm
 unfold laws_szNet.f laws_szArcS.f
 rw [w64 (by omega) (by omega)]
 by_cases c : a - (l.length : Int) < 0
 case neg => rw [if_neg c,if_neg c,Option.bind_some,if_neg c]
 rw [if_pos c,if_pos c,Option.bind_some,if_pos (by omega)]
def toA (a : S112) : Arc:=⟨a.f0,a.f1,a.f2,a.f3,a.f4⟩
theorem toArcS_l (l : List S112) (hm : l.length ≤ maxLen) : ∀ (d i : Nat) (x : List Arc),l.length - i = d → i ≤ l.length → x.length = l.length → x.take i = (l.map toA).take i → Ev (fun k => laws_toArcS.l0 k l x (i : Int)) (l.map toA):=by
 intro d
 induction d with
 | zero =>
  intro i x hd hi hx ht;refine Ev.go ?_ (fun k => by rw [laws_toArcS.l0]);refine Ev.neg (by omega) (Ev.is ?_);have e : i = l.length:=by omega
  subst e
  rwa [List.take_of_length_le (by omega),List.take_of_length_le (by simp)] at ht
 | succ d ih =>
  intro i x hd hi hx ht;have hlt : i < l.length:=by omega
  refine Ev.go ?_ (fun k => by rw [laws_toArcS.l0]);refine Ev.pos (by omega) (Ev.pos (by omega) (Ev.bind0 rfl (Ev.pos (by omega) ?_)));rw [up1 hlt hm];refine ih (i + 1) _ (by omega) (by omega) (by simp [hx]) ?_;have hr : rd_T112 l (i : Int) = l[i]:=by simp [rd_T112,hlt]
  simp only [Int.toNat_natCast,hr];rw [List.take_succ_eq_append_getElem (by simp; omega),List.take_succ_eq_append_getElem (l:=l.map toA) (by simpa using hlt),List.take_set_of_le (Nat.le_refl _),ht];simp [toA]
theorem toNet_ev (n : Int) (l : List S112) (hm : l.length ≤ 7036874417766) : Ev (fun k => laws_toNet.f k n l) (n,l.map toA):=by
 unfold laws_toNet.f
 refine Ev.bind (a:=l.map toA) ?_ (Ev.now _)
 unfold laws_toArcS.f
 refine Ev.pos (by omega) (Ev.pos (by simp; omega) ?_);exact toArcS_l l (by simp only [maxLen]; omega) _ 0 _ rfl (by omega) (by simp) (by simp)
theorem eqArcS_l (l : List Arc) (hm : l.length ≤ maxLen) : ∀ (d i : Nat),l.length - i = d → i ≤ l.length → Ev (fun k => laws_eqArcS.l0 k l l (i : Int)) true:=by
 intro d
 induction d with
 | zero =>
  intro i hd hi;refine Ev.go ?_ (fun k => by rw [laws_eqArcS.l0]);exact Ev.neg (by omega) (Ev.now _)
 | succ d ih =>
  intro i hd hi;have hlt : i < l.length:=by omega
  refine Ev.go ?_ (fun k => by rw [laws_eqArcS.l0]);refine Ev.pos (by omega) (Ev.pos (by omega) (Ev.pos (by omega) (Ev.bind0 (a:=true) (by simp [laws_eqArc.f]) (Ev.pos rfl ?_))));rw [up1 hlt hm];exact ih (i + 1) (by omega) (by omega)
theorem eqNet_ev (n : Int) (l : List Arc) (hm : l.length ≤ maxLen) : Ev (fun k => laws_eqNet.f k n l n l) true:=by
 unfold laws_eqNet.f
 refine Ev.pos rfl (Ev.bind (a:=true) ?_ (Ev.pos rfl (Ev.now _)))
 unfold laws_eqArcS.f
 exact Ev.pos rfl (eqArcS_l l hm _ 0 rfl (by omega))
end Go.Proofs.Ytljdcinpjnijcaa.Pure
end
section
set_option linter.unusedSimpArgs false
set_option linter.unusedVariables false
namespace Go.Proofs.Ytljdcinpjnijcaa.Pure
open Go.RowKit Go.Proofs.Ytljdcinpjnijcaa.Pr Go.Proofs.YtljdcinpjnijcaaW.PrintWords Go.Proofs.YtljdcinpjnijcaaW.PrintLast Go.Proofs.YtljdcinpjnijcaaW.PrintMore
def flip (a : Arc) : Arc:=⟨a.f1,a.f0,a.f2,a.f3,a.f4⟩
def back (l : List Arc) : List Arc:=l.map flip
theorem back_len (l : List Arc) : (back l).length = l.length:=by simp [back]
theorem back_arc {l : List Arc} {i : Nat} (h : i < l.length) : arc (back l) i = flip (arc l i):=by
 rw [arc_get (by rw [back_len]; exact h),arc_get h];simp [back]
theorem back_good {n : Int} {l : List Arc} (h : NetGood n l) : NetGood n (back l):=by
 refine ⟨h.n1,h.n8,by rw [back_len]; exact h.len,fun i hi => ?_⟩;rw [back_len] at hi;obtain ⟨a1,a2,a3,a4⟩:=h.ok i hi;rw [back_arc hi];exact ⟨a2,a1,fun e => a3 e.symm,a4⟩
theorem implBack_l (n : Int) (l : List Arc) (hm : l.length ≤ 1000) : ∀ (m i : Nat),l.length - i = m → i ≤ l.length → Ev (fun k => impl_Net_back.l0 k l (l.length : Int) (i : Int) n ((back l).take i)) (n,back l):=by
 intro m
 induction m with
 | zero =>
  intro i hd hi;refine Ev.go ?_ (fun k => by rw [impl_Net_back.l0]);refine Ev.neg (by omega) (Ev.is ?_);rw [List.take_of_length_le (by rw [back_len]; omega)]
 | succ m ih =>
  intro i hd hi;have hlt : i < l.length:=by omega
  refine Ev.go ?_ (fun k => by rw [impl_Net_back.l0]);have ih:=ih (i + 1) (by omega) (by omega);have hlt2 : i < (back l).length:=by rw [back_len]; exact hlt
  rw [List.take_succ_eq_append_getElem hlt2,← arc_get hlt2,back_arc hlt] at ih;rw [up1 hlt (by simp only [maxLen]; omega),rda];exact Ev.pos (by omega) (Ev.pos (by omega) (Ev.pos (by omega) (Ev.pos (by simp; omega) ih)))
theorem implBack_ev (n : Int) (l : List Arc) (hm : l.length ≤ 1000) : Ev (fun k => impl_Net_back.f k n l) (n,back l):=by
 unfold impl_Net_back.f
 exact Ev.pos (by omega) (Ev.pos (by omega) (by simpa using implBack_l n l hm _ 0 rfl (Nat.zero_le _)))
inductive Conn (E : Nat → Nat → Prop) : Nat → Nat → Prop
 | refl (v : Nat) : Conn E v v
 | tail {u v w : Nat} : Conn E u v → (E v w ∨ E w v) → Conn E u w
end Go.Proofs.Ytljdcinpjnijcaa.Pure
end
section
set_option linter.unusedSectionVars false
namespace Go.Proofs.Ytljdcinpjnijcaa.Sp
structure G where
 n : Nat
 m : Nat
 fr : Nat → Nat
 tw : Nat → Nat
 w : Nat → Int
 use : Nat → Bool
structure G.Ok (g : G) : Prop where
 fl : ∀ i,i < g.m → g.fr i < g.n
 tl : ∀ i,i < g.m → g.tw i < g.n
 w0 : ∀ i,i < g.m → 0 ≤ g.w i
inductive Wk (g : G) : Nat → Nat → Nat → Int → Prop
 | nil (v : Nat) : Wk g v v 0 0
 | cons {i v k : Nat} {c : Int} : i < g.m → g.use i = true → Wk g (g.tw i) v k c → Wk g (g.fr i) v (k + 1) (g.w i + c)
inductive Sm (g : G) (t : Nat) : Nat → List Nat → Nat → Int → Prop
 | nil : Sm g t t [t] 0 0
 | cons {i k : Nat} {L : List Nat} {c : Int} : i < g.m → g.use i = true → Sm g t (g.tw i) L k c → g.fr i ∉ L → Sm g t (g.fr i) (g.fr i :: L) (k + 1) (g.w i + c)
def Opt (g : G) (t : Nat) (L : Nat → Option Int) : Prop:=∀ v,v < g.n → (∀ x,L v = some x → ∃ k,Wk g v t k x) ∧ (∀ k c,Wk g v t k c → ∃ x,L v = some x ∧ x ≤ c)
def lts (a : Int) : Option Int → Bool
 | none => true
 | some y => decide (a < y)
def put (L : Nat → Option Int) (a : Nat) (x : Int) : Nat → Option Int:=fun v => if v = a then some x else L v
def relax (g : G) (L : Nat → Option Int) (i : Nat) : Nat → Option Int :=
 if g.use i = true then
  match L (g.tw i) with
  | none => L
  | some x => if lts (x + g.w i) (L (g.fr i)) = true then put L (g.fr i) (x + g.w i) else L
 else L
def sweep (g : G) (L : Nat → Option Int) : Nat → (Nat → Option Int)
 | 0 => L
 | i + 1 => relax g (sweep g L i) i
def start (t : Nat) : Nat → Option Int:=fun v => if v = t then some 0 else none
def rounds (g : G) (t : Nat) : Nat → (Nat → Option Int)
 | 0 => start t
 | r + 1 => sweep g (rounds g t r) g.m
end Go.Proofs.Ytljdcinpjnijcaa.Sp
namespace Go.Proofs.Ytljdcinpjnijcaa.Sp
structure Dbl (g e s : G) (D : Nat → Option Int) : Prop where
 en : e.n = g.n
 em : e.m = g.m
 ef : e.fr = g.fr
 et : e.tw = g.tw
 eu : e.use = g.use
 ew : ∀ i,i < g.m → e.w i = 1000 * g.w i + 1
 sn : s.n = g.n
 sm : s.m = g.m
 sf : s.fr = g.fr
 st : s.tw = g.tw
 sw : ∀ i,i < g.m → s.w i = 1
 su : ∀ i,i < g.m → (s.use i = true ↔ g.use i = true ∧ ∃ x,D (g.tw i) = some x ∧ D (g.fr i) = some (g.w i + x))
section
variable {g e s : G} {t : Nat} {D S : Nat → Option Int} (h : Dbl g e s D) (ok : g.Ok) (hD : Opt g t D) (hS : Opt s t S) (ht : t < g.n)
include h
end
end Go.Proofs.Ytljdcinpjnijcaa.Sp
end
section
set_option linter.unusedSimpArgs false
set_option linter.unusedVariables false
set_option linter.unusedSectionVars false
namespace Go.Proofs.Ytljdcinpjnijcaa.Pure
open Go.RowKit Go.Proofs.Ytljdcinpjnijcaa.Pr Go.Proofs.YtljdcinpjnijcaaW.PrintWords Go.Proofs.YtljdcinpjnijcaaW.PrintLast Go.Proofs.YtljdcinpjnijcaaW.PrintMore
open Go.Proofs.Ytljdcinpjnijcaa.Sp (G Wk Opt lts put relax sweep rounds start Dbl)
section
variable {N : Nat} {l : List Arc} (hg : NetGood N l)
include hg
end
section
variable {N : Nat} {l : List Arc} (hg : NetGood N l) {t : Nat} (ht : t < N)
include hg ht
end
def hit (g : G) (L : Nat → Option Int) (i : Nat) : Bool:=match L (g.tw i) with
 | none => false
 | some x => lts (x + g.w i) (L (g.fr i))
def fl (g : G) (L : Nat → Option Int) : Nat → Bool
 | 0 => false
 | i + 1 => fl g L i || hit g (sweep g L i) i
section
variable {N : Nat} {l : List Arc} (hg : NetGood N l)
include hg
end
end Go.Proofs.Ytljdcinpjnijcaa.Pure
end
section
set_option linter.unusedSimpArgs false
set_option linter.unusedVariables false
set_option linter.unusedSectionVars false
set_option linter.unusedSectionVars false
end
section
set_option linter.unusedSimpArgs false
set_option linter.unusedVariables false
set_option linter.unusedSectionVars false
namespace Go.Proofs.Ytljdcinpjnijcaa.Pure
open Go.RowKit Go.Proofs.Ytljdcinpjnijcaa.Pr Go.Proofs.YtljdcinpjnijcaaW.PrintWords Go.Proofs.YtljdcinpjnijcaaW.PrintLast Go.Proofs.YtljdcinpjnijcaaW.PrintMore
open Go.Proofs.Ytljdcinpjnijcaa.Sp (G Wk Opt)
section
variable {N : Nat} {l : List Arc} (hg : NetGood N l) {t : Nat} (ht : t < N)
include hg ht
end
end Go.Proofs.Ytljdcinpjnijcaa.Pure
end
section
set_option linter.unusedSimpArgs false
set_option linter.unusedVariables false
set_option linter.unusedSectionVars false
namespace Go.Proofs.Ytljdcinpjnijcaa.Pure
open Go.RowKit Go.Proofs.Ytljdcinpjnijcaa.Pr Go.Proofs.YtljdcinpjnijcaaW.PrintWords Go.Proofs.YtljdcinpjnijcaaW.PrintLast Go.Proofs.YtljdcinpjnijcaaW.PrintMore
open Go.Proofs.Ytljdcinpjnijcaa.Sp (G Wk Opt rounds)
section
variable {N : Nat} {l : List Arc} (hg : NetGood N l) {t : Nat} (ht : t < N)
include hg ht
end
section
variable {N : Nat} {l : List Arc} (hg : NetGood N l)
include hg
end
end Go.Proofs.Ytljdcinpjnijcaa.Pure
end
section
set_option linter.unusedSimpArgs false
set_option linter.unusedVariables false
set_option linter.unusedSectionVars false
namespace Go.Proofs.Ytljdcinpjnijcaa.Pure
open Go.RowKit Go.Proofs.Ytljdcinpjnijcaa.Pr Go.Proofs.YtljdcinpjnijcaaW.PrintWords Go.Proofs.YtljdcinpjnijcaaW.PrintLast Go.Proofs.YtljdcinpjnijcaaW.PrintMore
open Go.Proofs.Ytljdcinpjnijcaa.Sp (G Wk Opt lts put relax sweep rounds start)
section
variable {N : Nat} {l : List Arc} (hg : NetGood N l)
include hg
end
theorem l1Back_l (n m0 : Int) (l : List Arc) (hm : l.length ≤ 1000) : ∀ (m i : Nat),l.length - i = m → i ≤ l.length → Ev (fun k => spec_l1Back.l0 k (i : Int) n l m0 ((back l).take i)) (m0,back l):=by
 intro m
 induction m with
 | zero =>
  intro i hd hi;refine Ev.go ?_ (fun k => by rw [spec_l1Back.l0]);refine Ev.neg (by omega) (Ev.is ?_);rw [List.take_of_length_le (by rw [back_len]; omega)]
 | succ m ih =>
  intro i hd hi;have hlt : i < l.length:=by omega
  refine Ev.go ?_ (fun k => by rw [spec_l1Back.l0]);have ih:=ih (i + 1) (by omega) (by omega);have hlt2 : i < (back l).length:=by rw [back_len]; exact hlt
  rw [List.take_succ_eq_append_getElem hlt2,← arc_get hlt2,back_arc hlt] at ih;rw [up1 hlt (by simp only [maxLen]; omega),rda];exact Ev.pos (by omega) (Ev.pos (by omega) (Ev.pos (by simp; omega) ih))
theorem l1Back_ev (n : Int) (l : List Arc) (hm : l.length ≤ 1000) : Ev (fun k => spec_l1Back.f k n l) (n,back l):=by
 unfold spec_l1Back.f
 simpa using l1Back_l n n l hm _ 0 rfl (Nat.zero_le _)
end Go.Proofs.Ytljdcinpjnijcaa.Pure
end
