/- Lemmas for the row FnExactOrbitsWith: the program's functions told as plain functions, and plain mathematics. No conditions. -/
import Derived.Ground.SlsfProg
import Derived.Shelf.SlSortCmp.NoneTotal
import Derived.Test.YtoijcallajegfaaProg
import Derived.Test.YtoijcallajegfaaQFnExactOrbitsWith2
section
/- The tests of permutations, program and reference, come to one plain test. No conditions. -/
namespace Go.Proofs.Ytoijcallajegfaa.M
set_option linter.unusedVariables false
set_option linter.unusedSimpArgs false
open Go.RowKit Go.Proofs.YtoijcallajegfaaW.PrintWords Go.Proofs.YtoijcallajegfaaW.PrintLast Go.Proofs.YtoijcallajegfaaW.PrintMore Go.Proofs.Ytoijcallajegfaa.A
theorem has_ev (l:List Int) (a:Int) (hl:l.length≤1000000000):Ev (fun k=>Z68.f k l a) (decide (a ∈ l)):=by
 have H:∀ d i:Nat,i + d = l.length→Ev (fun k=>Z68.l0 k a l (l.length:Int) (i:Int)) (decide (a ∈ l.drop i)):=by
  intro d
  induction d with
  | zero =>
   intro i h
   refine ev_succ ?_
   have h1:¬ ((i:Int) < (l.length:Int)):=by omega
   have e:decide (a ∈ l.drop i) = false:=by
    rw [List.drop_of_length_le (by omega)]
    simp
   simp only [Z68.l0,h1,if_false]
   rw [e]
   exact Ev.now _
  | succ d ih =>
   intro i h
   refine ev_succ ?_
   have hi:i < l.length:=by omega
   have h1:(i:Int) < (l.length:Int):=by omega
   have h2:(0:Int)≤(i:Int):=by omega
   have h3:=w64s i (by omega)
   have e:=List.drop_eq_getElem_cons hi
   rw [← rd_get l i hi] at e
   by_cases hr:rd l (i:Int) = a
   ·have e2:decide (a ∈ l.drop i) = true:=by rw [e,hr];simp
    simp only [Z68.l0,h1,h2,hr,if_true]
    rw [e2]
    exact Ev.now _
   ·have e2:decide (a ∈ l.drop i) = decide (a ∈ l.drop (i + 1)):=by
     rw [e]
     have:¬ a = rd l (i:Int):=fun h=>hr h.symm
     simp [this]
    simp only [Z68.l0,h1,h2,h3,hr,if_true,if_false]
    rw [e2]
    exact ih (i + 1) (by omega)
 have:=H l.length 0 (by omega)
 simpa [Z68.f] using this
theorem in_f (x:Int) (n:Nat) (hn:n≤24):Z69.f x 0 (wrap64 ((n:Int) - 1)) = some (decide (0≤x∧x < (n:Int))):=by
 unfold Z69.f
 rw [w64 (by omega) (by omega)]
 by_cases h:x ≥ 0
 ·rw [if_pos h]
  congr 1
  rw [Bool.eq_iff_iff,decide_eq_true_iff,decide_eq_true_iff]
  omega
 ·rw [if_neg h]
  congr 1
  symm
  rw [decide_eq_false_iff_not]
  omega
theorem spec_permOk (l:List Int):Ev (fun k=>Z67.f k l) (permB l):=by
 unfold Z67.f
 by_cases h24:(l.length:Int) > 24
 ·simp only [h24,if_true]
  have:permB l = false:=by
   unfold permB
   rw [decide_eq_false_iff_not]
   intro h
   have:=h.1
   omega
  rw [this]
  exact Ev.now _
 ·simp only [h24,if_false]
  have H:∀ d i:Nat,i + d = l.length→∃ b,Ev (fun k=>Z67.l0 k l l (l.length:Int) (i:Int)) b∧(b = true ↔ okFrom l i):=by
   intro d
   induction d with
   | zero =>
    intro i h
    refine ⟨true,ev_succ ?_,by simp [okFrom_end l i (by omega)]⟩
    have h1:¬ ((i:Int) < (l.length:Int)):=by omega
    simp only [Z67.l0,h1,if_false]
    exact Ev.now _
   | succ d ih =>
    intro i h
    have hi:i < l.length:=by omega
    have h1:(i:Int) < (l.length:Int):=by omega
    have h1':(i:Int)≤(l.length:Int):=by omega
    have h2:(0:Int)≤(i:Int):=by omega
    have h3:=w64s i (by omega)
    have hin:=in_f (rd l (i:Int)) l.length (by omega)
    by_cases c1:0≤rd l (i:Int)∧rd l (i:Int) < (l.length:Int)
    ·have hh:=has_ev (l.take i) (rd l (i:Int)) (by rw [List.length_take];omega)
     by_cases c2:rd l (i:Int) ∈ l.take i
     ·refine ⟨false,ev_succ ?_,by simpa using okFrom_not hi (fun h=>h.2.2 c2)⟩
      simp only [Z67.l0,h1,h1',h2,hin,c1,if_true,Option.bind_some,decide_true,Int.toNat_natCast,and_self]
      refine Ev.bind hh ?_
      simp only [c2,decide_true,if_true]
      exact Ev.now _
     ·obtain ⟨b,i1,i2⟩:=ih (i + 1) (by omega)
      refine ⟨b,ev_succ ?_,by rw [i2];exact (okFrom_step ⟨c1.1,c1.2,c2⟩).symm⟩
      simp only [Z67.l0,h1,h1',h2,h3,hin,c1,if_true,Option.bind_some,decide_true,Int.toNat_natCast,and_self]
      refine Ev.bind hh ?_
      simp only [c2,decide_false,Bool.false_eq_true,if_false]
      exact i1
    ·refine ⟨false,ev_succ ?_,by simpa using okFrom_not hi (fun h=>c1 ⟨h.1,h.2.1⟩)⟩
     simp only [Z67.l0,h1,h2,hin,c1,if_true,if_false,Option.bind_some,decide_false,Bool.false_eq_true]
     exact Ev.now _
  obtain ⟨b,i1,i2⟩:=H l.length 0 (by omega)
  rw [← permB_of (by omega) i2]
  exact i1
theorem rdOf_nat (s:List Bool) (x:Nat):rdOf false s (x:Int) = s.getD x false:=rfl
theorem getD_set (s:List Bool) (x y:Nat) (h:x < s.length):(s.set x true).getD y false = if x = y then true else s.getD y false:=by
 rw [List.getD_eq_getElem?_getD,List.getD_eq_getElem?_getD,List.getElem?_set]
 by_cases e:x = y
 ·subst e
  simp [h]
 ·simp [e]
theorem impl_permOk (l:List Int):Ev (fun k=>Z65.f k l) (permB l):=by
 unfold Z65.f
 by_cases h24:(l.length:Int) > 24
 ·simp only [h24,if_true]
  have:permB l = false:=by
   unfold permB
   rw [decide_eq_false_iff_not]
   intro h
   have:=h.1
   omega
  rw [this]
  exact Ev.now _
 ·simp only [h24,if_false]
  have H:∀ (d i:Nat) (s:List Bool),i + d = l.length→s.length = 24→(∀ x:Nat,x < 24→(s.getD x false = true ↔ (x:Int) ∈ l.take i))→∃ b,Ev (fun k=>Z65.l0 k l s (i:Int)) b∧(b = true ↔ okFrom l i):=by
   intro d
   induction d with
   | zero =>
    intro i s h hs hx
    refine ⟨true,ev_succ ?_,by simp [okFrom_end l i (by omega)]⟩
    have h1:¬ ((i:Int) < (l.length:Int)):=by omega
    simp only [Z65.l0,h1,if_false]
    exact Ev.now _
   | succ d ih =>
    intro i s h hs hx
    have hi:i < l.length:=by omega
    have h1:(i:Int) < (l.length:Int):=by omega
    have h2:(0:Int)≤(i:Int):=by omega
    have h3:=w64s i (by omega)
    by_cases c1:rd l (i:Int) < 0
    ·refine ⟨false,ev_succ ?_,by simpa using okFrom_not hi (fun h=>by omega)⟩
     simp only [Z65.l0,h1,h2,c1,if_true]
     exact Ev.now _
    ·by_cases c2:rd l (i:Int) ≥ (l.length:Int)
     ·refine ⟨false,ev_succ ?_,by simpa using okFrom_not hi (fun h=>by omega)⟩
      simp only [Z65.l0,h1,h2,c1,c2,if_true,if_false]
      exact Ev.now _
     ·obtain ⟨x,ex⟩:∃ x:Nat,rd l (i:Int) = (x:Int):=⟨(rd l (i:Int)).toNat,by omega⟩
      have hx24:x < 24:=by omega
      by_cases c3:s.getD x false = true
      ·have hm:=(hx x hx24).mp c3
       refine ⟨false,ev_succ ?_,by simpa using okFrom_not hi (fun h=>h.2.2 (by rw [ex];exact hm))⟩
       rw [ex] at c1 c2
       simp only [Z65.l0,h1,h2,ex,c1,c2,rdOf_nat,c3,if_true,if_false]
       exact Ev.now _
      ·have hm:(x:Int) ∉ l.take i:=fun h=>c3 ((hx x hx24).mpr h)
       obtain ⟨b,i1,i2⟩:=ih (i + 1) (s.set x true) (by omega) (by rw [List.length_set];exact hs) (fun y hy=>by
        rw [getD_set s x y (by omega),take_succ l i hi,ex]
        by_cases e:x = y
        ·subst e
         simp
        ·rw [if_neg e,hx y hy]
         have:¬ (y:Int) = (x:Int):=by omega
         simp [this])
       refine ⟨b,ev_succ ?_,by rw [i2];exact (okFrom_step ⟨by omega,by omega,by rw [ex];exact hm⟩).symm⟩
       rw [ex] at c1 c2
       simp only [Z65.l0,h1,h2,h3,ex,c1,c2,rdOf_nat,c3,if_true,if_false,Int.toNat_natCast]
       exact i1
  obtain ⟨b,i1,i2⟩:=H l.length 0 (List.replicate 24 false) (by omega) rfl (fun x hx=>by
   have:(List.replicate 24 false).getD x false = false:=by
    rw [List.getD_eq_getElem?_getD,List.getElem?_replicate]
    simp [hx]
   rw [this]
   simp)
  rw [← permB_of (by omega) i2]
  exact i1
end Go.Proofs.Ytoijcallajegfaa.M
end
section
namespace Go.Proofs.Ytoijcallajegfaa.A
open Go.RowKit Go.Proofs.YtoijcallajegfaaW.PrintWords Go.Proofs.YtoijcallajegfaaW.PrintLast Go.Proofs.YtoijcallajegfaaW.PrintMore
attribute [local go_sem] max2_int min2_int max_two min_two max_three min_three max_four min_four
set_option linter.unusedVariables false
set_option linter.unusedSimpArgs false
mutual
def Z53.l0:Nat→List Int→List Int→List Int→Int→Option (List Int)
 | 0,_,_,_,_=>none
 | k + 1,x0,x1,x7,x8=>if x8 < (x7.length:Int) then (if 0≤x8 then (if 0≤(rd x7 x8) then (if (rd x7 x8) < (x0.length:Int) then (if (rd x7 x8) < (x1.length:Int) then ((some (([rd x0 (rd x7 x8),rd x1 (rd x7 x8)]:List Int):List Int)).bind fun y572=>(Z53.l1 k x0 x1 x7 x8 y572 (y572.length:Int) 0)) else (none)) else (none)) else (none)) else (none)) else (some x7)
def Z53.l1:Nat→List Int→List Int→List Int→Int→List Int→Int→Int→Option (List Int)
 | 0,_,_,_,_,_,_,_=>none
 | k + 1,x0,x1,x7,x8,x33,x34,x35=>if x35 < x34 then (if 0≤x35 then (if x35 < (x33.length:Int) then ((Z68.f k x7 (rd x33 x35)).bind fun t576=>(if t576 = true then (Z53.l1 k x0 x1 x7 x8 x33 x34 (wrap64 (x35 + 1))) else (if x7.length < 17592186044416 then (Z53.l1 k x0 x1 (x7 ++ [rd x33 x35]) x8 x33 x34 (wrap64 (x35 + 1))) else (none)))) else (none)) else (none)) else (Z53.l0 k x0 x1 x7 (wrap64 (x8 + 1)))
end
def Z53.f (k:Nat) (l0:List Int) (l1:List Int) (a2:Int):Option (List Int):=Z53.l0 k l0 l1 (([a2]:List Int)) 0
theorem Z53.mono_l:∀ k,(∀ y0 y1 y2 y3,LeO (Z53.l0 k y0 y1 y2 y3) (Z53.l0 (k + 1) y0 y1 y2 y3))∧(∀ y0 y1 y2 y3 y4 y5 y6,LeO (Z53.l1 k y0 y1 y2 y3 y4 y5 y6) (Z53.l1 (k + 1) y0 y1 y2 y3 y4 y5 y6))
 | 0=>⟨fun _ _ _ _ r h=>by simp [Z53.l0] at h,fun _ _ _ _ _ _ _ r h=>by simp [Z53.l1] at h⟩
 | k + 1=>by
  obtain ⟨ih0,ih1⟩:=Z53.mono_l k
  refine ⟨?_,?_⟩
  ·intro y0 y1 y2 y3
   unfold Z53.l0
   repeat' first|exact ih0 _ _ _ _|exact ih1 _ _ _ _ _ _ _|exact Z68.mono _ _ _|exact lo_|refine LeO.ite ?_ ?_|refine LeO.bind ?_ (fun _=>?_)
  ·intro y0 y1 y2 y3 y4 y5 y6
   unfold Z53.l1
   repeat' first|exact ih0 _ _ _ _|exact ih1 _ _ _ _ _ _ _|exact Z68.mono _ _ _|exact lo_|refine LeO.ite ?_ ?_|refine LeO.bind ?_ (fun _=>?_)
theorem Z53.mono:∀ a0 a1 a2 k,LeO (Z53.f k a0 a1 a2) (Z53.f (k + 1) a0 a1 a2):=by
 intro a0 a1 a2 k
 obtain ⟨ih0,ih1⟩:=Z53.mono_l k
 unfold Z53.f
 repeat' first|exact ih0 _ _ _ _|exact ih1 _ _ _ _ _ _ _|exact Z68.mono _ _ _|exact lo_|refine LeO.ite ?_ ?_|refine LeO.bind ?_ (fun _=>?_)
def Z53.T5:Bool × List (List Nat × List Nat):=(true,[([],[]),([],[]),([],[]),([1,2],[1,2]),([3],[3]),([0,4],[0,4]),([5],[5]),([],[]),([],[]),([],[]),([8,9],[8,9]),([10],[10]),([7,11],[7,11]),([12],[12]),([6,13],[6,13]),([14],[14]),([],[])])
def Z53.B5:List Nat:=[0,0,0,6,14,31,63,0,0,0,768,1792,3968,8064,16383,32767,0]
theorem Z53.tab5:rtab .any (opsOf Try.f162 5) = Z53.T5:=by kernel_rfl
theorem Z53.bits5:waitsOk Z53.T5.2 Z53.B5 = true:=by kernel_rfl
set_option maxHeartbeats 8000000 in
set_option maxRecDepth 100000 in
theorem Z53.calls (k:Nat) (A0:Option Addr) (c0:Nat) (l0:List Int) (A1:Option Addr) (c1:Nat) (l1:List Int) (a2:Int) (r:List Int) (w:World) (hr0:Kd.C (Kd.int .i64) w A0 l0.length l0) (hc0:l0.length≤c0) (hr1:Kd.C (Kd.int .i64) w A1 l1.length l1) (hc1:l1.length≤c1) (h:Z53.f k l0 l1 a2 = some r) :
  Calls Try.prog 162 #[.slice A0 l0.length c0,.slice A1 l1.length c1,.int .i64 a2] w fun e w'=>∃ v0_:Value,e = .returned (v0_)∧Kd.R (Kd.int .i64) 3 w' w.heap.size (fun _=>True) v0_ r∧Below w.heap.size w w':=by
 have HR0:=A_ hr0
 have HC0:=A_ hc0
 clear hr0 hc0
 have HR1:=A_ hr1
 have HC1:=A_ hc1
 clear hr1 hc1
 have HB:=A_ (Below.refl w.heap.size w)
 have H:=h
 unfold Z53.f at H
 clear h
 obtain ⟨y565,hy565⟩:∃ y_:List Int,y_ = (([a2]:List Int)):=⟨_,rfl⟩
 replace H:(Z53.l0 k l0 l1 y565 0) = some r:=by first | (rw [hy565];exact H) | exact H
 have Ny565:=A_ hy565
 clear hy565
 have H':=A_ H
 clear H
 go_enter Try.func162,Try.ntmps162
 go_wp2_with (first | ((with_reducible refine gB_ (N:=12) rfl ?_);refine Kd.R_lit (Kd.int .i64) _ 3 ?hg (N:=12) ?hd (xs:=([a2]:List Int)) (inner:=[.int .i64 a2]) (ok:=fun _=>True) (okp:=fun _=>True) ?hr ?hp (fun _ hk=>hk) trivial (Below.refl _ _) (nA_ _) (by simp) ?_;(case hd=>rfl);(case hg=>rfl);(case hr=>first | (go_simp;done) | (go_simp;rfl));(case hp=>exact (Reps.one (show Kd.M (Kd.int .i64) _ _ _ a2 [.int .i64 a2] from rfl) (Reps.none _ _)));intro v566 w4 ho5 hb hg_ hnew_;clear hg_ hnew_;(first | rw [← Ny565.out] at ho5 | (simp only [Int.reduceToNat] at ho5;rw [← Ny565.out] at ho5));have HO567:=rl_ w ho5;replace HB:=b1_ hb;clear hb ho5))
 go_loopg [7,8] k (fun kq v7 v8 w'=>∃ (x7_1:List Int) (x8_1:Int),v8 = .int .i64 x8_1∧Aside0 (Z53.l0 kq l0 l1 x7_1 x8_1 = some r)∧Aside0 (kq≤k)∧Aside0 (Kd.R (Kd.int .i64) 3 w' w.heap.size (fun _=>True) v7 x7_1)∧Aside0 (Below w.heap.size w w'))
 case atStart=>exact ⟨(y565),(0),qc_,H',⟨nA_ _⟩,⟨(rr_ HO567)⟩,⟨hB_⟩⟩
 case round =>
  clear H'
  obtain ⟨x7_1,x8_1,rfl,HA,HK1,HO_7,HB⟩:=hrel
  cases gk with
  | zero=>exact absurd HA.out (by simp [Z53.l0])
  | succ k1 =>
   have H:=HA.out
   clear HA
   simp only [Z53.l0] at H
   by_cases c6:x8_1 < (x7_1.length:Int)
   ·rw [if_pos c6] at H
    have c6b0:=oC_ c6
    clear c6
    replace H:=cx_ H;obtain ⟨c7b0,H⟩:=H
    replace H:=cx_ H;obtain ⟨c8b0,H⟩:=H
    replace H:=cx_ H;obtain ⟨c9b0,H⟩:=H
    replace H:=cx_ H;obtain ⟨c10b0,H⟩:=H
    obtain ⟨y572,hy572⟩:∃ y_:List Int,y_ = (([rd l0 (rd x7_1 x8_1),rd l1 (rd x7_1 x8_1)]:List Int)):=⟨_,rfl⟩
    replace H:(Z53.l1 k1 l0 l1 x7_1 x8_1 y572 (y572.length:Int) 0) = some r:=by first | (rw [hy572];exact H) | exact H
    have Ny572:=A_ hy572
    clear hy572
    have H':=A_ H
    clear H
    obtain ⟨Ao11,co11,eo11⟩:=Kd.R_slice HO_7.out
    subst eo11
    try go_wp2
    replace HO_7:=A_ (rC_ HO_7.out)
    replace HB:=A_ (bC_ HB.out)
    have p568:0≤(x8_1:Int):=oB_ qe_
    have q568:x8_1 < (x7_1.length:Int):=oB_ qe_
    obtain ⟨ad568,e568,hx568_0⟩:=Kd.at_int (Kd.R_reads' HO_7.out).2.2 x8_1 p568 q568
    cases e568
    replace p568:=eq_true p568
    replace q568:=eq_true q568
    have p569:0≤((rd x7_1 x8_1):Int):=oB_ qe_
    have q569:(rd x7_1 x8_1) < (l0.length:Int):=oB_ qe_
    obtain ⟨ad569,e569,hx569_0⟩:=Kd.at_int HR0.out (rd x7_1 x8_1) p569 q569
    have hw569_0:=hx569_0
    cases e569
    replace hx569_0:=(HB.out.cell (World.block_lt_of_cell? w _ hx569_0)).trans hx569_0
    replace p569:=eq_true p569
    replace q569:=eq_true q569
    have p570:0≤(x8_1:Int):=oB_ qe_
    have q570:x8_1 < (x7_1.length:Int):=oB_ qe_
    obtain ⟨ad570,e570,hx570_0⟩:=Kd.at_int (Kd.R_reads' HO_7.out).2.2 x8_1 p570 q570
    obtain rfl:ad568 = ad570:=(by injection e570)
    replace p570:=eq_true p570
    replace q570:=eq_true q570
    have p571:0≤((rd x7_1 x8_1):Int):=oB_ qe_
    have q571:(rd x7_1 x8_1) < (l1.length:Int):=oB_ qe_
    obtain ⟨ad571,e571,hx571_0⟩:=Kd.at_int HR1.out (rd x7_1 x8_1) p571 q571
    have hw571_0:=hx571_0
    cases e571
    replace hx571_0:=(HB.out.cell (World.block_lt_of_cell? w _ hx571_0)).trans hx571_0
    replace p571:=eq_true p571
    replace q571:=eq_true q571
    refine start_ (n:=17) (S:=fun w'=>w'.cell? (ad568.add (x8_1).toNat) = some (.int .i64 (rd x7_1 x8_1))∧w'.cell? (ad569.add ((rd x7_1 x8_1)).toNat) = some (.int .i64 (rd l0 (rd x7_1 x8_1)))∧w'.cell? (ad568.add (x8_1).toNat) = some (.int .i64 (rd x7_1 x8_1))∧w'.cell? (ad571.add ((rd x7_1 x8_1)).toNat) = some (.int .i64 (rd l1 (rd x7_1 x8_1)))) (ds:=[]) (bl_ 17 0) (by kernel_rfl) rfl (by kernel_rfl) ⟨hx568_0,((HB.out.cell (World.block_lt_of_cell? w _ hw569_0)).trans hw569_0),hx570_0,((HB.out.cell (World.block_lt_of_cell? w _ hw571_0)).trans hw571_0)⟩ (fun hHeld=>?_);refine with_tabW Z53.tab5 Z53.bits5 (fun HT_ HW_=>?_)
    generalize wr.drew = w12 at HO_7 HB hx568_0 hx569_0 hx570_0 hx571_0 hHeld ⊢
    refine pu_ 0 (some 19) (bl_ 17 1) HT_ ?_
    refine pu_ 1 (some 20) (bl_ 17 3) HT_ ?_
    refine pu_ 2 (some 21) (bl_ 17 7) HT_ ?_
    refine pu_ 3 (some 22) (bl_ 17 15) HT_ ?_
    refine pu_ 7 (some 26) (bl_ 17 143) HT_ ?_
    refine pu_ 8 (some 27) (bl_ 17 399) HT_ ?_
    refine pu_ 9 (some 28) (bl_ 17 911) HT_ ?_
    refine pu_ 10 (some 29) (bl_ 17 1935) HT_ ?_
    refine pu_ 16 (some 35) (bl_ 17 67471) HT_ ?_
    refine ta_ 4 (some 23) (bl_ 17 67487) HT_ HW_ hHeld ?_
    refine pu_ 5 (some 24) (bl_ 17 67519) HT_ ?_
    refine ta_ 6 (some 25) (bl_ 17 67583) HT_ HW_ hHeld ?_
    refine ta_ 11 (some 30) (bl_ 17 69631) HT_ HW_ hHeld ?_
    refine pu_ 12 (some 31) (bl_ 17 73727) HT_ ?_
    refine ta_ 13 (some 32) (bl_ 17 81919) HT_ HW_ hHeld ?_
    refine on_ 14 (some 33) (bl_ 17 98303) HT_ (fun K hK=>?_)
    refine Kd.R_lit_step (Kd.int .i64) _ 3 ?hg (N:=33) ?hd (xs:=([rd l0 (rd x7_1 x8_1),rd l1 (rd x7_1 x8_1)]:List Int)) (inner:=[.int .i64 (rd l0 (rd x7_1 x8_1)),.int .i64 (rd l1 (rd x7_1 x8_1))]) (ok:=fun _=>True) (okp:=fun _=>True) ?hr ?hp (fun _ hk=>hk) trivial (Below.refl _ _) (nA_ _) (by simp) ?_;(case hd=>rfl);(case hg=>rfl);(case hr=>first | (go_simp;done) | (go_simp;rfl));(case hp=>exact (Reps.one (show Kd.M (Kd.int .i64) _ _ _ (rd l0 (rd x7_1 x8_1)) [.int .i64 (rd l0 (rd x7_1 x8_1))] from rfl) (Reps.one (show Kd.M (Kd.int .i64) _ _ _ (rd l1 (rd x7_1 x8_1)) [.int .i64 (rd l1 (rd x7_1 x8_1))] from rfl) (Reps.none _ _))))
    intro v573 w13 ho14 hb hg_ hnew_
    have HS0_:=(hb.cell (World.block_lt_of_cell? _ _ (hHeld.1))).trans (hHeld.1)
    have HS2_:=(hb.cell (World.block_lt_of_cell? _ _ (hHeld.2.2.1))).trans (hHeld.2.2.1)
    clear hg_ hnew_
    (first | rw [← Ny572.out] at ho14 | (simp only [Int.reduceToNat] at ho14;rw [← Ny572.out] at ho14))
    have HO574:=A_ (rE_ (Kd.R_new' ho14 (Kd.R_lt (rr_ HO_7))) (bF_ hB_))
    replace HO_7:=A_ (Kd.R_elder' (rr_ HO_7) (Kd.R_base ho14) hb)
    replace HB:=b1_ hb
    clear hb ho14
    obtain ⟨Ao15,co15,eo15⟩:=Kd.R_slice HO574.out
    (first|subst eo15|(injection eo15 with a_ b_ c_;have a_:=a_.symm;have c_:=c_.symm;clear b_;subst a_;subst c_))
    refine hK.out _ _ ⟨HS0_,((HB.out.cell (World.block_lt_of_cell? w _ hw569_0)).trans hw569_0),HS2_,((HB.out.cell (World.block_lt_of_cell? w _ hw571_0)).trans hw571_0)⟩ (fun hHeld=>?_)
    clear hK K
    refine no_ (some 33) ?_
    refine pu_ 15 (some 34) (bl_ 17 131071) HT_ ?_
    refine done_ (done_of HT_.out (by kernel_rfl)) ?_
    try go_wp2
    go_loopg [7,35] k1 (fun kq v7 v35 w'=>∃ (x7_2:List Int) (x35_2:Int),v35 = .int .i64 x35_2∧Aside0 (Z53.l1 kq l0 l1 x7_2 x8_1 y572 (y572.length:Int) x35_2 = some r)∧Aside0 (kq≤k1)∧Aside0 (Kd.R (Kd.int .i64) 3 w' w.heap.size (fun k_=>some k_≠((.slice Ao15 y572.length co15):Value).ownBlock) v7 x7_2)∧Aside0 (Kd.R (Kd.int .i64) 3 w' w.heap.size (fun k_=>some k_≠(v7:Value).ownBlock) (.slice Ao15 y572.length co15) y572)∧Aside0 (Below w.heap.size w w'))
    case atStart=>exact ⟨(x7_1),(0),qc_,H',⟨nA_ _⟩,⟨(rw_ (Kd.R_mono HO_7.out (fun _ hk=>hk.2)))⟩,⟨(rw_ (Kd.R_mono HO574.out (fun _ hk=>hk.2)))⟩,⟨hB_⟩⟩
    case round =>
     clear H'
     obtain ⟨x7_2,x35_2,rfl,HA,HK2,HO_7,HO_33,HB⟩:=hrel
     cases gk with
     | zero=>exact absurd HA.out (by simp [Z53.l1])
     | succ k2 =>
      have H:=HA.out
      clear HA
      simp only [Z53.l1] at H
      by_cases c16:x35_2 < (y572.length:Int)
      ·rw [if_pos c16] at H
       have c16b0:=oC_ c16
       clear c16
       replace H:=cx_ H;obtain ⟨c17b0,H⟩:=H
       replace H:=cx_ H;obtain ⟨c18b0,H⟩:=H
       obtain ⟨t576,A19,H⟩:=bi_ H
       by_cases c20:t576 = true
       ·subst c20
        rw [if_pos rfl] at H
        have H':=A_ H
        clear H
        have p575:0≤(x35_2:Int):=oB_ qe_
        have q575:x35_2 < (y572.length:Int):=oB_ qe_
        obtain ⟨ad575,e575,hx575_0⟩:=Kd.at_int (Kd.R_reads' HO_33.out).2.2 x35_2 p575 q575
        cases e575
        replace p575:=eq_true p575
        replace q575:=eq_true q575
        obtain ⟨Ao21,co21,eo21⟩:=Kd.R_slice HO_7.out
        subst eo21
        go_wp2_with (first | ((with_reducible refine gA_ (f:=126) rfl ?_);refine gL_ (some 41) Try.func126 #[.slice Ao21 x7_2.length co21,.int .i64 (rd y572 x35_2)] rfl qa_ ?_;(with_reducible refine (Z68.calls k2 _ _ x7_2 (rd y572 x35_2) true _ (cr_ HO_7) ((Kd.R_reads' HO_7.out).2.1) A19.out).mono ?_);rintro e w' ⟨rfl,⟨nd,rfl⟩⟩;refine ⟨_,rfl,?_⟩))
        go_roundg k2
        case measure=>have:=HK1.out;have:=HK2.out;omega
        case rel=>exact ⟨(x7_2),(wrap64 (x35_2 + 1)),qc_,H',⟨by have:=HK1.out;have:=HK2.out;omega⟩,⟨(rr_ HO_7)⟩,⟨(rr_ HO_33)⟩,⟨hB_⟩⟩
       ·replace c20:=Bool.eq_false_iff.mpr c20
        subst c20
        have H1:(if x7_2.length < 17592186044416 then (Z53.l1 k2 l0 l1 (x7_2 ++ [rd y572 x35_2]) x8_1 y572 (y572.length:Int) (wrap64 (x35_2 + 1))) else (none)) = some r:=by rw [if_neg (show ¬ (false = true) by decide)] at H;exact H
        clear H
        have H:=H1
        clear H1
        have c22:=cp_ H
        replace H:=ca_ H
        have LMc22:=A_ c22
        clear c22
        obtain ⟨y577,hy577⟩:∃ y_:List Int,y_ = (x7_2 ++ [rd y572 x35_2]):=⟨_,rfl⟩
        replace H:(Z53.l1 k2 l0 l1 y577 x8_1 y572 (y572.length:Int) (wrap64 (x35_2 + 1))) = some r:=by first | (rw [hy577];exact H) | exact H
        have Ny577:=A_ hy577
        clear hy577
        have H':=A_ H
        clear H
        have p575:0≤(x35_2:Int):=oB_ qe_
        have q575:x35_2 < (y572.length:Int):=oB_ qe_
        obtain ⟨ad575,e575,hx575_0⟩:=Kd.at_int (Kd.R_reads' HO_33.out).2.2 x35_2 p575 q575
        cases e575
        replace p575:=eq_true p575
        replace q575:=eq_true q575
        obtain ⟨Ao23,co23,eo23⟩:=Kd.R_slice HO_7.out
        subst eo23
        go_wp2_with (first | ((with_reducible refine gA_ (f:=126) rfl ?_);refine gL_ (some 41) Try.func126 #[.slice Ao23 x7_2.length co23,.int .i64 (rd y572 x35_2)] rfl qa_ ?_;(with_reducible refine (Z68.calls k2 _ _ x7_2 (rd y572 x35_2) false _ (cr_ HO_7) ((Kd.R_reads' HO_7.out).2.1) A19.out).mono ?_);rintro e w' ⟨rfl,⟨nd,rfl⟩⟩;refine ⟨_,rfl,?_⟩) | ((with_reducible refine gate_builtin (b:=.append) (xs:=#[.tmp 43,.tmp 45]) rfl ?_);at_builtin;refine Kd.R_append (Kd.int .i64) (w0:=w) w.heap.size rfl (.tmp 43) (.tmp 45) 23 3 (.int .i64 0) 8 rfl Try.underlying23 info3 rfl (by decide) (by omega) (.slice Ao23 x7_2.length co23) x7_2 (rd y572 x35_2) [.int .i64 (rd y572 x35_2)] (fun k_=>some k_≠(.slice (some ad575) y572.length co15:Value).ownBlock) (fun _=>False) rfl rfl ?aP (fun _ hk=>hk.elim) ?aF ?aO ?aB ?aS ?aL ?_;(case aP=>exact rfl);(case aB=>exact hB_);(case aF=>exact (fun k_ hk=>Kd.fresh' (Kd.R_lt (rr_ HO_33)) k_ hk));(case aO=>exact (rr_ HO_7));(case aS=>exact (bF_ hB_));(case aL=>have:=LMc22.out;omega);intro v578 w24 ho hb hg hat;rw [← Ny577.out] at ho;replace HO_33:=A_ (Kd.R_after (ok:=(fun _=>True)) (rw_ (Kd.R_mono HO_33.out (fun _ hk=>⟨trivial,hk⟩))) hg hat);replace HB:=A_ hb;have HO579:=A_ ho;clear HO_7;clear ho hb hg hat))
        go_roundg k2
        case measure=>have:=HK1.out;have:=HK2.out;omega
        case rel=>exact ⟨(y577),(wrap64 (x35_2 + 1)),qc_,H',⟨by have:=HK1.out;have:=HK2.out;omega⟩,⟨(rr_ HO579)⟩,⟨(rw_ (Kd.R_mono HO_33.out (fun _ hk=>hk.2)))⟩,⟨hB_⟩⟩
      ·rw [if_neg c16] at H
       have c16b0:=oD_ c16
       clear c16
       have H':=A_ H
       clear H
       go_wp2
       go_roundg k2
       case measure=>have:=HK1.out;have:=HK2.out;omega
       case rel=>exact ⟨(x7_2),(wrap64 (x8_1 + 1)),qc_,H',⟨by have:=HK1.out;have:=HK2.out;omega⟩,⟨(rw_ (Kd.R_mono HO_7.out (fun _ hk=>trivial)))⟩,⟨hB_⟩⟩
   ·rw [if_neg c6] at H
    have c6b0:=oD_ c6
    clear c6
    obtain rfl:=Option.some.inj H
    obtain ⟨Ao25,co25,eo25⟩:=Kd.R_slice HO_7.out
    subst eo25
    go_wp2
    go_ret
    exact ⟨_,qb_,(rr_ HO_7),hB_⟩
end Go.Proofs.Ytoijcallajegfaa.A
end
section
namespace Go.Proofs.Ytoijcallajegfaa.A
open Go.RowKit Go.Proofs.YtoijcallajegfaaW.PrintWords Go.Proofs.YtoijcallajegfaaW.PrintLast Go.Proofs.YtoijcallajegfaaW.PrintMore
attribute [local go_sem] max2_int min2_int max_two min_two max_three min_three max_four min_four
set_option linter.unusedVariables false
set_option linter.unusedSimpArgs false
def Z19.f (k:Nat) (l0:List Int) (l1:List Int):Option (Bool):=(Z67.f k l0).bind fun t580=>(if t580 = true then ((Z67.f k l1).bind fun t581=>(if t581 = true then (if (l0.length:Int) = (l1.length:Int) then (if (l0.length:Int) > 0 then ((Z53.f k l0 l1 0).bind fun t582=>(some ((t582.length:Int) == (l0.length:Int)))) else (some false)) else (some false)) else (some false))) else (some false))
theorem Z19.mono:∀ a0 a1 k,LeO (Z19.f k a0 a1) (Z19.f (k + 1) a0 a1):=by
 intro a0 a1 k
 unfold Z19.f
 repeat' first|exact Z67.mono _ _|exact Z53.mono _ _ _ _|exact lo_|refine LeO.ite ?_ ?_|refine LeO.bind ?_ (fun _=>?_)
set_option maxHeartbeats 8000000 in
set_option maxRecDepth 100000 in
theorem Z19.calls (k:Nat) (A0:Option Addr) (c0:Nat) (l0:List Int) (A1:Option Addr) (c1:Nat) (l1:List Int) (r:Bool) (w:World) (hr0:Kd.C (Kd.int .i64) w A0 l0.length l0) (hc0:l0.length≤c0) (hr1:Kd.C (Kd.int .i64) w A1 l1.length l1) (hc1:l1.length≤c1) (h:Z19.f k l0 l1 = some r) :
  Calls Try.prog 127 #[.slice A0 l0.length c0,.slice A1 l1.length c1] w fun e w'=>e = .returned (.bool r)∧Below w.heap.size w w':=by
 have HR0:=A_ hr0
 have HC0:=A_ hc0
 clear hr0 hc0
 have HR1:=A_ hr1
 have HC1:=A_ hc1
 clear hr1 hc1
 have HB:=A_ (Below.refl w.heap.size w)
 have H:=h
 unfold Z19.f at H
 clear h
 obtain ⟨t580,A3,H⟩:=bi_ H
 by_cases c4:t580 = true
 ·subst c4
  rw [if_pos rfl] at H
  obtain ⟨t581,A5,H⟩:=bi_ H
  by_cases c6:t581 = true
  ·subst c6
   rw [if_pos rfl] at H
   by_cases c7:(l0.length:Int) = (l1.length:Int)
   ·rw [if_pos c7] at H
    have c7b0:((l0.length:Int) == (l1.length:Int)) = true:=beq_iff_eq.mpr c7
    have c7b1:((l0.length:Int) != (l1.length:Int)) = false:=bne_eq_false_iff_eq.mpr c7
    have c7b2:(l0.length == l1.length) = true:=by first | simpa using c7 | (simp at c7 ⊢;omega)
    clear c7
    by_cases c8:(l0.length:Int) > 0
    ·rw [if_pos c8] at H
     have c8b0:decide (0 < (l0.length:Int)) = true:=oC_ c8
     have c8b1:decide (0 < l0.length) = true:=oC_ (by omega)
     clear c8
     obtain ⟨t582,A9,H⟩:=bi_ H
     obtain rfl:=Option.some.inj H
     go_enter Try.func127,Try.ntmps127
     go_wp2_with (first | ((with_reducible refine gA_ (f:=161) rfl ?_);refine gL_ (some 6) Try.func161 #[.slice A0 l0.length c0] rfl qa_ ?_;(with_reducible refine (Z67.calls k _ _ l0 true _ (cc_ HR0) HC0.out A3.out).mono ?_);rintro e w' ⟨rfl,⟨nd,rfl⟩⟩;refine ⟨_,rfl,?_⟩) | (go_at_call 161;(with_reducible refine (Z67.calls k _ _ l1 true _ (cc_ HR1) HC1.out A5.out).mono ?_);rintro e w' ⟨rfl,⟨nd,rfl⟩⟩) | (go_at_call 162;(with_reducible refine (Z53.calls k _ _ l0 _ _ l1 0 t582 _ (cc_ HR0) HC0.out (cc_ HR1) HC1.out A9.out).mono ?_);rintro e w10 ⟨v583,rfl,ho0,hb⟩;have HO584:=rl_ w ho0;replace HB:=b1_ hb;clear hb ho0;obtain ⟨Ao11,co11,eo11⟩:=Kd.R_slice HO584.out;subst eo11))
     go_ret
     exact ⟨qb_,hB_⟩
    ·rw [if_neg c8] at H
     have c8b0:decide (0 < (l0.length:Int)) = false:=oD_ c8
     have c8b1:decide (0 < l0.length) = false:=oD_ (by omega)
     clear c8
     obtain rfl:=Option.some.inj H
     go_enter Try.func127,Try.ntmps127
     go_wp2_with (first | ((with_reducible refine gA_ (f:=161) rfl ?_);refine gL_ (some 6) Try.func161 #[.slice A0 l0.length c0] rfl qa_ ?_;(with_reducible refine (Z67.calls k _ _ l0 true _ (cc_ HR0) HC0.out A3.out).mono ?_);rintro e w' ⟨rfl,⟨nd,rfl⟩⟩;refine ⟨_,rfl,?_⟩) | (go_at_call 161;(with_reducible refine (Z67.calls k _ _ l1 true _ (cc_ HR1) HC1.out A5.out).mono ?_);rintro e w' ⟨rfl,⟨nd,rfl⟩⟩))
     go_ret
     exact ⟨qb_,hB_⟩
   ·rw [if_neg c7] at H
    have c7b0:((l0.length:Int) == (l1.length:Int)) = false:=beq_eq_false_iff_ne.mpr c7
    have c7b1:((l0.length:Int) != (l1.length:Int)) = true:=bne_iff_ne.mpr c7
    have c7b2:(l0.length == l1.length) = false:=by first | simpa using c7 | (simp at c7 ⊢;omega)
    obtain rfl:=Option.some.inj H
    go_enter Try.func127,Try.ntmps127
    go_wp2_with (first | ((with_reducible refine gA_ (f:=161) rfl ?_);refine gL_ (some 6) Try.func161 #[.slice A0 l0.length c0] rfl qa_ ?_;(with_reducible refine (Z67.calls k _ _ l0 true _ (cc_ HR0) HC0.out A3.out).mono ?_);rintro e w' ⟨rfl,⟨nd,rfl⟩⟩;refine ⟨_,rfl,?_⟩) | (go_at_call 161;(with_reducible refine (Z67.calls k _ _ l1 true _ (cc_ HR1) HC1.out A5.out).mono ?_);rintro e w' ⟨rfl,⟨nd,rfl⟩⟩))
    go_ret
    exact ⟨qb_,hB_⟩
  ·replace c6:=Bool.eq_false_iff.mpr c6
   subst c6
   have H1:(some false) = some r:=by rw [if_neg (show ¬ (false = true) by decide)] at H;exact H
   clear H
   have H:=H1
   clear H1
   obtain rfl:=Option.some.inj H
   go_enter Try.func127,Try.ntmps127
   go_wp2_with (first | ((with_reducible refine gA_ (f:=161) rfl ?_);refine gL_ (some 6) Try.func161 #[.slice A0 l0.length c0] rfl qa_ ?_;(with_reducible refine (Z67.calls k _ _ l0 true _ (cc_ HR0) HC0.out A3.out).mono ?_);rintro e w' ⟨rfl,⟨nd,rfl⟩⟩;refine ⟨_,rfl,?_⟩) | (go_at_call 161;(with_reducible refine (Z67.calls k _ _ l1 false _ (cc_ HR1) HC1.out A5.out).mono ?_);rintro e w' ⟨rfl,⟨nd,rfl⟩⟩))
   go_ret
   exact ⟨qb_,hB_⟩
 ·replace c4:=Bool.eq_false_iff.mpr c4
  subst c4
  have H1:(some false) = some r:=by rw [if_neg (show ¬ (false = true) by decide)] at H;exact H
  clear H
  have H:=H1
  clear H1
  obtain rfl:=Option.some.inj H
  go_enter Try.func127,Try.ntmps127
  go_wp2_with (first | ((with_reducible refine gA_ (f:=161) rfl ?_);refine gL_ (some 6) Try.func161 #[.slice A0 l0.length c0] rfl qa_ ?_;(with_reducible refine (Z67.calls k _ _ l0 false _ (cc_ HR0) HC0.out A3.out).mono ?_);rintro e w' ⟨rfl,⟨nd,rfl⟩⟩;refine ⟨_,rfl,?_⟩))
  go_ret
  exact ⟨qb_,hB_⟩
def Z38.f (k:Nat) (l0_0:List Int) (l0_1:List Int):Option (Bool):=(Z19.f k l0_0 l0_1).bind fun t586=>(some t586)
theorem Z38.mono:∀ a0 a1 k,LeO (Z38.f k a0 a1) (Z38.f (k + 1) a0 a1):=by
 intro a0 a1 k
 unfold Z38.f
 repeat' first|exact Z19.mono _ _ _|exact lo_|refine LeO.ite ?_ ?_|refine LeO.bind ?_ (fun _=>?_)
set_option maxHeartbeats 8000000 in
set_option maxRecDepth 100000 in
theorem Z38.calls (k:Nat) (A0_0:Option Addr) (c0_0:Nat) (l0_0:List Int) (A0_1:Option Addr) (c0_1:Nat) (l0_1:List Int) (r:Bool) (w:World) (hr0_0:Kd.C (Kd.int .i64) w A0_0 l0_0.length l0_0) (hc0_0:l0_0.length≤c0_0) (hr0_1:Kd.C (Kd.int .i64) w A0_1 l0_1.length l0_1) (hc0_1:l0_1.length≤c0_1) (h:Z38.f k l0_0 l0_1 = some r) :
  Calls Try.prog 85 #[.agg #[.slice A0_0 l0_0.length c0_0,.slice A0_1 l0_1.length c0_1]] w fun e w'=>e = .returned (.bool r)∧Below w.heap.size w w':=by
 have hu33:=Try.underlying33
 have HR0_0:=A_ hr0_0
 have HC0_0:=A_ hc0_0
 clear hr0_0 hc0_0
 have HR0_1:=A_ hr0_1
 have HC0_1:=A_ hc0_1
 clear hr0_1 hc0_1
 have HB:=A_ (Below.refl w.heap.size w)
 have H:=h
 unfold Z38.f at H
 clear h
 obtain ⟨t586,A2,H⟩:=bi_ H
 obtain rfl:=Option.some.inj H
 go_enter Try.func85,Try.ntmps85
 go_wp2_with (first | ((with_reducible refine gB_ (N:=1) rfl ?_);refine bx_ 1 #[.slice A0_0 l0_0.length c0_0,.slice A0_1 l0_1.length c0_1] 33 ?_;intro gb585 hg w3 hbox hb;have BK585:=A_ hbox;have GW585:=gw_ w hg;have GE585:=GW585;replace HB:=b1_ hb;clear hb hbox hg;obtain ⟨hcz4_0,hcz4_1,hfz4_0,hfz4_1⟩:=c2_ BK585) | ((with_reducible refine gA_ (f:=127) rfl ?_);refine gL_ (some 7) Try.func127 #[.slice A0_0 l0_0.length c0_0,.slice A0_1 l0_1.length c0_1] rfl qa_ ?_;(with_reducible refine (Z19.calls k _ _ l0_0 _ _ l0_1 t586 _ (cb_ HR0_0) HC0_0.out (cb_ HR0_1) HC0_1.out A2.out).mono ?_);rintro e w5 ⟨rfl,hb⟩;refine ⟨_,rfl,?_⟩;replace BK585:=bb_ BK585 hb;replace HB:=b1_ hb;clear hb))
 go_ret
 exact ⟨qb_,hB_⟩
end Go.Proofs.Ytoijcallajegfaa.A
end
section
/- The tests of surfaces, program and reference, come to one plain test. No conditions. -/
namespace Go.Proofs.Ytoijcallajegfaa.M
set_option linter.unusedVariables false
set_option linter.unusedSimpArgs false
open Go.RowKit Go.Proofs.YtoijcallajegfaaW.PrintWords Go.Proofs.YtoijcallajegfaaW.PrintLast Go.Proofs.YtoijcallajegfaaW.PrintMore Go.Proofs.Ytoijcallajegfaa.A
theorem I_pair (a b:Nat):([(a:Int),(b:Int)]:List Int) = I [a,b]:=rfl
theorem I_len' (l:List Nat):((I l).length:Int) = (l.length:Int):=by rw [I_len]
theorem st1_I (out:List Nat) (x:Nat):I (st1 out x) = if (x:Int) ∈ I out then I out else I out ++ [(x:Int)]:=by
 unfold st1
 by_cases h:x ∈ out
 ·rw [if_pos h,if_pos (mem_I.mpr h)]
 ·rw [if_neg h,if_neg (fun k=>h (mem_I.mp k)),I_snoc]
theorem reach_one (p q out pr:List Nat) (a:Nat) (j:Nat) (hj:j < pr.length) (hp:pr.length≤2) (hl:out.length≤1000) (r:List Int)
  (H:Ev (fun k=>Z53.l1 k (I p) (I q) (I (st1 out (g pr j))) (a:Int) (I pr) (pr.length:Int) ((j + 1:Nat):Int)) r) :
  Ev (fun k=>Z53.l1 k (I p) (I q) (I out) (a:Int) (I pr) (pr.length:Int) (j:Int)) r:=by
 refine ev_succ ?_
 have h1:(j:Int) < (pr.length:Int):=by omega
 have h2:(0:Int)≤(j:Int):=by omega
 have h3:=w64s j (by omega)
 have h4:(I out).length < 17592186044416:=by rw [I_len];omega
 have hh:=has_ev (I out) ((g pr j:Nat):Int) (by rw [I_len];omega)
 simp only [Z53.l1,h1,h2,h3,h4,rdI,I_len',if_true]
 refine Ev.bind hh ?_
 rw [st1_I] at H
 by_cases hm:((g pr j:Nat):Int) ∈ I out
 ·rw [if_pos hm] at H
  simp only [hm,decide_true,if_true]
  exact H
 ·rw [if_neg hm] at H
  simp only [hm,decide_false,Bool.false_eq_true,if_false]
  exact H
theorem reach_loop {p q:List Nat} (hp:IsP p) (hq:IsP q) (hl:q.length = p.length) (h24:p.length≤24) (f:Nat):∀ (a:Nat) (out:List Nat),RInv p.length out→a≤out.length→p.length < f + a →
  Ev (fun k=>Z53.l0 k (I p) (I q) (I out) (a:Int)) (I (bfs p q f a out)):=by
 induction f with
 | zero =>
  intro a out hr ha hf
  have:=hr.le
  omega
 | succ f ih =>
  intro a out hr ha hf
  have hle:=hr.le
  refine ev_succ ?_
  by_cases h:a < out.length
  ·have h1:(a:Int) < (out.length:Int):=by omega
   have h2:(0:Int)≤(a:Int):=by omega
   have hx:=hr.g h
   have h3:((g out a:Nat):Int) < (p.length:Int):=by omega
   have h4:(0:Int)≤((g out a:Nat):Int):=by omega
   have h5:((g out a:Nat):Int) < (q.length:Int):=by omega
   have h6:=w64s a (by omega)
   simp only [Z53.l0,h1,h2,h3,h4,h5,rdI,I_len',if_true,Option.bind_some,I_pair]
   have r1:=hr.st (g_lt hp hx)
   have r2:=r1.st (x:=g q (g out a)) (by have:=g_lt hq (i:=g out a) (by omega);omega)
   have hb:bfs p q (f + 1) a out = bfs p q f (a + 1) (st1 (st1 out (g p (g out a))) (g q (g out a))):=by
    rw [bfs,if_pos h]
   rw [hb]
   have i1:=ih (a + 1) _ r2 (by have:=st1_len out (g p (g out a));have:=st1_len (st1 out (g p (g out a))) (g q (g out a));omega) (by omega)
   refine reach_one p q out [g p (g out a),g q (g out a)] a 0 (by simp) (by simp) (by omega) _ ?_
   refine reach_one p q _ [g p (g out a),g q (g out a)] a 1 (by simp) (by simp) (by have:=r1.le;simp only [g,List.getD_cons_zero] at this ⊢;omega) _ ?_
   refine ev_succ ?_
   have h7:¬ (((1 + 1:Nat):Int) < (([g p (g out a),g q (g out a)]:List Nat).length:Int)):=by simp
   simp only [Z53.l1,h7,h6,if_false]
   exact i1
  ·have h1:¬ ((a:Int) < (out.length:Int)):=by omega
   have hb:bfs p q (f + 1) a out = out:=by rw [bfs,if_neg h]
   rw [hb]
   simp only [Z53.l0,h1,I_len',if_false]
   exact Ev.now _
theorem reach_ev {p q:List Nat} (hp:IsP p) (hq:IsP q) (hl:q.length = p.length) (h24:p.length≤24) (s:Nat) (hs:s < p.length):Ev (fun k=>Z53.f k (I p) (I q) (s:Int)) (I (reach p q s)):=by
 unfold Z53.f reach
 exact reach_loop hp hq hl h24 (p.length + 1) 0 [s] ⟨by simp,by simpa using hs⟩ (by simp) (by omega)
theorem len_ne_false {r u:List Int} (h:r.length≠u.length):surfB r u = false:=by
 unfold surfB
 simp [h]
theorem surfB_mk {r u:List Int} (h1:permB r = true) (h2:permB u = true) (h3:r.length = u.length) (h4:0 < r.length):surfB r u = ((reach (N r) (N u) 0).length == r.length):=by
 unfold surfB
 simp [h1,h2,h3,h4]
 intro _
 omega
theorem spec_trans (r u:List Int):Ev (fun k=>Z19.f k r u) (surfB r u):=by
 unfold Z19.f
 refine Ev.bind (spec_permOk r) ?_
 by_cases h1:permB r = true
 ·simp only [h1,if_true]
  refine Ev.bind (spec_permOk u) ?_
  by_cases h2:permB u = true
  ·simp only [h2,if_true]
   by_cases h3:(r.length:Int) = (u.length:Int)
   ·have h3':r.length = u.length:=by omega
    by_cases h4:(r.length:Int) > 0
    ·have h4':0 < r.length:=by omega
     rw [surfB_mk h1 h2 h3' h4']
     obtain ⟨p,rfl,a1,a2⟩:=PI_nat (of_decide_eq_true h1)
     obtain ⟨q,rfl,b1,b2⟩:=PI_nat (of_decide_eq_true h2)
     rw [I_len,I_len] at h3'
     rw [I_len] at h4'
     have:=reach_ev a1 b1 h3'.symm a2 0 h4'
     simp only [h3,h4,if_true]
     rw [h3] at h4
     simp only [h4,if_true]
     refine Ev.bind this ?_
     rw [N_I,N_I]
     have e:(((I (reach p q 0)).length:Int) == ((I q).length:Int)) = ((reach p q 0).length == (I p).length):=by
      rw [I_len,I_len,I_len,Bool.eq_iff_iff,beq_iff_eq,beq_iff_eq]
      omega
     rw [← h3] at e
     simp only [h3] at e
     rw [← e]
     exact Ev.now _
    ·simp only [h3,if_true]
     rw [h3] at h4
     simp only [h4,if_false]
     have:surfB r u = false:=by
      unfold surfB
      have:¬ 0 < r.length:=by omega
      simp [this]
     rw [this]
     exact Ev.now _
   ·simp only [h3,if_false]
    rw [len_ne_false (by omega)]
    exact Ev.now _
  ·have h2':=Bool.eq_false_iff.mpr h2
   simp only [h2',Bool.false_eq_true,if_false]
   have:surfB r u = false:=by unfold surfB;simp [h2']
   rw [this]
   exact Ev.now _
 ·have h1':=Bool.eq_false_iff.mpr h1
  simp only [h1',Bool.false_eq_true,if_false]
  have:surfB r u = false:=by unfold surfB;simp [h1']
  rw [this]
  exact Ev.now _
theorem spec_surf (r u:List Int):Ev (fun k=>Z38.f k r u) (surfB r u):=by
 unfold Z38.f
 exact Ev.bind (spec_trans r u) (Ev.now _)
def Marks (n:Nat) (s:List Bool) (out:List Nat):Prop:=s.length = n∧∀ x,x < n→(s.getD x false = true ↔ x ∈ out)
theorem Marks.add {n:Nat} {s:List Bool} {out:List Nat} {x:Nat} (h:Marks n s out) (hx:x < n):Marks n (s.set x true) (out ++ [x]):=by
 refine ⟨by rw [List.length_set];exact h.1,fun y hy=>?_⟩
 rw [getD_set s x y (by rw [h.1];exact hx)]
 by_cases e:x = y
 ·subst e
  simp
 ·rw [if_neg e,h.2 y hy]
  have:¬ y = x:=fun k=>e k.symm
  simp [this]
theorem trans_one (p q out pr:List Nat) (s:List Bool) (a:Nat) (j:Nat) (hj:j < pr.length) (hp:pr.length≤2) (hl:out.length≤1000) (hm:Marks p.length s out) (hx:g pr j < p.length) (r:Bool)
  (H:∀ s',Marks p.length s' (st1 out (g pr j))→Ev (fun k=>Z13.l1 k (I p) (I q) s' (I (st1 out (g pr j))) (a:Int) (I pr) (pr.length:Int) ((j + 1:Nat):Int)) r) :
  Ev (fun k=>Z13.l1 k (I p) (I q) s (I out) (a:Int) (I pr) (pr.length:Int) (j:Int)) r:=by
 refine ev_succ ?_
 have h1:(j:Int) < (pr.length:Int):=by omega
 have h2:(0:Int)≤(j:Int):=by omega
 have h3:=w64s j (by omega)
 have h4:(I out).length < 17592186044416:=by rw [I_len];omega
 have h5:(0:Int)≤((g pr j:Nat):Int):=by omega
 have h6:((g pr j:Nat):Int) < (s.length:Int):=by rw [hm.1];omega
 simp only [Z13.l1,h1,h2,h3,h4,h5,h6,rdI,I_len',rdOf_nat,if_true,Int.toNat_natCast]
 by_cases hin:g pr j ∈ out
 ·have hs:=(hm.2 _ hx).mpr hin
  have e:st1 out (g pr j) = out:=by unfold st1;rw [if_pos hin]
  have:=H s (by rw [e];exact hm)
  rw [e] at this
  simp only [hs,if_true]
  exact this
 ·have hs:s.getD (g pr j) false = false:=Bool.eq_false_iff.mpr (fun h=>hin ((hm.2 _ hx).mp h))
  have e:st1 out (g pr j) = out ++ [g pr j]:=by unfold st1;rw [if_neg hin]
  have:=H (s.set (g pr j) true) (by rw [e];exact hm.add hx)
  rw [e,← I_snoc] at this
  simp only [hs,Bool.false_eq_true,if_false]
  exact this
theorem trans_loop {p q:List Nat} (hp:IsP p) (hq:IsP q) (hl:q.length = p.length) (h24:p.length≤24) (f:Nat):∀ (a:Nat) (out:List Nat) (s:List Bool),RInv p.length out→Marks p.length s out→a≤out.length→p.length < f + a →
  Ev (fun k=>Z13.l0 k (I p) (I q) s (I out) (a:Int)) ((bfs p q f a out).length == p.length):=by
 induction f with
 | zero =>
  intro a out s hr hm ha hf
  have:=hr.le
  omega
 | succ f ih =>
  intro a out s hr hm ha hf
  have hle:=hr.le
  refine ev_succ ?_
  by_cases h:a < out.length
  ·have h1:(a:Int) < (out.length:Int):=by omega
   have h2:(0:Int)≤(a:Int):=by omega
   have hx:=hr.g h
   have h3:((g out a:Nat):Int) < (p.length:Int):=by omega
   have h4:(0:Int)≤((g out a:Nat):Int):=by omega
   have h5:((g out a:Nat):Int) < (q.length:Int):=by omega
   have h6:=w64s a (by omega)
   simp only [Z13.l0,h1,h2,h3,h4,h5,rdI,I_len',if_true,Option.bind_some,I_pair]
   have hg1:=g_lt hp hx
   have hg2:g q (g out a) < p.length:=by have:=g_lt hq (i:=g out a) (by omega);omega
   have r1:=hr.st hg1
   have r2:=r1.st hg2
   have hb:bfs p q (f + 1) a out = bfs p q f (a + 1) (st1 (st1 out (g p (g out a))) (g q (g out a))):=by
    rw [bfs,if_pos h]
   rw [hb]
   refine trans_one p q out [g p (g out a),g q (g out a)] s a 0 (by simp) (by simp) (by omega) hm hg1 _ (fun s1 hm1=>?_)
   refine trans_one p q _ [g p (g out a),g q (g out a)] s1 a 1 (by simp) (by simp) (by have:=r1.le;simp only [g,List.getD_cons_zero] at this ⊢;omega) hm1 hg2 _ (fun s2 hm2=>?_)
   refine ev_succ ?_
   have h7:¬ (((1 + 1:Nat):Int) < (([g p (g out a),g q (g out a)]:List Nat).length:Int)):=by simp
   simp only [Z13.l1,h7,h6,if_false]
   exact ih (a + 1) _ s2 r2 hm2 (Nat.le_trans (by omega:a + 1≤out.length) (Nat.le_trans (st1_len _ _) (st1_len _ _))) (by omega)
  ·have h1:¬ ((a:Int) < (out.length:Int)):=by omega
   have hb:bfs p q (f + 1) a out = out:=by rw [bfs,if_neg h]
   rw [hb]
   simp only [Z13.l0,h1,I_len',if_false]
   have e:((out.length:Int) == (p.length:Int)) = (out.length == p.length):=by
    rw [Bool.eq_iff_iff,beq_iff_eq,beq_iff_eq]
    omega
   rw [e]
   exact Ev.now _
theorem j0_true (r u:List Int):Ev (fun k=>Z13.j0 k r u true) false:=by
 refine ev_succ ?_
 simp only [Z13.j0,if_true]
 exact Ev.now _
theorem impl_trans (r u:List Int):Ev (fun k=>Z13.f k r u) (surfB r u):=by
 unfold Z13.f
 refine Ev.bind (impl_permOk r) ?_
 by_cases h1:permB r = true
 ·simp only [h1,if_true]
  refine Ev.bind (impl_permOk u) ?_
  by_cases h2:permB u = true
  ·simp only [h2,if_true]
   by_cases h3:(r.length:Int) = (u.length:Int)
   ·have h3':r.length = u.length:=by omega
    simp only [h3,if_true]
    by_cases h4:0 < r.length
    ·rw [surfB_mk h1 h2 h3' h4]
     obtain ⟨p,rfl,a1,a2⟩:=PI_nat (of_decide_eq_true h1)
     obtain ⟨q,rfl,b1,b2⟩:=PI_nat (of_decide_eq_true h2)
     rw [I_len,I_len] at h3'
     rw [I_len] at h4
     refine ev_succ ?_
     have e0:((q.length:Int) == 0) = false:=by rw [beq_eq_false_iff_ne];omega
     have e1:(0:Int)≤(p.length:Int):=by omega
     have e2:((p.length:Int)).toNat≤281474976710656:=by omega
     have e3:(0:Int) < ((List.replicate p.length false).length:Int):=by rw [List.length_replicate];omega
     simp only [Z13.j0,e0,I_len',e1,e2,Bool.false_eq_true,if_true,if_false,Option.bind_some,Int.toNat_natCast,e3]
     simp only [Int.toNat_natCast] at e2
     simp only [e2,if_true]
     rw [N_I,N_I,I_len]
     refine trans_loop a1 b1 h3'.symm a2 (p.length + 1) 0 [0] _ ⟨by simp,by simpa using h4⟩ ?_ (by simp) (by omega)
     refine ⟨by simp,fun x hx=>?_⟩
     have:(0:Int).toNat = 0:=rfl
     rw [this,getD_set _ 0 x (by simp;omega)]
     by_cases e:0 = x
     ·subst e
      simp
     ·rw [if_neg e]
      have h0:¬ x = 0:=fun h=>e h.symm
      have:(List.replicate p.length false).getD x false = false:=by
       rw [List.getD_eq_getElem?_getD,List.getElem?_replicate]
       simp [hx]
      rw [this]
      simp [h0]
    ·have e0:((u.length:Int) == 0) = true:=by rw [beq_iff_eq];omega
     have:surfB r u = false:=by unfold surfB;simp [h4]
     rw [this]
     simp only [e0]
     exact j0_true r u
   ·simp only [h3,if_false]
    rw [len_ne_false (by omega)]
    exact j0_true r u
  ·have h2':=Bool.eq_false_iff.mpr h2
   simp only [h2',Bool.false_eq_true,if_false]
   have:surfB r u = false:=by unfold surfB;simp [h2']
   rw [this]
   exact j0_true r u
 ·have h1':=Bool.eq_false_iff.mpr h1
  simp only [h1',Bool.false_eq_true,if_false]
  have:surfB r u = false:=by unfold surfB;simp [h1']
  rw [this]
  exact j0_true r u
theorem impl_surf (r u:List Int):Ev (fun k=>Z35.f k r u) (surfB r u):=by
 unfold Z35.f
 exact Ev.bind (impl_trans r u) (Ev.now _)
end Go.Proofs.Ytoijcallajegfaa.M
end
section
namespace Go.Proofs.Ytoijcallajegfaa.A
open Go.RowKit Go.Proofs.YtoijcallajegfaaW.PrintWords Go.Proofs.YtoijcallajegfaaW.PrintLast Go.Proofs.YtoijcallajegfaaW.PrintMore
attribute [local go_sem] max2_int min2_int max_two min_two max_three min_three max_four min_four
set_option linter.unusedVariables false
set_option linter.unusedSimpArgs false
def Z32.l0:Nat→List Int→List Int→Int→Int→Option (List Int)
 | 0,_,_,_,_=>none
 | k + 1,x3,x9,x10,x11=>if x11 < x10 then (if 0≤x11 then (if x11 < (x9.length:Int) then (if 0≤(rd x9 x11) then (if (rd x9 x11) < (x3.length:Int) then (Z32.l0 k (x3.set ((rd x9 x11):Int).toNat x11) x9 x10 (wrap64 (x11 + 1))) else (none)) else (none)) else (none)) else (none)) else (some x3)
def Z32.f (k:Nat) (l0:List Int):Option (List Int):=if 0≤(l0.length:Int) then (if ((l0.length:Int):Int).toNat≤35184372088832 then (Z32.l0 k (List.replicate ((l0.length:Int):Int).toNat 0) l0 (l0.length:Int) 0) else (none)) else (none)
theorem Z32.mono_l:∀ k,(∀ y0 y1 y2 y3,LeO (Z32.l0 k y0 y1 y2 y3) (Z32.l0 (k + 1) y0 y1 y2 y3))
 | 0=>fun _ _ _ _ r h=>by simp [Z32.l0] at h
 | k + 1=>by
  have ih0:=Z32.mono_l k
  ·intro y0 y1 y2 y3
   unfold Z32.l0
   repeat' first|exact ih0 _ _ _ _|exact lo_|refine LeO.ite ?_ ?_|refine LeO.bind ?_ (fun _=>?_)
theorem Z32.mono:∀ a0 k,LeO (Z32.f k a0) (Z32.f (k + 1) a0):=by
 intro a0 k
 have ih0:=Z32.mono_l k
 unfold Z32.f
 repeat' first|exact ih0 _ _ _ _|exact lo_|refine LeO.ite ?_ ?_|refine LeO.bind ?_ (fun _=>?_)
set_option maxHeartbeats 8000000 in
set_option maxRecDepth 100000 in
theorem Z32.calls (k:Nat) (A0:Option Addr) (c0:Nat) (l0:List Int) (r:List Int) (w:World) (hr0:Kd.C (Kd.int .i64) w A0 l0.length l0) (hc0:l0.length≤c0) (h:Z32.f k l0 = some r) :
  Calls Try.prog 111 #[.slice A0 l0.length c0] w fun e w'=>∃ v0_:Value,e = .returned (v0_)∧Kd.R (Kd.int .i64) 3 w' w.heap.size (fun _=>True) v0_ r∧Below w.heap.size w w':=by
 have HR0:=A_ hr0
 have HC0:=A_ hc0
 clear hr0 hc0
 have HB:=A_ (Below.refl w.heap.size w)
 have H:=h
 unfold Z32.f at H
 clear h
 have c2:=cp_ H
 replace H:=ca_ H
 have c2b0:=eq_true c2
 have c2b1:=oC_ c2
 clear c2
 have c3:=cp_ H
 replace H:=ca_ H
 have c3b0:=eq_true c3
 have c3b1:=oC_ c3
 clear c3
 obtain ⟨y522,hy522⟩:∃ y_:List Int,y_ = (List.replicate ((l0.length:Int):Int).toNat 0):=⟨_,rfl⟩
 replace H:(Z32.l0 k y522 l0 (l0.length:Int) 0) = some r:=by first | (rw [hy522];exact H) | exact H
 have Ny522:=A_ hy522
 clear hy522
 have H':=A_ H
 clear H
 go_enter Try.func111,Try.ntmps111
 go_wp2_with (first | ((with_reducible refine gB_ (N:=8) rfl ?_);refine Kd.R_make (Kd.int .i64) _ 3 rfl (N:=8) rfl 23 _ _ rfl (l0.length:Int) rfl rfl Try.underlying23 (.int .i64 0) 8 info3 rfl (by decide) (by omega) 0 (ok:=fun _=>True) (okp:=fun _=>True) rfl (fun _ hk=>hk) trivial (oB_ qe_) (Nat.le_trans (Nat.mul_le_mul_right _ (oB_ qe_:(l0.length:Int).toNat≤35184372088832)) (by omega)) (Below.refl _ _) (nA_ _) ?_;intro v523 w4 ho5 hb hg_ hnew_;clear hg_ hnew_;(first | rw [← Ny522.out] at ho5 | (simp only [Int.reduceToNat] at ho5;rw [← Ny522.out] at ho5));have HO524:=rl_ w ho5;replace HB:=b1_ hb;clear hb ho5))
 go_loopg [11] k (fun kq v11 w'=>∃ (x3_1:List Int) (x11_1:Int),v11 = .int .i64 x11_1∧Aside0 (Z32.l0 kq x3_1 l0 (l0.length:Int) x11_1 = some r)∧Aside0 (kq≤k)∧Aside0 (Kd.R (Kd.int .i64) 3 w' w.heap.size (fun _=>True) v523 x3_1)∧Aside0 (Below w.heap.size w w'))
 case atStart=>exact ⟨(y522),(0),qc_,H',⟨nA_ _⟩,⟨(rr_ HO524)⟩,⟨hB_⟩⟩
 case round =>
  clear H'
  obtain ⟨x3_1,x11_1,rfl,HA,HK1,HO_3,HB⟩:=hrel
  cases gk with
  | zero=>exact absurd HA.out (by simp [Z32.l0])
  | succ k1 =>
   have H:=HA.out
   clear HA
   simp only [Z32.l0] at H
   by_cases c6:x11_1 < (l0.length:Int)
   ·rw [if_pos c6] at H
    have c6b0:=oC_ c6
    clear c6
    replace H:=cx_ H;obtain ⟨c7b0,H⟩:=H
    replace H:=cx_ H;obtain ⟨c8b0,H⟩:=H
    replace H:=cx_ H;obtain ⟨c9b0,H⟩:=H
    replace H:=cx_ H;obtain ⟨c10b0,H⟩:=H
    obtain ⟨y526,hy526⟩:∃ y_:List Int,y_ = (x3_1.set ((rd l0 x11_1):Int).toNat x11_1):=⟨_,rfl⟩
    replace H:(Z32.l0 k1 y526 l0 (l0.length:Int) (wrap64 (x11_1 + 1))) = some r:=by first | (rw [hy526];exact H) | exact H
    have Ny526:=A_ hy526
    clear hy526
    have H':=A_ H
    clear H
    have p525:0≤(x11_1:Int):=oB_ qe_
    have q525:x11_1 < (l0.length:Int):=oB_ qe_
    obtain ⟨ad525,e525,hx525_0⟩:=Kd.at_int HR0.out x11_1 p525 q525
    cases e525
    replace hx525_0:=(HB.out.cell (World.block_lt_of_cell? w _ hx525_0)).trans hx525_0
    replace p525:=eq_true p525
    replace q525:=eq_true q525
    have p11:0≤((rd l0 x11_1):Int):=oB_ qe_
    have q11:((rd l0 x11_1):Int) < ((x3_1.length:Int):Int):=oB_ qe_
    obtain ⟨go11,co11,eo11,gb11,gl11,cl11,HG11⟩:=Kd.R_form HO_3.out (by omega)
    (first | cases eo11 | (injection eo11 with ea_ en_ ec_;(first | subst ea_ | (injection ea_ with ea_;subst ea_));subst ec_;clear en_))
    have GB11:=A_ gb11
    have GG11:=A_ HG11
    clear gb11 gl11 HG11
    obtain ⟨hx11_0,hf11_0⟩:=Kd.R_celln 0 HO_3.out ((rd l0 x11_1):Int) p11 q11
    replace p11:=eq_true p11
    replace q11:=eq_true q11
    have HP12:=Kd.R_putg HO_3.out ((rd l0 x11_1):Int) x11_1
    go_wp2_with (first | ((with_reducible refine gate_store (t:=3) (p:=19) rfl ?_);refine store_event (t:=3) (p:=19) (v:=?vo_w13) (w1:=(wr.setCell ⟨go11,((rd l0 x11_1):Int).toNat,none⟩ (.int .i64 x11_1))) ?hg ?ho ?hn ?hr ?_;(case ho=>rfl);(case hg=>rfl);(case hn=>rfl);(case hr=>first | (go_simp;done) | (go_simp;rfl));intro w13 hw;have hg:wr.grownBy w13 (some go11):=(by rw [hw];exact HP12.2);have hp_:Kd.R (Kd.int .i64) 3 w13 w.heap.size (fun _=>True) (.slice (some ⟨go11,0,none⟩) x3_1.length co11) y526:=(by rw [hw,Ny526.out];exact HP12.1);clear HP12;replace HO_3:=A_ (hp_);replace HB:=A_ ((by rw [hw];exact bD_ (HB.out) GB11.out:Below w.heap.size w w13));clear hg hw hp_))
    go_roundg k1
    case measure=>have:=HK1.out;omega
    case rel=>exact ⟨(y526),(wrap64 (x11_1 + 1)),qc_,H',⟨by have:=HK1.out;omega⟩,⟨(rr_ HO_3)⟩,⟨hB_⟩⟩
   ·rw [if_neg c6] at H
    have c6b0:=oD_ c6
    clear c6
    obtain rfl:=Option.some.inj H
    go_wp2
    go_ret
    exact ⟨_,qb_,(rr_ HO_3),hB_⟩
def Z66.l0:Nat→List Int→List Int→Int→Option (Bool)
 | 0,_,_,_=>none
 | k + 1,x0,x1,x5=>if x5 < (x0.length:Int) then (if 0≤x5 then (if x5 < (x1.length:Int) then (if (rd x0 x5) = (rd x1 x5) then (Z66.l0 k x0 x1 (wrap64 (x5 + 1))) else (some false)) else (none)) else (none)) else (some true)
def Z66.f (k:Nat) (l0:List Int) (l1:List Int):Option (Bool):=if (l0.length:Int) = (l1.length:Int) then (Z66.l0 k l0 l1 0) else (some false)
theorem Z66.mono_l:∀ k,(∀ y0 y1 y2,LeO (Z66.l0 k y0 y1 y2) (Z66.l0 (k + 1) y0 y1 y2))
 | 0=>fun _ _ _ r h=>by simp [Z66.l0] at h
 | k + 1=>by
  have ih0:=Z66.mono_l k
  ·intro y0 y1 y2
   unfold Z66.l0
   repeat' first|exact ih0 _ _ _|exact lo_|refine LeO.ite ?_ ?_|refine LeO.bind ?_ (fun _=>?_)
theorem Z66.mono:∀ a0 a1 k,LeO (Z66.f k a0 a1) (Z66.f (k + 1) a0 a1):=by
 intro a0 a1 k
 have ih0:=Z66.mono_l k
 unfold Z66.f
 repeat' first|exact ih0 _ _ _|exact lo_|refine LeO.ite ?_ ?_|refine LeO.bind ?_ (fun _=>?_)
set_option maxHeartbeats 8000000 in
set_option maxRecDepth 100000 in
theorem Z66.calls (k:Nat) (A0:Option Addr) (c0:Nat) (l0:List Int) (A1:Option Addr) (c1:Nat) (l1:List Int) (r:Bool) (w:World) (hr0:Kd.C (Kd.int .i64) w A0 l0.length l0) (hc0:l0.length≤c0) (hr1:Kd.C (Kd.int .i64) w A1 l1.length l1) (hc1:l1.length≤c1) (h:Z66.f k l0 l1 = some r) :
  Calls Try.prog 82 #[.slice A0 l0.length c0,.slice A1 l1.length c1] w fun e w'=>e = .returned (.bool r)∧Drawn0 w w':=by
 have HR0:=A_ hr0
 have HC0:=A_ hc0
 clear hr0 hc0
 have HR1:=A_ hr1
 have HC1:=A_ hc1
 clear hr1 hc1
 have H:=h
 unfold Z66.f at H
 clear h
 by_cases c3:(l0.length:Int) = (l1.length:Int)
 ·rw [if_pos c3] at H
  have c3b0:((l0.length:Int) == (l1.length:Int)) = true:=beq_iff_eq.mpr c3
  have c3b1:((l0.length:Int) != (l1.length:Int)) = false:=bne_eq_false_iff_eq.mpr c3
  have c3b2:(l0.length == l1.length) = true:=by first | simpa using c3 | (simp at c3 ⊢;omega)
  clear c3
  have H':=A_ H
  clear H
  go_enter Try.func82,Try.ntmps82
  go_wp2
  repeat (go_quiet (fail);try go_wp2)
  go_loopg [5] k (fun kq v5 w'=>∃ (x5_1:Int),v5 = .int .i64 x5_1∧Aside0 (Z66.l0 kq l0 l1 x5_1 = some r)∧Aside0 (kq≤k)∧Drawn0 w w')
  case atStart=>exact ⟨(0),qc_,H',⟨nA_ _⟩,by repeat (first | exact Drawn0.refl _ | apply Drawn0.step)⟩
  case round =>
   clear H'
   obtain ⟨x5_1,rfl,HA,HK1,⟨m1,rfl⟩⟩:=hrel
   cases gk with
   | zero=>exact absurd HA.out (by simp [Z66.l0])
   | succ k1 =>
    have H:=HA.out
    clear HA
    simp only [Z66.l0] at H
    by_cases c4:x5_1 < (l0.length:Int)
    ·rw [if_pos c4] at H
     have c4b0:=oC_ c4
     clear c4
     replace H:=cx_ H;obtain ⟨c5b0,H⟩:=H
     replace H:=cx_ H;obtain ⟨c6b0,H⟩:=H
     by_cases c7:(rd l0 x5_1) = (rd l1 x5_1)
     ·rw [if_pos c7] at H
      have c7b0:((rd l0 x5_1) == (rd l1 x5_1)) = true:=beq_iff_eq.mpr c7
      have c7b1:((rd l0 x5_1) != (rd l1 x5_1)) = false:=bne_eq_false_iff_eq.mpr c7
      clear c7
      have H':=A_ H
      clear H
      have p1127:0≤(x5_1:Int):=oB_ qe_
      have q1127:x5_1 < (l0.length:Int):=oB_ qe_
      obtain ⟨ad1127,e1127,hx1127_0⟩:=Kd.at_int HR0.out x5_1 p1127 q1127
      cases e1127
      replace p1127:=eq_true p1127
      replace q1127:=eq_true q1127
      have p1128:0≤(x5_1:Int):=oB_ qe_
      have q1128:x5_1 < (l1.length:Int):=oB_ qe_
      obtain ⟨ad1128,e1128,hx1128_0⟩:=Kd.at_int HR1.out x5_1 p1128 q1128
      cases e1128
      replace p1128:=eq_true p1128
      replace q1128:=eq_true q1128
      go_wp2
      repeat (go_quiet (fail);try go_wp2)
      go_roundg k1
      case measure=>have:=HK1.out;omega
      case rel=>exact ⟨(wrap64 (x5_1 + 1)),qc_,H',⟨by have:=HK1.out;omega⟩,by repeat (first | exact Drawn0.refl _ | apply Drawn0.step)⟩
     ·rw [if_neg c7] at H
      have c7b0:((rd l0 x5_1) == (rd l1 x5_1)) = false:=beq_eq_false_iff_ne.mpr c7
      have c7b1:((rd l0 x5_1) != (rd l1 x5_1)) = true:=bne_iff_ne.mpr c7
      obtain rfl:=Option.some.inj H
      have p1127:0≤(x5_1:Int):=oB_ qe_
      have q1127:x5_1 < (l0.length:Int):=oB_ qe_
      obtain ⟨ad1127,e1127,hx1127_0⟩:=Kd.at_int HR0.out x5_1 p1127 q1127
      cases e1127
      replace p1127:=eq_true p1127
      replace q1127:=eq_true q1127
      have p1128:0≤(x5_1:Int):=oB_ qe_
      have q1128:x5_1 < (l1.length:Int):=oB_ qe_
      obtain ⟨ad1128,e1128,hx1128_0⟩:=Kd.at_int HR1.out x5_1 p1128 q1128
      cases e1128
      replace p1128:=eq_true p1128
      replace q1128:=eq_true q1128
      go_wp2
      repeat (go_quiet (fail);try go_wp2)
      go_ret
      exact ⟨qc_,by repeat (first | exact Drawn0.refl _ | apply Drawn0.step)⟩
    ·rw [if_neg c4] at H
     have c4b0:=oD_ c4
     clear c4
     obtain rfl:=Option.some.inj H
     go_wp2
     repeat (go_quiet (fail);try go_wp2)
     go_ret
     exact ⟨qc_,by repeat (first | exact Drawn0.refl _ | apply Drawn0.step)⟩
 ·rw [if_neg c3] at H
  have c3b0:((l0.length:Int) == (l1.length:Int)) = false:=beq_eq_false_iff_ne.mpr c3
  have c3b1:((l0.length:Int) != (l1.length:Int)) = true:=bne_iff_ne.mpr c3
  have c3b2:(l0.length == l1.length) = false:=by first | simpa using c3 | (simp at c3 ⊢;omega)
  obtain rfl:=Option.some.inj H
  go_enter Try.func82,Try.ntmps82
  go_wp2
  repeat (go_quiet (fail);try go_wp2)
  go_ret
  exact ⟨qc_,by repeat (first | exact Drawn0.refl _ | apply Drawn0.step)⟩
def Z37.f (k:Nat) (l0_0:List Int) (l0_1:List Int) (l1_0:List Int) (l1_1:List Int):Option (Bool):=(Z66.f k l0_0 l1_0).bind fun t1131=>(if t1131 = true then ((Z66.f k l0_1 l1_1).bind fun t1132=>(if t1132 = true then (some true) else (some false))) else (some false))
theorem Z37.mono:∀ a0 a1 a2 a3 k,LeO (Z37.f k a0 a1 a2 a3) (Z37.f (k + 1) a0 a1 a2 a3):=by
 intro a0 a1 a2 a3 k
 unfold Z37.f
 repeat' first|exact Z66.mono _ _ _|exact lo_|refine LeO.ite ?_ ?_|refine LeO.bind ?_ (fun _=>?_)
set_option maxHeartbeats 8000000 in
set_option maxRecDepth 100000 in
theorem Z37.calls (k:Nat) (A0_0:Option Addr) (c0_0:Nat) (l0_0:List Int) (A0_1:Option Addr) (c0_1:Nat) (l0_1:List Int) (A1_0:Option Addr) (c1_0:Nat) (l1_0:List Int) (A1_1:Option Addr) (c1_1:Nat) (l1_1:List Int) (r:Bool) (w:World) (hr0_0:Kd.C (Kd.int .i64) w A0_0 l0_0.length l0_0) (hc0_0:l0_0.length≤c0_0) (hr0_1:Kd.C (Kd.int .i64) w A0_1 l0_1.length l0_1) (hc0_1:l0_1.length≤c0_1) (hr1_0:Kd.C (Kd.int .i64) w A1_0 l1_0.length l1_0) (hc1_0:l1_0.length≤c1_0) (hr1_1:Kd.C (Kd.int .i64) w A1_1 l1_1.length l1_1) (hc1_1:l1_1.length≤c1_1) (h:Z37.f k l0_0 l0_1 l1_0 l1_1 = some r) :
  Calls Try.prog 35 #[.agg #[.slice A0_0 l0_0.length c0_0,.slice A0_1 l0_1.length c0_1],.agg #[.slice A1_0 l1_0.length c1_0,.slice A1_1 l1_1.length c1_1]] w fun e w'=>e = .returned (.bool r)∧Below w.heap.size w w':=by
 have hu33:=Try.underlying33
 have HR0_0:=A_ hr0_0
 have HC0_0:=A_ hc0_0
 clear hr0_0 hc0_0
 have HR0_1:=A_ hr0_1
 have HC0_1:=A_ hc0_1
 clear hr0_1 hc0_1
 have HR1_0:=A_ hr1_0
 have HC1_0:=A_ hc1_0
 clear hr1_0 hc1_0
 have HR1_1:=A_ hr1_1
 have HC1_1:=A_ hc1_1
 clear hr1_1 hc1_1
 have HB:=A_ (Below.refl w.heap.size w)
 have H:=h
 unfold Z37.f at H
 clear h
 obtain ⟨t1131,A3,H⟩:=bi_ H
 by_cases c4:t1131 = true
 ·subst c4
  rw [if_pos rfl] at H
  obtain ⟨t1132,A5,H⟩:=bi_ H
  by_cases c6:t1132 = true
  ·subst c6
   rw [if_pos rfl] at H
   obtain rfl:=Option.some.inj H
   go_enter Try.func35,Try.ntmps35
   go_wp2_with (first | ((with_reducible refine gB_ (N:=2) rfl ?_);refine bx_ 2 #[.slice A0_0 l0_0.length c0_0,.slice A0_1 l0_1.length c0_1] 33 ?_;intro gb1129 hg w7 hbox hb;have BK1129:=A_ hbox;have GW1129:=gw_ w hg;have GE1129:=GW1129;replace HB:=b1_ hb;clear hb hbox hg) | ((with_reducible refine gB_ (N:=3) rfl ?_);refine bx_ 3 #[.slice A1_0 l1_0.length c1_0,.slice A1_1 l1_1.length c1_1] 33 ?_;intro gb1130 hg w8 hbox hb;have BK1130:=A_ hbox;have GW1130:=gw_ w hg;have GE1130:=GW1130;replace HB:=b1_ hb;have NB1129_1130:=gN_ BK1129 hg;have NB1130_1129:=gP_ BK1129 hg;replace BK1129:=bb_ BK1129 hb;clear hb hbox hg;have hnb9:=NB1129_1130.out;have hnc9:=NB1130_1129.out;obtain ⟨hcz10_0,hcz10_1,hfz10_0,hfz10_1⟩:=c2_ BK1129;obtain ⟨hcz11_0,hcz11_1,hfz11_0,hfz11_1⟩:=c2_ BK1130) | ((with_reducible refine gA_ (f:=82) rfl ?_);refine gL_ (some 9) Try.func82 #[.slice A0_0 l0_0.length c0_0,.slice A1_0 l1_0.length c1_0] rfl qa_ ?_;(with_reducible refine (Z66.calls k _ _ l0_0 _ _ l1_0 true _ (cb_ HR0_0) HC0_0.out (cb_ HR1_0) HC1_0.out A3.out).mono ?_);rintro e w' ⟨rfl,⟨nd,rfl⟩⟩;refine ⟨_,rfl,?_⟩) | ((with_reducible refine gA_ (f:=82) rfl ?_);refine gL_ (some 15) Try.func82 #[.slice A0_1 l0_1.length c0_1,.slice A1_1 l1_1.length c1_1] rfl qa_ ?_;(with_reducible refine (Z66.calls k _ _ l0_1 _ _ l1_1 true _ (cw_ (cD_ HR0_1.out hB_)) HC0_1.out (cw_ (cD_ HR1_1.out hB_)) HC1_1.out A5.out).mono ?_);rintro e w' ⟨rfl,⟨nd,rfl⟩⟩;refine ⟨_,rfl,?_⟩))
   go_ret
   exact ⟨qb_,hB_⟩
  ·replace c6:=Bool.eq_false_iff.mpr c6
   subst c6
   have H1:(some false) = some r:=by rw [if_neg (show ¬ (false = true) by decide)] at H;exact H
   clear H
   have H:=H1
   clear H1
   obtain rfl:=Option.some.inj H
   go_enter Try.func35,Try.ntmps35
   go_wp2_with (first | ((with_reducible refine gB_ (N:=2) rfl ?_);refine bx_ 2 #[.slice A0_0 l0_0.length c0_0,.slice A0_1 l0_1.length c0_1] 33 ?_;intro gb1129 hg w12 hbox hb;have BK1129:=A_ hbox;have GW1129:=gw_ w hg;have GE1129:=GW1129;replace HB:=b1_ hb;clear hb hbox hg) | ((with_reducible refine gB_ (N:=3) rfl ?_);refine bx_ 3 #[.slice A1_0 l1_0.length c1_0,.slice A1_1 l1_1.length c1_1] 33 ?_;intro gb1130 hg w13 hbox hb;have BK1130:=A_ hbox;have GW1130:=gw_ w hg;have GE1130:=GW1130;replace HB:=b1_ hb;have NB1129_1130:=gN_ BK1129 hg;have NB1130_1129:=gP_ BK1129 hg;replace BK1129:=bb_ BK1129 hb;clear hb hbox hg;have hnb14:=NB1129_1130.out;have hnc14:=NB1130_1129.out;obtain ⟨hcz15_0,hcz15_1,hfz15_0,hfz15_1⟩:=c2_ BK1129;obtain ⟨hcz16_0,hcz16_1,hfz16_0,hfz16_1⟩:=c2_ BK1130) | ((with_reducible refine gA_ (f:=82) rfl ?_);refine gL_ (some 9) Try.func82 #[.slice A0_0 l0_0.length c0_0,.slice A1_0 l1_0.length c1_0] rfl qa_ ?_;(with_reducible refine (Z66.calls k _ _ l0_0 _ _ l1_0 true _ (cb_ HR0_0) HC0_0.out (cb_ HR1_0) HC1_0.out A3.out).mono ?_);rintro e w' ⟨rfl,⟨nd,rfl⟩⟩;refine ⟨_,rfl,?_⟩) | ((with_reducible refine gA_ (f:=82) rfl ?_);refine gL_ (some 15) Try.func82 #[.slice A0_1 l0_1.length c0_1,.slice A1_1 l1_1.length c1_1] rfl qa_ ?_;(with_reducible refine (Z66.calls k _ _ l0_1 _ _ l1_1 false _ (cw_ (cD_ HR0_1.out hB_)) HC0_1.out (cw_ (cD_ HR1_1.out hB_)) HC1_1.out A5.out).mono ?_);rintro e w' ⟨rfl,⟨nd,rfl⟩⟩;refine ⟨_,rfl,?_⟩))
   go_ret
   exact ⟨qb_,hB_⟩
 ·replace c4:=Bool.eq_false_iff.mpr c4
  subst c4
  have H1:(some false) = some r:=by rw [if_neg (show ¬ (false = true) by decide)] at H;exact H
  clear H
  have H:=H1
  clear H1
  obtain rfl:=Option.some.inj H
  go_enter Try.func35,Try.ntmps35
  go_wp2_with (first | ((with_reducible refine gB_ (N:=2) rfl ?_);refine bx_ 2 #[.slice A0_0 l0_0.length c0_0,.slice A0_1 l0_1.length c0_1] 33 ?_;intro gb1129 hg w17 hbox hb;have BK1129:=A_ hbox;have GW1129:=gw_ w hg;have GE1129:=GW1129;replace HB:=b1_ hb;clear hb hbox hg) | ((with_reducible refine gB_ (N:=3) rfl ?_);refine bx_ 3 #[.slice A1_0 l1_0.length c1_0,.slice A1_1 l1_1.length c1_1] 33 ?_;intro gb1130 hg w18 hbox hb;have BK1130:=A_ hbox;have GW1130:=gw_ w hg;have GE1130:=GW1130;replace HB:=b1_ hb;have NB1129_1130:=gN_ BK1129 hg;have NB1130_1129:=gP_ BK1129 hg;replace BK1129:=bb_ BK1129 hb;clear hb hbox hg;have hnb19:=NB1129_1130.out;have hnc19:=NB1130_1129.out;obtain ⟨hcz20_0,hcz20_1,hfz20_0,hfz20_1⟩:=c2_ BK1129;obtain ⟨hcz21_0,hcz21_1,hfz21_0,hfz21_1⟩:=c2_ BK1130) | ((with_reducible refine gA_ (f:=82) rfl ?_);refine gL_ (some 9) Try.func82 #[.slice A0_0 l0_0.length c0_0,.slice A1_0 l1_0.length c1_0] rfl qa_ ?_;(with_reducible refine (Z66.calls k _ _ l0_0 _ _ l1_0 false _ (cb_ HR0_0) HC0_0.out (cb_ HR1_0) HC1_0.out A3.out).mono ?_);rintro e w' ⟨rfl,⟨nd,rfl⟩⟩;refine ⟨_,rfl,?_⟩))
  go_ret
  exact ⟨qb_,hB_⟩
end Go.Proofs.Ytoijcallajegfaa.A
end
section
/- What every law does with its arguments; inverses. No conditions. -/
namespace Go.Proofs.Ytoijcallajegfaa.M
set_option linter.unusedVariables false
set_option linter.unusedSimpArgs false
open Go.RowKit Go.Proofs.YtoijcallajegfaaW.PrintWords Go.Proofs.YtoijcallajegfaaW.PrintLast Go.Proofs.YtoijcallajegfaaW.PrintMore Go.Proofs.Ytoijcallajegfaa.A
theorem rd_set {l:List Int} {i j:Nat} {x:Int} (h:i < l.length):rd (l.set i x) (j:Int) = if i = j then x else rd l (j:Int):=by
 unfold rd
 simp only [Int.toNat_natCast]
 rw [List.getD_eq_getElem?_getD,List.getD_eq_getElem?_getD,List.getElem?_set]
 by_cases e:i = j
 ·subst e
  simp [h]
 ·simp [e]
theorem ext_rd {a b:List Int} (hl:a.length = b.length) (h:∀ i:Nat,i < a.length→rd a (i:Int) = rd b (i:Int)):a = b:=by
 apply List.ext_getElem hl
 intro i h1 h2
 rw [← rd_get a i h1,← rd_get b i h2]
 exact h i h1
theorem eqInts_ev (a b:List Int) (ha:a.length≤9000000000000000000):Ev (fun k=>Z66.f k a b) (decide (a = b)):=by
 unfold Z66.f
 by_cases hl:(a.length:Int) = (b.length:Int)
 ·simp only [hl,if_true]
  have hl':a.length = b.length:=by omega
  have H:∀ d i:Nat,i + d = a.length→∃ c,Ev (fun k=>Z66.l0 k a b (i:Int)) c∧(c = true ↔ ∀ j:Nat,i≤j→j < a.length→rd a (j:Int) = rd b (j:Int)):=by
   intro d
   induction d with
   | zero =>
    intro i h
    refine ⟨true,ev_succ ?_,by simp;intro j h1 h2;omega⟩
    have h1:¬ ((i:Int) < (a.length:Int)):=by omega
    simp only [Z66.l0,h1,if_false]
    exact Ev.now _
   | succ d ih =>
    intro i h
    have h1:(i:Int) < (a.length:Int):=by omega
    have h2:(0:Int)≤(i:Int):=by omega
    have h3:(i:Int) < (b.length:Int):=by omega
    have h4:=w64s i (by omega)
    by_cases c:rd a (i:Int) = rd b (i:Int)
    ·obtain ⟨c',i1,i2⟩:=ih (i + 1) (by omega)
     refine ⟨c',ev_succ ?_,by
      rw [i2]
      constructor
      ·intro k j j1 j2
       by_cases e:j = i
       ·subst e;exact c
       ·exact k j (by omega) j2
      ·intro k j j1 j2
       exact k j (by omega) j2⟩
     simp only [Z66.l0,h1,h2,h3,h4,c,if_true]
     exact i1
    ·refine ⟨false,ev_succ ?_,by
      simp only [Bool.false_eq_true,false_iff]
      intro k
      exact c (k i (Nat.le_refl _) (by omega))⟩
     simp only [Z66.l0,h1,h2,h3,c,if_true,if_false]
     exact Ev.now _
  obtain ⟨c,i1,i2⟩:=H a.length 0 (by omega)
  have:decide (a = b) = c:=by
   rw [Bool.eq_iff_iff,i2,decide_eq_true_iff]
   constructor
   ·intro e j _ _
    rw [e]
   ·intro k
    exact ext_rd hl' (fun j hj=>k j (Nat.zero_le _) hj)
  rw [this]
  exact i1
 ·simp only [hl,if_false]
  have:decide (a = b) = false:=by
   rw [decide_eq_false_iff_not]
   intro e
   exact hl (by rw [e])
  rw [this]
  exact Ev.now _
theorem eqInts_same (a:List Int) (ha:a.length≤9000000000000000000):Ev (fun k=>Z66.f k a a) true:=by
 have:=eqInts_ev a a ha
 simpa using this
theorem eqSurf_same (r u:List Int) (hr:r.length≤9000000000000000000) (hu:u.length≤9000000000000000000):Ev (fun k=>Z37.f k r u r u) true:=by
 unfold Z37.f
 refine Ev.bind (eqInts_same r hr) ?_
 simp only [if_true]
 refine Ev.bind (eqInts_same u hu) ?_
 simp only [if_true]
 exact Ev.now _
theorem inv_of {p c:List Nat} (hp:IsP p) (hc:c.length = p.length) (h:∀ j,j < p.length→g c (g p j) = j):c = inv p:=by
 refine ext_g (by rw [inv_len,hc]) (fun x hx=>?_)
 rw [hc] at hx
 rw [g_inv hx]
 have:=h (ix p x) (ix_lt hp hx)
 rw [g_ix hp hx] at this
 exact this
theorem inv_step {p c:List Nat} (hp:IsP p) {i:Nat} (hi:i < p.length) (hc:c.length = p.length) (h:∀ j,j < i→g c (g p j) = j):∀ j,j < i + 1→g (c.set (g p i) i) (g p j) = j:=by
 intro j hj
 rw [g_set (by rw [hc];exact g_lt hp hi)]
 by_cases e:j = i
 ·subst e
  simp
 ·rw [if_neg (fun k=>e (g_inj hp (by omega) hi k.symm))]
  exact h j (by omega)
theorem spec_inv {p:List Nat} (hp:IsP p) (h24:p.length≤24):Ev (fun k=>Z32.f k (I p)) (I (inv p)):=by
 unfold Z32.f
 have H:∀ (d i:Nat) (c:List Nat),i + d = p.length→c.length = p.length→(∀ j,j < i→g c (g p j) = j)→Ev (fun k=>Z32.l0 k (I c) (I p) (p.length:Int) (i:Int)) (I (inv p)):=by
  intro d
  induction d with
  | zero =>
   intro i c h hc hx
   refine ev_succ ?_
   have h1:¬ ((i:Int) < (p.length:Int)):=by omega
   rw [← inv_of hp hc (fun j hj=>hx j (by omega))]
   simp only [Z32.l0,h1,if_false]
   exact Ev.now _
  | succ d ih =>
   intro i c h hc hx
   refine ev_succ ?_
   have hi:i < p.length:=by omega
   have h1:(i:Int) < (p.length:Int):=by omega
   have h2:(0:Int)≤(i:Int):=by omega
   have h3:=w64s i (by omega)
   have h4:(0:Int)≤((g p i:Nat):Int):=by omega
   have h5:((g p i:Nat):Int) < (c.length:Int):=by have:=g_lt hp hi;omega
   simp only [Z32.l0,h1,h2,h3,h4,h5,rdI,I_len',I_set,if_true,Int.toNat_natCast]
   exact ih (i + 1) _ (by omega) (by rw [List.length_set];exact hc) (inv_step hp hi hc hx)
 have h1:(0:Int)≤(p.length:Int):=by omega
 have h2:p.length≤35184372088832:=by omega
 simp only [I_len',h1,h2,if_true,Int.toNat_natCast]
 have:=H p.length 0 (List.replicate p.length 0) (by omega) (by simp) (fun j hj=>by omega)
 rw [I_rep] at this
 exact this
theorem impl_inv {p:List Nat} (hp:IsP p) (h24:p.length≤24):Ev (fun k=>Z21.f k (I p)) (I (inv p)):=by
 unfold Z21.f
 have H:∀ (d i:Nat) (c:List Nat),i + d = p.length→c.length = p.length→(∀ j,j < i→g c (g p j) = j)→Ev (fun k=>Z21.l0 k (I c) (I p) (p.length:Int) (i:Int)) (I (inv p)):=by
  intro d
  induction d with
  | zero =>
   intro i c h hc hx
   refine ev_succ ?_
   have h1:¬ ((i:Int) < (p.length:Int)):=by omega
   rw [← inv_of hp hc (fun j hj=>hx j (by omega))]
   simp only [Z21.l0,h1,if_false]
   exact Ev.now _
  | succ d ih =>
   intro i c h hc hx
   refine ev_succ ?_
   have hi:i < p.length:=by omega
   have h1:(i:Int) < (p.length:Int):=by omega
   have h2:(0:Int)≤(i:Int):=by omega
   have h3:=w64s i (by omega)
   have h4:(0:Int)≤((g p i:Nat):Int):=by omega
   have h5:((g p i:Nat):Int) < (c.length:Int):=by have:=g_lt hp hi;omega
   simp only [Z21.l0,h1,h2,h3,h4,h5,rdI,I_len',I_set,if_true,Int.toNat_natCast]
   exact ih (i + 1) _ (by omega) (by rw [List.length_set];exact hc) (inv_step hp hi hc hx)
 refine Ev.bind (impl_permOk (I p)) ?_
 have h0:permB (I p) = true:=permB_I.mpr ⟨hp,h24⟩
 have h1:(0:Int)≤(p.length:Int):=by omega
 have h2:p.length≤35184372088832:=by omega
 simp only [h0,I_len',h1,h2,if_true,Int.toNat_natCast]
 have:=H p.length 0 (List.replicate p.length 0) (by omega) (by simp) (fun j hj=>by omega)
 rw [I_rep] at this
 exact this
end Go.Proofs.Ytoijcallajegfaa.M
end
section
namespace Go.Proofs.Ytoijcallajegfaa.A
open Go.RowKit Go.Proofs.YtoijcallajegfaaW.PrintWords Go.Proofs.YtoijcallajegfaaW.PrintLast Go.Proofs.YtoijcallajegfaaW.PrintMore
attribute [local go_sem] max2_int min2_int max_two min_two max_three min_three max_four min_four
set_option linter.unusedVariables false
set_option linter.unusedSimpArgs false
def Z39.l0:Nat→List Int→List Int→List Int→Int→Int→Option (List Int)
 | 0,_,_,_,_,_=>none
 | k + 1,x1,x5,x11,x12,x13=>if x13 < x12 then (if 0≤x13 then (if x13 < (x11.length:Int) then (if x13 < (x1.length:Int) then (if 0≤(rd x11 x13) then (if (rd x11 x13) < (x1.length:Int) then (if 0≤(rd x1 x13) then (if (rd x1 x13) < (x5.length:Int) then (Z39.l0 k x1 (x5.set ((rd x1 x13):Int).toNat (rd x1 (rd x11 x13))) x11 x12 (wrap64 (x13 + 1))) else (none)) else (none)) else (none)) else (none)) else (none)) else (none)) else (none)) else (some x5)
def Z39.f (k:Nat) (l0:List Int) (l1:List Int):Option (List Int):=if 0≤(l0.length:Int) then (if ((l0.length:Int):Int).toNat≤35184372088832 then (Z39.l0 k l1 (List.replicate ((l0.length:Int):Int).toNat 0) l0 (l0.length:Int) 0) else (none)) else (none)
theorem Z39.mono_l:∀ k,(∀ y0 y1 y2 y3 y4,LeO (Z39.l0 k y0 y1 y2 y3 y4) (Z39.l0 (k + 1) y0 y1 y2 y3 y4))
 | 0=>fun _ _ _ _ _ r h=>by simp [Z39.l0] at h
 | k + 1=>by
  have ih0:=Z39.mono_l k
  ·intro y0 y1 y2 y3 y4
   unfold Z39.l0
   repeat' first|exact ih0 _ _ _ _ _|exact lo_|refine LeO.ite ?_ ?_|refine LeO.bind ?_ (fun _=>?_)
theorem Z39.mono:∀ a0 a1 k,LeO (Z39.f k a0 a1) (Z39.f (k + 1) a0 a1):=by
 intro a0 a1 k
 have ih0:=Z39.mono_l k
 unfold Z39.f
 repeat' first|exact ih0 _ _ _ _ _|exact lo_|refine LeO.ite ?_ ?_|refine LeO.bind ?_ (fun _=>?_)
def Z39.T5:Bool × List (List Nat × List Nat):=(true,[([],[]),([],[]),([],[]),([1,2],[1,2]),([3],[3]),([],[]),([],[]),([5,6],[5,6]),([7],[7]),([0,4,0,1,2,3,4,5,6,7,8],[0,4]),([9,8,0,1,2,3,4,5,6,7,8],[8,9])])
def Z39.B5:List Nat:=[0,0,0,6,14,0,0,96,224,511,1023]
theorem Z39.tab5:rtab .any (opsOf Try.f164 5) = Z39.T5:=by kernel_rfl
theorem Z39.bits5:waitsOk Z39.T5.2 Z39.B5 = true:=by kernel_rfl
set_option maxHeartbeats 8000000 in
set_option maxRecDepth 100000 in
theorem Z39.calls (k:Nat) (A0:Option Addr) (c0:Nat) (l0:List Int) (A1:Option Addr) (c1:Nat) (l1:List Int) (r:List Int) (w:World) (hr0:Kd.C (Kd.int .i64) w A0 l0.length l0) (hc0:l0.length≤c0) (hr1:Kd.C (Kd.int .i64) w A1 l1.length l1) (hc1:l1.length≤c1) (h:Z39.f k l0 l1 = some r) :
  Calls Try.prog 164 #[.slice A0 l0.length c0,.slice A1 l1.length c1] w fun e w'=>∃ v0_:Value,e = .returned (v0_)∧Kd.R (Kd.int .i64) 3 w' w.heap.size (fun _=>True) v0_ r∧Below w.heap.size w w':=by
 have HR0:=A_ hr0
 have HC0:=A_ hc0
 clear hr0 hc0
 have HR1:=A_ hr1
 have HC1:=A_ hc1
 clear hr1 hc1
 have HB:=A_ (Below.refl w.heap.size w)
 have H:=h
 unfold Z39.f at H
 clear h
 have c3:=cp_ H
 replace H:=ca_ H
 have c3b0:=eq_true c3
 have c3b1:=oC_ c3
 clear c3
 have c4:=cp_ H
 replace H:=ca_ H
 have c4b0:=eq_true c4
 have c4b1:=oC_ c4
 clear c4
 obtain ⟨y1037,hy1037⟩:∃ y_:List Int,y_ = (List.replicate ((l0.length:Int):Int).toNat 0):=⟨_,rfl⟩
 replace H:(Z39.l0 k l1 y1037 l0 (l0.length:Int) 0) = some r:=by first | (rw [hy1037];exact H) | exact H
 have Ny1037:=A_ hy1037
 clear hy1037
 have H':=A_ H
 clear H
 go_enter Try.func164,Try.ntmps164
 go_wp2_with (first | ((with_reducible refine gB_ (N:=10) rfl ?_);refine Kd.R_make (Kd.int .i64) _ 3 rfl (N:=10) rfl 23 _ _ rfl (l0.length:Int) rfl rfl Try.underlying23 (.int .i64 0) 8 info3 rfl (by decide) (by omega) 0 (ok:=fun _=>True) (okp:=fun _=>True) rfl (fun _ hk=>hk) trivial (oB_ qe_) (Nat.le_trans (Nat.mul_le_mul_right _ (oB_ qe_:(l0.length:Int).toNat≤35184372088832)) (by omega)) (Below.refl _ _) (nA_ _) ?_;intro v1038 w5 ho6 hb hg_ hnew_;clear hg_ hnew_;(first | rw [← Ny1037.out] at ho6 | (simp only [Int.reduceToNat] at ho6;rw [← Ny1037.out] at ho6));have HO1039:=rl_ w ho6;replace HB:=b1_ hb;clear hb ho6))
 go_loopg [13] k (fun kq v13 w'=>∃ (x5_1:List Int) (x13_1:Int),v13 = .int .i64 x13_1∧Aside0 (Z39.l0 kq l1 x5_1 l0 (l0.length:Int) x13_1 = some r)∧Aside0 (kq≤k)∧Aside0 (Kd.R (Kd.int .i64) 3 w' w.heap.size (fun _=>True) v1038 x5_1)∧Aside0 (Below w.heap.size w w'))
 case atStart=>exact ⟨(y1037),(0),qc_,H',⟨nA_ _⟩,⟨(rr_ HO1039)⟩,⟨hB_⟩⟩
 case round =>
  clear H'
  obtain ⟨x5_1,x13_1,rfl,HA,HK1,HO_5,HB⟩:=hrel
  cases gk with
  | zero=>exact absurd HA.out (by simp [Z39.l0])
  | succ k1 =>
   have H:=HA.out
   clear HA
   simp only [Z39.l0] at H
   by_cases c7:x13_1 < (l0.length:Int)
   ·rw [if_pos c7] at H
    have c7b0:=oC_ c7
    clear c7
    replace H:=cx_ H;obtain ⟨c8b0,H⟩:=H
    replace H:=cx_ H;obtain ⟨c9b0,H⟩:=H
    replace H:=cx_ H;obtain ⟨c10b0,H⟩:=H
    replace H:=cx_ H;obtain ⟨c11b0,H⟩:=H
    replace H:=cx_ H;obtain ⟨c12b0,H⟩:=H
    replace H:=cx_ H;obtain ⟨c13b0,H⟩:=H
    replace H:=cx_ H;obtain ⟨c14b0,H⟩:=H
    obtain ⟨y1043,hy1043⟩:∃ y_:List Int,y_ = (x5_1.set ((rd l1 x13_1):Int).toNat (rd l1 (rd l0 x13_1))):=⟨_,rfl⟩
    replace H:(Z39.l0 k1 l1 y1043 l0 (l0.length:Int) (wrap64 (x13_1 + 1))) = some r:=by first | (rw [hy1043];exact H) | exact H
    have Ny1043:=A_ hy1043
    clear hy1043
    have H':=A_ H
    clear H
    have p1040:0≤(x13_1:Int):=oB_ qe_
    have q1040:x13_1 < (l0.length:Int):=oB_ qe_
    obtain ⟨ad1040,e1040,hx1040_0⟩:=Kd.at_int HR0.out x13_1 p1040 q1040
    cases e1040
    replace hx1040_0:=(HB.out.cell (World.block_lt_of_cell? w _ hx1040_0)).trans hx1040_0
    replace p1040:=eq_true p1040
    replace q1040:=eq_true q1040
    try go_wp2
    replace HO_5:=A_ (rC_ HO_5.out)
    replace HB:=A_ (bC_ HB.out)
    have p1041:0≤(x13_1:Int):=oB_ qe_
    have q1041:x13_1 < (l1.length:Int):=oB_ qe_
    obtain ⟨ad1041,e1041,hx1041_0⟩:=Kd.at_int HR1.out x13_1 p1041 q1041
    have hw1041_0:=hx1041_0
    cases e1041
    replace hx1041_0:=(HB.out.cell (World.block_lt_of_cell? w _ hx1041_0)).trans hx1041_0
    replace p1041:=eq_true p1041
    replace q1041:=eq_true q1041
    have p1042:0≤((rd l0 x13_1):Int):=oB_ qe_
    have q1042:(rd l0 x13_1) < (l1.length:Int):=oB_ qe_
    obtain ⟨ad1042,e1042,hx1042_0⟩:=Kd.at_int HR1.out (rd l0 x13_1) p1042 q1042
    have hw1042_0:=hx1042_0
    obtain rfl:ad1041 = ad1042:=(by injection e1042)
    replace hx1042_0:=(HB.out.cell (World.block_lt_of_cell? w _ hx1042_0)).trans hx1042_0
    replace p1042:=eq_true p1042
    replace q1042:=eq_true q1042
    have p15:0≤((rd l1 x13_1):Int):=oB_ qe_
    have q15:((rd l1 x13_1):Int) < ((x5_1.length:Int):Int):=oB_ qe_
    obtain ⟨go15,co15,eo15,gb15,gl15,cl15,HG15⟩:=Kd.R_form HO_5.out (by omega)
    (first | cases eo15 | (injection eo15 with ea_ en_ ec_;(first | subst ea_ | (injection ea_ with ea_;subst ea_));subst ec_;clear en_))
    have GB15:=A_ gb15
    have GG15:=A_ HG15
    clear gb15 gl15 HG15
    obtain ⟨hx15_0,hf15_0⟩:=Kd.R_celln 0 HO_5.out ((rd l1 x13_1):Int) p15 q15
    replace p15:=eq_true p15
    replace q15:=eq_true q15
    have HP17:=Kd.R_putn HO_5.out ((rd l1 x13_1):Int) (rd l1 (rd l0 x13_1))
    rw [← Ny1043.out] at HP17
    have HQ17:=A_ HP17
    clear HP17
    refine start_ (n:=11) (S:=fun w'=>w'.cell? (ad1041.add (x13_1).toNat) = some (.int .i64 (rd l1 x13_1))∧w'.cell? (ad1041.add ((rd l0 x13_1)).toNat) = some (.int .i64 (rd l1 (rd l0 x13_1)))) (ds:=[10]) (bl_ 11 0) (by kernel_rfl) rfl (by kernel_rfl) ⟨((HB.out.cell (World.block_lt_of_cell? w _ hw1041_0)).trans hw1041_0),((HB.out.cell (World.block_lt_of_cell? w _ hw1042_0)).trans hw1042_0)⟩ (fun hHeld=>?_);refine with_tabW Z39.tab5 Z39.bits5 (fun HT_ HW_=>?_)
    generalize wr.drew = w16 at HO_5 HB GG15 HQ17 hf15_0 hx1041_0 hx1042_0 hx15_0 hHeld ⊢
    refine pu_ 0 (some 18) (bl_ 11 1) HT_ ?_
    refine pu_ 1 (some 19) (bl_ 11 3) HT_ ?_
    refine pu_ 2 (some 20) (bl_ 11 7) HT_ ?_
    refine pu_ 3 (some 21) (bl_ 11 15) HT_ ?_
    refine pu_ 5 (some 23) (bl_ 11 47) HT_ ?_
    refine pu_ 6 (some 24) (bl_ 11 111) HT_ ?_
    refine pu_ 7 (some 25) (bl_ 11 239) HT_ ?_
    refine ta_ 4 (some 22) (bl_ 11 255) HT_ HW_ hHeld ?_
    refine ta_ 8 (some 26) (bl_ 11 511) HT_ HW_ hHeld ?_
    refine pu_ 9 (some 27) (bl_ 11 1023) HT_ ?_
    refine last_ (i:=10) (N:=none) (bl_ 11 2047) rfl rfl (one_of HT_.out (by kernel_rfl)) (by decide) (fun K hK=>?_)
    refine skip_ (w1:=?_) (by rfl) rfl ?_ ?_
    rotate_left
    ·go_simp
     rfl
    refine hK.out _ _ ?_
    clear hK K
    refine done_ (done_of HT_.out (by kernel_rfl)) ?_
    try go_wp2
    go_roundg k1
    case measure=>have:=HK1.out;omega
    case rel=>exact ⟨(y1043),(wrap64 (x13_1 + 1)),qc_,H',⟨by have:=HK1.out;omega⟩,⟨(rr_ HQ17)⟩,⟨by repeat (first | (with_reducible first | exact HB.out | apply bA_ | apply bB_ | apply bC_ | refine bD_ ?_ GB15.out) | exact HB.out)⟩⟩
   ·rw [if_neg c7] at H
    have c7b0:=oD_ c7
    clear c7
    obtain rfl:=Option.some.inj H
    go_wp2
    go_ret
    exact ⟨_,qb_,(rr_ HO_5),hB_⟩
def Z41.f (k:Nat) (l0_0:List Int) (l0_1:List Int) (l1:List Int):Option (List Int × List Int):=(Z39.f k l0_0 l1).bind fun t1046=>((Z39.f k l0_1 l1).bind fun t1049=>(some (t1046,t1049)))
theorem Z41.mono:∀ a0 a1 a2 k,LeO (Z41.f k a0 a1 a2) (Z41.f (k + 1) a0 a1 a2):=by
 intro a0 a1 a2 k
 unfold Z41.f
 repeat' first|exact Z39.mono _ _ _|exact lo_|refine LeO.ite ?_ ?_|refine LeO.bind ?_ (fun _=>?_)
def Z41.T1:Bool × List (List Nat × List Nat):=(true,[([],[]),([0],[0]),([],[]),([1,2],[1,2]),([],[]),([4],[4]),([],[]),([5,6,3],[5,6]),([3,7],[3,7]),([8,7,0,1,2,3,4,5,6,7,8],[8])])
def Z41.B1:List Nat:=[0,1,0,7,0,16,0,127,255,511]
theorem Z41.tab1:rtab .any (opsOf Try.f129 1) = Z41.T1:=by kernel_rfl
theorem Z41.bits1:waitsOk Z41.T1.2 Z41.B1 = true:=by kernel_rfl
set_option maxHeartbeats 8000000 in
set_option maxRecDepth 100000 in
theorem Z41.calls (k:Nat) (A0_0:Option Addr) (c0_0:Nat) (l0_0:List Int) (A0_1:Option Addr) (c0_1:Nat) (l0_1:List Int) (A1:Option Addr) (c1:Nat) (l1:List Int) (r1:List Int) (r2:List Int) (w:World) (hr0_0:Kd.C (Kd.int .i64) w A0_0 l0_0.length l0_0) (hc0_0:l0_0.length≤c0_0) (hr0_1:Kd.C (Kd.int .i64) w A0_1 l0_1.length l0_1) (hc0_1:l0_1.length≤c0_1) (hr1:Kd.C (Kd.int .i64) w A1 l1.length l1) (hc1:l1.length≤c1) (h:Z41.f k l0_0 l0_1 l1 = some (r1,r2)) :
  Calls Try.prog 129 #[.agg #[.slice A0_0 l0_0.length c0_0,.slice A0_1 l0_1.length c0_1],.slice A1 l1.length c1] w fun e w'=>∃ v0_ v1_:Value,e = .returned (.agg #[v0_,v1_])∧Kd.R (Kd.int .i64) 3 w' w.heap.size (fun k_=>some k_≠(v1_:Value).ownBlock) v0_ r1∧Kd.R (Kd.int .i64) 3 w' w.heap.size (fun k_=>some k_≠(v0_:Value).ownBlock) v1_ r2∧Below w.heap.size w w':=by
 have hu33:=Try.underlying33
 have HR0_0:=A_ hr0_0
 have HC0_0:=A_ hc0_0
 clear hr0_0 hc0_0
 have HR0_1:=A_ hr0_1
 have HC0_1:=A_ hc0_1
 clear hr0_1 hc0_1
 have HR1:=A_ hr1
 have HC1:=A_ hc1
 clear hr1 hc1
 have HB:=A_ (Below.refl w.heap.size w)
 have H:=h
 unfold Z41.f at H
 clear h
 obtain ⟨t1046,A3,H⟩:=bi_ H
 obtain ⟨t1049,A4,H⟩:=bi_ H
 simp only [Option.some.injEq,Prod.mk.injEq] at H
 obtain ⟨rfl,rfl⟩:=H
 go_enter Try.func129,Try.ntmps129
 try go_wp2_with (first | ((with_reducible refine gB_ (N:=2) rfl ?_);refine bx_ 2 #[.slice A0_0 l0_0.length c0_0,.slice A0_1 l0_1.length c0_1] 33 ?_;intro gb1044 hg w5 hbox hb;have BK1044:=A_ hbox;have GW1044:=gw_ w hg;have GE1044:=GW1044;replace HB:=b1_ hb;clear hb hbox hg) | ((with_reducible refine gB_ (N:=4) rfl ?_);refine bx_ 4 #[.slice none 0 0,.slice none 0 0] 33 ?_;intro gb1045 hg w6 hbox hb;have BK1045:=A_ hbox;have GW1045:=gw_ w hg;have GE1045:=GW1045;replace HB:=b1_ hb;have NB1044_1045:=gN_ BK1044 hg;have NB1045_1044:=gP_ BK1044 hg;replace BK1044:=bb_ BK1044 hb;clear hb hbox hg))
 replace BK1044:=A_ (kB_ BK1044.out)
 replace BK1045:=A_ (kB_ BK1045.out)
 replace HB:=A_ (bC_ HB.out)
 refine start_ (n:=10) (S:=fun w'=>w'.cell? ⟨gb1044,0,none⟩ = some (.slice A0_0 l0_0.length c0_0)∧w'.cell? ⟨gb1044,1,none⟩ = some (.slice A0_1 l0_1.length c0_1)) (ds:=[]) (bl_ 10 0) (by kernel_rfl) rfl (by kernel_rfl) ⟨cz0_ BK1044,cz1_ BK1044⟩ (fun hHeld=>?_);refine with_tabW Z41.tab1 Z41.bits1 (fun HT_ HW_=>?_)
 generalize w6.drew = w7 at BK1044 BK1045 HB hHeld ⊢
 refine pu_ 0 (some 5) (bl_ 10 1) HT_ ?_
 refine pu_ 2 (some 7) (bl_ 10 5) HT_ ?_
 refine pu_ 4 (some 9) (bl_ 10 21) HT_ ?_
 refine pu_ 6 (some 11) (bl_ 10 85) HT_ ?_
 refine ta_ 1 (some 6) (bl_ 10 87) HT_ HW_ hHeld ?_
 refine ta_ 5 (some 10) (bl_ 10 119) HT_ HW_ hHeld ?_
 refine on_ 3 (some 8) (bl_ 10 127) HT_ (fun K hK=>?_)
 refine gO_ Try.func164 #[.slice A0_0 l0_0.length c0_0,.slice A1 l1.length c1] (by rfl) rfl rfl qa_ ?_
 with_reducible refine (Z39.calls k _ _ l0_0 _ _ l1 t1046 _ (cb_ HR0_0) HC0_0.out (cb_ HR1) HC1.out A3.out).mono ?_
 rintro e w8 ⟨v1047,rfl,ho0,hb⟩
 refine ⟨_,rfl,?_⟩
 have HO1048:=rl_ w ho0
 replace BK1044:=bb_ BK1044 hb
 replace BK1045:=bb_ BK1045 hb
 replace HB:=b1_ hb
 clear hb ho0
 refine hK.out _ _ ⟨cz0_ BK1044,cz1_ BK1044⟩ (fun hHeld=>?_)
 clear hK K
 refine no_ (some 8) ?_
 refine on_ 7 (some 12) (bl_ 10 255) HT_ (fun K hK=>?_)
 refine gO_ Try.func164 #[.slice A0_1 l0_1.length c0_1,.slice A1 l1.length c1] (by rfl) rfl rfl qa_ ?_
 with_reducible refine (Z39.calls k _ _ l0_1 _ _ l1 t1049 _ (cb_ HR0_1) HC0_1.out (cb_ HR1) HC1.out A4.out).mono ?_
 rintro e w9 ⟨v1050,rfl,ho0,hb⟩
 refine ⟨_,rfl,?_⟩
 have HO1051:=A_ (rE_ (Kd.R_new' ho0 (Kd.R_lt (rr_ HO1048))) (bF_ hB_))
 replace HO1048:=A_ (Kd.R_elder' (rr_ HO1048) (Kd.R_base ho0) hb)
 replace BK1044:=bb_ BK1044 hb
 replace BK1045:=bb_ BK1045 hb
 replace HB:=b1_ hb
 clear hb ho0
 obtain ⟨Ao10,co10,eo10⟩:=Kd.R_slice HO1051.out
 (first|subst eo10|(injection eo10 with a_ b_ c_;have a_:=a_.symm;have c_:=c_.symm;clear b_;subst a_;subst c_))
 obtain ⟨Ao11,co11,eo11⟩:=Kd.R_slice HO1048.out
 (first|subst eo11|(injection eo11 with a_ b_ c_;have a_:=a_.symm;have c_:=c_.symm;clear b_;subst a_;subst c_))
 refine hK.out _ _ ⟨cz0_ BK1044,cz1_ BK1044⟩ (fun hHeld=>?_)
 clear hK K
 refine no_ (some 12) ?_
 refine pu_ 8 (some 13) (bl_ 10 511) HT_ ?_
 refine on_ 9 (none) (bl_ 10 1023) HT_ (fun K hK=>?_)
 have hs12:w9.cell? ⟨gb1045,0,none⟩ = some (.slice none 0 0):=cz0_ BK1045
 have hfs12:=kD_ BK1045.out 0
 have hns12_0:=NB1044_1045.out
 have hms12_0:=NB1045_1044.out
 have hs13:w9.cell? ⟨gb1045,1,none⟩ = some (.slice none 0 0):=cz1_ BK1045
 have hfs13:=kD_ BK1045.out 1
 have hns13_0:=NB1044_1045.out
 have hms13_0:=NB1045_1044.out
 refine skip_ (w1:=?_) (by rfl) rfl ?_ ?_
 rotate_left
 ·go_simp
  rfl
 refine hK.out _ _ ⟨((cell_far (p:=⟨gb1045,_,none⟩) NB1044_1045.out _).trans (((cell_far (p:=⟨gb1045,_,none⟩) NB1044_1045.out _).trans (hHeld.1)))),((cell_far (p:=⟨gb1045,_,none⟩) NB1044_1045.out _).trans (((cell_far (p:=⟨gb1045,_,none⟩) NB1044_1045.out _).trans (hHeld.2))))⟩ (fun hHeld=>?_)
 clear hK K
 refine done_ (done_of HT_.out (by kernel_rfl)) ?_
 try go_wp2
 refine bodyPost_ret (results_cell_row rfl _ _ gb1045 33 #[.slice Ao11 t1046.length co11,.slice Ao10 t1049.length co10] (0,0) _ rfl qp_ Try.underlying33 rfl (by kernel_rfl)) rfl ?_
 exact ⟨_,_,qb_,(rw_ (Kd.R_mono (fa_ HO1048 BK1045) (fun _ hk=>hk.2))),(rw_ (Kd.R_mono (fa_ HO1051 BK1045) (fun _ hk=>hk.2))),hB_⟩
def Z55.f (k:Nat) (l0_0:List Int) (l0_1:List Int) (a1:Int):Option (List Int):=(Z53.f k l0_0 l0_1 a1).bind fun t1053=>((Z32.f k t1053).bind fun t1056=>(some t1056))
theorem Z55.mono:∀ a0 a1 a2 k,LeO (Z55.f k a0 a1 a2) (Z55.f (k + 1) a0 a1 a2):=by
 intro a0 a1 a2 k
 unfold Z55.f
 repeat' first|exact Z32.mono _ _|exact Z53.mono _ _ _ _|exact lo_|refine LeO.ite ?_ ?_|refine LeO.bind ?_ (fun _=>?_)
set_option maxHeartbeats 8000000 in
set_option maxRecDepth 100000 in
theorem Z55.calls (k:Nat) (A0_0:Option Addr) (c0_0:Nat) (l0_0:List Int) (A0_1:Option Addr) (c0_1:Nat) (l0_1:List Int) (a1:Int) (r:List Int) (w:World) (hr0_0:Kd.C (Kd.int .i64) w A0_0 l0_0.length l0_0) (hc0_0:l0_0.length≤c0_0) (hr0_1:Kd.C (Kd.int .i64) w A0_1 l0_1.length l0_1) (hc0_1:l0_1.length≤c0_1) (h:Z55.f k l0_0 l0_1 a1 = some r) :
  Calls Try.prog 130 #[.agg #[.slice A0_0 l0_0.length c0_0,.slice A0_1 l0_1.length c0_1],.int .i64 a1] w fun e w'=>∃ v0_:Value,e = .returned (v0_)∧Kd.R (Kd.int .i64) 3 w' w.heap.size (fun _=>True) v0_ r∧Below w.heap.size w w':=by
 have hu33:=Try.underlying33
 have HR0_0:=A_ hr0_0
 have HC0_0:=A_ hc0_0
 clear hr0_0 hc0_0
 have HR0_1:=A_ hr0_1
 have HC0_1:=A_ hc0_1
 clear hr0_1 hc0_1
 have HB:=A_ (Below.refl w.heap.size w)
 have H:=h
 unfold Z55.f at H
 clear h
 obtain ⟨t1053,A3,H⟩:=bi_ H
 obtain ⟨t1056,A4,H⟩:=bi_ H
 obtain rfl:=Option.some.inj H
 go_enter Try.func130,Try.ntmps130
 go_wp2_with (first | ((with_reducible refine gB_ (N:=2) rfl ?_);refine bx_ 2 #[.slice A0_0 l0_0.length c0_0,.slice A0_1 l0_1.length c0_1] 33 ?_;intro gb1052 hg w5 hbox hb;have BK1052:=A_ hbox;have GW1052:=gw_ w hg;have GE1052:=GW1052;replace HB:=b1_ hb;clear hb hbox hg;obtain ⟨hcz6_0,hcz6_1,hfz6_0,hfz6_1⟩:=c2_ BK1052) | ((with_reducible refine gA_ (f:=162) rfl ?_);refine gL_ (some 10) Try.func162 #[.slice A0_0 l0_0.length c0_0,.slice A0_1 l0_1.length c0_1,.int .i64 a1] rfl qa_ ?_;(with_reducible refine (Z53.calls k _ _ l0_0 _ _ l0_1 a1 t1053 _ (cb_ HR0_0) HC0_0.out (cb_ HR0_1) HC0_1.out A3.out).mono ?_);rintro e w7 ⟨v1054,rfl,ho0,hb⟩;refine ⟨_,rfl,?_⟩;have HO1055:=rl_ w ho0;replace BK1052:=bb_ BK1052 hb;replace HB:=b1_ hb;clear hb ho0;obtain ⟨Ao8,co8,eo8⟩:=Kd.R_slice HO1055.out;subst eo8) | ((with_reducible refine gA_ (f:=111) rfl ?_);refine gL_ (some 11) Try.func111 #[.slice Ao8 t1053.length co8] rfl qa_ ?_;(with_reducible refine (Z32.calls k _ _ t1053 t1056 _ (cr_ HO1055) ((Kd.R_reads' HO1055.out).2.1) A4.out).mono ?_);rintro e w9 ⟨v1057,rfl,ho0,hb⟩;refine ⟨_,rfl,?_⟩;have HO1058:=A_ (rE_ (Kd.R_new' ho0 (Kd.R_lt (rr_ HO1055))) (bF_ hB_));replace HO1055:=A_ (Kd.R_elder' (rr_ HO1055) (Kd.R_base ho0) hb);replace BK1052:=bb_ BK1052 hb;replace HB:=b1_ hb;clear hb ho0))
 go_ret
 exact ⟨_,qb_,(rw_ (Kd.R_mono HO1058.out (fun _ hk=>trivial))),hB_⟩
end Go.Proofs.Ytoijcallajegfaa.A
end
section
/- Names from a square, and renaming: the program and the reference act alike. No conditions. -/
namespace Go.Proofs.Ytoijcallajegfaa.M
set_option linter.unusedVariables false
set_option linter.unusedSimpArgs false
open Go.RowKit Go.Proofs.YtoijcallajegfaaW.PrintWords Go.Proofs.YtoijcallajegfaaW.PrintLast Go.Proofs.YtoijcallajegfaaW.PrintMore Go.Proofs.Ytoijcallajegfaa.A
theorem set_mid5 {α:Type} (p:List α) (x y:α) (xs:List α):(p ++ x :: xs).set p.length y = p ++ y :: xs:=by
 induction p with
 | nil=>rfl
 | cons a p ih=>simp [ih]
theorem isP_reach {r u:List Nat} (hs:Sf r u) {s:Nat} (h:s < r.length):IsP (reach r u s)∧(reach r u s).length = r.length:=by
 obtain ⟨h1,h2⟩:=reach_full hs h
 have l1:=h1.le
 have l2:=nodup_sub_len5 (List.range r.length) (reach r u s) List.nodup_range (fun x hx=>h2 x (List.mem_range.mp hx))
 rw [List.length_range] at l2
 have hl:(reach r u s).length = r.length:=by omega
 exact ⟨⟨fun x hx=>by rw [hl];exact h1.lt x hx,h1.nd⟩,hl⟩
def nm (r u:List Nat) (s:Nat):List Nat:=inv (reach r u s)
theorem isP_nm {r u:List Nat} (hs:Sf r u) {s:Nat} (h:s < r.length):IsP (nm r u s)∧(nm r u s).length = r.length:=by
 obtain ⟨h1,h2⟩:=isP_reach hs h
 exact ⟨isP_inv h1,by unfold nm;rw [inv_len,h2]⟩
theorem ren_of {p q c:List Nat} (hq:IsP q) (hl:q.length = p.length) (hc:c.length = p.length) (h:∀ j,j < p.length→g c (g q j) = g q (g p j)):c = ren p q:=by
 refine ext_g (by rw [ren_len,hc]) (fun x hx=>?_)
 rw [hc] at hx
 rw [g_ren hx]
 have hx':ix q x < q.length:=ix_lt hq (by omega)
 have:=h (ix q x) (by omega)
 rw [g_ix hq (by omega)] at this
 exact this
theorem ren_step {p q c:List Nat} (hq:IsP q) (hl:q.length = p.length) {i:Nat} (hi:i < p.length) (hc:c.length = p.length) (h:∀ j,j < i→g c (g q j) = g q (g p j)):∀ j,j < i + 1→g (c.set (g q i) (g q (g p i))) (g q j) = g q (g p j):=by
 intro j hj
 have hlt:g q i < c.length:=by rw [hc,← hl];exact g_lt hq (by omega)
 rw [g_set hlt]
 by_cases e:j = i
 ·subst e
  simp
 ·rw [if_neg (fun k=>e (g_inj hq (by omega) (by omega) k.symm))]
  exact h j (by omega)
theorem spec_ren {p q:List Nat} (hp:IsP p) (hq:IsP q) (hl:q.length = p.length) (h24:p.length≤24):Ev (fun k=>Z39.f k (I p) (I q)) (I (ren p q)):=by
 unfold Z39.f
 have H:∀ (d i:Nat) (c:List Nat),i + d = p.length→c.length = p.length→(∀ j,j < i→g c (g q j) = g q (g p j))→Ev (fun k=>Z39.l0 k (I q) (I c) (I p) (p.length:Int) (i:Int)) (I (ren p q)):=by
  intro d
  induction d with
  | zero =>
   intro i c h hc hx
   refine ev_succ ?_
   have h1:¬ ((i:Int) < (p.length:Int)):=by omega
   rw [← ren_of hq hl hc (fun j hj=>hx j (by omega))]
   simp only [Z39.l0,h1,if_false]
   exact Ev.now _
  | succ d ih =>
   intro i c h hc hx
   refine ev_succ ?_
   have hi:i < p.length:=by omega
   have k1:=g_lt hp hi
   have k2:=g_lt hq (i:=i) (by omega)
   have h1:(i:Int) < (p.length:Int):=by omega
   have h2:(0:Int)≤(i:Int):=by omega
   have h4:(i:Int) < (q.length:Int):=by omega
   have h5:(0:Int)≤((g p i:Nat):Int):=by omega
   have h6:((g p i:Nat):Int) < (q.length:Int):=by omega
   have h7:(0:Int)≤((g q i:Nat):Int):=by omega
   have h8:((g q i:Nat):Int) < (c.length:Int):=by omega
   have h3:=w64s i (by omega)
   simp only [Z39.l0,h1,h2,h3,h4,h5,h6,h7,h8,rdI,I_len',I_set,if_true,Int.toNat_natCast]
   exact ih (i + 1) _ (by omega) (by rw [List.length_set];exact hc) (ren_step hq hl hi hc hx)
 have h1:(0:Int)≤(p.length:Int):=by omega
 have h2:p.length≤35184372088832:=by omega
 simp only [I_len',h1,h2,if_true,Int.toNat_natCast]
 have:=H p.length 0 (List.replicate p.length 0) (by omega) (by simp) (fun j hj=>by omega)
 rw [I_rep] at this
 exact this
theorem impl_ren {p q:List Nat} (hp:IsP p) (hq:IsP q) (hl:q.length = p.length) (h24:p.length≤24):Ev (fun k=>Z28.f k (I p) (I q)) (I (ren p q)):=by
 unfold Z28.f
 have H:∀ (d i:Nat) (c:List Nat),i + d = p.length→c.length = p.length→(∀ j,j < i→g c (g q j) = g q (g p j))→Ev (fun k=>Z28.l0 k (I q) (I c) (I p) (p.length:Int) (i:Int)) (I (ren p q)):=by
  intro d
  induction d with
  | zero =>
   intro i c h hc hx
   refine ev_succ ?_
   have h1:¬ ((i:Int) < (p.length:Int)):=by omega
   rw [← ren_of hq hl hc (fun j hj=>hx j (by omega))]
   simp only [Z28.l0,h1,if_false]
   exact Ev.now _
  | succ d ih =>
   intro i c h hc hx
   refine ev_succ ?_
   have hi:i < p.length:=by omega
   have k1:=g_lt hp hi
   have k2:=g_lt hq (i:=i) (by omega)
   have h1:(i:Int) < (p.length:Int):=by omega
   have h2:(0:Int)≤(i:Int):=by omega
   have h4:(i:Int) < (q.length:Int):=by omega
   have h5:(0:Int)≤((g p i:Nat):Int):=by omega
   have h6:((g p i:Nat):Int) < (q.length:Int):=by omega
   have h7:(0:Int)≤((g q i:Nat):Int):=by omega
   have h8:((g q i:Nat):Int) < (c.length:Int):=by omega
   have h3:=w64s i (by omega)
   simp only [Z28.l0,h1,h2,h3,h4,h5,h6,h7,h8,rdI,I_len',I_set,if_true,Int.toNat_natCast]
   exact ih (i + 1) _ (by omega) (by rw [List.length_set];exact hc) (ren_step hq hl hi hc hx)
 have b1:permB (I p) = true:=permB_I.mpr ⟨hp,h24⟩
 have b2:permB (I q) = true:=permB_I.mpr ⟨hq,by omega⟩
 refine Ev.bind (impl_permOk _) ?_
 simp only [b1,if_true]
 refine Ev.bind (impl_permOk _) ?_
 have e:((p.length:Int) != (q.length:Int)) = false:=by rw [bne_eq_false_iff_eq];omega
 simp only [b2,I_len',e,if_true]
 refine ev_succ ?_
 have h1:(0:Int)≤(p.length:Int):=by omega
 have h2:p.length≤35184372088832:=by omega
 simp only [Z28.j0,I_len',h1,h2,Bool.false_eq_true,if_false,if_true,Int.toNat_natCast]
 have:=H p.length 0 (List.replicate p.length 0) (by omega) (by simp) (fun j hj=>by omega)
 rw [I_rep] at this
 exact this
def rnS (r u q:List Nat):List Nat × List Nat:=(ren r q,ren u q)
theorem spec_renS {r u q:List Nat} (hs:Sf r u) (hq:IsP q) (hl:q.length = r.length):Ev (fun k=>Z41.f k (I r) (I u) (I q)) (I (rnS r u q).1,I (rnS r u q).2):=by
 unfold Z41.f
 exact Ev.bind (spec_ren hs.pr hq hl hs.le) (Ev.bind (spec_ren hs.pu hq (by rw [hl,hs.eq]) (by rw [hs.eq];exact hs.le)) (Ev.now _))
theorem impl_renS {r u q:List Nat} (hs:Sf r u) (hq:IsP q) (hl:q.length = r.length):Ev (fun k=>Z7.f k (I r) (I u) (I q)) (I (rnS r u q).1,I (rnS r u q).2,true):=by
 unfold Z7.f
 have h0:=surfB_I.mpr hs
 have hle:=hs.le
 have b2:permB (I q) = true:=permB_I.mpr ⟨hq,by omega⟩
 refine Ev.bind (impl_surf _ _) ?_
 simp only [h0,if_true]
 refine Ev.bind (impl_permOk _) ?_
 have e:((q.length:Int) != (r.length:Int)) = false:=by rw [bne_eq_false_iff_eq];omega
 simp only [b2,I_len',e,if_true]
 refine ev_succ ?_
 simp only [Z7.j0,Bool.false_eq_true,if_false]
 exact Ev.bind (impl_ren hs.pr hq hl hs.le) (Ev.bind (impl_ren hs.pu hq (by rw [hl,hs.eq]) (by rw [hs.eq];exact hs.le)) (Ev.now _))
theorem spec_names {r u:List Nat} (hs:Sf r u) {s:Nat} (h:s < r.length):Ev (fun k=>Z55.f k (I r) (I u) (s:Int)) (I (nm r u s)):=by
 obtain ⟨h1,h2⟩:=isP_reach hs h
 unfold Z55.f
 exact Ev.bind (reach_ev hs.pr hs.pu hs.eq hs.le s h) (Ev.bind (spec_inv h1 (by rw [h2];exact hs.le)) (Ev.now _))
def nmP (n:Nat) (out:List Nat):List Int:=(List.range n).map (fun x=>if x ∈ out then ((out.idxOf x:Nat):Int) else -1)
theorem nmP_len (n:Nat) (out:List Nat):(nmP n out).length = n:=by simp [nmP]
theorem rd_nmP {n:Nat} {out:List Nat} {x:Nat} (h:x < n):rd (nmP n out) (x:Int) = if x ∈ out then ((out.idxOf x:Nat):Int) else -1:=by
 rw [rd_get _ _ (by rw [nmP_len];exact h)]
 simp [nmP]
theorem nmP_add {n:Nat} {out:List Nat} {x:Nat} (h:x < n) (hn:x ∉ out):(nmP n out).set x (out.length:Int) = nmP n (out ++ [x]):=by
 refine ext_rd (by rw [List.length_set,nmP_len,nmP_len]) (fun i hi=>?_)
 rw [List.length_set,nmP_len] at hi
 rw [rd_set (by rw [nmP_len];exact h),rd_nmP hi,rd_nmP hi]
 by_cases e:x = i
 ·subst e
  have:x ∈ out ++ [x]:=by simp
  rw [if_pos rfl,if_pos this,List.idxOf_append,if_neg hn]
  simp
 ·rw [if_neg e]
  by_cases hm:i ∈ out
  ·have:i ∈ out ++ [x]:=by simp [hm]
   rw [if_pos hm,if_pos this,List.idxOf_append,if_pos hm]
  ·have:i ∉ out ++ [x]:=by simp [hm];omega
   rw [if_neg hm,if_neg this]
theorem nmP_full {n:Nat} {out:List Nat} (hl:out.length = n) (h:∀ x,x < n→x ∈ out):nmP n out = I (inv out):=by
 refine ext_rd (by rw [nmP_len,I_len,inv_len,hl]) (fun i hi=>?_)
 rw [nmP_len] at hi
 rw [rd_nmP hi,if_pos (h i hi),rdI,g_inv (by omega)]
 rfl
theorem names_one {p q:List Nat} {out pr:List Nat} (a j:Nat) (hj:j < pr.length) (hpr:pr.length≤2) (hl:out.length≤1000) (hx:g pr j < p.length) (res:List Int)
  (H:Ev (fun k=>Z34.l2 k (nmP p.length (st1 out (g pr j))) (I (st1 out (g pr j))) (a:Int) (I pr) (pr.length:Int) ((j + 1:Nat):Int) (I p) (I q)) res) :
  Ev (fun k=>Z34.l2 k (nmP p.length out) (I out) (a:Int) (I pr) (pr.length:Int) (j:Int) (I p) (I q)) res:=by
 refine ev_succ ?_
 have h1:(j:Int) < (pr.length:Int):=by omega
 have h2:(0:Int)≤(j:Int):=by omega
 have h4:(I out).length < 17592186044416:=by rw [I_len];omega
 have h5:(0:Int)≤((g pr j:Nat):Int):=by omega
 have h6:((g pr j:Nat):Int) < ((nmP p.length out).length:Int):=by rw [nmP_len];omega
 have h7:rd (nmP p.length out) ((g pr j:Nat):Int) = if g pr j ∈ out then ((out.idxOf (g pr j):Nat):Int) else -1:=rd_nmP hx
 have h3:=w64s j (by omega)
 by_cases hin:g pr j ∈ out
 ·have e:st1 out (g pr j) = out:=by unfold st1;rw [if_pos hin]
  rw [e] at H
  rw [if_pos hin] at h7
  have h8:¬ (((out.idxOf (g pr j):Nat):Int) < 0):=by omega
  simp only [Z34.l2,h1,h2,h3,h5,h6,h7,h8,rdI,I_len',if_true,if_false]
  exact H
 ·have e:st1 out (g pr j) = out ++ [g pr j]:=by unfold st1;rw [if_neg hin]
  rw [e,← nmP_add hx hin,← I_snoc] at H
  rw [if_neg hin] at h7
  have h8:(-1:Int) < 0:=by omega
  simp only [Z34.l2,h1,h2,h3,h4,h5,h6,h7,h8,rdI,I_len',if_true,Int.toNat_natCast]
  exact H
theorem names_loop {p q:List Nat} (hp:IsP p) (hq:IsP q) (hl:q.length = p.length) (h24:p.length≤24) (f:Nat):∀ (a:Nat) (out:List Nat),RInv p.length out→a≤out.length→p.length < f + a →
  Ev (fun k=>Z34.l1 k (nmP p.length out) (I out) (a:Int) (I p) (I q)) (nmP p.length (bfs p q f a out)):=by
 induction f with
 | zero =>
  intro a out hr ha hf
  have:=hr.le
  omega
 | succ f ih =>
  intro a out hr ha hf
  have hle:=hr.le
  refine ev_succ ?_
  by_cases h:a < out.length
  ·have hx:=hr.g h
   have hg1:=g_lt hp hx
   have hg2:g q (g out a) < p.length:=by have:=g_lt hq (i:=g out a) (by omega);omega
   have r1:=hr.st hg1
   have r2:=r1.st hg2
   have h1:(a:Int) < (out.length:Int):=by omega
   have h2:(0:Int)≤(a:Int):=by omega
   have h3:((g out a:Nat):Int) < (p.length:Int):=by omega
   have h4:(0:Int)≤((g out a:Nat):Int):=by omega
   have h5:((g out a:Nat):Int) < (q.length:Int):=by omega
   have hb:bfs p q (f + 1) a out = bfs p q f (a + 1) (st1 (st1 out (g p (g out a))) (g q (g out a))):=by
    rw [bfs,if_pos h]
   rw [hb]
   have key:=ih (a + 1) _ r2 (Nat.le_trans (by omega:a + 1≤out.length) (Nat.le_trans (st1_len _ _) (st1_len _ _))) (by omega)
   have hq1:a≤9000000000000000000:=by omega
   have l1:=r1.le
   simp only [Z34.l1,h1,h2,h3,h4,h5,rdI,I_len',if_true,Option.bind_some,I_pair]
   refine names_one (q:=q) a 0 (by simp) (by simp) (by omega) hg1 _ ?_
   refine names_one (q:=q) a 1 (by simp) (by simp) (by simp only [g,List.getD_cons_zero] at l1 ⊢;omega) hg2 _ ?_
   refine ev_succ ?_
   have h7:¬ (((1 + 1:Nat):Int) < (([g p (g out a),g q (g out a)]:List Nat).length:Int)):=by simp
   have h6:=w64s a hq1
   simp only [Z34.l2,h7,h6,if_false]
   exact key
  ·have h1:¬ ((a:Int) < (out.length:Int)):=by omega
   have hb:bfs p q (f + 1) a out = out:=by rw [bfs,if_neg h]
   rw [hb]
   simp only [Z34.l1,h1,I_len',if_false]
   exact Ev.now _
theorem impl_names {r u:List Nat} (hs:Sf r u) {s:Nat} (h:s < r.length):Ev (fun k=>Z34.f k (I r) (I u) (s:Int)) (I (nm r u s)):=by
 have hle:=hs.le
 have h0:=surfB_I.mpr hs
 obtain ⟨k1,k2⟩:=reach_full hs h
 obtain ⟨_,k3⟩:=isP_reach hs h
 have fin:=names_loop hs.pr hs.pu hs.eq hs.le (r.length + 1) 0 [s] ⟨by simp,by simpa using h⟩ (by simp) (by omega)
 have e1:bfs r u (r.length + 1) 0 [s] = reach r u s:=rfl
 rw [e1,nmP_full k3 k2] at fin
 have H:∀ d i:Nat,i + d = r.length→Ev (fun k=>Z34.l0 k (s:Int) (List.replicate i (-1) ++ List.replicate d 0) (r.length:Int) (i:Int) (I r) (I u)) (I (nm r u s)):=by
  intro d
  induction d with
  | zero =>
   intro i hi
   obtain rfl:i = r.length:=by omega
   refine ev_succ ?_
   have c1:¬ ((r.length:Int) < (r.length:Int)):=by omega
   have c2:(0:Int)≤(s:Int):=by omega
   have c3:(s:Int) < (((List.replicate r.length (-1) ++ List.replicate 0 0:List Int)).length:Int):=by simp;omega
   have c4:(List.replicate r.length (-1) ++ List.replicate 0 0:List Int).set ((s:Int)).toNat 0 = nmP r.length [s]:=by
    refine ext_rd (by rw [List.length_set,nmP_len];simp) (fun i hi=>?_)
    rw [List.length_set] at hi
    have hi':i < r.length:=by simpa using hi
    rw [Int.toNat_natCast,rd_set (by simp;exact h),rd_nmP hi']
    by_cases e:s = i
    ·subst e
     simp
    ·rw [if_neg e]
     have:i ∉ [s]:=by simp;omega
     rw [if_neg this,rd_get _ _ hi]
     simp
   simp only [Z34.l0,c1,c2,c3,c4,if_true,if_false]
   exact fin
  | succ d ih =>
   intro i hi
   refine ev_succ ?_
   have c1:(i:Int) < (r.length:Int):=by omega
   have c2:(0:Int)≤(i:Int):=by omega
   have c3:(i:Int) < (((List.replicate i (-1) ++ List.replicate (d + 1) 0:List Int)).length:Int):=by simp;omega
   have c4:(List.replicate i (-1) ++ List.replicate (d + 1) 0:List Int).set ((i:Int)).toNat (-1) = List.replicate (i + 1) (-1) ++ List.replicate d 0:=by
    have hm:=set_mid5 (List.replicate i (-1:Int)) 0 (-1) (List.replicate d 0)
    rw [List.length_replicate] at hm
    rw [Int.toNat_natCast,List.replicate_succ,hm,List.replicate_succ',List.append_assoc]
    rfl
   have c5:=w64s i (by omega)
   simp only [Z34.l0,c1,c2,c3,c4,c5,if_true]
   exact ih (i + 1) (by omega)
 unfold Z34.f
 refine Ev.bind (impl_surf _ _) ?_
 have n1:¬ ((s:Int) < 0):=by omega
 have n2:decide ((s:Int) ≥ (r.length:Int)) = false:=by rw [decide_eq_false_iff_not];omega
 simp only [h0,n1,n2,I_len',if_true,if_false]
 refine ev_succ ?_
 have z1:(0:Int)≤(r.length:Int):=by omega
 have z2:r.length≤35184372088832:=by omega
 simp only [Z34.j0,Bool.false_eq_true,I_len',z1,z2,if_true,if_false,Int.toNat_natCast,Option.bind_some,List.length_replicate]
 have:=H r.length 0 (Nat.zero_add _)
 simpa using this
end Go.Proofs.Ytoijcallajegfaa.M
end
section
namespace Go.Proofs.Ytoijcallajegfaa.A
open Go.RowKit Go.Proofs.YtoijcallajegfaaW.PrintWords Go.Proofs.YtoijcallajegfaaW.PrintLast Go.Proofs.YtoijcallajegfaaW.PrintMore
attribute [local go_sem] max2_int min2_int max_two min_two max_three min_three max_four min_four
set_option linter.unusedVariables false
set_option linter.unusedSimpArgs false
def Z52.l0:Nat→List Int→List Int→Int→Int→Option (Bool)
 | 0,_,_,_,_=>none
 | k + 1,x1,x12,x13,x14=>if x14 < x13 then (if 0≤x14 then (if x14 < (x12.length:Int) then (if x14 < (x1.length:Int) then (if (rd x12 x14) = (rd x1 x14) then (Z52.l0 k x1 x12 x13 (wrap64 (x14 + 1))) else (some false)) else (none)) else (none)) else (none)) else (some true)
def Z52.f (k:Nat) (l0:List Int) (l1:List Int):Option (Bool):=if (l0.length:Int) = (l1.length:Int) then (Z52.l0 k l1 l0 (l0.length:Int) 0) else (some false)
theorem Z52.mono_l:∀ k,(∀ y0 y1 y2 y3,LeO (Z52.l0 k y0 y1 y2 y3) (Z52.l0 (k + 1) y0 y1 y2 y3))
 | 0=>fun _ _ _ _ r h=>by simp [Z52.l0] at h
 | k + 1=>by
  have ih0:=Z52.mono_l k
  ·intro y0 y1 y2 y3
   unfold Z52.l0
   repeat' first|exact ih0 _ _ _ _|exact lo_|refine LeO.ite ?_ ?_|refine LeO.bind ?_ (fun _=>?_)
theorem Z52.mono:∀ a0 a1 k,LeO (Z52.f k a0 a1) (Z52.f (k + 1) a0 a1):=by
 intro a0 a1 k
 have ih0:=Z52.mono_l k
 unfold Z52.f
 repeat' first|exact ih0 _ _ _ _|exact lo_|refine LeO.ite ?_ ?_|refine LeO.bind ?_ (fun _=>?_)
set_option maxHeartbeats 8000000 in
set_option maxRecDepth 100000 in
theorem Z52.calls (k:Nat) (A0:Option Addr) (c0:Nat) (l0:List Int) (A1:Option Addr) (c1:Nat) (l1:List Int) (r:Bool) (w:World) (hr0:Kd.C (Kd.int .i64) w A0 l0.length l0) (hc0:l0.length≤c0) (hr1:Kd.C (Kd.int .i64) w A1 l1.length l1) (hc1:l1.length≤c1) (h:Z52.f k l0 l1 = some r) :
  Calls Try.prog 134 #[.slice A0 l0.length c0,.slice A1 l1.length c1] w fun e w'=>e = .returned (.bool r)∧Drawn0 w w':=by
 have HR0:=A_ hr0
 have HC0:=A_ hc0
 clear hr0 hc0
 have HR1:=A_ hr1
 have HC1:=A_ hc1
 clear hr1 hc1
 have H:=h
 unfold Z52.f at H
 clear h
 by_cases c3:(l0.length:Int) = (l1.length:Int)
 ·rw [if_pos c3] at H
  have c3b0:((l0.length:Int) == (l1.length:Int)) = true:=beq_iff_eq.mpr c3
  have c3b1:((l0.length:Int) != (l1.length:Int)) = false:=bne_eq_false_iff_eq.mpr c3
  have c3b2:(l0.length == l1.length) = true:=by first | simpa using c3 | (simp at c3 ⊢;omega)
  clear c3
  have H':=A_ H
  clear H
  go_enter Try.func134,Try.ntmps134
  go_wp2
  go_loopg [14] k (fun kq v14 w'=>∃ (x14_1:Int),v14 = .int .i64 x14_1∧Aside0 (Z52.l0 kq l1 l0 (l0.length:Int) x14_1 = some r)∧Aside0 (kq≤k)∧Drawn0 w w')
  case atStart=>exact ⟨(0),qc_,H',⟨nA_ _⟩,by repeat (first | exact Drawn0.refl _ | apply Drawn0.step)⟩
  case round =>
   clear H'
   obtain ⟨x14_1,rfl,HA,HK1,⟨m1,rfl⟩⟩:=hrel
   cases gk with
   | zero=>exact absurd HA.out (by simp [Z52.l0])
   | succ k1 =>
    have H:=HA.out
    clear HA
    simp only [Z52.l0] at H
    by_cases c4:x14_1 < (l0.length:Int)
    ·rw [if_pos c4] at H
     have c4b0:=oC_ c4
     clear c4
     replace H:=cx_ H;obtain ⟨c5b0,H⟩:=H
     replace H:=cx_ H;obtain ⟨c6b0,H⟩:=H
     replace H:=cx_ H;obtain ⟨c7b0,H⟩:=H
     by_cases c8:(rd l0 x14_1) = (rd l1 x14_1)
     ·rw [if_pos c8] at H
      have c8b0:((rd l0 x14_1) == (rd l1 x14_1)) = true:=beq_iff_eq.mpr c8
      have c8b1:((rd l0 x14_1) != (rd l1 x14_1)) = false:=bne_eq_false_iff_eq.mpr c8
      clear c8
      have H':=A_ H
      clear H
      have p1027:0≤(x14_1:Int):=oB_ qe_
      have q1027:x14_1 < (l0.length:Int):=oB_ qe_
      obtain ⟨ad1027,e1027,hx1027_0⟩:=Kd.at_int HR0.out x14_1 p1027 q1027
      cases e1027
      replace p1027:=eq_true p1027
      replace q1027:=eq_true q1027
      have p1028:0≤(x14_1:Int):=oB_ qe_
      have q1028:x14_1 < (l1.length:Int):=oB_ qe_
      obtain ⟨ad1028,e1028,hx1028_0⟩:=Kd.at_int HR1.out x14_1 p1028 q1028
      cases e1028
      replace p1028:=eq_true p1028
      replace q1028:=eq_true q1028
      go_wp2
      go_roundg k1
      case measure=>have:=HK1.out;omega
      case rel=>exact ⟨(wrap64 (x14_1 + 1)),qc_,H',⟨by have:=HK1.out;omega⟩,by repeat (first | exact Drawn0.refl _ | apply Drawn0.step)⟩
     ·rw [if_neg c8] at H
      have c8b0:((rd l0 x14_1) == (rd l1 x14_1)) = false:=beq_eq_false_iff_ne.mpr c8
      have c8b1:((rd l0 x14_1) != (rd l1 x14_1)) = true:=bne_iff_ne.mpr c8
      obtain rfl:=Option.some.inj H
      have p1027:0≤(x14_1:Int):=oB_ qe_
      have q1027:x14_1 < (l0.length:Int):=oB_ qe_
      obtain ⟨ad1027,e1027,hx1027_0⟩:=Kd.at_int HR0.out x14_1 p1027 q1027
      cases e1027
      replace p1027:=eq_true p1027
      replace q1027:=eq_true q1027
      have p1028:0≤(x14_1:Int):=oB_ qe_
      have q1028:x14_1 < (l1.length:Int):=oB_ qe_
      obtain ⟨ad1028,e1028,hx1028_0⟩:=Kd.at_int HR1.out x14_1 p1028 q1028
      cases e1028
      replace p1028:=eq_true p1028
      replace q1028:=eq_true q1028
      go_wp2
      go_ret
      exact ⟨qc_,by repeat (first | exact Drawn0.refl _ | apply Drawn0.step)⟩
    ·rw [if_neg c4] at H
     have c4b0:=oD_ c4
     clear c4
     obtain rfl:=Option.some.inj H
     go_wp2
     go_ret
     exact ⟨qc_,by repeat (first | exact Drawn0.refl _ | apply Drawn0.step)⟩
 ·rw [if_neg c3] at H
  have c3b0:((l0.length:Int) == (l1.length:Int)) = false:=beq_eq_false_iff_ne.mpr c3
  have c3b1:((l0.length:Int) != (l1.length:Int)) = true:=bne_iff_ne.mpr c3
  have c3b2:(l0.length == l1.length) = false:=by first | simpa using c3 | (simp at c3 ⊢;omega)
  obtain rfl:=Option.some.inj H
  go_enter Try.func134,Try.ntmps134
  go_wp2
  go_ret
  exact ⟨qc_,by repeat (first | exact Drawn0.refl _ | apply Drawn0.step)⟩
def Z62.l0:Nat→List Int→List Int→Int→Int→Option (Bool)
 | 0,_,_,_,_=>none
 | k + 1,x1,x7,x8,x9=>if x9 < x8 then (if 0≤x9 then (if x9 < (x7.length:Int) then (if x9 < (x1.length:Int) then (if (rd x7 x9) = (rd x1 x9) then (Z62.l0 k x1 x7 x8 (wrap64 (x9 + 1))) else (some (decide ((rd x7 x9) < (rd x1 x9))))) else (none)) else (none)) else (none)) else (some false)
def Z62.f (k:Nat) (l0:List Int) (l1:List Int):Option (Bool):=Z62.l0 k l1 l0 (l0.length:Int) 0
theorem Z62.mono_l:∀ k,(∀ y0 y1 y2 y3,LeO (Z62.l0 k y0 y1 y2 y3) (Z62.l0 (k + 1) y0 y1 y2 y3))
 | 0=>fun _ _ _ _ r h=>by simp [Z62.l0] at h
 | k + 1=>by
  have ih0:=Z62.mono_l k
  ·intro y0 y1 y2 y3
   unfold Z62.l0
   repeat' first|exact ih0 _ _ _ _|exact lo_|refine LeO.ite ?_ ?_|refine LeO.bind ?_ (fun _=>?_)
theorem Z62.mono:∀ a0 a1 k,LeO (Z62.f k a0 a1) (Z62.f (k + 1) a0 a1):=by
 intro a0 a1 k
 have ih0:=Z62.mono_l k
 unfold Z62.f
 repeat' first|exact ih0 _ _ _ _|exact lo_|refine LeO.ite ?_ ?_|refine LeO.bind ?_ (fun _=>?_)
set_option maxHeartbeats 8000000 in
set_option maxRecDepth 100000 in
theorem Z62.calls (k:Nat) (A0:Option Addr) (c0:Nat) (l0:List Int) (A1:Option Addr) (c1:Nat) (l1:List Int) (r:Bool) (w:World) (hr0:Kd.C (Kd.int .i64) w A0 l0.length l0) (hc0:l0.length≤c0) (hr1:Kd.C (Kd.int .i64) w A1 l1.length l1) (hc1:l1.length≤c1) (h:Z62.f k l0 l1 = some r) :
  Calls Try.prog 163 #[.slice A0 l0.length c0,.slice A1 l1.length c1] w fun e w'=>e = .returned (.bool r)∧Drawn0 w w':=by
 have HR0:=A_ hr0
 have HC0:=A_ hc0
 clear hr0 hc0
 have HR1:=A_ hr1
 have HC1:=A_ hc1
 clear hr1 hc1
 have H:=h
 unfold Z62.f at H
 clear h
 have H':=A_ H
 clear H
 go_enter Try.func163,Try.ntmps163
 go_wp2
 go_loopg [9] k (fun kq v9 w'=>∃ (x9_1:Int),v9 = .int .i64 x9_1∧Aside0 (Z62.l0 kq l1 l0 (l0.length:Int) x9_1 = some r)∧Aside0 (kq≤k)∧Drawn0 w w')
 case atStart=>exact ⟨(0),qc_,H',⟨nA_ _⟩,by repeat (first | exact Drawn0.refl _ | apply Drawn0.step)⟩
 case round =>
  clear H'
  obtain ⟨x9_1,rfl,HA,HK1,⟨m1,rfl⟩⟩:=hrel
  cases gk with
  | zero=>exact absurd HA.out (by simp [Z62.l0])
  | succ k1 =>
   have H:=HA.out
   clear HA
   simp only [Z62.l0] at H
   by_cases c3:x9_1 < (l0.length:Int)
   ·rw [if_pos c3] at H
    have c3b0:=oC_ c3
    clear c3
    replace H:=cx_ H;obtain ⟨c4b0,H⟩:=H
    replace H:=cx_ H;obtain ⟨c5b0,H⟩:=H
    replace H:=cx_ H;obtain ⟨c6b0,H⟩:=H
    by_cases c7:(rd l0 x9_1) = (rd l1 x9_1)
    ·rw [if_pos c7] at H
     have c7b0:((rd l0 x9_1) == (rd l1 x9_1)) = true:=beq_iff_eq.mpr c7
     have c7b1:((rd l0 x9_1) != (rd l1 x9_1)) = false:=bne_eq_false_iff_eq.mpr c7
     clear c7
     have H':=A_ H
     clear H
     have p1029:0≤(x9_1:Int):=oB_ qe_
     have q1029:x9_1 < (l0.length:Int):=oB_ qe_
     obtain ⟨ad1029,e1029,hx1029_0⟩:=Kd.at_int HR0.out x9_1 p1029 q1029
     cases e1029
     replace p1029:=eq_true p1029
     replace q1029:=eq_true q1029
     have p1030:0≤(x9_1:Int):=oB_ qe_
     have q1030:x9_1 < (l1.length:Int):=oB_ qe_
     obtain ⟨ad1030,e1030,hx1030_0⟩:=Kd.at_int HR1.out x9_1 p1030 q1030
     cases e1030
     replace p1030:=eq_true p1030
     replace q1030:=eq_true q1030
     go_wp2
     go_roundg k1
     case measure=>have:=HK1.out;omega
     case rel=>exact ⟨(wrap64 (x9_1 + 1)),qc_,H',⟨by have:=HK1.out;omega⟩,by repeat (first | exact Drawn0.refl _ | apply Drawn0.step)⟩
    ·rw [if_neg c7] at H
     have c7b0:((rd l0 x9_1) == (rd l1 x9_1)) = false:=beq_eq_false_iff_ne.mpr c7
     have c7b1:((rd l0 x9_1) != (rd l1 x9_1)) = true:=bne_iff_ne.mpr c7
     obtain rfl:=Option.some.inj H
     have p1029:0≤(x9_1:Int):=oB_ qe_
     have q1029:x9_1 < (l0.length:Int):=oB_ qe_
     obtain ⟨ad1029,e1029,hx1029_0⟩:=Kd.at_int HR0.out x9_1 p1029 q1029
     cases e1029
     replace p1029:=eq_true p1029
     replace q1029:=eq_true q1029
     have p1030:0≤(x9_1:Int):=oB_ qe_
     have q1030:x9_1 < (l1.length:Int):=oB_ qe_
     obtain ⟨ad1030,e1030,hx1030_0⟩:=Kd.at_int HR1.out x9_1 p1030 q1030
     cases e1030
     replace p1030:=eq_true p1030
     replace q1030:=eq_true q1030
     have p1031:0≤(x9_1:Int):=oB_ qe_
     have q1031:x9_1 < (l1.length:Int):=oB_ qe_
     obtain ⟨ad1031,e1031,hx1031_0⟩:=Kd.at_int HR1.out x9_1 p1031 q1031
     obtain rfl:ad1030 = ad1031:=(by injection e1031)
     replace p1031:=eq_true p1031
     replace q1031:=eq_true q1031
     go_wp2
     go_ret
     exact ⟨qc_,by repeat (first | exact Drawn0.refl _ | apply Drawn0.step)⟩
   ·rw [if_neg c3] at H
    have c3b0:=oD_ c3
    clear c3
    obtain rfl:=Option.some.inj H
    go_wp2
    go_ret
    exact ⟨qc_,by repeat (first | exact Drawn0.refl _ | apply Drawn0.step)⟩
def Z40.f (k:Nat) (l0_0:List Int) (l0_1:List Int) (l1_0:List Int) (l1_1:List Int):Option (Bool):=(Z52.f k l0_0 l1_0).bind fun t1034=>(if t1034 = true then ((Z62.f k l0_1 l1_1).bind fun t1035=>(some t1035)) else ((Z62.f k l0_0 l1_0).bind fun t1036=>(some t1036)))
theorem Z40.mono:∀ a0 a1 a2 a3 k,LeO (Z40.f k a0 a1 a2 a3) (Z40.f (k + 1) a0 a1 a2 a3):=by
 intro a0 a1 a2 a3 k
 unfold Z40.f
 repeat' first|exact Z52.mono _ _ _|exact Z62.mono _ _ _|exact lo_|refine LeO.ite ?_ ?_|refine LeO.bind ?_ (fun _=>?_)
set_option maxHeartbeats 8000000 in
set_option maxRecDepth 100000 in
theorem Z40.calls (k:Nat) (A0_0:Option Addr) (c0_0:Nat) (l0_0:List Int) (A0_1:Option Addr) (c0_1:Nat) (l0_1:List Int) (A1_0:Option Addr) (c1_0:Nat) (l1_0:List Int) (A1_1:Option Addr) (c1_1:Nat) (l1_1:List Int) (r:Bool) (w:World) (hr0_0:Kd.C (Kd.int .i64) w A0_0 l0_0.length l0_0) (hc0_0:l0_0.length≤c0_0) (hr0_1:Kd.C (Kd.int .i64) w A0_1 l0_1.length l0_1) (hc0_1:l0_1.length≤c0_1) (hr1_0:Kd.C (Kd.int .i64) w A1_0 l1_0.length l1_0) (hc1_0:l1_0.length≤c1_0) (hr1_1:Kd.C (Kd.int .i64) w A1_1 l1_1.length l1_1) (hc1_1:l1_1.length≤c1_1) (h:Z40.f k l0_0 l0_1 l1_0 l1_1 = some r) :
  Calls Try.prog 128 #[.agg #[.slice A0_0 l0_0.length c0_0,.slice A0_1 l0_1.length c0_1],.agg #[.slice A1_0 l1_0.length c1_0,.slice A1_1 l1_1.length c1_1]] w fun e w'=>e = .returned (.bool r)∧Below w.heap.size w w':=by
 have hu33:=Try.underlying33
 have HR0_0:=A_ hr0_0
 have HC0_0:=A_ hc0_0
 clear hr0_0 hc0_0
 have HR0_1:=A_ hr0_1
 have HC0_1:=A_ hc0_1
 clear hr0_1 hc0_1
 have HR1_0:=A_ hr1_0
 have HC1_0:=A_ hc1_0
 clear hr1_0 hc1_0
 have HR1_1:=A_ hr1_1
 have HC1_1:=A_ hc1_1
 clear hr1_1 hc1_1
 have HB:=A_ (Below.refl w.heap.size w)
 have H:=h
 unfold Z40.f at H
 clear h
 obtain ⟨t1034,A3,H⟩:=bi_ H
 by_cases c4:t1034 = true
 ·subst c4
  rw [if_pos rfl] at H
  obtain ⟨t1035,A5,H⟩:=bi_ H
  obtain rfl:=Option.some.inj H
  go_enter Try.func128,Try.ntmps128
  go_wp2_with (first | ((with_reducible refine gB_ (N:=2) rfl ?_);refine bx_ 2 #[.slice A0_0 l0_0.length c0_0,.slice A0_1 l0_1.length c0_1] 33 ?_;intro gb1032 hg w6 hbox hb;have BK1032:=A_ hbox;have GW1032:=gw_ w hg;have GE1032:=GW1032;replace HB:=b1_ hb;clear hb hbox hg) | ((with_reducible refine gB_ (N:=3) rfl ?_);refine bx_ 3 #[.slice A1_0 l1_0.length c1_0,.slice A1_1 l1_1.length c1_1] 33 ?_;intro gb1033 hg w7 hbox hb;have BK1033:=A_ hbox;have GW1033:=gw_ w hg;have GE1033:=GW1033;replace HB:=b1_ hb;have NB1032_1033:=gN_ BK1032 hg;have NB1033_1032:=gP_ BK1032 hg;replace BK1032:=bb_ BK1032 hb;clear hb hbox hg;have hnb8:=NB1032_1033.out;have hnc8:=NB1033_1032.out;obtain ⟨hcz9_0,hcz9_1,hfz9_0,hfz9_1⟩:=c2_ BK1032;obtain ⟨hcz10_0,hcz10_1,hfz10_0,hfz10_1⟩:=c2_ BK1033) | ((with_reducible refine gA_ (f:=134) rfl ?_);refine gL_ (some 9) Try.func134 #[.slice A0_0 l0_0.length c0_0,.slice A1_0 l1_0.length c1_0] rfl qa_ ?_;(with_reducible refine (Z52.calls k _ _ l0_0 _ _ l1_0 true _ (cb_ HR0_0) HC0_0.out (cb_ HR1_0) HC1_0.out A3.out).mono ?_);rintro e w' ⟨rfl,⟨nd,rfl⟩⟩;refine ⟨_,rfl,?_⟩) | ((with_reducible refine gA_ (f:=163) rfl ?_);refine gL_ (some 14) Try.func163 #[.slice A0_1 l0_1.length c0_1,.slice A1_1 l1_1.length c1_1] rfl qa_ ?_;(with_reducible refine (Z62.calls k _ _ l0_1 _ _ l1_1 t1035 _ (cw_ (cD_ HR0_1.out hB_)) HC0_1.out (cw_ (cD_ HR1_1.out hB_)) HC1_1.out A5.out).mono ?_);rintro e w' ⟨rfl,⟨nd,rfl⟩⟩;refine ⟨_,rfl,?_⟩))
  go_ret
  exact ⟨qb_,hB_⟩
 ·replace c4:=Bool.eq_false_iff.mpr c4
  subst c4
  have H1:((Z62.f k l0_0 l1_0).bind fun t1036=>(some t1036)) = some r:=by rw [if_neg (show ¬ (false = true) by decide)] at H;exact H
  clear H
  have H:=H1
  clear H1
  obtain ⟨t1036,A11,H⟩:=bi_ H
  obtain rfl:=Option.some.inj H
  go_enter Try.func128,Try.ntmps128
  go_wp2_with (first | ((with_reducible refine gB_ (N:=2) rfl ?_);refine bx_ 2 #[.slice A0_0 l0_0.length c0_0,.slice A0_1 l0_1.length c0_1] 33 ?_;intro gb1032 hg w12 hbox hb;have BK1032:=A_ hbox;have GW1032:=gw_ w hg;have GE1032:=GW1032;replace HB:=b1_ hb;clear hb hbox hg) | ((with_reducible refine gB_ (N:=3) rfl ?_);refine bx_ 3 #[.slice A1_0 l1_0.length c1_0,.slice A1_1 l1_1.length c1_1] 33 ?_;intro gb1033 hg w13 hbox hb;have BK1033:=A_ hbox;have GW1033:=gw_ w hg;have GE1033:=GW1033;replace HB:=b1_ hb;have NB1032_1033:=gN_ BK1032 hg;have NB1033_1032:=gP_ BK1032 hg;replace BK1032:=bb_ BK1032 hb;clear hb hbox hg;have hnb14:=NB1032_1033.out;have hnc14:=NB1033_1032.out;obtain ⟨hcz15_0,hcz15_1,hfz15_0,hfz15_1⟩:=c2_ BK1032;obtain ⟨hcz16_0,hcz16_1,hfz16_0,hfz16_1⟩:=c2_ BK1033) | ((with_reducible refine gA_ (f:=134) rfl ?_);refine gL_ (some 9) Try.func134 #[.slice A0_0 l0_0.length c0_0,.slice A1_0 l1_0.length c1_0] rfl qa_ ?_;(with_reducible refine (Z52.calls k _ _ l0_0 _ _ l1_0 false _ (cb_ HR0_0) HC0_0.out (cb_ HR1_0) HC1_0.out A3.out).mono ?_);rintro e w' ⟨rfl,⟨nd,rfl⟩⟩;refine ⟨_,rfl,?_⟩) | ((with_reducible refine gA_ (f:=163) rfl ?_);refine gL_ (some 19) Try.func163 #[.slice A0_0 l0_0.length c0_0,.slice A1_0 l1_0.length c1_0] rfl qa_ ?_;(with_reducible refine (Z62.calls k _ _ l0_0 _ _ l1_0 t1036 _ (cw_ (cD_ HR0_0.out hB_)) HC0_0.out (cw_ (cD_ HR1_0.out hB_)) HC1_0.out A11.out).mono ?_);rintro e w' ⟨rfl,⟨nd,rfl⟩⟩;refine ⟨_,rfl,?_⟩))
  go_ret
  exact ⟨qb_,hB_⟩
def Z54.l0:Nat→Int→List Int→List Int→List Int→List Int→Option (List Int × List Int)
 | 0,_,_,_,_,_=>none
 | k + 1,x4,x1060000,x1060001,x1071000,x1071001=>if x4 < (x1060000.length:Int) then ((Z55.f k x1060000 x1060001 x4).bind fun t1071=>((Z41.f k x1060000 x1060001 t1071).bind fun bt1074=>((Z40.f k bt1074.1 bt1074.2 x1071000 x1071001).bind fun t1081=>(if t1081 = true then (Z54.l0 k (wrap64 (x4 + 1)) x1060000 x1060001 bt1074.1 bt1074.2) else (Z54.l0 k (wrap64 (x4 + 1)) x1060000 x1060001 x1071000 x1071001))))) else (some (x1071000,x1071001))
def Z54.f (k:Nat) (l0_0:List Int) (l0_1:List Int):Option (List Int × List Int):=(Z55.f k l0_0 l0_1 0).bind fun t1061=>((Z41.f k l0_0 l0_1 t1061).bind fun bt1064=>(Z54.l0 k 1 l0_0 l0_1 bt1064.1 bt1064.2))
theorem Z54.mono_l:∀ k,(∀ y0 y1 y2 y3 y4,LeO (Z54.l0 k y0 y1 y2 y3 y4) (Z54.l0 (k + 1) y0 y1 y2 y3 y4))
 | 0=>fun _ _ _ _ _ r h=>by simp [Z54.l0] at h
 | k + 1=>by
  have ih0:=Z54.mono_l k
  ·intro y0 y1 y2 y3 y4
   unfold Z54.l0
   repeat' first|exact ih0 _ _ _ _ _|exact Z40.mono _ _ _ _ _|exact Z55.mono _ _ _ _|exact Z41.mono _ _ _ _|exact lo_|refine LeO.ite ?_ ?_|refine LeO.bind ?_ (fun _=>?_)
theorem Z54.mono:∀ a0 a1 k,LeO (Z54.f k a0 a1) (Z54.f (k + 1) a0 a1):=by
 intro a0 a1 k
 have ih0:=Z54.mono_l k
 unfold Z54.f
 repeat' first|exact ih0 _ _ _ _ _|exact Z40.mono _ _ _ _ _|exact Z55.mono _ _ _ _|exact Z41.mono _ _ _ _|exact lo_|refine LeO.ite ?_ ?_|refine LeO.bind ?_ (fun _=>?_)
set_option maxHeartbeats 8000000 in
set_option maxRecDepth 100000 in
theorem Z54.calls (k:Nat) (A0_0:Option Addr) (c0_0:Nat) (l0_0:List Int) (A0_1:Option Addr) (c0_1:Nat) (l0_1:List Int) (r1:List Int) (r2:List Int) (w:World) (hr0_0:Kd.C (Kd.int .i64) w A0_0 l0_0.length l0_0) (hc0_0:l0_0.length≤c0_0) (hr0_1:Kd.C (Kd.int .i64) w A0_1 l0_1.length l0_1) (hc0_1:l0_1.length≤c0_1) (h:Z54.f k l0_0 l0_1 = some (r1,r2)) :
  Calls Try.prog 87 #[.agg #[.slice A0_0 l0_0.length c0_0,.slice A0_1 l0_1.length c0_1]] w fun e w'=>∃ v0_ v1_:Value,e = .returned (.agg #[v0_,v1_])∧Kd.R (Kd.int .i64) 3 w' w.heap.size (fun k_=>some k_≠(v1_:Value).ownBlock) v0_ r1∧Kd.R (Kd.int .i64) 3 w' w.heap.size (fun k_=>some k_≠(v0_:Value).ownBlock) v1_ r2∧Below w.heap.size w w':=by
 have hu33:=Try.underlying33
 have HR0_0:=A_ hr0_0
 have HC0_0:=A_ hc0_0
 clear hr0_0 hc0_0
 have HR0_1:=A_ hr0_1
 have HC0_1:=A_ hc0_1
 clear hr0_1 hc0_1
 have HB:=A_ (Below.refl w.heap.size w)
 have H:=h
 unfold Z54.f at H
 clear h
 obtain ⟨t1061,A2,H⟩:=bi_ H
 obtain ⟨⟨t1064,t1067⟩,A3,H⟩:=bi_ H
 try dsimp only at H
 have H':=A_ H
 clear H
 go_enter Try.func87,Try.ntmps87
 try go_wp2_with (first | ((with_reducible refine gB_ (N:=1) rfl ?_);refine bx_ 1 #[.slice A0_0 l0_0.length c0_0,.slice A0_1 l0_1.length c0_1] 33 ?_;intro gb1059 hg w4 hbox hb;have BK1059:=A_ hbox;have GW1059:=gw_ w hg;have GE1059:=GW1059;replace HB:=b1_ hb;clear hb hbox hg) | ((with_reducible refine gB_ (N:=2) rfl ?_);refine bx_ 2 #[.slice none 0 0,.slice none 0 0] 33 ?_;intro gb1060 hg w5 hbox hb;have BK1060:=A_ hbox;have GW1060:=gw_ w hg;have GE1060:=GW1060;replace HB:=b1_ hb;have NB1059_1060:=gN_ BK1059 hg;have NB1060_1059:=gP_ BK1059 hg;replace BK1059:=bb_ BK1059 hb;clear hb hbox hg))
 replace BK1059:=A_ (kB_ BK1059.out)
 replace BK1060:=A_ (kB_ BK1060.out)
 replace HB:=A_ (bC_ HB.out)
 refine start_ (n:=6) (S:=fun w'=>w'.cell? ⟨gb1059,0,none⟩ = some (.slice A0_0 l0_0.length c0_0)∧w'.cell? ⟨gb1059,1,none⟩ = some (.slice A0_1 l0_1.length c0_1)) (ds:=[]) (bl_ 6 0) (by kernel_rfl) rfl (by kernel_rfl) ⟨cz0_ BK1059,cz1_ BK1059⟩ (fun hHeld=>?_)
 generalize w5.drew = w6 at BK1059 BK1060 HB hHeld ⊢
 refine take_ (i:=0) (N:=some 6) (v:=?_) (a':=?_) (bl_ 6 1) rfl rfl (by kernel_rfl) (fun _ _ _ h=>h) (Or.inl ⟨by rfl,?_⟩) hHeld ?_ ?_
 rotate_left
 ·rintro w' ⟨s0,s1⟩
  go_simp
  with_reducible rfl
 rotate_left
 ·simp only [Act.put,sA_,sB_,sC_,i64_w,i32_w]
  rfl
 refine take_ (i:=1) (N:=some 7) (v:=?_) (a':=?_) (bl_ 6 3) rfl rfl (by kernel_rfl) (fun _ _ _ h=>h) (Or.inl ⟨by rfl,?_⟩) hHeld ?_ ?_
 rotate_left
 ·rintro w' ⟨s0,s1⟩
  go_simp
  with_reducible rfl
 rotate_left
 ·simp only [Act.put,sA_,sB_,sC_,i64_w,i32_w]
  rfl
 refine join_ (σ:=Value × Value × Value × Nat) 1 (bl_ 6 31) (fun s_=>[(8,s_.1),(9,.agg #[s_.2.1,s_.2.2.1]),(3,.pointer (some ⟨s_.2.2.2,0,none⟩))]) (fun s_ w'=>(w'.cell? ⟨gb1059,0,none⟩ = some (.slice A0_0 l0_0.length c0_0)∧w'.cell? ⟨gb1059,1,none⟩ = some (.slice A0_1 l0_1.length c0_1))∧(Kd.R (Kd.int .i64) 3 w' w.heap.size (fun k_=>some k_≠(s_.2.1:Value).ownBlock∧some k_≠(s_.2.2.1:Value).ownBlock) s_.1 t1061)∧(Kd.R (Kd.int .i64) 3 w' w.heap.size (fun k_=>some k_≠(s_.1:Value).ownBlock∧some k_≠(s_.2.2.1:Value).ownBlock) s_.2.1 t1064)∧(Kd.R (Kd.int .i64) 3 w' w.heap.size (fun k_=>some k_≠(s_.1:Value).ownBlock∧some k_≠(s_.2.1:Value).ownBlock) s_.2.2.1 t1067)∧(w'.heap[gb1059]? = some (.cells #[.slice A0_0 l0_0.length c0_0,.slice A0_1 l0_1.length c0_1] 33 (0,0)))∧(w'.heap[gb1060]? = some (.cells #[.slice none 0 0,.slice none 0 0] 33 (0,0)))∧(w'.heap[s_.2.2.2]? = some (.cells #[.slice none 0 0,.slice none 0 0] 33 (0,0)))∧(w.heap.size≤s_.2.2.2)∧(w.heap.size≤s_.2.2.2)∧(gb1059≠s_.2.2.2)∧(s_.2.2.2≠gb1059)∧(gb1060≠s_.2.2.2)∧(s_.2.2.2≠gb1060)∧(Below w.heap.size w w')) ?_ ?_
 rotate_left
 ·intro hCont
  refine two_ (i:=2) (j:=4) (Ni:=some 8) (Nj:=some 3) (bl_ 6 7) (bl_ 6 19) rfl rfl rfl rfl (by kernel_rfl) (by decide) (by decide) (fun K hK=>?_) (fun K hK=>?_)
  ·skip
   refine gO_ Try.func130 #[.agg #[.slice A0_0 l0_0.length c0_0,.slice A0_1 l0_1.length c0_1],.int .i64 0] (by rfl) rfl rfl qa_ ?_
   with_reducible refine (Z55.calls k _ _ l0_0 _ _ l0_1 0 t1061 _ (cb_ HR0_0) HC0_0.out (cb_ HR0_1) HC0_1.out A2.out).mono ?_
   rintro e w7 ⟨v1062,rfl,ho0,hb⟩
   refine ⟨_,rfl,?_⟩
   have HO1063:=rl_ w ho0
   replace BK1059:=bb_ BK1059 hb
   replace BK1060:=bb_ BK1060 hb
   replace HB:=b1_ hb
   clear hb ho0
   obtain ⟨Ao8,co8,eo8⟩:=Kd.R_slice HO1063.out
   (first|subst eo8|(injection eo8 with a_ b_ c_;have a_:=a_.symm;have c_:=c_.symm;clear b_;subst a_;subst c_))
   refine hK.out _ _ ⟨cz0_ BK1059,cz1_ BK1059⟩ (fun hHeld=>?_)
   clear hK K
   refine no_ (some 8) ?_
   refine two_ (i:=3) (j:=4) (Ni:=some 9) (Nj:=some 3) (bl_ 6 15) (bl_ 6 23) rfl rfl rfl rfl (by kernel_rfl) (by decide) (by decide) (fun K hK=>?_) (fun K hK=>?_)
   ·skip
    refine gO_ Try.func129 #[.agg #[.slice A0_0 l0_0.length c0_0,.slice A0_1 l0_1.length c0_1],.slice Ao8 t1061.length co8] (by rfl) rfl rfl qa_ ?_
    with_reducible refine (Z41.calls k _ _ l0_0 _ _ l0_1 _ _ t1061 t1064 t1067 _ (cb_ HR0_0) HC0_0.out (cb_ HR0_1) HC0_1.out (cr_ HO1063) ((Kd.R_reads' HO1063.out).2.1) A3.out).mono ?_
    rintro e w9 ⟨v1065,v1068,rfl,ho0,ho1,hb⟩
    refine ⟨_,rfl,?_⟩
    have HO1066:=A_ (rE_ (Kd.R_new' ho0 (Kd.R_lt (rr_ HO1063))) (bF_ hB_))
    have HO1069:=A_ (rE_ (Kd.R_new' ho1 (Kd.R_lt (rr_ HO1063))) (bF_ hB_))
    replace HO1063:=A_ (Kd.R_mono (Kd.R_told (Kd.R_told (Kd.R_old (rr_ HO1063) hb) (Kd.R_base ho0)) (Kd.R_base ho1)) (fun _ h_=>h_.1))
    replace BK1059:=bb_ BK1059 hb
    replace BK1060:=bb_ BK1060 hb
    replace HB:=b1_ hb
    clear hb ho0 ho1
    refine hK.out _ _ ⟨cz0_ BK1059,cz1_ BK1059⟩ (fun hHeld=>?_)
    clear hK K
    refine no_ (some 9) ?_
    refine one_ (i:=4) (N:=some 3) (bl_ 6 31) rfl rfl (by kernel_rfl) (by decide) (fun K hK=>?_)
    refine box_step ?hg (N:=3) ?hd (cs:=#[.slice none 0 0,.slice none 0 0]) (t:=33) ?hr ?_;(case hd=>rfl);(case hg=>rfl);(case hr=>first | (go_simp;done) | (go_simp;rfl))
    intro gb1070 hg w10 hbox hb
    replace HO1063:=rb_ HO1063 hb
    replace HO1066:=rb_ HO1066 hb
    replace HO1069:=rb_ HO1069 hb
    have BK1070:=A_ hbox
    have GW1070:=gw_ w hg
    have GE1070:=GW1070
    replace HB:=b1_ hb
    have NB1059_1070:=gN_ BK1059 hg
    have NB1070_1059:=gP_ BK1059 hg
    replace BK1059:=bb_ BK1059 hb
    have NB1060_1070:=gN_ BK1060 hg
    have NB1070_1060:=gP_ BK1060 hg
    replace BK1060:=bb_ BK1060 hb
    clear hb hbox hg
    refine hK.out _ _ ⟨cz0_ BK1059,cz1_ BK1059⟩ (fun hHeld=>?_)
    clear hK K
    refine no_ (some 3) ?_
    exact norm_ (by simp only [putAll,Act.put,sA_,sB_,sC_]) (hCont (.slice Ao8 t1061.length co8,v1065,v1068,gb1070) _ ⟨hHeld,(rw_ (Kd.R_mono HO1063.out (fun _ hk=>⟨hk.1.2,hk.2⟩))),(rw_ (Kd.R_mono HO1066.out (fun _ hk=>⟨hk.2,hk.1⟩))),(rw_ (Kd.R_mono HO1069.out (fun _ hk=>⟨hk.2,hk.1⟩))),(kk_ BK1059),(kk_ BK1060),(kk_ BK1070),GW1070.out,GE1070.out,NB1059_1070.out,NB1070_1059.out,NB1060_1070.out,NB1070_1060.out,hB_⟩)
   ·skip
    refine box_step ?hg (N:=3) ?hd (cs:=#[.slice none 0 0,.slice none 0 0]) (t:=33) ?hr ?_;(case hd=>rfl);(case hg=>rfl);(case hr=>first | (go_simp;done) | (go_simp;rfl))
    intro gb1070 hg w8 hbox hb
    replace HO1063:=rb_ HO1063 hb
    have BK1070:=A_ hbox
    have GW1070:=gw_ w hg
    have GE1070:=GW1070
    replace HB:=b1_ hb
    have NB1059_1070:=gN_ BK1059 hg
    have NB1070_1059:=gP_ BK1059 hg
    replace BK1059:=bb_ BK1059 hb
    have NB1060_1070:=gN_ BK1060 hg
    have NB1070_1060:=gP_ BK1060 hg
    replace BK1060:=bb_ BK1060 hb
    clear hb hbox hg
    obtain ⟨Ao9,co9,eo9⟩:=Kd.R_slice HO1063.out
    (first|subst eo9|(injection eo9 with a_ b_ c_;have a_:=a_.symm;have c_:=c_.symm;clear b_;subst a_;subst c_))
    refine hK.out _ _ ⟨cz0_ BK1059,cz1_ BK1059⟩ (fun hHeld=>?_)
    clear hK K
    refine no_ (some 3) ?_
    refine one_ (i:=3) (N:=some 9) (bl_ 6 31) rfl rfl (by kernel_rfl) (by decide) (fun K hK=>?_)
    refine gO_ Try.func129 #[.agg #[.slice A0_0 l0_0.length c0_0,.slice A0_1 l0_1.length c0_1],.slice Ao9 t1061.length co9] (by rfl) rfl rfl qa_ ?_
    with_reducible refine (Z41.calls k _ _ l0_0 _ _ l0_1 _ _ t1061 t1064 t1067 _ (cb_ HR0_0) HC0_0.out (cb_ HR0_1) HC0_1.out (cr_ HO1063) ((Kd.R_reads' HO1063.out).2.1) A3.out).mono ?_
    rintro e w10 ⟨v1065,v1068,rfl,ho0,ho1,hb⟩
    refine ⟨_,rfl,?_⟩
    have HO1066:=A_ (rE_ (Kd.R_new' ho0 (Kd.R_lt (rr_ HO1063))) (bF_ hB_))
    have HO1069:=A_ (rE_ (Kd.R_new' ho1 (Kd.R_lt (rr_ HO1063))) (bF_ hB_))
    replace HO1063:=A_ (Kd.R_mono (Kd.R_told (Kd.R_told (Kd.R_old (rr_ HO1063) hb) (Kd.R_base ho0)) (Kd.R_base ho1)) (fun _ h_=>h_.1))
    replace BK1059:=bb_ BK1059 hb
    replace BK1060:=bb_ BK1060 hb
    replace BK1070:=bb_ BK1070 hb
    replace HB:=b1_ hb
    clear hb ho0 ho1
    refine hK.out _ _ ⟨cz0_ BK1059,cz1_ BK1059⟩ (fun hHeld=>?_)
    clear hK K
    refine no_ (some 9) ?_
    exact norm_ (by simp only [putAll,Act.put,sA_,sB_,sC_]) (hCont (.slice Ao9 t1061.length co9,v1065,v1068,gb1070) _ ⟨hHeld,(rw_ (Kd.R_mono HO1063.out (fun _ hk=>⟨hk.1.2,hk.2⟩))),(rw_ (Kd.R_mono HO1066.out (fun _ hk=>⟨hk.2,hk.1⟩))),(rw_ (Kd.R_mono HO1069.out (fun _ hk=>⟨hk.2,hk.1⟩))),(kk_ BK1059),(kk_ BK1060),(kk_ BK1070),GW1070.out,GE1070.out,NB1059_1070.out,NB1070_1059.out,NB1060_1070.out,NB1070_1060.out,hB_⟩)
  ·skip
   refine box_step ?hg (N:=3) ?hd (cs:=#[.slice none 0 0,.slice none 0 0]) (t:=33) ?hr ?_;(case hd=>rfl);(case hg=>rfl);(case hr=>first | (go_simp;done) | (go_simp;rfl))
   intro gb1070 hg w7 hbox hb
   have BK1070:=A_ hbox
   have GW1070:=gw_ w hg
   have GE1070:=GW1070
   replace HB:=b1_ hb
   have NB1059_1070:=gN_ BK1059 hg
   have NB1070_1059:=gP_ BK1059 hg
   replace BK1059:=bb_ BK1059 hb
   have NB1060_1070:=gN_ BK1060 hg
   have NB1070_1060:=gP_ BK1060 hg
   replace BK1060:=bb_ BK1060 hb
   clear hb hbox hg
   refine hK.out _ _ ⟨cz0_ BK1059,cz1_ BK1059⟩ (fun hHeld=>?_)
   clear hK K
   refine no_ (some 3) ?_
   refine one_ (i:=2) (N:=some 8) (bl_ 6 23) rfl rfl (by kernel_rfl) (by decide) (fun K hK=>?_)
   refine gO_ Try.func130 #[.agg #[.slice A0_0 l0_0.length c0_0,.slice A0_1 l0_1.length c0_1],.int .i64 0] (by rfl) rfl rfl qa_ ?_
   with_reducible refine (Z55.calls k _ _ l0_0 _ _ l0_1 0 t1061 _ (cb_ HR0_0) HC0_0.out (cb_ HR0_1) HC0_1.out A2.out).mono ?_
   rintro e w8 ⟨v1062,rfl,ho0,hb⟩
   refine ⟨_,rfl,?_⟩
   have HO1063:=rl_ w ho0
   replace BK1059:=bb_ BK1059 hb
   replace BK1060:=bb_ BK1060 hb
   replace BK1070:=bb_ BK1070 hb
   replace HB:=b1_ hb
   clear hb ho0
   obtain ⟨Ao9,co9,eo9⟩:=Kd.R_slice HO1063.out
   (first|subst eo9|(injection eo9 with a_ b_ c_;have a_:=a_.symm;have c_:=c_.symm;clear b_;subst a_;subst c_))
   refine hK.out _ _ ⟨cz0_ BK1059,cz1_ BK1059⟩ (fun hHeld=>?_)
   clear hK K
   refine no_ (some 8) ?_
   refine one_ (i:=3) (N:=some 9) (bl_ 6 31) rfl rfl (by kernel_rfl) (by decide) (fun K hK=>?_)
   refine gO_ Try.func129 #[.agg #[.slice A0_0 l0_0.length c0_0,.slice A0_1 l0_1.length c0_1],.slice Ao9 t1061.length co9] (by rfl) rfl rfl qa_ ?_
   with_reducible refine (Z41.calls k _ _ l0_0 _ _ l0_1 _ _ t1061 t1064 t1067 _ (cb_ HR0_0) HC0_0.out (cb_ HR0_1) HC0_1.out (cr_ HO1063) ((Kd.R_reads' HO1063.out).2.1) A3.out).mono ?_
   rintro e w10 ⟨v1065,v1068,rfl,ho0,ho1,hb⟩
   refine ⟨_,rfl,?_⟩
   have HO1066:=A_ (rE_ (Kd.R_new' ho0 (Kd.R_lt (rr_ HO1063))) (bF_ hB_))
   have HO1069:=A_ (rE_ (Kd.R_new' ho1 (Kd.R_lt (rr_ HO1063))) (bF_ hB_))
   replace HO1063:=A_ (Kd.R_mono (Kd.R_told (Kd.R_told (Kd.R_old (rr_ HO1063) hb) (Kd.R_base ho0)) (Kd.R_base ho1)) (fun _ h_=>h_.1))
   replace BK1059:=bb_ BK1059 hb
   replace BK1060:=bb_ BK1060 hb
   replace BK1070:=bb_ BK1070 hb
   replace HB:=b1_ hb
   clear hb ho0 ho1
   refine hK.out _ _ ⟨cz0_ BK1059,cz1_ BK1059⟩ (fun hHeld=>?_)
   clear hK K
   refine no_ (some 9) ?_
   exact norm_ (by simp only [putAll,Act.put,sA_,sB_,sC_]) (hCont (.slice Ao9 t1061.length co9,v1065,v1068,gb1070) _ ⟨hHeld,(rw_ (Kd.R_mono HO1063.out (fun _ hk=>⟨hk.1.2,hk.2⟩))),(rw_ (Kd.R_mono HO1066.out (fun _ hk=>⟨hk.2,hk.1⟩))),(rw_ (Kd.R_mono HO1069.out (fun _ hk=>⟨hk.2,hk.1⟩))),(kk_ BK1059),(kk_ BK1060),(kk_ BK1070),GW1070.out,GE1070.out,NB1059_1070.out,NB1070_1059.out,NB1060_1070.out,NB1070_1060.out,hB_⟩)
 rintro ⟨v1062,v1065,v1068,gb1070⟩ w11 ⟨hS_,h0_,h1_,h2_,h3_,h4_,h5_,h6_,h7_,h8_,h9_,h10_,h11_,h12_⟩
 have n0_:Aside0 (Kd.R (Kd.int .i64) 3 w11 w.heap.size (fun k_=>some k_≠(v1065:Value).ownBlock∧some k_≠(v1068:Value).ownBlock) v1062 t1061):=⟨h0_⟩
 have n1_:Aside0 (Kd.R (Kd.int .i64) 3 w11 w.heap.size (fun k_=>some k_≠(v1062:Value).ownBlock∧some k_≠(v1068:Value).ownBlock) v1065 t1064):=⟨h1_⟩
 have n2_:Aside0 (Kd.R (Kd.int .i64) 3 w11 w.heap.size (fun k_=>some k_≠(v1062:Value).ownBlock∧some k_≠(v1065:Value).ownBlock) v1068 t1067):=⟨h2_⟩
 have n3_:Aside0 (w11.heap[gb1059]? = some (.cells #[.slice A0_0 l0_0.length c0_0,.slice A0_1 l0_1.length c0_1] 33 (0,0))):=⟨h3_⟩
 have n4_:Aside0 (w11.heap[gb1060]? = some (.cells #[.slice none 0 0,.slice none 0 0] 33 (0,0))):=⟨h4_⟩
 have n5_:Aside0 (w11.heap[gb1070]? = some (.cells #[.slice none 0 0,.slice none 0 0] 33 (0,0))):=⟨h5_⟩
 have n6_:Aside0 (w.heap.size≤gb1070):=⟨h6_⟩
 have n7_:Aside0 (w.heap.size≤gb1070):=⟨h7_⟩
 have n8_:Aside0 (gb1059≠gb1070):=⟨h8_⟩
 have n9_:Aside0 (gb1070≠gb1059):=⟨h9_⟩
 have n10_:Aside0 (gb1060≠gb1070):=⟨h10_⟩
 have n11_:Aside0 (gb1070≠gb1060):=⟨h11_⟩
 have n12_:Aside0 (Below w.heap.size w w11):=⟨h12_⟩
 clear BK1059
 clear BK1060
 clear HB
 clear h0_ h1_ h2_ h3_ h4_ h5_ h6_ h7_ h8_ h9_ h10_ h11_ h12_
 have HO1063:=n0_
 have HO1066:=n1_
 have HO1069:=n2_
 have BK1059:=n3_
 have BK1060:=n4_
 have BK1070:=n5_
 have GW1070:=n6_
 have GE1070:=n7_
 have NB1059_1070:=n8_
 have NB1070_1059:=n9_
 have NB1060_1070:=n10_
 have NB1070_1060:=n11_
 have HB:=n12_
 clear n0_ n1_ n2_ n3_ n4_ n5_ n6_ n7_ n8_ n9_ n10_ n11_ n12_
 have hHeld:w11.cell? ⟨gb1059,0,none⟩ = some (.slice A0_0 l0_0.length c0_0)∧w11.cell? ⟨gb1059,1,none⟩ = some (.slice A0_1 l0_1.length c0_1):=hS_
 obtain ⟨Ao12,co12,eo12⟩:=Kd.R_slice HO1066.out
 (first|subst eo12|(injection eo12 with a_ b_ c_;have a_:=a_.symm;have c_:=c_.symm;clear b_;subst a_;subst c_))
 obtain ⟨Ao14,co14,eo14⟩:=Kd.R_slice HO1069.out
 (first|subst eo14|(injection eo14 with a_ b_ c_;have a_:=a_.symm;have c_:=c_.symm;clear b_;subst a_;subst c_))
 refine norm_ (a':=?_) ?_ ?_
 rotate_left
 ·simp only [putAll,Act.put,sA_,sB_,sC_]
  rfl
 refine one_ (i:=5) (N:=none) (bl_ 6 63) rfl rfl (by kernel_rfl) (by decide) (fun K hK=>?_)
 have hs13:w11.cell? ⟨gb1070,0,none⟩ = some (.slice none 0 0):=cz0_ BK1070
 have hfs13:=kD_ BK1070.out 0
 have hns13_0:=NB1059_1070.out
 have hns13_1:=NB1060_1070.out
 have hms13_0:=NB1070_1059.out
 have hms13_1:=NB1070_1060.out
 have hs15:w11.cell? ⟨gb1070,1,none⟩ = some (.slice none 0 0):=cz1_ BK1070
 have hfs15:=kD_ BK1070.out 1
 have hns15_0:=NB1059_1070.out
 have hns15_1:=NB1060_1070.out
 have hms15_0:=NB1070_1059.out
 have hms15_1:=NB1070_1060.out
 refine skip_ (w1:=?_) (by rfl) rfl ?_ ?_
 rotate_left
 ·go_simp
  rfl
 refine hK.out _ _ ⟨((cell_far (p:=⟨gb1070,_,none⟩) NB1059_1070.out _).trans (((cell_far (p:=⟨gb1070,_,none⟩) NB1059_1070.out _).trans (hHeld.1)))),((cell_far (p:=⟨gb1070,_,none⟩) NB1059_1070.out _).trans (((cell_far (p:=⟨gb1070,_,none⟩) NB1059_1070.out _).trans (hHeld.2))))⟩ (fun hHeld=>?_)
 clear hK K
 refine done_ (by kernel_rfl) ?_
 try go_wp2
 go_loopg [4] k (fun kq v4 w'=>∃ (x4_1:Int) (x1071000_1:List Int) (x1071001_1:List Int) (u1071000:Value) (u1071001:Value),v4 = .int .i64 x4_1∧Aside0 (Z54.l0 kq x4_1 l0_0 l0_1 x1071000_1 x1071001_1 = some (r1,r2))∧Aside0 (kq≤k)∧Aside0 (Kd.R (Kd.int .i64) 3 w' w.heap.size (fun k_=>some k_≠(u1071001:Value).ownBlock) u1071000 x1071000_1)∧Aside0 (Kd.R (Kd.int .i64) 3 w' w.heap.size (fun k_=>some k_≠(u1071000:Value).ownBlock) u1071001 x1071001_1)∧Aside0 (w'.heap[gb1059]? = some (.cells #[(.slice A0_0 l0_0.length c0_0),(.slice A0_1 l0_1.length c0_1)] 33 (0,0)))∧Aside0 (w'.heap[gb1060]? = some (.cells #[(.slice none 0 0),(.slice none 0 0)] 33 (0,0)))∧Aside0 (w'.heap[gb1070]? = some (.cells #[u1071000,u1071001] 33 (0,0)))∧Aside0 (Below w.heap.size w w'))
 case atStart=>exact ⟨(1),(t1064),(t1067),(.slice Ao12 t1064.length co12),(.slice Ao14 t1067.length co14),qc_,H',⟨nA_ _⟩,⟨(rw_ (Kd.R_mono (fa_ HO1066 BK1070) (fun _ hk=>hk.2)))⟩,⟨(rw_ (Kd.R_mono (fa_ HO1069 BK1070) (fun _ hk=>hk.2)))⟩,⟨by (with_reducible repeat (first | refine kA_ ?_ _ | refine kB_ ?_ | refine kC_ ?_ _));refine blk_far ?_ NB1059_1070.out _;(with_reducible repeat (first | refine kA_ ?_ _ | refine kB_ ?_ | refine kC_ ?_ _));refine blk_far ?_ NB1059_1070.out _;(with_reducible repeat (first | refine kA_ ?_ _ | refine kB_ ?_ | refine kC_ ?_ _));exact BK1059.out⟩,⟨by (with_reducible repeat (first | refine kA_ ?_ _ | refine kB_ ?_ | refine kC_ ?_ _));refine blk_far ?_ NB1060_1070.out _;(with_reducible repeat (first | refine kA_ ?_ _ | refine kB_ ?_ | refine kC_ ?_ _));refine blk_far ?_ NB1060_1070.out _;(with_reducible repeat (first | refine kA_ ?_ _ | refine kB_ ?_ | refine kC_ ?_ _));exact BK1060.out⟩,⟨qp_⟩,⟨hB_⟩⟩
 case round =>
  clear H'
  obtain ⟨x4_1,x1071000_1,x1071001_1,u1071000,u1071001,rfl,HA,HK1,HO_1071000,HO_1071001,BK1059,BK1060,BK1070,HB⟩:=hrel
  cases gk with
  | zero=>exact absurd HA.out (by simp [Z54.l0])
  | succ k1 =>
   have H:=HA.out
   clear HA
   simp only [Z54.l0] at H
   by_cases c16:x4_1 < (l0_0.length:Int)
   ·rw [if_pos c16] at H
    have c16b0:=oC_ c16
    clear c16
    obtain ⟨t1071,A17,H⟩:=bi_ H
    obtain ⟨⟨t1074,t1077⟩,A18,H⟩:=bi_ H
    try dsimp only at H
    obtain ⟨t1081,A19,H⟩:=bi_ H
    by_cases c20:t1081 = true
    ·subst c20
     rw [if_pos rfl] at H
     have H':=A_ H
     clear H
     have hnb21:=NB1059_1060.out
     have hnc21:=NB1060_1059.out
     have hnb22:=NB1059_1070.out
     have hnc22:=NB1070_1059.out
     obtain ⟨hcz23_0,hcz23_1,hfz23_0,hfz23_1⟩:=c2_ BK1059
     try go_wp2
     replace HO_1071000:=A_ (rC_ HO_1071000.out)
     replace HO_1071001:=A_ (rC_ HO_1071001.out)
     replace BK1059:=A_ (kB_ BK1059.out)
     replace BK1060:=A_ (kB_ BK1060.out)
     replace BK1070:=A_ (kB_ BK1070.out)
     replace HB:=A_ (bC_ HB.out)
     refine start_ (n:=7) (S:=fun w'=>w'.cell? ⟨gb1059,0,none⟩ = some (.slice A0_0 l0_0.length c0_0)∧w'.cell? ⟨gb1059,1,none⟩ = some (.slice A0_1 l0_1.length c0_1)) (ds:=[]) (bl_ 7 0) (by kernel_rfl) rfl (by kernel_rfl) ⟨cz0_ BK1059,cz1_ BK1059⟩ (fun hHeld=>?_)
     generalize wr.drew = w24 at HO_1071000 HO_1071001 BK1059 BK1060 BK1070 HB hHeld ⊢
     refine pure_ (i:=2) (N:=some 19) (v:=?_) (a':=?_) (bl_ 7 4) rfl rfl (by kernel_rfl) (fun _ _ _ h=>h) (Or.inl ⟨by rfl,?_⟩) ?_ ?_
     rotate_left
     ·intro w'
      go_simp
      with_reducible rfl
     rotate_left
     ·simp only [Act.put,sA_,sB_,sC_,i64_w,i32_w]
      rfl
     refine take_ (i:=0) (N:=some 17) (v:=?_) (a':=?_) (bl_ 7 5) rfl rfl (by kernel_rfl) (fun _ _ _ h=>h) (Or.inl ⟨by rfl,?_⟩) hHeld ?_ ?_
     rotate_left
     ·rintro w' ⟨s0,s1⟩
      go_simp
      with_reducible rfl
     rotate_left
     ·simp only [Act.put,sA_,sB_,sC_,i64_w,i32_w]
      rfl
     refine take_ (i:=1) (N:=some 18) (v:=?_) (a':=?_) (bl_ 7 7) rfl rfl (by kernel_rfl) (fun _ _ _ h=>h) (Or.inl ⟨by rfl,?_⟩) hHeld ?_ ?_
     rotate_left
     ·rintro w' ⟨s0,s1⟩
      go_simp
      with_reducible rfl
     rotate_left
     ·simp only [Act.put,sA_,sB_,sC_,i64_w,i32_w]
      rfl
     refine join_ (σ:=Value × Value × Value × Nat) 1 (bl_ 7 63) (fun s_=>[(20,s_.1),(21,.agg #[s_.2.1,s_.2.2.1]),(5,.pointer (some ⟨s_.2.2.2,0,none⟩))]) (fun s_ w'=>(w'.cell? ⟨gb1059,0,none⟩ = some (.slice A0_0 l0_0.length c0_0)∧w'.cell? ⟨gb1059,1,none⟩ = some (.slice A0_1 l0_1.length c0_1))∧(Kd.R (Kd.int .i64) 3 w' w.heap.size (fun k_=>some k_≠(s_.2.1:Value).ownBlock∧some k_≠(s_.2.2.1:Value).ownBlock∧some k_≠(u1071000:Value).ownBlock∧some k_≠(u1071001:Value).ownBlock) s_.1 t1071)∧(Kd.R (Kd.int .i64) 3 w' w.heap.size (fun k_=>some k_≠(s_.1:Value).ownBlock∧some k_≠(s_.2.2.1:Value).ownBlock∧some k_≠(u1071000:Value).ownBlock∧some k_≠(u1071001:Value).ownBlock) s_.2.1 t1074)∧(Kd.R (Kd.int .i64) 3 w' w.heap.size (fun k_=>some k_≠(s_.1:Value).ownBlock∧some k_≠(s_.2.1:Value).ownBlock∧some k_≠(u1071000:Value).ownBlock∧some k_≠(u1071001:Value).ownBlock) s_.2.2.1 t1077)∧(Kd.R (Kd.int .i64) 3 w' w.heap.size (fun k_=>some k_≠(s_.1:Value).ownBlock∧some k_≠(s_.2.1:Value).ownBlock∧some k_≠(s_.2.2.1:Value).ownBlock∧some k_≠(u1071001:Value).ownBlock) u1071000 x1071000_1)∧(Kd.R (Kd.int .i64) 3 w' w.heap.size (fun k_=>some k_≠(s_.1:Value).ownBlock∧some k_≠(s_.2.1:Value).ownBlock∧some k_≠(s_.2.2.1:Value).ownBlock∧some k_≠(u1071000:Value).ownBlock) u1071001 x1071001_1)∧(w'.heap[gb1059]? = some (.cells #[.slice A0_0 l0_0.length c0_0,.slice A0_1 l0_1.length c0_1] 33 (0,0)))∧(w'.heap[gb1060]? = some (.cells #[.slice none 0 0,.slice none 0 0] 33 (0,0)))∧(w'.heap[gb1070]? = some (.cells #[u1071000,u1071001] 33 (0,0)))∧(w'.heap[s_.2.2.2]? = some (.cells #[.slice none 0 0,.slice none 0 0] 33 (0,0)))∧(w.heap.size≤s_.2.2.2)∧(w.heap.size≤s_.2.2.2)∧(gb1059≠s_.2.2.2)∧(s_.2.2.2≠gb1059)∧(gb1060≠s_.2.2.2)∧(s_.2.2.2≠gb1060)∧(gb1070≠s_.2.2.2)∧(s_.2.2.2≠gb1070)∧(Below w.heap.size w w')) ?_ ?_
     rotate_left
     ·intro hCont
      refine two_ (i:=3) (j:=5) (Ni:=some 20) (Nj:=some 5) (bl_ 7 15) (bl_ 7 39) rfl rfl rfl rfl (by kernel_rfl) (by decide) (by decide) (fun K hK=>?_) (fun K hK=>?_)
      ·skip
       refine gO_ Try.func130 #[.agg #[.slice A0_0 l0_0.length c0_0,.slice A0_1 l0_1.length c0_1],.int .i64 x4_1] (by rfl) rfl rfl qa_ ?_
       with_reducible refine (Z55.calls k1 _ _ l0_0 _ _ l0_1 x4_1 t1071 _ (cb_ HR0_0) HC0_0.out (cb_ HR0_1) HC0_1.out A17.out).mono ?_
       rintro e w25 ⟨v1072,rfl,ho0,hb⟩
       refine ⟨_,rfl,?_⟩
       have HO1073:=A_ (rE_ (Kd.R_new' (Kd.R_new' ho0 (Kd.R_lt (rr_ HO_1071000))) (Kd.R_lt (rr_ HO_1071001))) (bF_ hB_))
       replace HO_1071000:=A_ (Kd.R_elder' (rr_ HO_1071000) (Kd.R_base ho0) hb)
       replace HO_1071001:=A_ (Kd.R_elder' (rr_ HO_1071001) (Kd.R_base ho0) hb)
       replace BK1059:=bb_ BK1059 hb
       replace BK1060:=bb_ BK1060 hb
       replace BK1070:=bb_ BK1070 hb
       replace HB:=b1_ hb
       clear hb ho0
       obtain ⟨Ao26,co26,eo26⟩:=Kd.R_slice HO1073.out
       (first|subst eo26|(injection eo26 with a_ b_ c_;have a_:=a_.symm;have c_:=c_.symm;clear b_;subst a_;subst c_))
       refine hK.out _ _ ⟨cz0_ BK1059,cz1_ BK1059⟩ (fun hHeld=>?_)
       clear hK K
       refine no_ (some 20) ?_
       refine two_ (i:=4) (j:=5) (Ni:=some 21) (Nj:=some 5) (bl_ 7 31) (bl_ 7 47) rfl rfl rfl rfl (by kernel_rfl) (by decide) (by decide) (fun K hK=>?_) (fun K hK=>?_)
       ·skip
        refine gO_ Try.func129 #[.agg #[.slice A0_0 l0_0.length c0_0,.slice A0_1 l0_1.length c0_1],.slice Ao26 t1071.length co26] (by rfl) rfl rfl qa_ ?_
        with_reducible refine (Z41.calls k1 _ _ l0_0 _ _ l0_1 _ _ t1071 t1074 t1077 _ (cb_ HR0_0) HC0_0.out (cb_ HR0_1) HC0_1.out (cr_ HO1073) ((Kd.R_reads' HO1073.out).2.1) A18.out).mono ?_
        rintro e w27 ⟨v1075,v1078,rfl,ho0,ho1,hb⟩
        refine ⟨_,rfl,?_⟩
        have HO1076:=A_ (rE_ (Kd.R_new' (Kd.R_new' (Kd.R_new' ho0 (Kd.R_lt (rr_ HO_1071000))) (Kd.R_lt (rr_ HO_1071001))) (Kd.R_lt (rr_ HO1073))) (bF_ hB_))
        have HO1079:=A_ (rE_ (Kd.R_new' (Kd.R_new' (Kd.R_new' ho1 (Kd.R_lt (rr_ HO_1071000))) (Kd.R_lt (rr_ HO_1071001))) (Kd.R_lt (rr_ HO1073))) (bF_ hB_))
        replace HO_1071000:=A_ (Kd.R_mono (Kd.R_told (Kd.R_told (Kd.R_old (rr_ HO_1071000) hb) (Kd.R_base ho0)) (Kd.R_base ho1)) (fun _ h_=>h_.1))
        replace HO_1071001:=A_ (Kd.R_mono (Kd.R_told (Kd.R_told (Kd.R_old (rr_ HO_1071001) hb) (Kd.R_base ho0)) (Kd.R_base ho1)) (fun _ h_=>h_.1))
        replace HO1073:=A_ (Kd.R_mono (Kd.R_told (Kd.R_told (Kd.R_old (rr_ HO1073) hb) (Kd.R_base ho0)) (Kd.R_base ho1)) (fun _ h_=>h_.1))
        replace BK1059:=bb_ BK1059 hb
        replace BK1060:=bb_ BK1060 hb
        replace BK1070:=bb_ BK1070 hb
        replace HB:=b1_ hb
        clear hb ho0 ho1
        refine hK.out _ _ ⟨cz0_ BK1059,cz1_ BK1059⟩ (fun hHeld=>?_)
        clear hK K
        refine no_ (some 21) ?_
        refine one_ (i:=5) (N:=some 5) (bl_ 7 63) rfl rfl (by kernel_rfl) (by decide) (fun K hK=>?_)
        refine box_step ?hg (N:=5) ?hd (cs:=#[.slice none 0 0,.slice none 0 0]) (t:=33) ?hr ?_;(case hd=>rfl);(case hg=>rfl);(case hr=>first | (go_simp;done) | (go_simp;rfl))
        intro gb1080 hg w28 hbox hb
        replace HO_1071000:=rb_ HO_1071000 hb
        replace HO_1071001:=rb_ HO_1071001 hb
        replace HO1073:=rb_ HO1073 hb
        replace HO1076:=rb_ HO1076 hb
        replace HO1079:=rb_ HO1079 hb
        have BK1080:=A_ hbox
        have GW1080:=gw_ w hg
        have GE1080:=GW1080
        replace HB:=b1_ hb
        have NB1059_1080:=gN_ BK1059 hg
        have NB1080_1059:=gP_ BK1059 hg
        replace BK1059:=bb_ BK1059 hb
        have NB1060_1080:=gN_ BK1060 hg
        have NB1080_1060:=gP_ BK1060 hg
        replace BK1060:=bb_ BK1060 hb
        have NB1070_1080:=gN_ BK1070 hg
        have NB1080_1070:=gP_ BK1070 hg
        replace BK1070:=bb_ BK1070 hb
        clear hb hbox hg
        refine hK.out _ _ ⟨cz0_ BK1059,cz1_ BK1059⟩ (fun hHeld=>?_)
        clear hK K
        refine no_ (some 5) ?_
        exact norm_ (by simp only [putAll,Act.put,sA_,sB_,sC_]) (hCont (.slice Ao26 t1071.length co26,v1075,v1078,gb1080) _ ⟨hHeld,(rw_ (Kd.R_mono HO1073.out (fun _ hk=>⟨hk.1.2,⟨hk.2,⟨hk.1.1.1.2,hk.1.1.2⟩⟩⟩))),(rw_ (Kd.R_mono HO1076.out (fun _ hk=>⟨hk.2,⟨hk.1.1.1,⟨hk.1.1.2,hk.1.2⟩⟩⟩))),(rw_ (Kd.R_mono HO1079.out (fun _ hk=>⟨hk.2,⟨hk.1.1.1,⟨hk.1.1.2,hk.1.2⟩⟩⟩))),(rw_ (Kd.R_mono HO_1071000.out (fun _ hk=>⟨hk.1.1.2,⟨hk.1.2,⟨hk.2,hk.1.1.1⟩⟩⟩))),(rw_ (Kd.R_mono HO_1071001.out (fun _ hk=>⟨hk.1.1.2,⟨hk.1.2,⟨hk.2,hk.1.1.1⟩⟩⟩))),(kk_ BK1059),(kk_ BK1060),(kk_ BK1070),(kk_ BK1080),GW1080.out,GE1080.out,NB1059_1080.out,NB1080_1059.out,NB1060_1080.out,NB1080_1060.out,NB1070_1080.out,NB1080_1070.out,hB_⟩)
       ·skip
        refine box_step ?hg (N:=5) ?hd (cs:=#[.slice none 0 0,.slice none 0 0]) (t:=33) ?hr ?_;(case hd=>rfl);(case hg=>rfl);(case hr=>first | (go_simp;done) | (go_simp;rfl))
        intro gb1080 hg w26 hbox hb
        replace HO_1071000:=rb_ HO_1071000 hb
        replace HO_1071001:=rb_ HO_1071001 hb
        replace HO1073:=rb_ HO1073 hb
        have BK1080:=A_ hbox
        have GW1080:=gw_ w hg
        have GE1080:=GW1080
        replace HB:=b1_ hb
        have NB1059_1080:=gN_ BK1059 hg
        have NB1080_1059:=gP_ BK1059 hg
        replace BK1059:=bb_ BK1059 hb
        have NB1060_1080:=gN_ BK1060 hg
        have NB1080_1060:=gP_ BK1060 hg
        replace BK1060:=bb_ BK1060 hb
        have NB1070_1080:=gN_ BK1070 hg
        have NB1080_1070:=gP_ BK1070 hg
        replace BK1070:=bb_ BK1070 hb
        clear hb hbox hg
        obtain ⟨Ao27,co27,eo27⟩:=Kd.R_slice HO1073.out
        (first|subst eo27|(injection eo27 with a_ b_ c_;have a_:=a_.symm;have c_:=c_.symm;clear b_;subst a_;subst c_))
        refine hK.out _ _ ⟨cz0_ BK1059,cz1_ BK1059⟩ (fun hHeld=>?_)
        clear hK K
        refine no_ (some 5) ?_
        refine one_ (i:=4) (N:=some 21) (bl_ 7 63) rfl rfl (by kernel_rfl) (by decide) (fun K hK=>?_)
        refine gO_ Try.func129 #[.agg #[.slice A0_0 l0_0.length c0_0,.slice A0_1 l0_1.length c0_1],.slice Ao27 t1071.length co27] (by rfl) rfl rfl qa_ ?_
        with_reducible refine (Z41.calls k1 _ _ l0_0 _ _ l0_1 _ _ t1071 t1074 t1077 _ (cb_ HR0_0) HC0_0.out (cb_ HR0_1) HC0_1.out (cr_ HO1073) ((Kd.R_reads' HO1073.out).2.1) A18.out).mono ?_
        rintro e w28 ⟨v1075,v1078,rfl,ho0,ho1,hb⟩
        refine ⟨_,rfl,?_⟩
        have HO1076:=A_ (rE_ (Kd.R_new' (Kd.R_new' (Kd.R_new' ho0 (Kd.R_lt (rr_ HO_1071000))) (Kd.R_lt (rr_ HO_1071001))) (Kd.R_lt (rr_ HO1073))) (bF_ hB_))
        have HO1079:=A_ (rE_ (Kd.R_new' (Kd.R_new' (Kd.R_new' ho1 (Kd.R_lt (rr_ HO_1071000))) (Kd.R_lt (rr_ HO_1071001))) (Kd.R_lt (rr_ HO1073))) (bF_ hB_))
        replace HO_1071000:=A_ (Kd.R_mono (Kd.R_told (Kd.R_told (Kd.R_old (rr_ HO_1071000) hb) (Kd.R_base ho0)) (Kd.R_base ho1)) (fun _ h_=>h_.1))
        replace HO_1071001:=A_ (Kd.R_mono (Kd.R_told (Kd.R_told (Kd.R_old (rr_ HO_1071001) hb) (Kd.R_base ho0)) (Kd.R_base ho1)) (fun _ h_=>h_.1))
        replace HO1073:=A_ (Kd.R_mono (Kd.R_told (Kd.R_told (Kd.R_old (rr_ HO1073) hb) (Kd.R_base ho0)) (Kd.R_base ho1)) (fun _ h_=>h_.1))
        replace BK1059:=bb_ BK1059 hb
        replace BK1060:=bb_ BK1060 hb
        replace BK1070:=bb_ BK1070 hb
        replace BK1080:=bb_ BK1080 hb
        replace HB:=b1_ hb
        clear hb ho0 ho1
        refine hK.out _ _ ⟨cz0_ BK1059,cz1_ BK1059⟩ (fun hHeld=>?_)
        clear hK K
        refine no_ (some 21) ?_
        exact norm_ (by simp only [putAll,Act.put,sA_,sB_,sC_]) (hCont (.slice Ao27 t1071.length co27,v1075,v1078,gb1080) _ ⟨hHeld,(rw_ (Kd.R_mono HO1073.out (fun _ hk=>⟨hk.1.2,⟨hk.2,⟨hk.1.1.1.2,hk.1.1.2⟩⟩⟩))),(rw_ (Kd.R_mono HO1076.out (fun _ hk=>⟨hk.2,⟨hk.1.1.1,⟨hk.1.1.2,hk.1.2⟩⟩⟩))),(rw_ (Kd.R_mono HO1079.out (fun _ hk=>⟨hk.2,⟨hk.1.1.1,⟨hk.1.1.2,hk.1.2⟩⟩⟩))),(rw_ (Kd.R_mono HO_1071000.out (fun _ hk=>⟨hk.1.1.2,⟨hk.1.2,⟨hk.2,hk.1.1.1⟩⟩⟩))),(rw_ (Kd.R_mono HO_1071001.out (fun _ hk=>⟨hk.1.1.2,⟨hk.1.2,⟨hk.2,hk.1.1.1⟩⟩⟩))),(kk_ BK1059),(kk_ BK1060),(kk_ BK1070),(kk_ BK1080),GW1080.out,GE1080.out,NB1059_1080.out,NB1080_1059.out,NB1060_1080.out,NB1080_1060.out,NB1070_1080.out,NB1080_1070.out,hB_⟩)
      ·skip
       refine box_step ?hg (N:=5) ?hd (cs:=#[.slice none 0 0,.slice none 0 0]) (t:=33) ?hr ?_;(case hd=>rfl);(case hg=>rfl);(case hr=>first | (go_simp;done) | (go_simp;rfl))
       intro gb1080 hg w25 hbox hb
       replace HO_1071000:=rb_ HO_1071000 hb
       replace HO_1071001:=rb_ HO_1071001 hb
       have BK1080:=A_ hbox
       have GW1080:=gw_ w hg
       have GE1080:=GW1080
       replace HB:=b1_ hb
       have NB1059_1080:=gN_ BK1059 hg
       have NB1080_1059:=gP_ BK1059 hg
       replace BK1059:=bb_ BK1059 hb
       have NB1060_1080:=gN_ BK1060 hg
       have NB1080_1060:=gP_ BK1060 hg
       replace BK1060:=bb_ BK1060 hb
       have NB1070_1080:=gN_ BK1070 hg
       have NB1080_1070:=gP_ BK1070 hg
       replace BK1070:=bb_ BK1070 hb
       clear hb hbox hg
       refine hK.out _ _ ⟨cz0_ BK1059,cz1_ BK1059⟩ (fun hHeld=>?_)
       clear hK K
       refine no_ (some 5) ?_
       refine one_ (i:=3) (N:=some 20) (bl_ 7 47) rfl rfl (by kernel_rfl) (by decide) (fun K hK=>?_)
       refine gO_ Try.func130 #[.agg #[.slice A0_0 l0_0.length c0_0,.slice A0_1 l0_1.length c0_1],.int .i64 x4_1] (by rfl) rfl rfl qa_ ?_
       with_reducible refine (Z55.calls k1 _ _ l0_0 _ _ l0_1 x4_1 t1071 _ (cb_ HR0_0) HC0_0.out (cb_ HR0_1) HC0_1.out A17.out).mono ?_
       rintro e w26 ⟨v1072,rfl,ho0,hb⟩
       refine ⟨_,rfl,?_⟩
       have HO1073:=A_ (rE_ (Kd.R_new' (Kd.R_new' ho0 (Kd.R_lt (rr_ HO_1071000))) (Kd.R_lt (rr_ HO_1071001))) (bF_ hB_))
       replace HO_1071000:=A_ (Kd.R_elder' (rr_ HO_1071000) (Kd.R_base ho0) hb)
       replace HO_1071001:=A_ (Kd.R_elder' (rr_ HO_1071001) (Kd.R_base ho0) hb)
       replace BK1059:=bb_ BK1059 hb
       replace BK1060:=bb_ BK1060 hb
       replace BK1070:=bb_ BK1070 hb
       replace BK1080:=bb_ BK1080 hb
       replace HB:=b1_ hb
       clear hb ho0
       obtain ⟨Ao27,co27,eo27⟩:=Kd.R_slice HO1073.out
       (first|subst eo27|(injection eo27 with a_ b_ c_;have a_:=a_.symm;have c_:=c_.symm;clear b_;subst a_;subst c_))
       refine hK.out _ _ ⟨cz0_ BK1059,cz1_ BK1059⟩ (fun hHeld=>?_)
       clear hK K
       refine no_ (some 20) ?_
       refine one_ (i:=4) (N:=some 21) (bl_ 7 63) rfl rfl (by kernel_rfl) (by decide) (fun K hK=>?_)
       refine gO_ Try.func129 #[.agg #[.slice A0_0 l0_0.length c0_0,.slice A0_1 l0_1.length c0_1],.slice Ao27 t1071.length co27] (by rfl) rfl rfl qa_ ?_
       with_reducible refine (Z41.calls k1 _ _ l0_0 _ _ l0_1 _ _ t1071 t1074 t1077 _ (cb_ HR0_0) HC0_0.out (cb_ HR0_1) HC0_1.out (cr_ HO1073) ((Kd.R_reads' HO1073.out).2.1) A18.out).mono ?_
       rintro e w28 ⟨v1075,v1078,rfl,ho0,ho1,hb⟩
       refine ⟨_,rfl,?_⟩
       have HO1076:=A_ (rE_ (Kd.R_new' (Kd.R_new' (Kd.R_new' ho0 (Kd.R_lt (rr_ HO_1071000))) (Kd.R_lt (rr_ HO_1071001))) (Kd.R_lt (rr_ HO1073))) (bF_ hB_))
       have HO1079:=A_ (rE_ (Kd.R_new' (Kd.R_new' (Kd.R_new' ho1 (Kd.R_lt (rr_ HO_1071000))) (Kd.R_lt (rr_ HO_1071001))) (Kd.R_lt (rr_ HO1073))) (bF_ hB_))
       replace HO_1071000:=A_ (Kd.R_mono (Kd.R_told (Kd.R_told (Kd.R_old (rr_ HO_1071000) hb) (Kd.R_base ho0)) (Kd.R_base ho1)) (fun _ h_=>h_.1))
       replace HO_1071001:=A_ (Kd.R_mono (Kd.R_told (Kd.R_told (Kd.R_old (rr_ HO_1071001) hb) (Kd.R_base ho0)) (Kd.R_base ho1)) (fun _ h_=>h_.1))
       replace HO1073:=A_ (Kd.R_mono (Kd.R_told (Kd.R_told (Kd.R_old (rr_ HO1073) hb) (Kd.R_base ho0)) (Kd.R_base ho1)) (fun _ h_=>h_.1))
       replace BK1059:=bb_ BK1059 hb
       replace BK1060:=bb_ BK1060 hb
       replace BK1070:=bb_ BK1070 hb
       replace BK1080:=bb_ BK1080 hb
       replace HB:=b1_ hb
       clear hb ho0 ho1
       refine hK.out _ _ ⟨cz0_ BK1059,cz1_ BK1059⟩ (fun hHeld=>?_)
       clear hK K
       refine no_ (some 21) ?_
       exact norm_ (by simp only [putAll,Act.put,sA_,sB_,sC_]) (hCont (.slice Ao27 t1071.length co27,v1075,v1078,gb1080) _ ⟨hHeld,(rw_ (Kd.R_mono HO1073.out (fun _ hk=>⟨hk.1.2,⟨hk.2,⟨hk.1.1.1.2,hk.1.1.2⟩⟩⟩))),(rw_ (Kd.R_mono HO1076.out (fun _ hk=>⟨hk.2,⟨hk.1.1.1,⟨hk.1.1.2,hk.1.2⟩⟩⟩))),(rw_ (Kd.R_mono HO1079.out (fun _ hk=>⟨hk.2,⟨hk.1.1.1,⟨hk.1.1.2,hk.1.2⟩⟩⟩))),(rw_ (Kd.R_mono HO_1071000.out (fun _ hk=>⟨hk.1.1.2,⟨hk.1.2,⟨hk.2,hk.1.1.1⟩⟩⟩))),(rw_ (Kd.R_mono HO_1071001.out (fun _ hk=>⟨hk.1.1.2,⟨hk.1.2,⟨hk.2,hk.1.1.1⟩⟩⟩))),(kk_ BK1059),(kk_ BK1060),(kk_ BK1070),(kk_ BK1080),GW1080.out,GE1080.out,NB1059_1080.out,NB1080_1059.out,NB1060_1080.out,NB1080_1060.out,NB1070_1080.out,NB1080_1070.out,hB_⟩)
     rintro ⟨v1072,v1075,v1078,gb1080⟩ w29 ⟨hS_,h0_,h1_,h2_,h3_,h4_,h5_,h6_,h7_,h8_,h9_,h10_,h11_,h12_,h13_,h14_,h15_,h16_,h17_⟩
     have n0_:Aside0 (Kd.R (Kd.int .i64) 3 w29 w.heap.size (fun k_=>some k_≠(v1075:Value).ownBlock∧some k_≠(v1078:Value).ownBlock∧some k_≠(u1071000:Value).ownBlock∧some k_≠(u1071001:Value).ownBlock) v1072 t1071):=⟨h0_⟩
     have n1_:Aside0 (Kd.R (Kd.int .i64) 3 w29 w.heap.size (fun k_=>some k_≠(v1072:Value).ownBlock∧some k_≠(v1078:Value).ownBlock∧some k_≠(u1071000:Value).ownBlock∧some k_≠(u1071001:Value).ownBlock) v1075 t1074):=⟨h1_⟩
     have n2_:Aside0 (Kd.R (Kd.int .i64) 3 w29 w.heap.size (fun k_=>some k_≠(v1072:Value).ownBlock∧some k_≠(v1075:Value).ownBlock∧some k_≠(u1071000:Value).ownBlock∧some k_≠(u1071001:Value).ownBlock) v1078 t1077):=⟨h2_⟩
     have n3_:Aside0 (Kd.R (Kd.int .i64) 3 w29 w.heap.size (fun k_=>some k_≠(v1072:Value).ownBlock∧some k_≠(v1075:Value).ownBlock∧some k_≠(v1078:Value).ownBlock∧some k_≠(u1071001:Value).ownBlock) u1071000 x1071000_1):=⟨h3_⟩
     have n4_:Aside0 (Kd.R (Kd.int .i64) 3 w29 w.heap.size (fun k_=>some k_≠(v1072:Value).ownBlock∧some k_≠(v1075:Value).ownBlock∧some k_≠(v1078:Value).ownBlock∧some k_≠(u1071000:Value).ownBlock) u1071001 x1071001_1):=⟨h4_⟩
     have n5_:Aside0 (w29.heap[gb1059]? = some (.cells #[.slice A0_0 l0_0.length c0_0,.slice A0_1 l0_1.length c0_1] 33 (0,0))):=⟨h5_⟩
     have n6_:Aside0 (w29.heap[gb1060]? = some (.cells #[.slice none 0 0,.slice none 0 0] 33 (0,0))):=⟨h6_⟩
     have n7_:Aside0 (w29.heap[gb1070]? = some (.cells #[u1071000,u1071001] 33 (0,0))):=⟨h7_⟩
     have n8_:Aside0 (w29.heap[gb1080]? = some (.cells #[.slice none 0 0,.slice none 0 0] 33 (0,0))):=⟨h8_⟩
     have n9_:Aside0 (w.heap.size≤gb1080):=⟨h9_⟩
     have n10_:Aside0 (w.heap.size≤gb1080):=⟨h10_⟩
     have n11_:Aside0 (gb1059≠gb1080):=⟨h11_⟩
     have n12_:Aside0 (gb1080≠gb1059):=⟨h12_⟩
     have n13_:Aside0 (gb1060≠gb1080):=⟨h13_⟩
     have n14_:Aside0 (gb1080≠gb1060):=⟨h14_⟩
     have n15_:Aside0 (gb1070≠gb1080):=⟨h15_⟩
     have n16_:Aside0 (gb1080≠gb1070):=⟨h16_⟩
     have n17_:Aside0 (Below w.heap.size w w29):=⟨h17_⟩
     clear HO_1071000
     clear HO_1071001
     clear BK1059
     clear BK1060
     clear BK1070
     clear HB
     clear h0_ h1_ h2_ h3_ h4_ h5_ h6_ h7_ h8_ h9_ h10_ h11_ h12_ h13_ h14_ h15_ h16_ h17_
     have HO1073:=n0_
     have HO1076:=n1_
     have HO1079:=n2_
     have HO_1071000:=n3_
     have HO_1071001:=n4_
     have BK1059:=n5_
     have BK1060:=n6_
     have BK1070:=n7_
     have BK1080:=n8_
     have GW1080:=n9_
     have GE1080:=n10_
     have NB1059_1080:=n11_
     have NB1080_1059:=n12_
     have NB1060_1080:=n13_
     have NB1080_1060:=n14_
     have NB1070_1080:=n15_
     have NB1080_1070:=n16_
     have HB:=n17_
     clear n0_ n1_ n2_ n3_ n4_ n5_ n6_ n7_ n8_ n9_ n10_ n11_ n12_ n13_ n14_ n15_ n16_ n17_
     have hHeld:w29.cell? ⟨gb1059,0,none⟩ = some (.slice A0_0 l0_0.length c0_0)∧w29.cell? ⟨gb1059,1,none⟩ = some (.slice A0_1 l0_1.length c0_1):=hS_
     obtain ⟨Ao30,co30,eo30⟩:=Kd.R_slice HO1076.out
     (first|subst eo30|(injection eo30 with a_ b_ c_;have a_:=a_.symm;have c_:=c_.symm;clear b_;subst a_;subst c_))
     obtain ⟨Ao32,co32,eo32⟩:=Kd.R_slice HO1079.out
     (first|subst eo32|(injection eo32 with a_ b_ c_;have a_:=a_.symm;have c_:=c_.symm;clear b_;subst a_;subst c_))
     refine norm_ (a':=?_) ?_ ?_
     rotate_left
     ·simp only [putAll,Act.put,sA_,sB_,sC_]
      rfl
     refine one_ (i:=6) (N:=none) (bl_ 7 127) rfl rfl (by kernel_rfl) (by decide) (fun K hK=>?_)
     have hs31:w29.cell? ⟨gb1080,0,none⟩ = some (.slice none 0 0):=cz0_ BK1080
     have hfs31:=kD_ BK1080.out 0
     have hns31_0:=NB1059_1080.out
     have hns31_1:=NB1060_1080.out
     have hns31_2:=NB1070_1080.out
     have hms31_0:=NB1080_1059.out
     have hms31_1:=NB1080_1060.out
     have hms31_2:=NB1080_1070.out
     have hs33:w29.cell? ⟨gb1080,1,none⟩ = some (.slice none 0 0):=cz1_ BK1080
     have hfs33:=kD_ BK1080.out 1
     have hns33_0:=NB1059_1080.out
     have hns33_1:=NB1060_1080.out
     have hns33_2:=NB1070_1080.out
     have hms33_0:=NB1080_1059.out
     have hms33_1:=NB1080_1060.out
     have hms33_2:=NB1080_1070.out
     refine skip_ (w1:=?_) (by rfl) rfl ?_ ?_
     rotate_left
     ·go_simp
      rfl
     refine hK.out _ _ ⟨((cell_far (p:=⟨gb1080,_,none⟩) NB1059_1080.out _).trans (((cell_far (p:=⟨gb1080,_,none⟩) NB1059_1080.out _).trans (hHeld.1)))),((cell_far (p:=⟨gb1080,_,none⟩) NB1059_1080.out _).trans (((cell_far (p:=⟨gb1080,_,none⟩) NB1059_1080.out _).trans (hHeld.2))))⟩ (fun hHeld=>?_)
     clear hK K
     refine done_ (by kernel_rfl) ?_
     have hnb34:=NB1080_1059.out
     have hnc34:=NB1059_1080.out
     have hnb35:=NB1080_1060.out
     have hnc35:=NB1060_1080.out
     have hnb36:=NB1080_1070.out
     have hnc36:=NB1070_1080.out
     obtain ⟨hcz37_0,hcz37_1,hfz37_0,hfz37_1⟩:=c2_ BK1080
     have hnb38:=NB1070_1060.out
     have hnc38:=NB1060_1070.out
     obtain ⟨hcz39_0,hcz39_1,hfz39_0,hfz39_1⟩:=c2_ BK1070
     obtain ⟨Ao40,co40,eo40⟩:=Kd.R_slice HO_1071000.out
     subst eo40
     obtain ⟨Ao41,co41,eo41⟩:=Kd.R_slice HO_1071001.out
     subst eo41
     try go_wp2_with (first | ((with_reducible refine gA_ (f:=128) rfl ?_);refine gL_ (some 24) Try.func128 #[.agg #[.slice Ao30 t1074.length co30,.slice Ao32 t1077.length co32],.agg #[.slice Ao40 x1071000_1.length co40,.slice Ao41 x1071001_1.length co41]] rfl qa_ ?_;(with_reducible refine (Z40.calls k1 _ _ t1074 _ _ t1077 _ _ x1071000_1 _ _ x1071001_1 true _ ?side1 ?side2 ?side3 ?side4 ?side5 ?side6 ?side7 ?side8 A19.out).mono ?_);(case side1=>refine (Kd.R_reads' (e:=3) (base:=w.heap.size) (ok:=fun k_=>(some k_≠(v1072:Value).ownBlock∧(some k_≠(.slice Ao32 t1077.length co32:Value).ownBlock∧(some k_≠(.slice Ao40 x1071000_1.length co40:Value).ownBlock∧some k_≠(.slice Ao41 x1071001_1.length co41:Value).ownBlock)))) (n:=t1074.length) (c:=co30) ?_).2.2;exact (rw_ (fa_ HO1076 BK1080)));(case side2=>exact (Kd.R_reads' HO1076.out).2.1);(case side3=>refine (Kd.R_reads' (e:=3) (base:=w.heap.size) (ok:=fun k_=>(some k_≠(v1072:Value).ownBlock∧(some k_≠(.slice Ao30 t1074.length co30:Value).ownBlock∧(some k_≠(.slice Ao40 x1071000_1.length co40:Value).ownBlock∧some k_≠(.slice Ao41 x1071001_1.length co41:Value).ownBlock)))) (n:=t1077.length) (c:=co32) ?_).2.2;exact (rw_ (fa_ HO1079 BK1080)));(case side4=>exact (Kd.R_reads' HO1079.out).2.1);(case side5=>refine (Kd.R_reads' (e:=3) (base:=w.heap.size) (ok:=fun k_=>(some k_≠(v1072:Value).ownBlock∧(some k_≠(.slice Ao30 t1074.length co30:Value).ownBlock∧(some k_≠(.slice Ao32 t1077.length co32:Value).ownBlock∧some k_≠(.slice Ao41 x1071001_1.length co41:Value).ownBlock)))) (n:=x1071000_1.length) (c:=co40) ?_).2.2;exact (rw_ (fa_ HO_1071000 BK1080)));(case side6=>exact (Kd.R_reads' HO_1071000.out).2.1);(case side7=>refine (Kd.R_reads' (e:=3) (base:=w.heap.size) (ok:=fun k_=>(some k_≠(v1072:Value).ownBlock∧(some k_≠(.slice Ao30 t1074.length co30:Value).ownBlock∧(some k_≠(.slice Ao32 t1077.length co32:Value).ownBlock∧some k_≠(.slice Ao40 x1071000_1.length co40:Value).ownBlock)))) (n:=x1071001_1.length) (c:=co41) ?_).2.2;exact (rw_ (fa_ HO_1071001 BK1080)));(case side8=>exact (Kd.R_reads' HO_1071001.out).2.1);rintro e w42 ⟨rfl,hb⟩;refine ⟨_,rfl,?_⟩;replace HO_1071000:=A_ (rD_ (rw_ (fa_ HO_1071000 BK1080)) hb);replace HO_1071001:=A_ (rD_ (rw_ (fa_ HO_1071001 BK1080)) hb);replace HO1073:=A_ (rD_ (rw_ (fa_ HO1073 BK1080)) hb);replace HO1076:=A_ (rD_ (rw_ (fa_ HO1076 BK1080)) hb);replace HO1079:=A_ (rD_ (rw_ (fa_ HO1079 BK1080)) hb);replace BK1059:=A_ (kE_ (g:=gb1059) (o:=.cells #[.slice A0_0 l0_0.length c0_0,.slice A0_1 l0_1.length c0_1] 33 (0,0)) (by (with_reducible repeat (first | refine kA_ ?_ _ | refine kB_ ?_ | refine kC_ ?_ _));refine blk_far ?_ NB1059_1080.out _;(with_reducible repeat (first | refine kA_ ?_ _ | refine kB_ ?_ | refine kC_ ?_ _));refine blk_far ?_ NB1059_1080.out _;(with_reducible repeat (first | refine kA_ ?_ _ | refine kB_ ?_ | refine kC_ ?_ _));exact BK1059.out) hb);replace BK1060:=A_ (kE_ (g:=gb1060) (o:=.cells #[.slice none 0 0,.slice none 0 0] 33 (0,0)) (by (with_reducible repeat (first | refine kA_ ?_ _ | refine kB_ ?_ | refine kC_ ?_ _));refine blk_far ?_ NB1060_1080.out _;(with_reducible repeat (first | refine kA_ ?_ _ | refine kB_ ?_ | refine kC_ ?_ _));refine blk_far ?_ NB1060_1080.out _;(with_reducible repeat (first | refine kA_ ?_ _ | refine kB_ ?_ | refine kC_ ?_ _));exact BK1060.out) hb);replace BK1070:=A_ (kE_ (g:=gb1070) (o:=.cells #[.slice Ao40 x1071000_1.length co40,.slice Ao41 x1071001_1.length co41] 33 (0,0)) (by (with_reducible repeat (first | refine kA_ ?_ _ | refine kB_ ?_ | refine kC_ ?_ _));refine blk_far ?_ NB1070_1080.out _;(with_reducible repeat (first | refine kA_ ?_ _ | refine kB_ ?_ | refine kC_ ?_ _));refine blk_far ?_ NB1070_1080.out _;(with_reducible repeat (first | refine kA_ ?_ _ | refine kB_ ?_ | refine kC_ ?_ _));exact BK1070.out) hb);replace BK1080:=A_ (kE_ (g:=gb1080) (o:=.cells #[.slice Ao30 t1074.length co30,.slice Ao32 t1077.length co32] 33 (0,0)) qp_ hb);replace HB:=b1_ hb;clear hb;obtain ⟨hcz43_0,hcz43_1,hfz43_0,hfz43_1⟩:=c2_ BK1080;obtain ⟨hcz44_0,hcz44_1,hfz44_0,hfz44_1⟩:=c2_ BK1070))
     go_roundg k1
     case measure=>have:=HK1.out;omega
     case rel=>exact ⟨(wrap64 (x4_1 + 1)),(t1074),(t1077),(.slice Ao30 t1074.length co30),(.slice Ao32 t1077.length co32),qc_,H',⟨by have:=HK1.out;omega⟩,⟨(rw_ (Kd.R_mono (fa_ HO1076 BK1070) (fun _ hk=>hk.2.1)))⟩,⟨(rw_ (Kd.R_mono (fa_ HO1079 BK1070) (fun _ hk=>hk.2.1)))⟩,⟨by (with_reducible repeat (first | refine kA_ ?_ _ | refine kB_ ?_ | refine kC_ ?_ _));refine blk_far ?_ NB1059_1070.out _;(with_reducible repeat (first | refine kA_ ?_ _ | refine kB_ ?_ | refine kC_ ?_ _));refine blk_far ?_ NB1059_1070.out _;(with_reducible repeat (first | refine kA_ ?_ _ | refine kB_ ?_ | refine kC_ ?_ _));exact BK1059.out⟩,⟨by (with_reducible repeat (first | refine kA_ ?_ _ | refine kB_ ?_ | refine kC_ ?_ _));refine blk_far ?_ NB1060_1070.out _;(with_reducible repeat (first | refine kA_ ?_ _ | refine kB_ ?_ | refine kC_ ?_ _));refine blk_far ?_ NB1060_1070.out _;(with_reducible repeat (first | refine kA_ ?_ _ | refine kB_ ?_ | refine kC_ ?_ _));exact BK1060.out⟩,⟨qp_⟩,⟨hB_⟩⟩
    ·replace c20:=Bool.eq_false_iff.mpr c20
     subst c20
     have H1:(Z54.l0 k1 (wrap64 (x4_1 + 1)) l0_0 l0_1 x1071000_1 x1071001_1) = some (r1,r2):=by rw [if_neg (show ¬ (false = true) by decide)] at H;exact H
     clear H
     have H:=H1
     clear H1
     have H':=A_ H
     clear H
     have hnb45:=NB1059_1060.out
     have hnc45:=NB1060_1059.out
     have hnb46:=NB1059_1070.out
     have hnc46:=NB1070_1059.out
     obtain ⟨hcz47_0,hcz47_1,hfz47_0,hfz47_1⟩:=c2_ BK1059
     try go_wp2
     replace HO_1071000:=A_ (rC_ HO_1071000.out)
     replace HO_1071001:=A_ (rC_ HO_1071001.out)
     replace BK1059:=A_ (kB_ BK1059.out)
     replace BK1060:=A_ (kB_ BK1060.out)
     replace BK1070:=A_ (kB_ BK1070.out)
     replace HB:=A_ (bC_ HB.out)
     refine start_ (n:=7) (S:=fun w'=>w'.cell? ⟨gb1059,0,none⟩ = some (.slice A0_0 l0_0.length c0_0)∧w'.cell? ⟨gb1059,1,none⟩ = some (.slice A0_1 l0_1.length c0_1)) (ds:=[]) (bl_ 7 0) (by kernel_rfl) rfl (by kernel_rfl) ⟨cz0_ BK1059,cz1_ BK1059⟩ (fun hHeld=>?_)
     generalize wr.drew = w48 at HO_1071000 HO_1071001 BK1059 BK1060 BK1070 HB hHeld ⊢
     refine pure_ (i:=2) (N:=some 19) (v:=?_) (a':=?_) (bl_ 7 4) rfl rfl (by kernel_rfl) (fun _ _ _ h=>h) (Or.inl ⟨by rfl,?_⟩) ?_ ?_
     rotate_left
     ·intro w'
      go_simp
      with_reducible rfl
     rotate_left
     ·simp only [Act.put,sA_,sB_,sC_,i64_w,i32_w]
      rfl
     refine take_ (i:=0) (N:=some 17) (v:=?_) (a':=?_) (bl_ 7 5) rfl rfl (by kernel_rfl) (fun _ _ _ h=>h) (Or.inl ⟨by rfl,?_⟩) hHeld ?_ ?_
     rotate_left
     ·rintro w' ⟨s0,s1⟩
      go_simp
      with_reducible rfl
     rotate_left
     ·simp only [Act.put,sA_,sB_,sC_,i64_w,i32_w]
      rfl
     refine take_ (i:=1) (N:=some 18) (v:=?_) (a':=?_) (bl_ 7 7) rfl rfl (by kernel_rfl) (fun _ _ _ h=>h) (Or.inl ⟨by rfl,?_⟩) hHeld ?_ ?_
     rotate_left
     ·rintro w' ⟨s0,s1⟩
      go_simp
      with_reducible rfl
     rotate_left
     ·simp only [Act.put,sA_,sB_,sC_,i64_w,i32_w]
      rfl
     refine join_ (σ:=Value × Value × Value × Nat) 1 (bl_ 7 63) (fun s_=>[(20,s_.1),(21,.agg #[s_.2.1,s_.2.2.1]),(5,.pointer (some ⟨s_.2.2.2,0,none⟩))]) (fun s_ w'=>(w'.cell? ⟨gb1059,0,none⟩ = some (.slice A0_0 l0_0.length c0_0)∧w'.cell? ⟨gb1059,1,none⟩ = some (.slice A0_1 l0_1.length c0_1))∧(Kd.R (Kd.int .i64) 3 w' w.heap.size (fun k_=>some k_≠(s_.2.1:Value).ownBlock∧some k_≠(s_.2.2.1:Value).ownBlock∧some k_≠(u1071000:Value).ownBlock∧some k_≠(u1071001:Value).ownBlock) s_.1 t1071)∧(Kd.R (Kd.int .i64) 3 w' w.heap.size (fun k_=>some k_≠(s_.1:Value).ownBlock∧some k_≠(s_.2.2.1:Value).ownBlock∧some k_≠(u1071000:Value).ownBlock∧some k_≠(u1071001:Value).ownBlock) s_.2.1 t1074)∧(Kd.R (Kd.int .i64) 3 w' w.heap.size (fun k_=>some k_≠(s_.1:Value).ownBlock∧some k_≠(s_.2.1:Value).ownBlock∧some k_≠(u1071000:Value).ownBlock∧some k_≠(u1071001:Value).ownBlock) s_.2.2.1 t1077)∧(Kd.R (Kd.int .i64) 3 w' w.heap.size (fun k_=>some k_≠(s_.1:Value).ownBlock∧some k_≠(s_.2.1:Value).ownBlock∧some k_≠(s_.2.2.1:Value).ownBlock∧some k_≠(u1071001:Value).ownBlock) u1071000 x1071000_1)∧(Kd.R (Kd.int .i64) 3 w' w.heap.size (fun k_=>some k_≠(s_.1:Value).ownBlock∧some k_≠(s_.2.1:Value).ownBlock∧some k_≠(s_.2.2.1:Value).ownBlock∧some k_≠(u1071000:Value).ownBlock) u1071001 x1071001_1)∧(w'.heap[gb1059]? = some (.cells #[.slice A0_0 l0_0.length c0_0,.slice A0_1 l0_1.length c0_1] 33 (0,0)))∧(w'.heap[gb1060]? = some (.cells #[.slice none 0 0,.slice none 0 0] 33 (0,0)))∧(w'.heap[gb1070]? = some (.cells #[u1071000,u1071001] 33 (0,0)))∧(w'.heap[s_.2.2.2]? = some (.cells #[.slice none 0 0,.slice none 0 0] 33 (0,0)))∧(w.heap.size≤s_.2.2.2)∧(w.heap.size≤s_.2.2.2)∧(gb1059≠s_.2.2.2)∧(s_.2.2.2≠gb1059)∧(gb1060≠s_.2.2.2)∧(s_.2.2.2≠gb1060)∧(gb1070≠s_.2.2.2)∧(s_.2.2.2≠gb1070)∧(Below w.heap.size w w')) ?_ ?_
     rotate_left
     ·intro hCont
      refine two_ (i:=3) (j:=5) (Ni:=some 20) (Nj:=some 5) (bl_ 7 15) (bl_ 7 39) rfl rfl rfl rfl (by kernel_rfl) (by decide) (by decide) (fun K hK=>?_) (fun K hK=>?_)
      ·skip
       refine gO_ Try.func130 #[.agg #[.slice A0_0 l0_0.length c0_0,.slice A0_1 l0_1.length c0_1],.int .i64 x4_1] (by rfl) rfl rfl qa_ ?_
       with_reducible refine (Z55.calls k1 _ _ l0_0 _ _ l0_1 x4_1 t1071 _ (cb_ HR0_0) HC0_0.out (cb_ HR0_1) HC0_1.out A17.out).mono ?_
       rintro e w49 ⟨v1072,rfl,ho0,hb⟩
       refine ⟨_,rfl,?_⟩
       have HO1073:=A_ (rE_ (Kd.R_new' (Kd.R_new' ho0 (Kd.R_lt (rr_ HO_1071000))) (Kd.R_lt (rr_ HO_1071001))) (bF_ hB_))
       replace HO_1071000:=A_ (Kd.R_elder' (rr_ HO_1071000) (Kd.R_base ho0) hb)
       replace HO_1071001:=A_ (Kd.R_elder' (rr_ HO_1071001) (Kd.R_base ho0) hb)
       replace BK1059:=bb_ BK1059 hb
       replace BK1060:=bb_ BK1060 hb
       replace BK1070:=bb_ BK1070 hb
       replace HB:=b1_ hb
       clear hb ho0
       obtain ⟨Ao50,co50,eo50⟩:=Kd.R_slice HO1073.out
       (first|subst eo50|(injection eo50 with a_ b_ c_;have a_:=a_.symm;have c_:=c_.symm;clear b_;subst a_;subst c_))
       refine hK.out _ _ ⟨cz0_ BK1059,cz1_ BK1059⟩ (fun hHeld=>?_)
       clear hK K
       refine no_ (some 20) ?_
       refine two_ (i:=4) (j:=5) (Ni:=some 21) (Nj:=some 5) (bl_ 7 31) (bl_ 7 47) rfl rfl rfl rfl (by kernel_rfl) (by decide) (by decide) (fun K hK=>?_) (fun K hK=>?_)
       ·skip
        refine gO_ Try.func129 #[.agg #[.slice A0_0 l0_0.length c0_0,.slice A0_1 l0_1.length c0_1],.slice Ao50 t1071.length co50] (by rfl) rfl rfl qa_ ?_
        with_reducible refine (Z41.calls k1 _ _ l0_0 _ _ l0_1 _ _ t1071 t1074 t1077 _ (cb_ HR0_0) HC0_0.out (cb_ HR0_1) HC0_1.out (cr_ HO1073) ((Kd.R_reads' HO1073.out).2.1) A18.out).mono ?_
        rintro e w51 ⟨v1075,v1078,rfl,ho0,ho1,hb⟩
        refine ⟨_,rfl,?_⟩
        have HO1076:=A_ (rE_ (Kd.R_new' (Kd.R_new' (Kd.R_new' ho0 (Kd.R_lt (rr_ HO_1071000))) (Kd.R_lt (rr_ HO_1071001))) (Kd.R_lt (rr_ HO1073))) (bF_ hB_))
        have HO1079:=A_ (rE_ (Kd.R_new' (Kd.R_new' (Kd.R_new' ho1 (Kd.R_lt (rr_ HO_1071000))) (Kd.R_lt (rr_ HO_1071001))) (Kd.R_lt (rr_ HO1073))) (bF_ hB_))
        replace HO_1071000:=A_ (Kd.R_mono (Kd.R_told (Kd.R_told (Kd.R_old (rr_ HO_1071000) hb) (Kd.R_base ho0)) (Kd.R_base ho1)) (fun _ h_=>h_.1))
        replace HO_1071001:=A_ (Kd.R_mono (Kd.R_told (Kd.R_told (Kd.R_old (rr_ HO_1071001) hb) (Kd.R_base ho0)) (Kd.R_base ho1)) (fun _ h_=>h_.1))
        replace HO1073:=A_ (Kd.R_mono (Kd.R_told (Kd.R_told (Kd.R_old (rr_ HO1073) hb) (Kd.R_base ho0)) (Kd.R_base ho1)) (fun _ h_=>h_.1))
        replace BK1059:=bb_ BK1059 hb
        replace BK1060:=bb_ BK1060 hb
        replace BK1070:=bb_ BK1070 hb
        replace HB:=b1_ hb
        clear hb ho0 ho1
        refine hK.out _ _ ⟨cz0_ BK1059,cz1_ BK1059⟩ (fun hHeld=>?_)
        clear hK K
        refine no_ (some 21) ?_
        refine one_ (i:=5) (N:=some 5) (bl_ 7 63) rfl rfl (by kernel_rfl) (by decide) (fun K hK=>?_)
        refine box_step ?hg (N:=5) ?hd (cs:=#[.slice none 0 0,.slice none 0 0]) (t:=33) ?hr ?_;(case hd=>rfl);(case hg=>rfl);(case hr=>first | (go_simp;done) | (go_simp;rfl))
        intro gb1080 hg w52 hbox hb
        replace HO_1071000:=rb_ HO_1071000 hb
        replace HO_1071001:=rb_ HO_1071001 hb
        replace HO1073:=rb_ HO1073 hb
        replace HO1076:=rb_ HO1076 hb
        replace HO1079:=rb_ HO1079 hb
        have BK1080:=A_ hbox
        have GW1080:=gw_ w hg
        have GE1080:=GW1080
        replace HB:=b1_ hb
        have NB1059_1080:=gN_ BK1059 hg
        have NB1080_1059:=gP_ BK1059 hg
        replace BK1059:=bb_ BK1059 hb
        have NB1060_1080:=gN_ BK1060 hg
        have NB1080_1060:=gP_ BK1060 hg
        replace BK1060:=bb_ BK1060 hb
        have NB1070_1080:=gN_ BK1070 hg
        have NB1080_1070:=gP_ BK1070 hg
        replace BK1070:=bb_ BK1070 hb
        clear hb hbox hg
        refine hK.out _ _ ⟨cz0_ BK1059,cz1_ BK1059⟩ (fun hHeld=>?_)
        clear hK K
        refine no_ (some 5) ?_
        exact norm_ (by simp only [putAll,Act.put,sA_,sB_,sC_]) (hCont (.slice Ao50 t1071.length co50,v1075,v1078,gb1080) _ ⟨hHeld,(rw_ (Kd.R_mono HO1073.out (fun _ hk=>⟨hk.1.2,⟨hk.2,⟨hk.1.1.1.2,hk.1.1.2⟩⟩⟩))),(rw_ (Kd.R_mono HO1076.out (fun _ hk=>⟨hk.2,⟨hk.1.1.1,⟨hk.1.1.2,hk.1.2⟩⟩⟩))),(rw_ (Kd.R_mono HO1079.out (fun _ hk=>⟨hk.2,⟨hk.1.1.1,⟨hk.1.1.2,hk.1.2⟩⟩⟩))),(rw_ (Kd.R_mono HO_1071000.out (fun _ hk=>⟨hk.1.1.2,⟨hk.1.2,⟨hk.2,hk.1.1.1⟩⟩⟩))),(rw_ (Kd.R_mono HO_1071001.out (fun _ hk=>⟨hk.1.1.2,⟨hk.1.2,⟨hk.2,hk.1.1.1⟩⟩⟩))),(kk_ BK1059),(kk_ BK1060),(kk_ BK1070),(kk_ BK1080),GW1080.out,GE1080.out,NB1059_1080.out,NB1080_1059.out,NB1060_1080.out,NB1080_1060.out,NB1070_1080.out,NB1080_1070.out,hB_⟩)
       ·skip
        refine box_step ?hg (N:=5) ?hd (cs:=#[.slice none 0 0,.slice none 0 0]) (t:=33) ?hr ?_;(case hd=>rfl);(case hg=>rfl);(case hr=>first | (go_simp;done) | (go_simp;rfl))
        intro gb1080 hg w50 hbox hb
        replace HO_1071000:=rb_ HO_1071000 hb
        replace HO_1071001:=rb_ HO_1071001 hb
        replace HO1073:=rb_ HO1073 hb
        have BK1080:=A_ hbox
        have GW1080:=gw_ w hg
        have GE1080:=GW1080
        replace HB:=b1_ hb
        have NB1059_1080:=gN_ BK1059 hg
        have NB1080_1059:=gP_ BK1059 hg
        replace BK1059:=bb_ BK1059 hb
        have NB1060_1080:=gN_ BK1060 hg
        have NB1080_1060:=gP_ BK1060 hg
        replace BK1060:=bb_ BK1060 hb
        have NB1070_1080:=gN_ BK1070 hg
        have NB1080_1070:=gP_ BK1070 hg
        replace BK1070:=bb_ BK1070 hb
        clear hb hbox hg
        obtain ⟨Ao51,co51,eo51⟩:=Kd.R_slice HO1073.out
        (first|subst eo51|(injection eo51 with a_ b_ c_;have a_:=a_.symm;have c_:=c_.symm;clear b_;subst a_;subst c_))
        refine hK.out _ _ ⟨cz0_ BK1059,cz1_ BK1059⟩ (fun hHeld=>?_)
        clear hK K
        refine no_ (some 5) ?_
        refine one_ (i:=4) (N:=some 21) (bl_ 7 63) rfl rfl (by kernel_rfl) (by decide) (fun K hK=>?_)
        refine gO_ Try.func129 #[.agg #[.slice A0_0 l0_0.length c0_0,.slice A0_1 l0_1.length c0_1],.slice Ao51 t1071.length co51] (by rfl) rfl rfl qa_ ?_
        with_reducible refine (Z41.calls k1 _ _ l0_0 _ _ l0_1 _ _ t1071 t1074 t1077 _ (cb_ HR0_0) HC0_0.out (cb_ HR0_1) HC0_1.out (cr_ HO1073) ((Kd.R_reads' HO1073.out).2.1) A18.out).mono ?_
        rintro e w52 ⟨v1075,v1078,rfl,ho0,ho1,hb⟩
        refine ⟨_,rfl,?_⟩
        have HO1076:=A_ (rE_ (Kd.R_new' (Kd.R_new' (Kd.R_new' ho0 (Kd.R_lt (rr_ HO_1071000))) (Kd.R_lt (rr_ HO_1071001))) (Kd.R_lt (rr_ HO1073))) (bF_ hB_))
        have HO1079:=A_ (rE_ (Kd.R_new' (Kd.R_new' (Kd.R_new' ho1 (Kd.R_lt (rr_ HO_1071000))) (Kd.R_lt (rr_ HO_1071001))) (Kd.R_lt (rr_ HO1073))) (bF_ hB_))
        replace HO_1071000:=A_ (Kd.R_mono (Kd.R_told (Kd.R_told (Kd.R_old (rr_ HO_1071000) hb) (Kd.R_base ho0)) (Kd.R_base ho1)) (fun _ h_=>h_.1))
        replace HO_1071001:=A_ (Kd.R_mono (Kd.R_told (Kd.R_told (Kd.R_old (rr_ HO_1071001) hb) (Kd.R_base ho0)) (Kd.R_base ho1)) (fun _ h_=>h_.1))
        replace HO1073:=A_ (Kd.R_mono (Kd.R_told (Kd.R_told (Kd.R_old (rr_ HO1073) hb) (Kd.R_base ho0)) (Kd.R_base ho1)) (fun _ h_=>h_.1))
        replace BK1059:=bb_ BK1059 hb
        replace BK1060:=bb_ BK1060 hb
        replace BK1070:=bb_ BK1070 hb
        replace BK1080:=bb_ BK1080 hb
        replace HB:=b1_ hb
        clear hb ho0 ho1
        refine hK.out _ _ ⟨cz0_ BK1059,cz1_ BK1059⟩ (fun hHeld=>?_)
        clear hK K
        refine no_ (some 21) ?_
        exact norm_ (by simp only [putAll,Act.put,sA_,sB_,sC_]) (hCont (.slice Ao51 t1071.length co51,v1075,v1078,gb1080) _ ⟨hHeld,(rw_ (Kd.R_mono HO1073.out (fun _ hk=>⟨hk.1.2,⟨hk.2,⟨hk.1.1.1.2,hk.1.1.2⟩⟩⟩))),(rw_ (Kd.R_mono HO1076.out (fun _ hk=>⟨hk.2,⟨hk.1.1.1,⟨hk.1.1.2,hk.1.2⟩⟩⟩))),(rw_ (Kd.R_mono HO1079.out (fun _ hk=>⟨hk.2,⟨hk.1.1.1,⟨hk.1.1.2,hk.1.2⟩⟩⟩))),(rw_ (Kd.R_mono HO_1071000.out (fun _ hk=>⟨hk.1.1.2,⟨hk.1.2,⟨hk.2,hk.1.1.1⟩⟩⟩))),(rw_ (Kd.R_mono HO_1071001.out (fun _ hk=>⟨hk.1.1.2,⟨hk.1.2,⟨hk.2,hk.1.1.1⟩⟩⟩))),(kk_ BK1059),(kk_ BK1060),(kk_ BK1070),(kk_ BK1080),GW1080.out,GE1080.out,NB1059_1080.out,NB1080_1059.out,NB1060_1080.out,NB1080_1060.out,NB1070_1080.out,NB1080_1070.out,hB_⟩)
      ·skip
       refine box_step ?hg (N:=5) ?hd (cs:=#[.slice none 0 0,.slice none 0 0]) (t:=33) ?hr ?_;(case hd=>rfl);(case hg=>rfl);(case hr=>first | (go_simp;done) | (go_simp;rfl))
       intro gb1080 hg w49 hbox hb
       replace HO_1071000:=rb_ HO_1071000 hb
       replace HO_1071001:=rb_ HO_1071001 hb
       have BK1080:=A_ hbox
       have GW1080:=gw_ w hg
       have GE1080:=GW1080
       replace HB:=b1_ hb
       have NB1059_1080:=gN_ BK1059 hg
       have NB1080_1059:=gP_ BK1059 hg
       replace BK1059:=bb_ BK1059 hb
       have NB1060_1080:=gN_ BK1060 hg
       have NB1080_1060:=gP_ BK1060 hg
       replace BK1060:=bb_ BK1060 hb
       have NB1070_1080:=gN_ BK1070 hg
       have NB1080_1070:=gP_ BK1070 hg
       replace BK1070:=bb_ BK1070 hb
       clear hb hbox hg
       refine hK.out _ _ ⟨cz0_ BK1059,cz1_ BK1059⟩ (fun hHeld=>?_)
       clear hK K
       refine no_ (some 5) ?_
       refine one_ (i:=3) (N:=some 20) (bl_ 7 47) rfl rfl (by kernel_rfl) (by decide) (fun K hK=>?_)
       refine gO_ Try.func130 #[.agg #[.slice A0_0 l0_0.length c0_0,.slice A0_1 l0_1.length c0_1],.int .i64 x4_1] (by rfl) rfl rfl qa_ ?_
       with_reducible refine (Z55.calls k1 _ _ l0_0 _ _ l0_1 x4_1 t1071 _ (cb_ HR0_0) HC0_0.out (cb_ HR0_1) HC0_1.out A17.out).mono ?_
       rintro e w50 ⟨v1072,rfl,ho0,hb⟩
       refine ⟨_,rfl,?_⟩
       have HO1073:=A_ (rE_ (Kd.R_new' (Kd.R_new' ho0 (Kd.R_lt (rr_ HO_1071000))) (Kd.R_lt (rr_ HO_1071001))) (bF_ hB_))
       replace HO_1071000:=A_ (Kd.R_elder' (rr_ HO_1071000) (Kd.R_base ho0) hb)
       replace HO_1071001:=A_ (Kd.R_elder' (rr_ HO_1071001) (Kd.R_base ho0) hb)
       replace BK1059:=bb_ BK1059 hb
       replace BK1060:=bb_ BK1060 hb
       replace BK1070:=bb_ BK1070 hb
       replace BK1080:=bb_ BK1080 hb
       replace HB:=b1_ hb
       clear hb ho0
       obtain ⟨Ao51,co51,eo51⟩:=Kd.R_slice HO1073.out
       (first|subst eo51|(injection eo51 with a_ b_ c_;have a_:=a_.symm;have c_:=c_.symm;clear b_;subst a_;subst c_))
       refine hK.out _ _ ⟨cz0_ BK1059,cz1_ BK1059⟩ (fun hHeld=>?_)
       clear hK K
       refine no_ (some 20) ?_
       refine one_ (i:=4) (N:=some 21) (bl_ 7 63) rfl rfl (by kernel_rfl) (by decide) (fun K hK=>?_)
       refine gO_ Try.func129 #[.agg #[.slice A0_0 l0_0.length c0_0,.slice A0_1 l0_1.length c0_1],.slice Ao51 t1071.length co51] (by rfl) rfl rfl qa_ ?_
       with_reducible refine (Z41.calls k1 _ _ l0_0 _ _ l0_1 _ _ t1071 t1074 t1077 _ (cb_ HR0_0) HC0_0.out (cb_ HR0_1) HC0_1.out (cr_ HO1073) ((Kd.R_reads' HO1073.out).2.1) A18.out).mono ?_
       rintro e w52 ⟨v1075,v1078,rfl,ho0,ho1,hb⟩
       refine ⟨_,rfl,?_⟩
       have HO1076:=A_ (rE_ (Kd.R_new' (Kd.R_new' (Kd.R_new' ho0 (Kd.R_lt (rr_ HO_1071000))) (Kd.R_lt (rr_ HO_1071001))) (Kd.R_lt (rr_ HO1073))) (bF_ hB_))
       have HO1079:=A_ (rE_ (Kd.R_new' (Kd.R_new' (Kd.R_new' ho1 (Kd.R_lt (rr_ HO_1071000))) (Kd.R_lt (rr_ HO_1071001))) (Kd.R_lt (rr_ HO1073))) (bF_ hB_))
       replace HO_1071000:=A_ (Kd.R_mono (Kd.R_told (Kd.R_told (Kd.R_old (rr_ HO_1071000) hb) (Kd.R_base ho0)) (Kd.R_base ho1)) (fun _ h_=>h_.1))
       replace HO_1071001:=A_ (Kd.R_mono (Kd.R_told (Kd.R_told (Kd.R_old (rr_ HO_1071001) hb) (Kd.R_base ho0)) (Kd.R_base ho1)) (fun _ h_=>h_.1))
       replace HO1073:=A_ (Kd.R_mono (Kd.R_told (Kd.R_told (Kd.R_old (rr_ HO1073) hb) (Kd.R_base ho0)) (Kd.R_base ho1)) (fun _ h_=>h_.1))
       replace BK1059:=bb_ BK1059 hb
       replace BK1060:=bb_ BK1060 hb
       replace BK1070:=bb_ BK1070 hb
       replace BK1080:=bb_ BK1080 hb
       replace HB:=b1_ hb
       clear hb ho0 ho1
       refine hK.out _ _ ⟨cz0_ BK1059,cz1_ BK1059⟩ (fun hHeld=>?_)
       clear hK K
       refine no_ (some 21) ?_
       exact norm_ (by simp only [putAll,Act.put,sA_,sB_,sC_]) (hCont (.slice Ao51 t1071.length co51,v1075,v1078,gb1080) _ ⟨hHeld,(rw_ (Kd.R_mono HO1073.out (fun _ hk=>⟨hk.1.2,⟨hk.2,⟨hk.1.1.1.2,hk.1.1.2⟩⟩⟩))),(rw_ (Kd.R_mono HO1076.out (fun _ hk=>⟨hk.2,⟨hk.1.1.1,⟨hk.1.1.2,hk.1.2⟩⟩⟩))),(rw_ (Kd.R_mono HO1079.out (fun _ hk=>⟨hk.2,⟨hk.1.1.1,⟨hk.1.1.2,hk.1.2⟩⟩⟩))),(rw_ (Kd.R_mono HO_1071000.out (fun _ hk=>⟨hk.1.1.2,⟨hk.1.2,⟨hk.2,hk.1.1.1⟩⟩⟩))),(rw_ (Kd.R_mono HO_1071001.out (fun _ hk=>⟨hk.1.1.2,⟨hk.1.2,⟨hk.2,hk.1.1.1⟩⟩⟩))),(kk_ BK1059),(kk_ BK1060),(kk_ BK1070),(kk_ BK1080),GW1080.out,GE1080.out,NB1059_1080.out,NB1080_1059.out,NB1060_1080.out,NB1080_1060.out,NB1070_1080.out,NB1080_1070.out,hB_⟩)
     rintro ⟨v1072,v1075,v1078,gb1080⟩ w53 ⟨hS_,h0_,h1_,h2_,h3_,h4_,h5_,h6_,h7_,h8_,h9_,h10_,h11_,h12_,h13_,h14_,h15_,h16_,h17_⟩
     have n0_:Aside0 (Kd.R (Kd.int .i64) 3 w53 w.heap.size (fun k_=>some k_≠(v1075:Value).ownBlock∧some k_≠(v1078:Value).ownBlock∧some k_≠(u1071000:Value).ownBlock∧some k_≠(u1071001:Value).ownBlock) v1072 t1071):=⟨h0_⟩
     have n1_:Aside0 (Kd.R (Kd.int .i64) 3 w53 w.heap.size (fun k_=>some k_≠(v1072:Value).ownBlock∧some k_≠(v1078:Value).ownBlock∧some k_≠(u1071000:Value).ownBlock∧some k_≠(u1071001:Value).ownBlock) v1075 t1074):=⟨h1_⟩
     have n2_:Aside0 (Kd.R (Kd.int .i64) 3 w53 w.heap.size (fun k_=>some k_≠(v1072:Value).ownBlock∧some k_≠(v1075:Value).ownBlock∧some k_≠(u1071000:Value).ownBlock∧some k_≠(u1071001:Value).ownBlock) v1078 t1077):=⟨h2_⟩
     have n3_:Aside0 (Kd.R (Kd.int .i64) 3 w53 w.heap.size (fun k_=>some k_≠(v1072:Value).ownBlock∧some k_≠(v1075:Value).ownBlock∧some k_≠(v1078:Value).ownBlock∧some k_≠(u1071001:Value).ownBlock) u1071000 x1071000_1):=⟨h3_⟩
     have n4_:Aside0 (Kd.R (Kd.int .i64) 3 w53 w.heap.size (fun k_=>some k_≠(v1072:Value).ownBlock∧some k_≠(v1075:Value).ownBlock∧some k_≠(v1078:Value).ownBlock∧some k_≠(u1071000:Value).ownBlock) u1071001 x1071001_1):=⟨h4_⟩
     have n5_:Aside0 (w53.heap[gb1059]? = some (.cells #[.slice A0_0 l0_0.length c0_0,.slice A0_1 l0_1.length c0_1] 33 (0,0))):=⟨h5_⟩
     have n6_:Aside0 (w53.heap[gb1060]? = some (.cells #[.slice none 0 0,.slice none 0 0] 33 (0,0))):=⟨h6_⟩
     have n7_:Aside0 (w53.heap[gb1070]? = some (.cells #[u1071000,u1071001] 33 (0,0))):=⟨h7_⟩
     have n8_:Aside0 (w53.heap[gb1080]? = some (.cells #[.slice none 0 0,.slice none 0 0] 33 (0,0))):=⟨h8_⟩
     have n9_:Aside0 (w.heap.size≤gb1080):=⟨h9_⟩
     have n10_:Aside0 (w.heap.size≤gb1080):=⟨h10_⟩
     have n11_:Aside0 (gb1059≠gb1080):=⟨h11_⟩
     have n12_:Aside0 (gb1080≠gb1059):=⟨h12_⟩
     have n13_:Aside0 (gb1060≠gb1080):=⟨h13_⟩
     have n14_:Aside0 (gb1080≠gb1060):=⟨h14_⟩
     have n15_:Aside0 (gb1070≠gb1080):=⟨h15_⟩
     have n16_:Aside0 (gb1080≠gb1070):=⟨h16_⟩
     have n17_:Aside0 (Below w.heap.size w w53):=⟨h17_⟩
     clear HO_1071000
     clear HO_1071001
     clear BK1059
     clear BK1060
     clear BK1070
     clear HB
     clear h0_ h1_ h2_ h3_ h4_ h5_ h6_ h7_ h8_ h9_ h10_ h11_ h12_ h13_ h14_ h15_ h16_ h17_
     have HO1073:=n0_
     have HO1076:=n1_
     have HO1079:=n2_
     have HO_1071000:=n3_
     have HO_1071001:=n4_
     have BK1059:=n5_
     have BK1060:=n6_
     have BK1070:=n7_
     have BK1080:=n8_
     have GW1080:=n9_
     have GE1080:=n10_
     have NB1059_1080:=n11_
     have NB1080_1059:=n12_
     have NB1060_1080:=n13_
     have NB1080_1060:=n14_
     have NB1070_1080:=n15_
     have NB1080_1070:=n16_
     have HB:=n17_
     clear n0_ n1_ n2_ n3_ n4_ n5_ n6_ n7_ n8_ n9_ n10_ n11_ n12_ n13_ n14_ n15_ n16_ n17_
     have hHeld:w53.cell? ⟨gb1059,0,none⟩ = some (.slice A0_0 l0_0.length c0_0)∧w53.cell? ⟨gb1059,1,none⟩ = some (.slice A0_1 l0_1.length c0_1):=hS_
     obtain ⟨Ao54,co54,eo54⟩:=Kd.R_slice HO1076.out
     (first|subst eo54|(injection eo54 with a_ b_ c_;have a_:=a_.symm;have c_:=c_.symm;clear b_;subst a_;subst c_))
     obtain ⟨Ao56,co56,eo56⟩:=Kd.R_slice HO1079.out
     (first|subst eo56|(injection eo56 with a_ b_ c_;have a_:=a_.symm;have c_:=c_.symm;clear b_;subst a_;subst c_))
     refine norm_ (a':=?_) ?_ ?_
     rotate_left
     ·simp only [putAll,Act.put,sA_,sB_,sC_]
      rfl
     refine one_ (i:=6) (N:=none) (bl_ 7 127) rfl rfl (by kernel_rfl) (by decide) (fun K hK=>?_)
     have hs55:w53.cell? ⟨gb1080,0,none⟩ = some (.slice none 0 0):=cz0_ BK1080
     have hfs55:=kD_ BK1080.out 0
     have hns55_0:=NB1059_1080.out
     have hns55_1:=NB1060_1080.out
     have hns55_2:=NB1070_1080.out
     have hms55_0:=NB1080_1059.out
     have hms55_1:=NB1080_1060.out
     have hms55_2:=NB1080_1070.out
     have hs57:w53.cell? ⟨gb1080,1,none⟩ = some (.slice none 0 0):=cz1_ BK1080
     have hfs57:=kD_ BK1080.out 1
     have hns57_0:=NB1059_1080.out
     have hns57_1:=NB1060_1080.out
     have hns57_2:=NB1070_1080.out
     have hms57_0:=NB1080_1059.out
     have hms57_1:=NB1080_1060.out
     have hms57_2:=NB1080_1070.out
     refine skip_ (w1:=?_) (by rfl) rfl ?_ ?_
     rotate_left
     ·go_simp
      rfl
     refine hK.out _ _ ⟨((cell_far (p:=⟨gb1080,_,none⟩) NB1059_1080.out _).trans (((cell_far (p:=⟨gb1080,_,none⟩) NB1059_1080.out _).trans (hHeld.1)))),((cell_far (p:=⟨gb1080,_,none⟩) NB1059_1080.out _).trans (((cell_far (p:=⟨gb1080,_,none⟩) NB1059_1080.out _).trans (hHeld.2))))⟩ (fun hHeld=>?_)
     clear hK K
     refine done_ (by kernel_rfl) ?_
     have hnb58:=NB1080_1059.out
     have hnc58:=NB1059_1080.out
     have hnb59:=NB1080_1060.out
     have hnc59:=NB1060_1080.out
     have hnb60:=NB1080_1070.out
     have hnc60:=NB1070_1080.out
     obtain ⟨hcz61_0,hcz61_1,hfz61_0,hfz61_1⟩:=c2_ BK1080
     have hnb62:=NB1070_1060.out
     have hnc62:=NB1060_1070.out
     obtain ⟨hcz63_0,hcz63_1,hfz63_0,hfz63_1⟩:=c2_ BK1070
     obtain ⟨Ao64,co64,eo64⟩:=Kd.R_slice HO_1071000.out
     subst eo64
     obtain ⟨Ao65,co65,eo65⟩:=Kd.R_slice HO_1071001.out
     subst eo65
     try go_wp2_with (first | ((with_reducible refine gA_ (f:=128) rfl ?_);refine gL_ (some 24) Try.func128 #[.agg #[.slice Ao54 t1074.length co54,.slice Ao56 t1077.length co56],.agg #[.slice Ao64 x1071000_1.length co64,.slice Ao65 x1071001_1.length co65]] rfl qa_ ?_;(with_reducible refine (Z40.calls k1 _ _ t1074 _ _ t1077 _ _ x1071000_1 _ _ x1071001_1 false _ ?side1 ?side2 ?side3 ?side4 ?side5 ?side6 ?side7 ?side8 A19.out).mono ?_);(case side1=>refine (Kd.R_reads' (e:=3) (base:=w.heap.size) (ok:=fun k_=>(some k_≠(v1072:Value).ownBlock∧(some k_≠(.slice Ao56 t1077.length co56:Value).ownBlock∧(some k_≠(.slice Ao64 x1071000_1.length co64:Value).ownBlock∧some k_≠(.slice Ao65 x1071001_1.length co65:Value).ownBlock)))) (n:=t1074.length) (c:=co54) ?_).2.2;exact (rw_ (fa_ HO1076 BK1080)));(case side2=>exact (Kd.R_reads' HO1076.out).2.1);(case side3=>refine (Kd.R_reads' (e:=3) (base:=w.heap.size) (ok:=fun k_=>(some k_≠(v1072:Value).ownBlock∧(some k_≠(.slice Ao54 t1074.length co54:Value).ownBlock∧(some k_≠(.slice Ao64 x1071000_1.length co64:Value).ownBlock∧some k_≠(.slice Ao65 x1071001_1.length co65:Value).ownBlock)))) (n:=t1077.length) (c:=co56) ?_).2.2;exact (rw_ (fa_ HO1079 BK1080)));(case side4=>exact (Kd.R_reads' HO1079.out).2.1);(case side5=>refine (Kd.R_reads' (e:=3) (base:=w.heap.size) (ok:=fun k_=>(some k_≠(v1072:Value).ownBlock∧(some k_≠(.slice Ao54 t1074.length co54:Value).ownBlock∧(some k_≠(.slice Ao56 t1077.length co56:Value).ownBlock∧some k_≠(.slice Ao65 x1071001_1.length co65:Value).ownBlock)))) (n:=x1071000_1.length) (c:=co64) ?_).2.2;exact (rw_ (fa_ HO_1071000 BK1080)));(case side6=>exact (Kd.R_reads' HO_1071000.out).2.1);(case side7=>refine (Kd.R_reads' (e:=3) (base:=w.heap.size) (ok:=fun k_=>(some k_≠(v1072:Value).ownBlock∧(some k_≠(.slice Ao54 t1074.length co54:Value).ownBlock∧(some k_≠(.slice Ao56 t1077.length co56:Value).ownBlock∧some k_≠(.slice Ao64 x1071000_1.length co64:Value).ownBlock)))) (n:=x1071001_1.length) (c:=co65) ?_).2.2;exact (rw_ (fa_ HO_1071001 BK1080)));(case side8=>exact (Kd.R_reads' HO_1071001.out).2.1);rintro e w66 ⟨rfl,hb⟩;refine ⟨_,rfl,?_⟩;replace HO_1071000:=A_ (rD_ (rw_ (fa_ HO_1071000 BK1080)) hb);replace HO_1071001:=A_ (rD_ (rw_ (fa_ HO_1071001 BK1080)) hb);replace HO1073:=A_ (rD_ (rw_ (fa_ HO1073 BK1080)) hb);replace HO1076:=A_ (rD_ (rw_ (fa_ HO1076 BK1080)) hb);replace HO1079:=A_ (rD_ (rw_ (fa_ HO1079 BK1080)) hb);replace BK1059:=A_ (kE_ (g:=gb1059) (o:=.cells #[.slice A0_0 l0_0.length c0_0,.slice A0_1 l0_1.length c0_1] 33 (0,0)) (by (with_reducible repeat (first | refine kA_ ?_ _ | refine kB_ ?_ | refine kC_ ?_ _));refine blk_far ?_ NB1059_1080.out _;(with_reducible repeat (first | refine kA_ ?_ _ | refine kB_ ?_ | refine kC_ ?_ _));refine blk_far ?_ NB1059_1080.out _;(with_reducible repeat (first | refine kA_ ?_ _ | refine kB_ ?_ | refine kC_ ?_ _));exact BK1059.out) hb);replace BK1060:=A_ (kE_ (g:=gb1060) (o:=.cells #[.slice none 0 0,.slice none 0 0] 33 (0,0)) (by (with_reducible repeat (first | refine kA_ ?_ _ | refine kB_ ?_ | refine kC_ ?_ _));refine blk_far ?_ NB1060_1080.out _;(with_reducible repeat (first | refine kA_ ?_ _ | refine kB_ ?_ | refine kC_ ?_ _));refine blk_far ?_ NB1060_1080.out _;(with_reducible repeat (first | refine kA_ ?_ _ | refine kB_ ?_ | refine kC_ ?_ _));exact BK1060.out) hb);replace BK1070:=A_ (kE_ (g:=gb1070) (o:=.cells #[.slice Ao64 x1071000_1.length co64,.slice Ao65 x1071001_1.length co65] 33 (0,0)) (by (with_reducible repeat (first | refine kA_ ?_ _ | refine kB_ ?_ | refine kC_ ?_ _));refine blk_far ?_ NB1070_1080.out _;(with_reducible repeat (first | refine kA_ ?_ _ | refine kB_ ?_ | refine kC_ ?_ _));refine blk_far ?_ NB1070_1080.out _;(with_reducible repeat (first | refine kA_ ?_ _ | refine kB_ ?_ | refine kC_ ?_ _));exact BK1070.out) hb);replace BK1080:=A_ (kE_ (g:=gb1080) (o:=.cells #[.slice Ao54 t1074.length co54,.slice Ao56 t1077.length co56] 33 (0,0)) qp_ hb);replace HB:=b1_ hb;clear hb))
     go_roundg k1
     case measure=>have:=HK1.out;omega
     case rel=>exact ⟨(wrap64 (x4_1 + 1)),(x1071000_1),(x1071001_1),(.slice Ao64 x1071000_1.length co64),(.slice Ao65 x1071001_1.length co65),qc_,H',⟨by have:=HK1.out;omega⟩,⟨(rw_ (Kd.R_mono HO_1071000.out (fun _ hk=>hk.2.2.2)))⟩,⟨(rw_ (Kd.R_mono HO_1071001.out (fun _ hk=>hk.2.2.2)))⟩,⟨(kk_ BK1059)⟩,⟨(kk_ BK1060)⟩,⟨(kk_ BK1070)⟩,⟨hB_⟩⟩
   ·rw [if_neg c16] at H
    have c16b0:=oD_ c16
    clear c16
    simp only [Option.some.injEq,Prod.mk.injEq] at H
    obtain ⟨rfl,rfl⟩:=H
    have hnb67:=NB1059_1060.out
    have hnc67:=NB1060_1059.out
    have hnb68:=NB1059_1070.out
    have hnc68:=NB1070_1059.out
    obtain ⟨hcz69_0,hcz69_1,hfz69_0,hfz69_1⟩:=c2_ BK1059
    have hnb70:=NB1070_1060.out
    have hnc70:=NB1060_1070.out
    obtain ⟨hcz71_0,hcz71_1,hfz71_0,hfz71_1⟩:=c2_ BK1070
    obtain ⟨Ao72,co72,eo72⟩:=Kd.R_slice HO_1071000.out
    subst eo72
    obtain ⟨hcz73_0,hcz73_1,hfz73_0,hfz73_1⟩:=c2_ BK1060
    obtain ⟨Ao74,co74,eo74⟩:=Kd.R_slice HO_1071001.out
    subst eo74
    go_wp2
    refine bodyPost_ret (results_cell_row rfl _ _ gb1060 33 #[.slice Ao72 x1071000_1.length co72,.slice Ao74 x1071001_1.length co74] (0,0) _ rfl qp_ Try.underlying33 rfl (by kernel_rfl)) rfl ?_
    exact ⟨_,_,qb_,(rw_ (fa_ HO_1071000 BK1060)),(rw_ (fa_ HO_1071001 BK1060)),hB_⟩
end Go.Proofs.Ytoijcallajegfaa.A
end
section
/- The canonical form: the program and the reference find the same one. No conditions. -/
namespace Go.Proofs.Ytoijcallajegfaa.M
set_option linter.unusedVariables false
set_option linter.unusedSimpArgs false
open Go.RowKit Go.Proofs.YtoijcallajegfaaW.PrintWords Go.Proofs.YtoijcallajegfaaW.PrintLast Go.Proofs.YtoijcallajegfaaW.PrintMore Go.Proofs.Ytoijcallajegfaa.A
def lexC:List Nat→List Nat→Int
 | [],[]=>0
 | [],_ :: _=>-1
 | _ :: _,[]=>1
 | a :: l,b :: m=>if a < b then -1 else if b < a then 1 else lexC l m
theorem cmp_ev (a b:Nat):Z26.f (a:Int) (b:Int) = some (if a < b then -1 else if b < a then 1 else 0):=by
 unfold Z26.f Z45.f
 simp only [bne_self_eq_false,Option.bind_some,Bool.false_eq_true,if_false]
 by_cases h1:a < b
 ·have:(a:Int) < (b:Int):=by omega
  simp only [h1,this,if_true]
 ·have n1:¬ (a:Int) < (b:Int):=by omega
  by_cases h2:b < a
  ·have:(a:Int) > (b:Int):=by omega
   simp only [h1,n1,h2,this,if_true,if_false]
  ·have n2:¬ (a:Int) > (b:Int):=by omega
   simp only [h1,n1,h2,n2,if_false]
theorem lexC_eq:∀ (a b:List Nat),lexC a b = 0 ↔ a = b:=by
 intro a
 induction a with
 | nil=>intro b;cases b <;> simp [lexC]
 | cons x a ih =>
  intro b
  cases b with
  | nil=>simp [lexC]
  | cons y b =>
   unfold lexC
   by_cases h1:x < y
   ·simp [h1];omega
   ·by_cases h2:y < x
    ·simp [h1,h2];omega
    ·have e:x = y:=by omega
     subst e
     simp [h1,ih]
theorem compare_ev (a b:List Nat) (hl:a.length≤1000000):Ev (fun k=>Z2.f k (I a) (I b)) (lexC a b):=by
 unfold Z2.f
 have H:∀ d i:Nat,i + d = a.length→i≤b.length→Ev (fun k=>Z2.l0 k (I a) (I b) (I a) (a.length:Int) (i:Int)) (lexC (a.drop i) (b.drop i)):=by
  intro d
  induction d with
  | zero =>
   intro i hi hb
   refine ev_succ ?_
   have c1:¬ ((i:Int) < (a.length:Int)):=by omega
   rw [List.drop_of_length_le (l:=a) (by omega)]
   simp only [Z2.l0,c1,I_len',if_false]
   by_cases h:(a.length:Int) < (b.length:Int)
   ·have:lexC [] (b.drop i) = -1:=by
     rw [List.drop_eq_getElem_cons (by omega)]
     rfl
    simp only [h,if_true,this]
    exact Ev.now _
   ·have:lexC [] (b.drop i) = 0:=by
     rw [List.drop_of_length_le (by omega)]
     rfl
    simp only [h,if_false,this]
    exact Ev.now _
  | succ d ih =>
   intro i hi hb
   have hia:i < a.length:=by omega
   rw [List.drop_eq_getElem_cons hia,← g_get hia]
   have c1:(i:Int) < (a.length:Int):=by omega
   have c2:(0:Int)≤(i:Int):=by omega
   have c3:=w64s i (by omega)
   refine ev_succ ?_
   by_cases h:i < b.length
   ·rw [List.drop_eq_getElem_cons h,← g_get h]
    have n1:¬ ((i:Int) ≥ (b.length:Int)):=by omega
    have n2:(i:Int) < (b.length:Int):=by omega
    simp only [Z2.l0,c1,c2,c3,n1,n2,I_len',rdI,cmp_ev,Option.bind_some,if_true,if_false]
    unfold lexC
    by_cases h1:g a i < g b i
    ·have z:¬ ((-1:Int) = 0):=by omega
     simp only [h1,z,if_true,if_false]
     exact Ev.now _
    ·by_cases h2:g b i < g a i
     ·have z:¬ ((1:Int) = 0):=by omega
      simp only [h1,h2,z,if_true,if_false]
      exact Ev.now _
     ·simp only [h1,h2,if_true,if_false]
      exact ih (i + 1) (by omega) (by omega)
   ·have n1:(i:Int) ≥ (b.length:Int):=by omega
    rw [List.drop_of_length_le (l:=b) (by omega)]
    simp only [Z2.l0,c1,c2,n1,I_len',if_true]
    exact Ev.now _
 have key:=H a.length 0 (Nat.zero_add _) (Nat.zero_le _)
 rw [List.drop_zero,List.drop_zero] at key
 simp only [I_len']
 exact key
theorem less_ev (a b:List Nat) (hl:a.length≤1000000) (he:b.length = a.length):Ev (fun k=>Z62.f k (I a) (I b)) (decide (lexC a b < 0)):=by
 unfold Z62.f
 have H:∀ d i:Nat,i + d = a.length→Ev (fun k=>Z62.l0 k (I b) (I a) (a.length:Int) (i:Int)) (decide (lexC (a.drop i) (b.drop i) < 0)):=by
  intro d
  induction d with
  | zero =>
   intro i hi
   refine ev_succ ?_
   have c1:¬ ((i:Int) < (a.length:Int)):=by omega
   rw [List.drop_of_length_le (l:=a) (by omega),List.drop_of_length_le (l:=b) (by omega)]
   simp only [Z62.l0,c1,if_false]
   exact Ev.now _
  | succ d ih =>
   intro i hi
   have hia:i < a.length:=by omega
   have hib:i < b.length:=by omega
   rw [List.drop_eq_getElem_cons hia,← g_get hia,List.drop_eq_getElem_cons hib,← g_get hib]
   have c1:(i:Int) < (a.length:Int):=by omega
   have c2:(0:Int)≤(i:Int):=by omega
   have n2:(i:Int) < (b.length:Int):=by omega
   have c3:=w64s i (by omega)
   refine ev_succ ?_
   simp only [Z62.l0,c1,c2,c3,n2,I_len',rdI,if_true]
   unfold lexC
   by_cases h1:g a i < g b i
   ·have z1:¬ (((g a i:Nat):Int) = ((g b i:Nat):Int)):=by omega
    have z2:decide (((g a i:Nat):Int) < ((g b i:Nat):Int)) = true:=by rw [decide_eq_true_iff];omega
    have z3:decide ((-1:Int) < 0) = true:=by decide
    simp only [h1,z1,z2,z3,if_true,if_false]
    exact Ev.now _
   ·by_cases h2:g b i < g a i
    ·have z1:¬ (((g a i:Nat):Int) = ((g b i:Nat):Int)):=by omega
     have z2:decide (((g a i:Nat):Int) < ((g b i:Nat):Int)) = false:=by rw [decide_eq_false_iff_not];omega
     have z3:decide ((1:Int) < 0) = false:=by decide
     simp only [h1,h2,z1,z2,z3,if_true,if_false]
     exact Ev.now _
    ·have z1:((g a i:Nat):Int) = ((g b i:Nat):Int):=by omega
     simp only [h1,h2,z1,if_true,if_false]
     exact ih (i + 1) (by omega)
 have key:=H a.length 0 (Nat.zero_add _)
 rw [List.drop_zero,List.drop_zero] at key
 simp only [I_len']
 exact key
def cmpS (a b:List Nat × List Nat):Int:=if lexC a.1 b.1 = 0 then lexC a.2 b.2 else lexC a.1 b.1
theorem impl_cmpS (a b:List Nat × List Nat) (h1:a.1.length≤1000000) (h2:a.2.length≤1000000):Ev (fun k=>Z3.f k (I a.1) (I a.2) (I b.1) (I b.2)) (cmpS a b):=by
 unfold Z3.f cmpS
 refine Ev.bind (compare_ev a.1 b.1 h1) ?_
 by_cases h:lexC a.1 b.1 = 0
 ·simp only [h,if_true]
  exact Ev.bind (compare_ev a.2 b.2 h2) (Ev.now _)
 ·simp only [h,if_false]
  exact Ev.now _
theorem sameList_nat (a b:List Nat) (h:a.length≤1000000000):Ev (fun k=>Z52.f k (I a) (I b)) (decide (a = b)):=by
 unfold Z52.f
 by_cases hl:(a.length:Int) = (b.length:Int)
 ·have hl':a.length = b.length:=by omega
  simp only [I_len',hl,ne_eq,not_true_eq_false,if_false,if_true]
  have H:∀ d i:Nat,i + d = a.length→Ev (fun k=>Z52.l0 k (I b) (I a) (b.length:Int) (i:Int)) (decide (a.drop i = b.drop i)):=by
   intro d
   induction d with
   | zero =>
    intro i hi
    refine ev_succ ?_
    have c1:¬ ((i:Int) < (b.length:Int)):=by omega
    have e:decide (a.drop i = b.drop i) = true:=by rw [List.drop_of_length_le (by omega),List.drop_of_length_le (by omega)];simp
    simp only [Z52.l0,c1,if_false,e]
    exact Ev.now _
   | succ d ih =>
    intro i hi
    have hia:i < a.length:=by omega
    have hib:i < b.length:=by omega
    rw [List.drop_eq_getElem_cons hia,← g_get hia,List.drop_eq_getElem_cons hib,← g_get hib]
    have c1:(i:Int) < (b.length:Int):=by omega
    have c2:(0:Int)≤(i:Int):=by omega
    have c4:(i:Int) < (a.length:Int):=by omega
    have c3:=w64s i (by omega)
    refine ev_succ ?_
    by_cases he:g a i = g b i
    ·have z:((g a i:Nat):Int) = ((g b i:Nat):Int):=by omega
     have e:decide (g a i :: a.drop (i + 1) = g b i :: b.drop (i + 1)) = decide (a.drop (i + 1) = b.drop (i + 1)):=by simp [he]
     rw [e]
     simp only [Z52.l0,c1,c2,c3,c4,I_len',rdI,z,if_true]
     exact ih (i + 1) (by omega)
    ·have z:¬ (((g a i:Nat):Int) = ((g b i:Nat):Int)):=by omega
     have e:decide (g a i :: a.drop (i + 1) = g b i :: b.drop (i + 1)) = false:=by simp [he]
     rw [e]
     simp only [Z52.l0,c1,c2,c4,I_len',rdI,z,if_true,if_false]
     exact Ev.now _
  have key:=H a.length 0 (Nat.zero_add _)
  rw [List.drop_zero,List.drop_zero] at key
  exact key
 ·have e:decide (a = b) = false:=by
   rw [decide_eq_false_iff_not]
   intro e
   rw [e] at hl
   exact hl rfl
  simp only [I_len',hl,ne_eq,not_false_eq_true,if_true,if_false,e]
  exact Ev.now _
theorem spec_before (a b:List Nat × List Nat) (h1:a.1.length≤1000000) (h2:a.2.length≤1000000) (e1:b.1.length = a.1.length) (e2:b.2.length = a.2.length):Ev (fun k=>Z40.f k (I a.1) (I a.2) (I b.1) (I b.2)) (decide (cmpS a b < 0)):=by
 unfold Z40.f cmpS
 refine Ev.bind (sameList_nat a.1 b.1 (by omega)) ?_
 by_cases h:a.1 = b.1
 ·have z:=(lexC_eq a.1 b.1).mpr h
  rw [z]
  simp only [h,decide_true,if_true]
  exact Ev.bind (less_ev a.2 b.2 h2 e2) (Ev.now _)
 ·have z:¬ lexC a.1 b.1 = 0:=fun k=>h ((lexC_eq _ _).mp k)
  simp only [h,z,decide_false,Bool.false_eq_true,if_false]
  exact Ev.bind (less_ev a.1 b.1 h1 e1) (Ev.now _)
def rS (r u:List Nat) (s:Nat):List Nat × List Nat:=rnS r u (nm r u s)
theorem rS_len {r u:List Nat} (s:Nat):(rS r u s).1.length = r.length∧(rS r u s).2.length = u.length:=⟨ren_len _ _,ren_len _ _⟩
def canK (r u:List Nat):Nat→List Nat × List Nat
 | 0=>rS r u 0
 | k + 1=>if cmpS (rS r u (k + 1)) (canK r u k) < 0 then rS r u (k + 1) else canK r u k
theorem canK_len {r u:List Nat} (k:Nat):(canK r u k).1.length = r.length∧(canK r u k).2.length = u.length:=by
 induction k with
 | zero=>exact rS_len 0
 | succ k ih =>
  unfold canK
  split
  ·exact rS_len _
  ·exact ih
def canS (r u:List Nat):List Nat × List Nat:=canK r u (r.length - 1)
theorem spec_canon {r u:List Nat} (hs:Sf r u):Ev (fun k=>Z54.f k (I r) (I u)) (I (canS r u).1,I (canS r u).2):=by
 have hle:=hs.le
 have heq:=hs.eq
 have hpos:=hs.pos
 unfold Z54.f
 have e0:=spec_names hs hpos
 have q0:=isP_nm hs hpos
 refine Ev.bind e0 (Ev.bind (spec_renS hs q0.1 q0.2) ?_)
 have H:∀ d i:Nat,i + 1 + d = r.length→Ev (fun k=>Z54.l0 k ((i + 1:Nat):Int) (I r) (I u) (I (canK r u i).1) (I (canK r u i).2)) (I (canS r u).1,I (canS r u).2):=by
  intro d
  induction d with
  | zero =>
   intro i hi
   refine ev_succ ?_
   have c1:¬ (((i + 1:Nat):Int) < (r.length:Int)):=by omega
   have e:canS r u = canK r u i:=by
    unfold canS
    congr 1
    omega
   rw [e]
   simp only [Z54.l0,c1,I_len',if_false]
   exact Ev.now _
  | succ d ih =>
   intro i hi
   have hi1:i + 1 < r.length:=by omega
   have q1:=isP_nm hs hi1
   have c1:((i + 1:Nat):Int) < (r.length:Int):=by omega
   have c3:=w64s (i + 1) (by omega)
   have lk:=canK_len (r:=r) (u:=u) i
   have lr:=rS_len (r:=r) (u:=u) (i + 1)
   refine ev_succ ?_
   simp only [Z54.l0,c1,c3,I_len',if_true]
   refine Ev.bind (spec_names hs hi1) (Ev.bind (spec_renS hs q1.1 q1.2) ?_)
   refine Ev.bind (spec_before (rS r u (i + 1)) (canK r u i) (by rw [lr.1];omega) (by rw [lr.2];omega) (by rw [lr.1,lk.1]) (by rw [lr.2,lk.2])) ?_
   have key:=ih (i + 1) (by omega)
   unfold canK at key
   by_cases h:cmpS (rS r u (i + 1)) (canK r u i) < 0
   ·rw [if_pos h] at key
    simp only [h,decide_true,if_true]
    exact key
   ·rw [if_neg h] at key
    simp only [h,decide_false,Bool.false_eq_true,if_false]
    exact key
 have key:=H (r.length - 1) 0 (by omega)
 exact key
def namedL (r u:List Nat) (n:Nat):List S33:=(List.range n).map (fun s=>(⟨I (rS r u s).1,I (rS r u s).2⟩:S33))
theorem namedL_len (r u:List Nat) (n:Nat):(namedL r u n).length = n:=by simp [namedL]
theorem rd_named {r u:List Nat} {n i:Nat} (h:i < n):rd_T33 (namedL r u n) (i:Int) = ⟨I (rS r u i).1,I (rS r u i).2⟩:=by
 unfold rd_T33 namedL
 simp [List.getD_eq_getElem?_getD,h]
theorem count_sq {r u:List Nat} (hs:Sf r u):Ev (fun k=>Z12.f k (I r) (I u)) (r.length:Int):=by
 unfold Z12.f
 refine Ev.bind (impl_surf _ _) ?_
 have h0:=surfB_I.mpr hs
 simp only [h0,I_len',if_true]
 exact Ev.now _
theorem impl_named {r u:List Nat} (hs:Sf r u):Ev (fun k=>Z36.f k (I r) (I u)) (namedL r u r.length):=by
 have hle:=hs.le
 unfold Z36.f
 have H:∀ d i:Nat,i + d = r.length→Ev (fun k=>Z36.l0 k (namedL r u i) (i:Int) (I r) (I u)) (namedL r u r.length):=by
  intro d
  induction d with
  | zero =>
   intro i hi
   obtain rfl:i = r.length:=by omega
   refine ev_succ ?_
   simp only [Z36.l0]
   refine Ev.bind (count_sq hs) ?_
   have c1:¬ ((r.length:Int) < (r.length:Int)):=by omega
   simp only [c1,if_false]
   exact Ev.now _
  | succ d ih =>
   intro i hi
   have hil:i < r.length:=by omega
   have q1:=isP_nm hs hil
   refine ev_succ ?_
   simp only [Z36.l0]
   refine Ev.bind (count_sq hs) ?_
   have c1:(i:Int) < (r.length:Int):=by omega
   have c2:(namedL r u i).length < 2932031007402:=by rw [namedL_len];omega
   have c3:=w64s i (by omega)
   simp only [c1,if_true]
   refine Ev.bind (impl_names hs hil) (Ev.bind (impl_renS hs q1.1 q1.2) ?_)
   have e:namedL r u i ++ [(⟨I (rnS r u (nm r u i)).1,I (rnS r u (nm r u i)).2⟩:S33)] = namedL r u (i + 1):=by
    unfold namedL
    rw [List.range_succ,List.map_append]
    rfl
   simp only [c2,c3,e,if_true]
   exact ih (i + 1) (by omega)
 exact H r.length 0 (Nat.zero_add _)
theorem impl_canon {r u:List Nat} (hs:Sf r u):Ev (fun k=>Z59.f k (I r) (I u)) (I (canS r u).1,I (canS r u).2,true):=by
 have hle:=hs.le
 have heq:=hs.eq
 have hpos:=hs.pos
 unfold Z59.f
 refine Ev.bind (impl_named hs) ?_
 have c0:¬ ((r.length:Int) = 0):=by omega
 simp only [namedL_len,c0,if_false]
 refine Ev.bind (a:=(I (canS r u).1,I (canS r u).2)) ?_ (Ev.now _)
 unfold Z29.f
 have c1:¬ ((r.length:Int) < 1):=by omega
 have c2:(0:Int) < (r.length:Int):=by omega
 have e0:rd_T33 (namedL r u r.length) 0 = ⟨I (canK r u 0).1,I (canK r u 0).2⟩:=rd_named hpos
 simp only [namedL_len,c1,c2,e0,if_true,if_false]
 have H:∀ d i:Nat,i + 1 + d = r.length→Ev (fun k=>Z29.l0 k (namedL r u r.length) ((i + 1:Nat):Int) (I (canK r u i).1) (I (canK r u i).2)) (I (canS r u).1,I (canS r u).2):=by
  intro d
  induction d with
  | zero =>
   intro i hi
   refine ev_succ ?_
   have c1:¬ (((i + 1:Nat):Int) < (r.length:Int)):=by omega
   have e:canS r u = canK r u i:=by
    unfold canS
    congr 1
    omega
   rw [e]
   simp only [Z29.l0,c1,namedL_len,if_false]
   exact Ev.now _
  | succ d ih =>
   intro i hi
   have hi1:i + 1 < r.length:=by omega
   have c1:((i + 1:Nat):Int) < (r.length:Int):=by omega
   have c2:(0:Int)≤((i + 1:Nat):Int):=by omega
   have c4:rd_T33 (namedL r u r.length) ((i + 1:Nat):Int) = ⟨I (rS r u (i + 1)).1,I (rS r u (i + 1)).2⟩:=rd_named hi1
   have c3:=w64s (i + 1) (by omega)
   have lr:=rS_len (r:=r) (u:=u) (i + 1)
   refine ev_succ ?_
   simp only [Z29.l0,c1,c2,c3,c4,namedL_len,if_true]
   refine Ev.bind (impl_cmpS (rS r u (i + 1)) (canK r u i) (by rw [lr.1];omega) (by rw [lr.2];omega)) ?_
   have key:=ih (i + 1) (by omega)
   unfold canK at key
   by_cases h:cmpS (rS r u (i + 1)) (canK r u i) < 0
   ·rw [if_pos h] at key
    simp only [h,if_true]
    exact key
   ·rw [if_neg h] at key
    simp only [h,if_false]
    exact key
 exact H (r.length - 1) 0 (by omega)
theorem impl_canon_no {r u:List Int} (h:¬ surfB r u = true):Ev (fun k=>Z59.f k r u) ([],[],false):=by
 have h':=Bool.eq_false_iff.mpr h
 unfold Z59.f
 refine Ev.bind (a:=([]:List S33)) ?_ ?_
 ·unfold Z36.f
  refine ev_succ ?_
  simp only [Z36.l0]
  refine Ev.bind (a:=(0:Int)) ?_ ?_
  ·unfold Z12.f
   refine Ev.bind (impl_surf _ _) ?_
   simp only [h',Bool.false_eq_true,if_false]
   exact Ev.now _
  ·have c1:¬ ((0:Int) < 0):=by omega
   simp only [c1,if_false]
   exact Ev.now _
 ·simp only [List.length_nil]
  exact Ev.now _
theorem equal_ev (a b:List Nat) (h:a.length≤1000000000):Ev (fun k=>Z46.f k (I a) (I b)) (decide (a = b)):=by
 unfold Z46.f Z4.f
 refine Ev.bind (a:=decide (a = b)) ?_ (Ev.now _)
 by_cases hl:(a.length:Int) = (b.length:Int)
 ·have hl':a.length = b.length:=by omega
  simp only [I_len',hl,if_true]
  have H:∀ d i:Nat,i + d = a.length→Ev (fun k=>Z4.l0 k (I a) (I b) (b.length:Int) (i:Int)) (decide (a.drop i = b.drop i)):=by
   intro d
   induction d with
   | zero =>
    intro i hi
    refine ev_succ ?_
    have c1:¬ ((i:Int) < (b.length:Int)):=by omega
    have e:decide (a.drop i = b.drop i) = true:=by rw [List.drop_of_length_le (by omega),List.drop_of_length_le (by omega)];simp
    simp only [Z4.l0,c1,if_false,e]
    exact Ev.now _
   | succ d ih =>
    intro i hi
    have hia:i < a.length:=by omega
    have hib:i < b.length:=by omega
    rw [List.drop_eq_getElem_cons hia,← g_get hia,List.drop_eq_getElem_cons hib,← g_get hib]
    have c1:(i:Int) < (b.length:Int):=by omega
    have c2:(0:Int)≤(i:Int):=by omega
    have c4:(i:Int) < (a.length:Int):=by omega
    have c3:=w64s i (by omega)
    refine ev_succ ?_
    by_cases he:g a i = g b i
    ·have z:((g a i:Nat):Int) = ((g b i:Nat):Int):=by omega
     have e:decide (g a i :: a.drop (i + 1) = g b i :: b.drop (i + 1)) = decide (a.drop (i + 1) = b.drop (i + 1)):=by simp [he]
     rw [e]
     simp only [Z4.l0,c1,c2,c3,c4,I_len',rdI,z,if_true]
     exact ih (i + 1) (by omega)
    ·have z:¬ (((g a i:Nat):Int) = ((g b i:Nat):Int)):=by omega
     have e:decide (g a i :: a.drop (i + 1) = g b i :: b.drop (i + 1)) = false:=by simp [he]
     rw [e]
     simp only [Z4.l0,c1,c2,c4,I_len',rdI,z,if_true,if_false]
     exact Ev.now _
  have key:=H a.length 0 (Nat.zero_add _)
  rw [List.drop_zero,List.drop_zero] at key
  exact key
 ·have e:decide (a = b) = false:=by
   rw [decide_eq_false_iff_not]
   intro e
   rw [e] at hl
   exact hl rfl
  simp only [I_len',hl,if_false,e]
  exact Ev.now _
end Go.Proofs.Ytoijcallajegfaa.M
end
section
/- The order of surfaces. No conditions. -/
namespace Go.Proofs.Ytoijcallajegfaa.M
set_option linter.unusedVariables false
set_option linter.unusedSimpArgs false
open Go.RowKit Go.Proofs.YtoijcallajegfaaW.PrintWords Go.Proofs.YtoijcallajegfaaW.PrintLast Go.Proofs.YtoijcallajegfaaW.PrintMore Go.Proofs.Ytoijcallajegfaa.A
theorem lexC_neg:∀ (a b:List Nat),lexC b a = - lexC a b:=by
 intro a
 induction a with
 | nil=>intro b;cases b <;> simp [lexC]
 | cons x a ih =>
  intro b
  cases b with
  | nil=>simp [lexC]
  | cons y b =>
   unfold lexC
   by_cases h1:x < y
   ·have h2:¬ y < x:=by omega
    simp [h1,h2]
   ·by_cases h2:y < x
    ·simp [h1,h2]
    ·simp [h1,h2,ih]
theorem lexC_tr:∀ (a b c:List Nat),lexC a b < 0→lexC b c < 0→lexC a c < 0:=by
 intro a
 induction a with
 | nil =>
  intro b c h1 h2
  cases c with
  | nil=>cases b <;> simp [lexC] at h1 h2
  | cons z c=>simp [lexC]
 | cons x a ih =>
  intro b c h1 h2
  cases b with
  | nil=>simp [lexC] at h1
  | cons y b =>
   cases c with
   | nil=>simp [lexC] at h2
   | cons z c =>
    unfold lexC at h1 h2 ⊢
    by_cases p1:x < y
    ·by_cases p2:y < z
     ·have:x < z:=by omega
      simp [this]
     ·by_cases p3:z < y
      ·simp [p2,p3] at h2
      ·have:x < z:=by omega
       simp [this]
    ·by_cases q1:y < x
     ·simp [p1,q1] at h1
     ·have e:x = y:=by omega
      subst e
      by_cases p2:x < z
      ·simp [p2]
      ·by_cases p3:z < x
       ·simp [p2,p3] at h2
       ·simp only [p2,p3,if_false] at h2 ⊢
        simp only [p1,q1,if_false] at h1
        exact ih b c h1 h2
theorem cmpS_eq (a b:List Nat × List Nat):cmpS a b = 0 ↔ a = b:=by
 unfold cmpS
 by_cases h:lexC a.1 b.1 = 0
 ·rw [if_pos h]
  have e:=(lexC_eq _ _).1 h
  constructor
  ·intro h2
   exact Prod.ext e ((lexC_eq _ _).1 h2)
  ·intro h2
   rw [h2]
   exact (lexC_eq _ _).2 rfl
 ·rw [if_neg h]
  constructor
  ·intro h2;exact absurd h2 h
  ·intro h2
   rw [h2] at h
   exact absurd ((lexC_eq _ _).2 rfl) h
theorem cmpS_neg (a b:List Nat × List Nat):cmpS b a = - cmpS a b:=by
 unfold cmpS
 have h1:=lexC_neg a.1 b.1
 have h2:=lexC_neg a.2 b.2
 by_cases h:lexC a.1 b.1 = 0
 ·have h':lexC b.1 a.1 = 0:=by omega
  rw [if_pos h,if_pos h',h2]
 ·have h':¬ lexC b.1 a.1 = 0:=by omega
  rw [if_neg h,if_neg h',h1]
theorem cmpS_tr (a b c:List Nat × List Nat) (h1:cmpS a b < 0) (h2:cmpS b c < 0):cmpS a c < 0:=by
 unfold cmpS at *
 by_cases p:lexC a.1 b.1 = 0
 ·rw [if_pos p] at h1
  have e:=(lexC_eq _ _).1 p
  rw [e]
  by_cases q:lexC b.1 c.1 = 0
  ·rw [if_pos q] at h2 ⊢
   exact lexC_tr _ _ _ h1 h2
  ·rw [if_neg q] at h2 ⊢
   exact h2
 ·rw [if_neg p] at h1
  by_cases q:lexC b.1 c.1 = 0
  ·rw [if_pos q] at h2
   have e:=(lexC_eq _ _).1 q
   rw [← e,if_neg p]
   exact h1
  ·rw [if_neg q] at h2
   have:=lexC_tr _ _ _ h1 h2
   rw [if_neg (by omega)]
   exact this
theorem cmpS_le_tr (a b c:List Nat × List Nat) (h1:¬ cmpS a b < 0) (h2:¬ cmpS b c < 0):¬ cmpS a c < 0:=by
 intro h3
 have n1:=cmpS_neg a b
 have n2:=cmpS_neg b c
 have n3:=cmpS_neg a c
 by_cases e1:cmpS a b = 0
 ·rw [(cmpS_eq _ _).1 e1] at h3;exact h2 h3
 ·by_cases e2:cmpS b c = 0
  ·rw [← (cmpS_eq _ _).1 e2] at h3;exact h1 h3
  ·have:=cmpS_tr c b a (by omega) (by omega)
   omega
theorem lexC_le_tr (a b c:List Nat) (h1:¬ lexC a b < 0) (h2:¬ lexC b c < 0):¬ lexC a c < 0:=by
 intro h3
 have n1:=lexC_neg a b
 have n2:=lexC_neg b c
 have n3:=lexC_neg a c
 by_cases e1:lexC a b = 0
 ·rw [(lexC_eq _ _).1 e1] at h3;exact h2 h3
 ·by_cases e2:lexC b c = 0
  ·rw [← (lexC_eq _ _).1 e2] at h3;exact h1 h3
  ·have:=lexC_tr c b a (by omega) (by omega)
   omega
end Go.Proofs.Ytoijcallajegfaa.M
end
section
/- A list of surfaces sorted, each once. No conditions. -/
namespace Go.Proofs.Ytoijcallajegfaa.M
set_option linter.unusedVariables false
set_option linter.unusedSimpArgs false
open Go.RowKit Go.Proofs.YtoijcallajegfaaW.PrintWords Go.Proofs.YtoijcallajegfaaW.PrintLast Go.Proofs.YtoijcallajegfaaW.PrintMore Go.Proofs.Ytoijcallajegfaa.A
def toN (x:S33):List Nat × List Nat:=(x.f0.map Int.toNat,x.f1.map Int.toNat)
def ofN (p:List Nat × List Nat):S33:=⟨I p.1,I p.2⟩
theorem toN_ofN (p:List Nat × List Nat):toN (ofN p) = p:=by
 have h:∀ l:List Nat,(I l).map Int.toNat = l:=fun l=>by simp [I,List.map_map,Function.comp_def]
 exact Prod.ext (h p.1) (h p.2)
def NN (l:List Int):Prop:=(∀ a ∈ l,0≤a)∧l.length≤1000000
instance (l:List Int):Decidable (NN l):=inferInstanceAs (Decidable (_∧_))
theorem NN_I {l:List Int} (h:NN l):I (l.map Int.toNat) = l:=by
 unfold I
 rw [List.map_map]
 conv=>rhs;rw [← List.map_id l]
 apply List.map_congr_left
 intro x hx
 have:=h.1 x hx
 exact Int.toNat_of_nonneg this
theorem I_NN {l:List Nat} (h:l.length≤1000000):NN (I l):=by
 refine ⟨fun a ha=>?_,by simpa [I] using h⟩
 obtain ⟨n,_,rfl⟩:=List.mem_map.1 ha
 exact Int.natCast_nonneg n
def okS (x:S33):Prop:=NN x.f0∧NN x.f1
instance (x:S33):Decidable (okS x):=inferInstanceAs (Decidable (_∧_))
theorem okS_of {x:S33} (h:okS x):ofN (toN x) = x:=by
 show (⟨I (x.f0.map Int.toNat),I (x.f1.map Int.toNat)⟩:S33) = x
 rw [NN_I h.1,NN_I h.2]
def sortS (l:List (List Nat × List Nat)):List (List Nat × List Nat):=cpt (fun a b=>decide (a = b)) (l.mergeSort (fun a b=>decide (¬ cmpS b a < 0)))
theorem sort_uniq {l l':List (List Nat × List Nat)} (hp:l'.Perm l) (hs:l'.Pairwise (fun a b=>¬ cmpS b a < 0)):l' = l.mergeSort (fun a b=>decide (¬ cmpS b a < 0)):=by
 refine List.Perm.eq_of_pairwise (le:=fun a b=>¬ cmpS b a < 0) ?_ hs ?_ (hp.trans (List.mergeSort_perm l _).symm)
 ·intro a b _ _ h1 h2
  have:=cmpS_neg a b
  exact (cmpS_eq _ _).1 (by omega)
 ·have:=List.pairwise_mergeSort (le:=fun a b=>decide (¬ cmpS b a < 0)) (fun a b c h1 h2=>decide_eq_true (cmpS_le_tr c b a (of_decide_eq_true h2) (of_decide_eq_true h1))) (fun a b=>by
   have:=cmpS_neg a b
   simp only [Bool.or_eq_true,decide_eq_true_eq]
   omega) l
  exact this.imp (fun h=>of_decide_eq_true h)
end Go.Proofs.Ytoijcallajegfaa.M
end
section
/- What comparing two surfaces leaves behind. No conditions. -/
namespace Go.Proofs.Ytoijcallajegfaa.M
set_option linter.unusedVariables false
set_option linter.unusedSimpArgs false
open Go Go.RowKit Go.Proofs.YtoijcallajegfaaW.PrintWords Go.Proofs.YtoijcallajegfaaW.PrintLast Go.Proofs.YtoijcallajegfaaW.PrintMore Go.Proofs.Ytoijcallajegfaa.A Go.Sort
def Ex (W w':World):Prop:=∃ q os',w' = grow (W.drewN q) os'
theorem Ex.refl (W:World):Ex W W:=⟨0,#[],by rw [grow_empty];rfl⟩
theorem Ex.alloc {W w':World} (h:Ex W w') (o:Obj):Ex W (w'.alloc o):=by
 obtain ⟨q,os,rfl⟩:=h
 exact ⟨q,os ++ #[o],by rw [alloc_eq_grow,grow_grow]⟩
theorem Ex.drewN {W w':World} (h:Ex W w') (n:Nat):Ex W (w'.drewN n):=by
 obtain ⟨q,os,rfl⟩:=h
 exact ⟨q + n,os,by rw [← World.drewN_drewN];rfl⟩
theorem Ex.drew {W w':World} (h:Ex W w'):Ex W w'.drew:=h.drewN 1
theorem Ex.below {W w':World} (h:Ex W w'):Go.RowKit.Below W.heap.size W w':=by
 obtain ⟨q,os,rfl⟩:=h
 refine ⟨rfl,rfl,rfl,?_,fun k hk=>?_⟩
 ·show W.heap.size≤(W.heap ++ os).size
  simp
 ·show (W.heap ++ os)[k]? = _
  rw [Array.getElem?_append_left hk]
set_option maxHeartbeats 4000000 in
set_option maxRecDepth 100000 in
theorem cmp_exact (W:World) (x y:S33) (cx cy:List Value) (hx:okS x) (hy:okS y) (h1:k33.K W x cx) (h2:k33.K W y cy) :
  Calls Try.prog 60 #[.agg cx.toArray,.agg cy.toArray] W fun e w'=>e = .returned (.int .i64 (cmpS (toN x) (toN y)))∧∃ q os',w' = grow (W.drewN q) os':=by
 obtain ⟨A0,c0,A1,c1,rfl,l0,g0,l1,g1⟩:=k33_open h1
 obtain ⟨B0,d0,B1,d1,rfl,m0,e0,m1,e1⟩:=k33_open h2
 obtain ⟨ka,hka⟩:=compare_ev (toN x).1 (toN y).1 (by have:=hx.1.2;simpa [toN] using this)
 obtain ⟨kb,hkb⟩:=compare_ev (toN x).2 (toN y).2 (by have:=hx.2.2;simpa [toN] using this)
 have ha:=hka ka (Nat.le_refl _)
 have hb:=hkb kb (Nat.le_refl _)
 have ix0:I (toN x).1 = x.f0:=NN_I hx.1
 have ix1:I (toN x).2 = x.f1:=NN_I hx.2
 have iy0:I (toN y).1 = y.f0:=NN_I hy.1
 have iy1:I (toN y).2 = y.f1:=NN_I hy.2
 rw [ix0,iy0] at ha
 rw [ix1,iy1] at hb
 have HA:Aside (∀ w',Ex W w'→Calls Try.prog 54 #[.slice A0 x.f0.length c0,.slice B0 y.f0.length d0] w' fun e w2=>e = .returned (.int .i64 (lexC (toN x).1 (toN y).1))∧∃ n,w2 = w'.drewN n):=fun w' hw=>(Z2.calls ka A0 c0 x.f0 B0 d0 y.f0 _ w' (Kd.C_below g0 hw.below) l0 (Kd.C_below e0 hw.below) m0 ha).mono fun _ _ h=>⟨h.1,by obtain ⟨n,rfl⟩:=h.2;exact ⟨n,rfl⟩⟩
 have HB:Aside (∀ w',Ex W w'→Calls Try.prog 54 #[.slice A1 x.f1.length c1,.slice B1 y.f1.length d1] w' fun e w2=>e = .returned (.int .i64 (lexC (toN x).2 (toN y).2))∧∃ n,w2 = w'.drewN n):=fun w' hw=>(Z2.calls kb A1 c1 x.f1 B1 d1 y.f1 _ w' (Kd.C_below g1 hw.below) l1 (Kd.C_below e1 hw.below) m1 hb).mono fun _ _ h=>⟨h.1,by obtain ⟨n,rfl⟩:=h.2;exact ⟨n,rfl⟩⟩
 clear ha hb hka hkb ix0 ix1 iy0 iy1 g0 g1 e0 e1 l0 l1 m0 m1 hx hy h1 h2
 have hu:=Try.underlying33
 unfold cmpS
 generalize lexC (toN x).1 (toN y).1 = ra at HA ⊢
 generalize lexC (toN x).2 (toN y).2 = rb at HB ⊢
 generalize x.f0.length = n0 at HA ⊢
 generalize x.f1.length = n1 at HB ⊢
 generalize y.f0.length = n2 at HA ⊢
 generalize y.f1.length = n3 at HB ⊢
 go_enter Try.func60,Try.ntmps60
 by_cases hr:ra = 0
 ·subst hr
  have hr1:((0:Int) != 0) = false:=rfl
  go_wp2_with (first | (go_at_call 54;(with_reducible refine (HA.out _ ?side).mono ?_);(case side=>repeat (first | (with_reducible exact Ex.refl _) | with_reducible apply Ex.alloc | with_reducible apply Ex.drewN | with_reducible apply Ex.drew));rintro e w' ⟨rfl,n,rfl⟩) | (go_at_call 54;(with_reducible refine (HB.out _ ?side).mono ?_);(case side=>repeat (first | (with_reducible exact Ex.refl _) | with_reducible apply Ex.alloc | with_reducible apply Ex.drewN | with_reducible apply Ex.drew));rintro e w' ⟨rfl,n,rfl⟩))
  go_ret
  exact ⟨rfl,by show Ex W _;repeat (first | (with_reducible exact Ex.refl _) | with_reducible apply Ex.alloc | with_reducible apply Ex.drewN | with_reducible apply Ex.drew)⟩
 ·have hr1:(ra != 0) = true:=bne_iff_ne.mpr hr
  have hr2:(ra == 0) = false:=beq_eq_false_iff_ne.mpr hr
  go_wp2_with (first | (go_at_call 54;(with_reducible refine (HA.out _ ?side).mono ?_);(case side=>repeat (first | (with_reducible exact Ex.refl _) | with_reducible apply Ex.alloc | with_reducible apply Ex.drewN | with_reducible apply Ex.drew));rintro e w' ⟨rfl,n,rfl⟩) | (go_at_call 54;(with_reducible refine (HB.out _ ?side).mono ?_);(case side=>repeat (first | (with_reducible exact Ex.refl _) | with_reducible apply Ex.alloc | with_reducible apply Ex.drewN | with_reducible apply Ex.drew));rintro e w' ⟨rfl,n,rfl⟩))
  go_ret
  exact ⟨rfl,by show Ex W _;repeat (first | (with_reducible exact Ex.refl _) | with_reducible apply Ex.alloc | with_reducible apply Ex.drewN | with_reducible apply Ex.drew)⟩
set_option maxHeartbeats 4000000 in
set_option maxRecDepth 100000 in
theorem same_exact (W:World) (x y:S33) (cx cy:List Value) (hx:okS x) (hy:okS y) (h1:k33.K W x cx) (h2:k33.K W y cy) :
  Calls Try.prog 18 #[.agg cx.toArray,.agg cy.toArray] W fun e w'=>e = .returned (.bool (decide (toN x = toN y)))∧∃ q os',w' = grow (W.drewN q) os':=by
 obtain ⟨A0,c0,A1,c1,rfl,l0,g0,l1,g1⟩:=k33_open h1
 obtain ⟨B0,d0,B1,d1,rfl,m0,e0,m1,e1⟩:=k33_open h2
 obtain ⟨ka,hka⟩:=equal_ev (toN x).1 (toN y).1 (by have:=hx.1.2;simp [toN];omega)
 obtain ⟨kb,hkb⟩:=equal_ev (toN x).2 (toN y).2 (by have:=hx.2.2;simp [toN];omega)
 have ha:=hka ka (Nat.le_refl _)
 have hb:=hkb kb (Nat.le_refl _)
 have ix0:I (toN x).1 = x.f0:=NN_I hx.1
 have ix1:I (toN x).2 = x.f1:=NN_I hx.2
 have iy0:I (toN y).1 = y.f0:=NN_I hy.1
 have iy1:I (toN y).2 = y.f1:=NN_I hy.2
 rw [ix0,iy0] at ha
 rw [ix1,iy1] at hb
 have hd:decide (toN x = toN y) = (if decide ((toN x).1 = (toN y).1) = true then decide ((toN x).2 = (toN y).2) else false):=by
  by_cases p:(toN x).1 = (toN y).1
  ·by_cases q:(toN x).2 = (toN y).2
   ·have e:toN x = toN y:=Prod.ext p q
    simp [e]
   ·have e:toN x≠toN y:=fun e=>q (by rw [e])
    simp [e,p,q]
  ·have e:toN x≠toN y:=fun e=>p (by rw [e])
   simp [e,p]
 rw [hd]
 generalize decide ((toN x).1 = (toN y).1) = ra at ha ⊢
 generalize decide ((toN x).2 = (toN y).2) = rb at hb ⊢
 have HA:Aside (∀ w',Ex W w'→Calls Try.prog 56 #[.slice A0 x.f0.length c0,.slice B0 y.f0.length d0] w' fun e w2=>e = .returned (.bool ra)∧∃ n,w2 = w'.drewN n):=fun w' hw=>(Z46.calls ka A0 c0 x.f0 B0 d0 y.f0 _ w' (Kd.C_below g0 hw.below) l0 (Kd.C_below e0 hw.below) m0 ha).mono fun _ _ h=>⟨h.1,by obtain ⟨n,rfl⟩:=h.2;exact ⟨n,rfl⟩⟩
 have HB:Aside (∀ w',Ex W w'→Calls Try.prog 56 #[.slice A1 x.f1.length c1,.slice B1 y.f1.length d1] w' fun e w2=>e = .returned (.bool rb)∧∃ n,w2 = w'.drewN n):=fun w' hw=>(Z46.calls kb A1 c1 x.f1 B1 d1 y.f1 _ w' (Kd.C_below g1 hw.below) l1 (Kd.C_below e1 hw.below) m1 hb).mono fun _ _ h=>⟨h.1,by obtain ⟨n,rfl⟩:=h.2;exact ⟨n,rfl⟩⟩
 clear ha hb hka hkb ix0 ix1 iy0 iy1 g0 g1 e0 e1 l0 l1 m0 m1 hx hy h1 h2 hd
 have hu:=Try.underlying33
 generalize x.f0.length = n0 at HA ⊢
 generalize x.f1.length = n1 at HB ⊢
 generalize y.f0.length = n2 at HA ⊢
 generalize y.f1.length = n3 at HB ⊢
 go_enter Try.func18,Try.ntmps18
 cases ra with
 | true =>
  go_wp2_with (first | (go_at_call 56;(with_reducible refine (HA.out _ ?side).mono ?_);(case side=>repeat (first | (with_reducible exact Ex.refl _) | with_reducible apply Ex.alloc | with_reducible apply Ex.drewN | with_reducible apply Ex.drew));rintro e w' ⟨rfl,n,rfl⟩) | (go_at_call 56;(with_reducible refine (HB.out _ ?side).mono ?_);(case side=>repeat (first | (with_reducible exact Ex.refl _) | with_reducible apply Ex.alloc | with_reducible apply Ex.drewN | with_reducible apply Ex.drew));rintro e w' ⟨rfl,n,rfl⟩))
  go_ret
  exact ⟨rfl,by show Ex W _;repeat (first | (with_reducible exact Ex.refl _) | with_reducible apply Ex.alloc | with_reducible apply Ex.drewN | with_reducible apply Ex.drew)⟩
 | false =>
  go_wp2_with (first | (go_at_call 56;(with_reducible refine (HA.out _ ?side).mono ?_);(case side=>repeat (first | (with_reducible exact Ex.refl _) | with_reducible apply Ex.alloc | with_reducible apply Ex.drewN | with_reducible apply Ex.drew));rintro e w' ⟨rfl,n,rfl⟩) | (go_at_call 56;(with_reducible refine (HB.out _ ?side).mono ?_);(case side=>repeat (first | (with_reducible exact Ex.refl _) | with_reducible apply Ex.alloc | with_reducible apply Ex.drewN | with_reducible apply Ex.drew));rintro e w' ⟨rfl,n,rfl⟩))
  go_ret
  exact ⟨rfl,by show Ex W _;repeat (first | (with_reducible exact Ex.refl _) | with_reducible apply Ex.alloc | with_reducible apply Ex.drewN | with_reducible apply Ex.drew)⟩
end Go.Proofs.Ytoijcallajegfaa.M
end
section
/- What the library's sort asks of this program: each by the kernel. No conditions. -/
namespace Go.Proofs
open Go.Shelf
def Try.sortA52_ren:Go.Shelf.Ren:=⟨fun | 6=>52 | 15=>104 | 14=>103 | 28=>147 | 29=>148 | 20=>139 | 21=>140 | 22=>141 | 23=>142 | 24=>143 | 25=>144 | 26=>145 | 27=>146 | 46=>178 | 47=>179 | 48=>180 | 49=>181 | 50=>182 | 57=>192 | n=>n,fun | 22=>28 | 24=>23 | 25=>64 | 3=>3 | 39=>103 | 0=>0 | 53=>134 | 55=>136 | 4=>4 | 46=>127 | 45=>126 | 50=>131 | 5=>5 | 9=>9 | 66=>149 | 70=>153 | 76=>160 | 77=>161 | n=>n,fun | n=>n⟩
theorem Try.sortA52:Go.Proofs.SlLaysF.n6 Try.prog Try.sortA52_ren:={
 mixed:=by kernel_rfl
 f6:=⟨Try.f52.name,by decide,Try.func52.trans (congrArg some (by kernel_rfl))⟩
 f14:=⟨Try.f103.name,by decide,Try.func103.trans (congrArg some (by kernel_rfl))⟩
 f15:=Try.func104.trans (congrArg some (by kernel_rfl))
 f20:=⟨Try.f139.name,by decide,Try.func139.trans (congrArg some (by kernel_rfl))⟩
 f21:=⟨Try.f140.name,by decide,Try.func140.trans (congrArg some (by kernel_rfl))⟩
 f22:=⟨Try.f141.name,by decide,Try.func141.trans (congrArg some (by kernel_rfl))⟩
 f23:=⟨Try.f142.name,by decide,Try.func142.trans (congrArg some (by kernel_rfl))⟩
 f24:=⟨Try.f143.name,by decide,Try.func143.trans (congrArg some (by kernel_rfl))⟩
 f25:=⟨Try.f144.name,by decide,Try.func144.trans (congrArg some (by kernel_rfl))⟩
 f26:=⟨Try.f145.name,by decide,Try.func145.trans (congrArg some (by kernel_rfl))⟩
 f27:=⟨Try.f146.name,by decide,Try.func146.trans (congrArg some (by kernel_rfl))⟩
 f28:=Try.func147.trans (congrArg some (by kernel_rfl))
 f29:=Try.func148.trans (congrArg some (by kernel_rfl))
 f46:=⟨Try.f178.name,by decide,Try.func178.trans (congrArg some (by kernel_rfl))⟩
 f47:=Try.func179.trans (congrArg some (by kernel_rfl))
 f48:=Try.func180.trans (congrArg some (by kernel_rfl))
 f49:=⟨Try.f181.name,by decide,Try.func181.trans (congrArg some (by kernel_rfl))⟩
 f50:=⟨Try.f182.name,by decide,Try.func182.trans (congrArg some (by kernel_rfl))⟩
 f57:=⟨Try.f192.name,by decide,Try.func192.trans (congrArg some (by kernel_rfl))⟩
 t0:=Try.underlying0
 a0:=Try.isAgg0
 z0:=Try.sizeOf0
 v0:=Try.zeroValue0
 t3:=Try.underlying3
 a3:=Try.isAgg3
 z3:=Try.sizeOf3
 v3:=Try.zeroValue3
 t4:=Try.underlying4
 a4:=Try.isAgg4
 z4:=Try.sizeOf4
 v4:=Try.zeroValue4
 t5:=Try.underlying5
 a5:=Try.isAgg5
 z5:=Try.sizeOf5
 v5:=Try.zeroValue5
 t9:=Try.underlying9
 a9:=Try.isAgg9
 z9:=Try.sizeOf9
 v9:=Try.zeroValue9
 t22:=Try.underlying28
 a22:=Try.isAgg28
 z22:=Try.sizeOf28
 v22:=Try.zeroValue28
 a24:=Try.isAgg23
 z24:=Try.sizeOf23
 t25:=Try.underlying64
 a25:=Try.isAgg64
 z25:=Try.sizeOf64
 v25:=Try.zeroValue64
 t39:=Try.underlying103
 a39:=Try.isAgg103
 z39:=Try.sizeOf103
 v39:=Try.zeroValue103
 t45:=Try.underlying126
 a45:=Try.isAgg126
 z45:=Try.sizeOf126
 v45:=Try.zeroValue126
 t46:=Try.underlying127
 a46:=Try.isAgg127
 z46:=Try.sizeOf127
 v46:=Try.zeroValue127
 t50:=Try.underlying131
 a50:=Try.isAgg131
 z50:=Try.sizeOf131
 v50:=Try.zeroValue131
 t53:=Try.underlying134
 a53:=Try.isAgg134
 z53:=Try.sizeOf134
 v53:=Try.zeroValue134
 t55:=Try.underlying136
 a55:=Try.isAgg136
 z55:=Try.sizeOf136
 v55:=Try.zeroValue136
 t66:=Try.underlying149
 a66:=Try.isAgg149
 z66:=Try.sizeOf149
 v66:=Try.zeroValue149
 t70:=Try.underlying153
 a70:=Try.isAgg153
 z70:=Try.sizeOf153
 v70:=Try.zeroValue153
 t76:=Try.underlying160
 a76:=Try.isAgg160
 z76:=Try.sizeOf160
 v76:=Try.zeroValue160
 t77:=Try.underlying161
 a77:=Try.isAgg161
 z77:=Try.sizeOf161
 v77:=Try.zeroValue161 }
def Try.sortB52_ren:Go.Shelf.Ren:=⟨fun | 6=>52 | 15=>104 | 14=>103 | 28=>147 | 29=>148 | 20=>139 | 21=>140 | 22=>141 | 23=>142 | 24=>143 | 25=>144 | 26=>145 | 27=>146 | 46=>178 | 47=>179 | 48=>180 | 49=>181 | 50=>182 | 57=>192 | n=>n,fun | 22=>28 | 24=>23 | 25=>64 | 3=>3 | 39=>103 | 0=>0 | 53=>134 | 55=>136 | 4=>4 | 46=>127 | 45=>126 | 50=>131 | 5=>5 | 9=>9 | 66=>149 | 70=>153 | 76=>160 | 77=>161 | n=>n,fun | n=>n⟩
theorem Try.sortB52:Go.Proofs.SlLaysF0.n6 Try.prog Try.sortB52_ren:={
 mixed:=by kernel_rfl
 f6:=⟨Try.f52.name,by decide,Try.func52.trans (congrArg some (by kernel_rfl))⟩
 f14:=⟨Try.f103.name,by decide,Try.func103.trans (congrArg some (by kernel_rfl))⟩
 f15:=Try.func104.trans (congrArg some (by kernel_rfl))
 f20:=⟨Try.f139.name,by decide,Try.func139.trans (congrArg some (by kernel_rfl))⟩
 f21:=⟨Try.f140.name,by decide,Try.func140.trans (congrArg some (by kernel_rfl))⟩
 f22:=⟨Try.f141.name,by decide,Try.func141.trans (congrArg some (by kernel_rfl))⟩
 f23:=⟨Try.f142.name,by decide,Try.func142.trans (congrArg some (by kernel_rfl))⟩
 f24:=⟨Try.f143.name,by decide,Try.func143.trans (congrArg some (by kernel_rfl))⟩
 f25:=⟨Try.f144.name,by decide,Try.func144.trans (congrArg some (by kernel_rfl))⟩
 f26:=⟨Try.f145.name,by decide,Try.func145.trans (congrArg some (by kernel_rfl))⟩
 f27:=⟨Try.f146.name,by decide,Try.func146.trans (congrArg some (by kernel_rfl))⟩
 f28:=Try.func147.trans (congrArg some (by kernel_rfl))
 f29:=Try.func148.trans (congrArg some (by kernel_rfl))
 f46:=⟨Try.f178.name,by decide,Try.func178.trans (congrArg some (by kernel_rfl))⟩
 f47:=Try.func179.trans (congrArg some (by kernel_rfl))
 f48:=Try.func180.trans (congrArg some (by kernel_rfl))
 f49:=⟨Try.f181.name,by decide,Try.func181.trans (congrArg some (by kernel_rfl))⟩
 f50:=⟨Try.f182.name,by decide,Try.func182.trans (congrArg some (by kernel_rfl))⟩
 f57:=⟨Try.f192.name,by decide,Try.func192.trans (congrArg some (by kernel_rfl))⟩
 t0:=Try.underlying0
 a0:=Try.isAgg0
 z0:=Try.sizeOf0
 v0:=Try.zeroValue0
 t3:=Try.underlying3
 a3:=Try.isAgg3
 z3:=Try.sizeOf3
 v3:=Try.zeroValue3
 t4:=Try.underlying4
 a4:=Try.isAgg4
 z4:=Try.sizeOf4
 v4:=Try.zeroValue4
 t5:=Try.underlying5
 a5:=Try.isAgg5
 z5:=Try.sizeOf5
 v5:=Try.zeroValue5
 t9:=Try.underlying9
 a9:=Try.isAgg9
 z9:=Try.sizeOf9
 v9:=Try.zeroValue9
 t22:=Try.underlying28
 a22:=Try.isAgg28
 z22:=Try.sizeOf28
 v22:=Try.zeroValue28
 t25:=Try.underlying64
 a25:=Try.isAgg64
 z25:=Try.sizeOf64
 v25:=Try.zeroValue64
 t39:=Try.underlying103
 a39:=Try.isAgg103
 z39:=Try.sizeOf103
 v39:=Try.zeroValue103
 t45:=Try.underlying126
 a45:=Try.isAgg126
 z45:=Try.sizeOf126
 v45:=Try.zeroValue126
 t46:=Try.underlying127
 a46:=Try.isAgg127
 z46:=Try.sizeOf127
 v46:=Try.zeroValue127
 t50:=Try.underlying131
 a50:=Try.isAgg131
 z50:=Try.sizeOf131
 v50:=Try.zeroValue131
 t53:=Try.underlying134
 a53:=Try.isAgg134
 z53:=Try.sizeOf134
 v53:=Try.zeroValue134
 t55:=Try.underlying136
 a55:=Try.isAgg136
 z55:=Try.sizeOf136
 v55:=Try.zeroValue136
 t66:=Try.underlying149
 a66:=Try.isAgg149
 z66:=Try.sizeOf149
 v66:=Try.zeroValue149
 t70:=Try.underlying153
 a70:=Try.isAgg153
 z70:=Try.sizeOf153
 v70:=Try.zeroValue153
 t76:=Try.underlying160
 a76:=Try.isAgg160
 z76:=Try.sizeOf160
 v76:=Try.zeroValue160
 t77:=Try.underlying161
 a77:=Try.isAgg161
 z77:=Try.sizeOf161
 v77:=Try.zeroValue161 }
def Try.sortA73_ren:Go.Shelf.Ren:=⟨fun | 6=>73 | 15=>104 | 14=>121 | 28=>147 | 29=>148 | 20=>153 | 21=>154 | 22=>155 | 23=>156 | 24=>157 | 25=>158 | 26=>159 | 27=>160 | 46=>184 | 47=>179 | 48=>180 | 49=>185 | 50=>186 | 57=>193 | n=>n,fun | 22=>23 | 24=>3 | 25=>79 | 3=>3 | 39=>103 | 0=>0 | 53=>134 | 55=>136 | 4=>4 | 46=>127 | 45=>126 | 50=>131 | 5=>5 | 9=>9 | 66=>149 | 70=>153 | 76=>160 | 77=>161 | n=>n,fun | n=>n⟩
theorem Try.sortA73:Go.Proofs.SlLaysF.n6 Try.prog Try.sortA73_ren:={
 mixed:=by kernel_rfl
 f6:=⟨Try.f73.name,by decide,Try.func73.trans (congrArg some (by kernel_rfl))⟩
 f14:=⟨Try.f121.name,by decide,Try.func121.trans (congrArg some (by kernel_rfl))⟩
 f15:=Try.func104.trans (congrArg some (by kernel_rfl))
 f20:=⟨Try.f153.name,by decide,Try.func153.trans (congrArg some (by kernel_rfl))⟩
 f21:=⟨Try.f154.name,by decide,Try.func154.trans (congrArg some (by kernel_rfl))⟩
 f22:=⟨Try.f155.name,by decide,Try.func155.trans (congrArg some (by kernel_rfl))⟩
 f23:=⟨Try.f156.name,by decide,Try.func156.trans (congrArg some (by kernel_rfl))⟩
 f24:=⟨Try.f157.name,by decide,Try.func157.trans (congrArg some (by kernel_rfl))⟩
 f25:=⟨Try.f158.name,by decide,Try.func158.trans (congrArg some (by kernel_rfl))⟩
 f26:=⟨Try.f159.name,by decide,Try.func159.trans (congrArg some (by kernel_rfl))⟩
 f27:=⟨Try.f160.name,by decide,Try.func160.trans (congrArg some (by kernel_rfl))⟩
 f28:=Try.func147.trans (congrArg some (by kernel_rfl))
 f29:=Try.func148.trans (congrArg some (by kernel_rfl))
 f46:=⟨Try.f184.name,by decide,Try.func184.trans (congrArg some (by kernel_rfl))⟩
 f47:=Try.func179.trans (congrArg some (by kernel_rfl))
 f48:=Try.func180.trans (congrArg some (by kernel_rfl))
 f49:=⟨Try.f185.name,by decide,Try.func185.trans (congrArg some (by kernel_rfl))⟩
 f50:=⟨Try.f186.name,by decide,Try.func186.trans (congrArg some (by kernel_rfl))⟩
 f57:=⟨Try.f193.name,by decide,Try.func193.trans (congrArg some (by kernel_rfl))⟩
 t0:=Try.underlying0
 a0:=Try.isAgg0
 z0:=Try.sizeOf0
 v0:=Try.zeroValue0
 t3:=Try.underlying3
 a3:=Try.isAgg3
 z3:=Try.sizeOf3
 v3:=Try.zeroValue3
 t4:=Try.underlying4
 a4:=Try.isAgg4
 z4:=Try.sizeOf4
 v4:=Try.zeroValue4
 t5:=Try.underlying5
 a5:=Try.isAgg5
 z5:=Try.sizeOf5
 v5:=Try.zeroValue5
 t9:=Try.underlying9
 a9:=Try.isAgg9
 z9:=Try.sizeOf9
 v9:=Try.zeroValue9
 t22:=Try.underlying23
 a22:=Try.isAgg23
 z22:=Try.sizeOf23
 v22:=Try.zeroValue23
 a24:=Try.isAgg3
 z24:=Try.sizeOf3
 t25:=Try.underlying79
 a25:=Try.isAgg79
 z25:=Try.sizeOf79
 v25:=Try.zeroValue79
 t39:=Try.underlying103
 a39:=Try.isAgg103
 z39:=Try.sizeOf103
 v39:=Try.zeroValue103
 t45:=Try.underlying126
 a45:=Try.isAgg126
 z45:=Try.sizeOf126
 v45:=Try.zeroValue126
 t46:=Try.underlying127
 a46:=Try.isAgg127
 z46:=Try.sizeOf127
 v46:=Try.zeroValue127
 t50:=Try.underlying131
 a50:=Try.isAgg131
 z50:=Try.sizeOf131
 v50:=Try.zeroValue131
 t53:=Try.underlying134
 a53:=Try.isAgg134
 z53:=Try.sizeOf134
 v53:=Try.zeroValue134
 t55:=Try.underlying136
 a55:=Try.isAgg136
 z55:=Try.sizeOf136
 v55:=Try.zeroValue136
 t66:=Try.underlying149
 a66:=Try.isAgg149
 z66:=Try.sizeOf149
 v66:=Try.zeroValue149
 t70:=Try.underlying153
 a70:=Try.isAgg153
 z70:=Try.sizeOf153
 v70:=Try.zeroValue153
 t76:=Try.underlying160
 a76:=Try.isAgg160
 z76:=Try.sizeOf160
 v76:=Try.zeroValue160
 t77:=Try.underlying161
 a77:=Try.isAgg161
 z77:=Try.sizeOf161
 v77:=Try.zeroValue161 }
def Try.sortB73_ren:Go.Shelf.Ren:=⟨fun | 6=>73 | 15=>104 | 14=>121 | 28=>147 | 29=>148 | 20=>153 | 21=>154 | 22=>155 | 23=>156 | 24=>157 | 25=>158 | 26=>159 | 27=>160 | 46=>184 | 47=>179 | 48=>180 | 49=>185 | 50=>186 | 57=>193 | n=>n,fun | 22=>23 | 24=>3 | 25=>79 | 3=>3 | 39=>103 | 0=>0 | 53=>134 | 55=>136 | 4=>4 | 46=>127 | 45=>126 | 50=>131 | 5=>5 | 9=>9 | 66=>149 | 70=>153 | 76=>160 | 77=>161 | n=>n,fun | n=>n⟩
theorem Try.sortB73:Go.Proofs.SlLaysF0.n6 Try.prog Try.sortB73_ren:={
 mixed:=by kernel_rfl
 f6:=⟨Try.f73.name,by decide,Try.func73.trans (congrArg some (by kernel_rfl))⟩
 f14:=⟨Try.f121.name,by decide,Try.func121.trans (congrArg some (by kernel_rfl))⟩
 f15:=Try.func104.trans (congrArg some (by kernel_rfl))
 f20:=⟨Try.f153.name,by decide,Try.func153.trans (congrArg some (by kernel_rfl))⟩
 f21:=⟨Try.f154.name,by decide,Try.func154.trans (congrArg some (by kernel_rfl))⟩
 f22:=⟨Try.f155.name,by decide,Try.func155.trans (congrArg some (by kernel_rfl))⟩
 f23:=⟨Try.f156.name,by decide,Try.func156.trans (congrArg some (by kernel_rfl))⟩
 f24:=⟨Try.f157.name,by decide,Try.func157.trans (congrArg some (by kernel_rfl))⟩
 f25:=⟨Try.f158.name,by decide,Try.func158.trans (congrArg some (by kernel_rfl))⟩
 f26:=⟨Try.f159.name,by decide,Try.func159.trans (congrArg some (by kernel_rfl))⟩
 f27:=⟨Try.f160.name,by decide,Try.func160.trans (congrArg some (by kernel_rfl))⟩
 f28:=Try.func147.trans (congrArg some (by kernel_rfl))
 f29:=Try.func148.trans (congrArg some (by kernel_rfl))
 f46:=⟨Try.f184.name,by decide,Try.func184.trans (congrArg some (by kernel_rfl))⟩
 f47:=Try.func179.trans (congrArg some (by kernel_rfl))
 f48:=Try.func180.trans (congrArg some (by kernel_rfl))
 f49:=⟨Try.f185.name,by decide,Try.func185.trans (congrArg some (by kernel_rfl))⟩
 f50:=⟨Try.f186.name,by decide,Try.func186.trans (congrArg some (by kernel_rfl))⟩
 f57:=⟨Try.f193.name,by decide,Try.func193.trans (congrArg some (by kernel_rfl))⟩
 t0:=Try.underlying0
 a0:=Try.isAgg0
 z0:=Try.sizeOf0
 v0:=Try.zeroValue0
 t3:=Try.underlying3
 a3:=Try.isAgg3
 z3:=Try.sizeOf3
 v3:=Try.zeroValue3
 t4:=Try.underlying4
 a4:=Try.isAgg4
 z4:=Try.sizeOf4
 v4:=Try.zeroValue4
 t5:=Try.underlying5
 a5:=Try.isAgg5
 z5:=Try.sizeOf5
 v5:=Try.zeroValue5
 t9:=Try.underlying9
 a9:=Try.isAgg9
 z9:=Try.sizeOf9
 v9:=Try.zeroValue9
 t22:=Try.underlying23
 a22:=Try.isAgg23
 z22:=Try.sizeOf23
 v22:=Try.zeroValue23
 t25:=Try.underlying79
 a25:=Try.isAgg79
 z25:=Try.sizeOf79
 v25:=Try.zeroValue79
 t39:=Try.underlying103
 a39:=Try.isAgg103
 z39:=Try.sizeOf103
 v39:=Try.zeroValue103
 t45:=Try.underlying126
 a45:=Try.isAgg126
 z45:=Try.sizeOf126
 v45:=Try.zeroValue126
 t46:=Try.underlying127
 a46:=Try.isAgg127
 z46:=Try.sizeOf127
 v46:=Try.zeroValue127
 t50:=Try.underlying131
 a50:=Try.isAgg131
 z50:=Try.sizeOf131
 v50:=Try.zeroValue131
 t53:=Try.underlying134
 a53:=Try.isAgg134
 z53:=Try.sizeOf134
 v53:=Try.zeroValue134
 t55:=Try.underlying136
 a55:=Try.isAgg136
 z55:=Try.sizeOf136
 v55:=Try.zeroValue136
 t66:=Try.underlying149
 a66:=Try.isAgg149
 z66:=Try.sizeOf149
 v66:=Try.zeroValue149
 t70:=Try.underlying153
 a70:=Try.isAgg153
 z70:=Try.sizeOf153
 v70:=Try.zeroValue153
 t76:=Try.underlying160
 a76:=Try.isAgg160
 z76:=Try.sizeOf160
 v76:=Try.zeroValue160
 t77:=Try.underlying161
 a77:=Try.isAgg161
 z77:=Try.sizeOf161
 v77:=Try.zeroValue161 }
def Try.sortB101_ren:Go.Shelf.Ren:=⟨fun | 6=>101 | 15=>104 | 14=>138 | 28=>147 | 29=>148 | 20=>170 | 21=>171 | 22=>172 | 23=>173 | 24=>174 | 25=>175 | 26=>176 | 27=>177 | 46=>189 | 47=>179 | 48=>180 | 49=>190 | 50=>191 | 57=>197 | n=>n,fun | 22=>25 | 24=>33 | 25=>69 | 3=>3 | 39=>103 | 0=>0 | 53=>134 | 55=>136 | 4=>4 | 46=>127 | 45=>126 | 50=>131 | 5=>5 | 9=>9 | 66=>149 | 70=>153 | 76=>160 | 77=>161 | n=>n,fun | n=>n⟩
theorem Try.sortB101:Go.Proofs.SlLaysF0.n6 Try.prog Try.sortB101_ren:={
 mixed:=by kernel_rfl
 f6:=⟨Try.f101.name,by decide,Try.func101.trans (congrArg some (by kernel_rfl))⟩
 f14:=⟨Try.f138.name,by decide,Try.func138.trans (congrArg some (by kernel_rfl))⟩
 f15:=Try.func104.trans (congrArg some (by kernel_rfl))
 f20:=⟨Try.f170.name,by decide,Try.func170.trans (congrArg some (by kernel_rfl))⟩
 f21:=⟨Try.f171.name,by decide,Try.func171.trans (congrArg some (by kernel_rfl))⟩
 f22:=⟨Try.f172.name,by decide,Try.func172.trans (congrArg some (by kernel_rfl))⟩
 f23:=⟨Try.f173.name,by decide,Try.func173.trans (congrArg some (by kernel_rfl))⟩
 f24:=⟨Try.f174.name,by decide,Try.func174.trans (congrArg some (by kernel_rfl))⟩
 f25:=⟨Try.f175.name,by decide,Try.func175.trans (congrArg some (by kernel_rfl))⟩
 f26:=⟨Try.f176.name,by decide,Try.func176.trans (congrArg some (by kernel_rfl))⟩
 f27:=⟨Try.f177.name,by decide,Try.func177.trans (congrArg some (by kernel_rfl))⟩
 f28:=Try.func147.trans (congrArg some (by kernel_rfl))
 f29:=Try.func148.trans (congrArg some (by kernel_rfl))
 f46:=⟨Try.f189.name,by decide,Try.func189.trans (congrArg some (by kernel_rfl))⟩
 f47:=Try.func179.trans (congrArg some (by kernel_rfl))
 f48:=Try.func180.trans (congrArg some (by kernel_rfl))
 f49:=⟨Try.f190.name,by decide,Try.func190.trans (congrArg some (by kernel_rfl))⟩
 f50:=⟨Try.f191.name,by decide,Try.func191.trans (congrArg some (by kernel_rfl))⟩
 f57:=⟨Try.f197.name,by decide,Try.func197.trans (congrArg some (by kernel_rfl))⟩
 t0:=Try.underlying0
 a0:=Try.isAgg0
 z0:=Try.sizeOf0
 v0:=Try.zeroValue0
 t3:=Try.underlying3
 a3:=Try.isAgg3
 z3:=Try.sizeOf3
 v3:=Try.zeroValue3
 t4:=Try.underlying4
 a4:=Try.isAgg4
 z4:=Try.sizeOf4
 v4:=Try.zeroValue4
 t5:=Try.underlying5
 a5:=Try.isAgg5
 z5:=Try.sizeOf5
 v5:=Try.zeroValue5
 t9:=Try.underlying9
 a9:=Try.isAgg9
 z9:=Try.sizeOf9
 v9:=Try.zeroValue9
 t22:=Try.underlying25
 a22:=Try.isAgg25
 z22:=Try.sizeOf25
 v22:=Try.zeroValue25
 t25:=Try.underlying69
 a25:=Try.isAgg69
 z25:=Try.sizeOf69
 v25:=Try.zeroValue69
 t39:=Try.underlying103
 a39:=Try.isAgg103
 z39:=Try.sizeOf103
 v39:=Try.zeroValue103
 t45:=Try.underlying126
 a45:=Try.isAgg126
 z45:=Try.sizeOf126
 v45:=Try.zeroValue126
 t46:=Try.underlying127
 a46:=Try.isAgg127
 z46:=Try.sizeOf127
 v46:=Try.zeroValue127
 t50:=Try.underlying131
 a50:=Try.isAgg131
 z50:=Try.sizeOf131
 v50:=Try.zeroValue131
 t53:=Try.underlying134
 a53:=Try.isAgg134
 z53:=Try.sizeOf134
 v53:=Try.zeroValue134
 t55:=Try.underlying136
 a55:=Try.isAgg136
 z55:=Try.sizeOf136
 v55:=Try.zeroValue136
 t66:=Try.underlying149
 a66:=Try.isAgg149
 z66:=Try.sizeOf149
 v66:=Try.zeroValue149
 t70:=Try.underlying153
 a70:=Try.isAgg153
 z70:=Try.sizeOf153
 v70:=Try.zeroValue153
 t76:=Try.underlying160
 a76:=Try.isAgg160
 z76:=Try.sizeOf160
 v76:=Try.zeroValue160
 t77:=Try.underlying161
 a77:=Try.isAgg161
 z77:=Try.sizeOf161
 v77:=Try.zeroValue161 }
end Go.Proofs
end
section
/- A list of surfaces of the call's own sorted and struck of doubles: what lies in memory. No conditions. -/
namespace Go.Proofs.Ytoijcallajegfaa.M
set_option linter.unusedVariables false
set_option linter.unusedSimpArgs false
open Go Go.RowKit Go.Proofs.YtoijcallajegfaaW.PrintWords Go.Proofs.YtoijcallajegfaaW.PrintLast Go.Proofs.YtoijcallajegfaaW.PrintMore Go.Proofs.Ytoijcallajegfaa.A Go.Sort Go.Shelf Go.Lib Go.Proofs Go.Proofs.YtoijcallajegfaaW.PrintWords.Kd
theorem holds_cels {α:Type} {d:Kd α} {Q:α→Prop} {w:World} {base e g:Nat} {ok:Nat→Prop} [Inhabited (Cel d Q w base ok)] {cur:Array Value} {n:Nat} {l:List (Cel d Q w base ok)} (hg:w.heap[g]? = some (.cells cur e (0,0))) (hll:l.length = n) (hc:n * d.sz≤cur.size) (hl:cur.toList.take (n * d.sz) = (l.map (·.c)).flatten) :
  HoldsK (fun z:Cel d Q w base ok=>z.c) d.sz w g 0 l.toArray:=by
 have hFl:=flatK_list (d:=d) (Q:=Q) (w:=w) (ok:=ok) l.toArray
 have hFs:(flatK (fun z:Cel d Q w base ok=>z.c) d.sz l.toArray).size = n * d.sz:=by rw [size_flatK];simp [hll]
 intro j hj
 rw [hFs] at hj
 have h1:cur[j]? = (flatK (fun z:Cel d Q w base ok=>z.c) d.sz l.toArray)[j]?:=by
  rw [← Array.getElem?_toList,← Array.getElem?_toList,hFl]
  show _ = (List.map _ l).flatten[j]?
  rw [← hl,List.getElem?_take,if_pos hj]
 refine ⟨?_,?_⟩
 ·show w.cell? ⟨g,0 + j,none⟩ = _
  rw [Nat.zero_add,getElem!_pos _ j (by rw [hFs];exact hj)]
  simp only [World.cell?,hg,Option.isSome_none,Bool.false_eq_true,if_false]
  rw [h1,Array.getElem?_eq_getElem (by rw [hFs];exact hj)]
  rfl
 ·simp [World.frozen?,hg]
set_option maxHeartbeats 4000000 in
set_option maxRecDepth 100000 in
theorem comp_none (A:Option Addr) (c:Nat) (fv:Value) (w:World):Calls Try.prog 102 #[.slice A 0 c,fv] w fun e w'=>e = .returned (.slice A 0 c)∧w' = w:=by
 go_enter Try.func102,Try.ntmps102
 go_wp2
 go_ret
 exact ⟨rfl,rfl⟩
def eqS (x y:S33):Bool:=decide (toN x = toN y)
theorem comp_T {w:World} {base:Nat} {ok:Nat→Prop} {v:Value} {f:Nat→Nat} {xs:List (S33 × Nat)} (h:(Kd.tag f k33).R 33 w base ok v xs) (hq:∀ x ∈ xs,okS x.1) (hsz:xs.length < 4611686018427387904) :
  Calls Try.prog 102 #[v,.func (.func 18) #[] #[]] w fun e w'=>∃ v',e = .returned v'∧CompactTo (Kd.tag f k33) (fun p q:S33 × Nat=>eqS p.1 q.1) 33 w w' base ok v v' xs:=by
 rcases Nat.eq_zero_or_pos xs.length with h0 | hp
 ·have hx:xs = []:=List.length_eq_zero_iff.1 h0
  subst hx
  obtain ⟨A,c,rfl⟩:=Kd.R_slice h
  exact (comp_none A c _ w).mono fun _ _ ⟨he,hw⟩=>⟨_,he,by rw [hw];exact ⟨h,Kept.refl _ _,Go.RowKit.Below.refl _ _⟩⟩
 ·obtain ⟨g,cap,cur,rfl,hg0,hb,hgl,hg,hn,hm,hcs,l,hl1,hl2⟩:=R_cells h hq hp
  have hll:l.length = xs.length:=by rw [← hl1,List.length_map]
  haveI:Inhabited (Cel (Kd.tag f k33) (fun p:S33 × Nat=>okS p.1) w base (fun k=>ok k∧k≠g)):=⟨l[0]'(by omega)⟩
  have hcs':xs.length * (Kd.tag f k33).sz≤cur.size:=by rw [hcs];exact Nat.mul_le_mul_right _ hn
  have hcs2:xs.length * 2≤cur.size:=hcs'
  have hH:=holds_cels hg hll hcs' hl2
  have R:RowK (fun z:Cel (Kd.tag f k33) (fun p:S33 × Nat=>okS p.1) w base (fun k=>ok k∧k≠g)=>z.c) 2 w g 0 l.toArray:=⟨fun z=>z.len,fun z=>z.one,hH,hgl⟩
  have key:=compact_walk (fun z:Cel (Kd.tag f k33) (fun p:S33 × Nat=>okS p.1) w base (fun k=>ok k∧k≠g)=>z.c) (fun p q=>eqS p.x.1 q.x.1) 18 g 0 cap l.toArray w R (enters_of Try.func18 (by kernel_rfl) rfl)
   (fun W hW p q=>by
    obtain ⟨dk,hs,m,os,rfl⟩:=hW
    have hh:∀ (z:Cel (Kd.tag f k33) (fun p:S33 × Nat=>okS p.1) w base (fun k=>ok k∧k≠g)),(k33).K (sortWorldK (fun z:Cel (Kd.tag f k33) (fun p:S33 × Nat=>okS p.1) w base (fun k=>ok k∧k≠g)=>z.c) 2 w g 0 m dk os) z.x.1 z.c:=fun z=>(k33).K_of_M (z.move (fun k hk hlt=>(row_after hg (F:=flatK (fun z:Cel (Kd.tag f k33) (fun p:S33 × Nat=>okS p.1) w base (fun k=>ok k∧k≠g)=>z.c) 2 dk) (by rw [size_flatK,hs];simpa [hll] using hcs2) rfl).2.1 k hk.2 hlt))
    exact same_exact _ p.x.1 q.x.1 p.c q.c p.q q.q (hh p) (hh q)) (by simpa [hll] using hp) (by simpa [hll] using hsz) (by simpa [hll] using hn)
  have hsz':l.toArray.size = xs.length:=by simp [hll]
  rw [hsz'] at key
  refine key.mono ?_
  rintro e' w' ⟨kk,rfl,dk,W,hC,⟨n,os,hW⟩,hw⟩
  refine ⟨_,rfl,?_⟩
  rw [← hsz'] at hC
  refine compR_of (D:=l.toArray) (dk:=dk) (F:=flatK (fun z:Cel (Kd.tag f k33) (fun p:S33 × Nat=>okS p.1) w base (fun k=>ok k∧k≠g)=>z.c) 2 dk) (m:=n) (os:=os) (W:=W) (kk:=kk) hC (by simpa using hl1) (flatK_list dk) hW ?_ hg0 hb hgl hg hn hm hcs
  rcases hw with rfl | ⟨vs,rfl⟩
  ·exact .inl rfl
  ·refine .inr ⟨vs,?_⟩
   rw [Nat.zero_add];rfl
theorem comp_S {w:World} {base:Nat} {ok:Nat→Prop} {v:Value} {xs:List S33} (h:Kd.S k33 33 w base ok v xs) (hq:∀ x ∈ xs,okS x) (hsz:xs.length < 4611686018427387904) :
  Calls Try.prog 102 #[v,.func (.func 18) #[] #[]] w fun e w'=>∃ v',e = .returned v'∧Kd.S k33 33 w' base ok v' (cpt eqS xs)∧Kept w w' (fun k=>some k = v.ownBlock)∧Go.RowKit.Below base w w':=by
 obtain ⟨f,hr⟩:=h
 refine (comp_T hr (zip_all hq) (by rw [List.length_zipIdx];exact hsz)).mono ?_
 rintro e w' ⟨v',he,h1,h2,h3⟩
 refine ⟨v',he,?_,h2,h3⟩
 have h4:=S_of_tag h1 (((cpt_sub _ xs.zipIdx).map (·.2)).nodup (zip_nodup xs))
 have h5:=cpt_map (fun p:S33 × Nat=>p.1) eqS xs.zipIdx
 rw [zip_fst] at h5
 rw [h5] at h4
 exact h4
theorem ordS:Ord3 okS (fun x y:S33=>cmpS (toN x) (toN y)) where
 irr x _:=by rw [(cmpS_eq _ _).2 rfl];omega
 tr x y z _ _ _ h1 h2:=cmpS_tr _ _ _ h1 h2
 nt x y z _ _ _ h1 h2:=cmpS_le_tr _ _ _ h1 h2
end Go.Proofs.Ytoijcallajegfaa.M
end
section
namespace Go.Proofs.Ytoijcallajegfaa.A
open Go.RowKit Go.Proofs.YtoijcallajegfaaW.PrintWords Go.Proofs.YtoijcallajegfaaW.PrintLast Go.Proofs.YtoijcallajegfaaW.PrintMore
attribute [local go_sem] max2_int min2_int max_two min_two max_three min_three max_four min_four
set_option linter.unusedVariables false
set_option linter.unusedSimpArgs false
def Z16.f (l0:List S33):Option (List S33):=if (∀ x ∈ l0,M.okS x)∧l0.length < 4611686018427387904 then some ((M.sortS (l0.map M.toN)).map M.ofN) else none
theorem Z16.eq (l xs':List S33) (hq:∀ x ∈ l,M.okS x) (hp:xs'.Perm l) (hs:xs'.Pairwise (fun a b=>¬ M.cmpS (M.toN b) (M.toN a) < 0)):M.cpt M.eqS xs' = (M.sortS (l.map M.toN)).map M.ofN:=by
 have h1:xs'.map M.toN = (l.map M.toN).mergeSort (fun a b=>decide (¬ M.cmpS b a < 0)):=M.sort_uniq (hp.map _) (by rw [List.pairwise_map];exact hs)
 have h2:(M.cpt M.eqS xs').map M.toN = M.cpt (fun a b=>decide (a = b)) (xs'.map M.toN):=M.cpt_map M.toN (fun a b=>decide (a = b)) xs'
 have h3:((M.cpt M.eqS xs').map M.toN).map M.ofN = M.cpt M.eqS xs':=by
  rw [List.map_map]
  conv=>rhs;rw [← List.map_id (M.cpt M.eqS xs')]
  apply List.map_congr_left
  intro x hx
  exact M.okS_of (hq x (hp.mem_iff.1 ((M.cpt_sub M.eqS xs').subset hx)))
 rw [← h3,h2,h1]
 rfl
set_option maxHeartbeats 8000000 in
set_option maxRecDepth 100000 in
theorem Z16.callsS (P0_:Nat→Prop) (u9000_:Value) (l0:List S33) (r:List S33) (w0 w:World) (hB:Below w0.heap.size w0 w) (ho0:Kd.S k33 33 w w0.heap.size P0_ u9000_ l0) (h:Z16.f l0 = some r) :
  Calls Try.prog 51 #[u9000_] w fun e w'=>∃ v0_:Value,e = .returned v0_∧Kd.S k33 33 w' w0.heap.size P0_ v0_ r∧Below w0.heap.size w0 w'∧Kept w w' (fun k=>some k = u9000_.ownBlock):=by
 unfold Z16.f at h
 split at h
 ·rename_i hq
  obtain rfl:=Option.some.inj h
  have HV:∃ A c,u9000_ = .slice A l0.length c:=Kd.R_slice (Kd.S_R ho0)
  obtain ⟨f_,hr_⟩:=ho0
  have hs1:=(M.sortN (d:=Kd.tag f_ k33) (Q:=fun p:S33 × Nat=>M.okS p.1) (cf:=fun p q:S33 × Nat=>M.cmpS (M.toN p.1) (M.toN q.1)) Try.sortB101 Try.isAgg33 Try.sizeOf33 M.ordS.fst 60 (enters_of Try.func60 (by kernel_rfl) rfl)
   (fun W x y cx cy hx hy h1 h2=>M.cmp_exact W x.1 y.1 cx cy hx hy h1 h2) hr_ (M.zip_all hq.1) (by rw [List.length_zipIdx];exact hq.2))
  have hs0:Calls Try.prog _ _ w fun e' w'=>e' = .returned (.tuple #[])∧M.SortedToS k33 (fun x y:S33=>M.cmpS (M.toN x) (M.toN y)) 33 w w' w0.heap.size P0_ u9000_ l0:=hs1.mono (fun e w2 h=>⟨h.1,M.sortedS_of (cf:=fun x y:S33=>M.cmpS (M.toN x) (M.toN y)) h.2⟩)
  clear hs1
  change Calls Try.prog 101 _ _ _ at hs0
  have HS:=A_ hs0
  clear hs0
  have HL:=A_ (show ∀ xs':List S33,xs'.Perm l0→(∀ x ∈ xs',M.okS x)∧xs'.length < 4611686018427387904 from fun xs' hp=>⟨fun x hx=>hq.1 x (hp.mem_iff.1 hx),by rw [hp.length_eq];exact hq.2⟩)
  have HQ:=A_ hq.1
  have HB:=A_ hB
  clear hq hr_ h hB
  obtain ⟨Av,cv,rfl⟩:=HV
  generalize l0.length = nv at HS ⊢
  go_enter Try.func51,Try.ntmps51
  go_wp2_with (first | (go_at_call 101;(with_reducible refine HS.out.mono ?_);rintro e w1 ⟨rfl,xs',hp,hs,hN,hK,hB1⟩;have HP:=A_ hp;have HO:=A_ hs;have HN:=A_ hN;have HK:=A_ hK;have HB1:=A_ hB1;clear hp hs hN hK hB1) | (go_at_call 102;(refine (M.comp_S HN.out (HL.out xs' HP.out).1 (HL.out xs' HP.out).2).mono ?_);rintro e w2 ⟨v',rfl,hC,hK2,hB2⟩;have HC:=A_ hC;have HK2:=A_ hK2;have HB2:=A_ hB2;clear hC hK2 hB2))
  go_ret
  refine ⟨_,rfl,?_,HB.out.trans (HB1.out.trans HB2.out),⟨Nat.le_trans HK.out.1 HK2.out.1,fun i hi hn=>(HK2.out.2 i (Nat.lt_of_lt_of_le hi HK.out.1) hn).trans (HK.out.2 i hi hn)⟩⟩
  rw [← Z16.eq l0 xs' HQ.out HP.out (HO.out.imp (fun h=>by omega))]
  exact HC.out
 ·cases h
end Go.Proofs.Ytoijcallajegfaa.A
end
