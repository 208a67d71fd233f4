/- Lemmas for the row FnExactStrataWith: the program's functions told as plain functions, and plain mathematics. No conditions. -/
import Derived.Shelf.SlSortCmp.NoneTotal
import Derived.Test.YtoijcallajegfaaGreatQFnExactStrataWith3
section
namespace Go.Proofs.YtoijcallajegfaaGreat.A
open Go.RowKit Go.Proofs.YtoijcallajegfaaGreatW.PrintWords Go.Proofs.YtoijcallajegfaaGreatW.PrintLast Go.Proofs.YtoijcallajegfaaGreatW.PrintMore
attribute [local go_sem] max2_int min2_int max_two min_two max_three min_three max_four min_four
set_option linter.unusedVariables false
set_option linter.unusedSimpArgs false
mutual
def Z24.j0:Nat→Int→Bool→List Int→List Int→Option (List Int)
 | 0,_,_,_,_=>none
 | k + 1,x1,x24,x494000,x494001=>if x24 = true then (some ([]:List Int)) else (if 0≤(x494000.length:Int) then (if ((x494000.length:Int):Int).toNat≤35184372088832 then ((some (List.replicate ((x494000.length:Int):Int).toNat 0:List Int)).bind fun y495=>(Z24.l0 k x1 y495 (y495.length:Int) 0 x494000 x494001)) else (none)) else (none))
def Z24.l0:Nat→Int→List Int→Int→Int→List Int→List Int→Option (List Int)
 | 0,_,_,_,_,_,_=>none
 | k + 1,x1,x5,x30,x31,x494000,x494001=>if x31 < x30 then (if 0≤x31 then (if x31 < (x5.length:Int) then (Z24.l0 k x1 (x5.set (x31:Int).toNat (-1)) x30 (wrap64 (x31 + 1)) x494000 x494001) else (none)) else (none)) else (if 0≤x1 then (if x1 < (x5.length:Int) then (Z24.l1 k (x5.set (x1:Int).toNat 0) (([x1]:List Int)) 0 x494000 x494001) else (none)) else (none))
def Z24.l1:Nat→List Int→List Int→Int→List Int→List Int→Option (List Int)
 | 0,_,_,_,_,_=>none
 | k + 1,x5,x7,x8,x494000,x494001=>if x8 < (x7.length:Int) then (if 0≤x8 then (if 0≤(rd x7 x8) then (if (rd x7 x8) < (x494000.length:Int) then (if (rd x7 x8) < (x494001.length:Int) then ((some (([rd x494000 (rd x7 x8),rd x494001 (rd x7 x8)]:List Int):List Int)).bind fun y507=>(Z24.l2 k x5 x7 x8 y507 (y507.length:Int) 0 x494000 x494001)) else (none)) else (none)) else (none)) else (none)) else (some x5)
def Z24.l2:Nat→List Int→List Int→Int→List Int→Int→Int→List Int→List Int→Option (List Int)
 | 0,_,_,_,_,_,_,_,_=>none
 | k + 1,x5,x7,x8,x65,x66,x67,x494000,x494001=>if x67 < x66 then (if 0≤x67 then (if x67 < (x65.length:Int) then (if 0≤(rd x65 x67) then (if (rd x65 x67) < (x5.length:Int) then (if (rd x5 (rd x65 x67)) < 0 then (if x7.length < 17592186044416 then (Z24.l2 k (x5.set ((rd x65 x67):Int).toNat (x7.length:Int)) (x7 ++ [rd x65 x67]) x8 x65 x66 (wrap64 (x67 + 1)) x494000 x494001) else (none)) else (Z24.l2 k x5 x7 x8 x65 x66 (wrap64 (x67 + 1)) x494000 x494001)) else (none)) else (none)) else (none)) else (none)) else (Z24.l1 k x5 x7 (wrap64 (x8 + 1)) x494000 x494001)
end
def Z24.f (k:Nat) (l0_0:List Int) (l0_1:List Int) (a1:Int):Option (List Int):=(Z26.f k l0_0 l0_1).bind fun t494=>(if t494 = true then (if a1 < 0 then (Z24.j0 k a1 true l0_0 l0_1) else (Z24.j0 k a1 (decide (a1 ≥ (l0_0.length:Int))) l0_0 l0_1)) else (Z24.j0 k a1 true l0_0 l0_1))
theorem Z24.mono_l:∀ k,(∀ y0 y1 y2 y3,LeO (Z24.j0 k y0 y1 y2 y3) (Z24.j0 (k + 1) y0 y1 y2 y3))∧(∀ y0 y1 y2 y3 y4 y5,LeO (Z24.l0 k y0 y1 y2 y3 y4 y5) (Z24.l0 (k + 1) y0 y1 y2 y3 y4 y5))∧(∀ y0 y1 y2 y3 y4,LeO (Z24.l1 k y0 y1 y2 y3 y4) (Z24.l1 (k + 1) y0 y1 y2 y3 y4))∧(∀ y0 y1 y2 y3 y4 y5 y6 y7,LeO (Z24.l2 k y0 y1 y2 y3 y4 y5 y6 y7) (Z24.l2 (k + 1) y0 y1 y2 y3 y4 y5 y6 y7))
 | 0=>⟨fun _ _ _ _ r h=>by simp [Z24.j0] at h,fun _ _ _ _ _ _ r h=>by simp [Z24.l0] at h,fun _ _ _ _ _ r h=>by simp [Z24.l1] at h,fun _ _ _ _ _ _ _ _ r h=>by simp [Z24.l2] at h⟩
 | k + 1=>by
  obtain ⟨ih0,ih1,ih2,ih3⟩:=Z24.mono_l k
  refine ⟨?_,?_,?_,?_⟩
  ·intro y0 y1 y2 y3
   unfold Z24.j0
   repeat' first|exact ih0 _ _ _ _|exact ih1 _ _ _ _ _ _|exact ih2 _ _ _ _ _|exact ih3 _ _ _ _ _ _ _ _|exact Z26.mono _ _ _|exact lo_|refine LeO.ite ?_ ?_|refine LeO.bind ?_ (fun _=>?_)
  ·intro y0 y1 y2 y3 y4 y5
   unfold Z24.l0
   repeat' first|exact ih0 _ _ _ _|exact ih1 _ _ _ _ _ _|exact ih2 _ _ _ _ _|exact ih3 _ _ _ _ _ _ _ _|exact Z26.mono _ _ _|exact lo_|refine LeO.ite ?_ ?_|refine LeO.bind ?_ (fun _=>?_)
  ·intro y0 y1 y2 y3 y4
   unfold Z24.l1
   repeat' first|exact ih0 _ _ _ _|exact ih1 _ _ _ _ _ _|exact ih2 _ _ _ _ _|exact ih3 _ _ _ _ _ _ _ _|exact Z26.mono _ _ _|exact lo_|refine LeO.ite ?_ ?_|refine LeO.bind ?_ (fun _=>?_)
  ·intro y0 y1 y2 y3 y4 y5 y6 y7
   unfold Z24.l2
   repeat' first|exact ih0 _ _ _ _|exact ih1 _ _ _ _ _ _|exact ih2 _ _ _ _ _|exact ih3 _ _ _ _ _ _ _ _|exact Z26.mono _ _ _|exact lo_|refine LeO.ite ?_ ?_|refine LeO.bind ?_ (fun _=>?_)
theorem Z24.mono:∀ a0 a1 a2 k,LeO (Z24.f k a0 a1 a2) (Z24.f (k + 1) a0 a1 a2):=by
 intro a0 a1 a2 k
 obtain ⟨ih0,ih1,ih2,ih3⟩:=Z24.mono_l k
 unfold Z24.f
 repeat' first|exact ih0 _ _ _ _|exact ih1 _ _ _ _ _ _|exact ih2 _ _ _ _ _|exact ih3 _ _ _ _ _ _ _ _|exact Z26.mono _ _ _|exact lo_|refine LeO.ite ?_ ?_|refine LeO.bind ?_ (fun _=>?_)
def Z24.T14:Bool × List (List Nat × List Nat):=(true,[([],[]),([0],[0]),([],[]),([],[]),([2,3],[2,3]),([4],[4]),([1,5],[1,5]),([6],[6]),([],[]),([8],[8]),([],[]),([],[]),([10,11],[10,11]),([12],[12]),([9,13],[9,13]),([14],[14]),([7,15],[7,15]),([16],[16]),([],[])])
def Z24.B14:List Nat:=[0,1,0,0,12,28,63,127,0,256,0,0,3072,7168,16128,32512,65535,131071,0]
theorem Z24.tab14:rtab .any (opsOf Tryz.f86 14) = Z24.T14:=by kernel_rfl
theorem Z24.bits14:waitsOk Z24.T14.2 Z24.B14 = true:=by kernel_rfl
set_option maxHeartbeats 8000000 in
set_option maxRecDepth 100000 in
theorem Z24.calls (k:Nat) (A0_0:Option Addr) (c0_0:Nat) (l0_0:List Int) (A0_1:Option Addr) (c0_1:Nat) (l0_1:List Int) (a1:Int) (r:List Int) (w:World) (hr0_0:Kd.C (Kd.int .i64) w A0_0 l0_0.length l0_0) (hc0_0:l0_0.length≤c0_0) (hr0_1:Kd.C (Kd.int .i64) w A0_1 l0_1.length l0_1) (hc0_1:l0_1.length≤c0_1) (h:Z24.f k l0_0 l0_1 a1 = some r) :
  Calls Tryz.prog 86 #[.agg #[.slice A0_0 l0_0.length c0_0,.slice A0_1 l0_1.length c0_1],.int .i64 a1] w fun e w'=>∃ v0_:Value,e = .returned (v0_)∧Kd.R (Kd.int .i64) 3 w' w.heap.size (fun _=>True) v0_ r∧Below w.heap.size w w':=by
 have hu38:=Tryz.underlying38
 have HR0_0:=A_ hr0_0
 have HC0_0:=A_ hc0_0
 clear hr0_0 hc0_0
 have HR0_1:=A_ hr0_1
 have HC0_1:=A_ hc0_1
 clear hr0_1 hc0_1
 have HB:=A_ (Below.refl w.heap.size w)
 have H:=h
 unfold Z24.f at H
 clear h
 have HC3:=A_ H
 clear H
 go_enter Tryz.func86,Tryz.ntmps86
 go_upto_region 1 with (first | ((with_reducible refine gB_ (N:=2) rfl ?_);(try (refine gate_guard (by rfl) ?_;dsimp only));refine bx_ 2 #[.slice A0_0 l0_0.length c0_0,.slice A0_1 l0_1.length c0_1] 38 ?_;intro gb493 hg w4 hbox hb;have BK493:=A_ hbox;have GW493:=gw_ w hg;have GE493:=GW493;replace HB:=b1_ hb;clear hb hbox hg))
 (try simp only [Act.put,sA_,sB_,sC_])
 go_cut [24] (fun v24 wc=>∃ (kq:Nat) (x24_2:Bool),v24 = .bool x24_2∧Aside0 (Z24.j0 kq a1 x24_2 l0_0 l0_1 = some r)∧Aside0 (kq≤k)∧Aside0 (wc.heap[gb493]? = some (.cells #[(.slice A0_0 l0_0.length c0_0),(.slice A0_1 l0_1.length c0_1)] 38 (0,0)))∧Aside0 (Below w.heap.size w wc))
 case first =>
  have H:=HC3.out
  clear HC3
  obtain ⟨t494,A5,H⟩:=bi_ H
  by_cases c6:t494 = true
  ·subst c6
   rw [if_pos rfl] at H
   by_cases c7:a1 < 0
   ·rw [if_pos c7] at H
    have c7b0:=oC_ c7
    clear c7
    (first | rw [c7b0] | (simp only [i64_w,i32_w];rw [c7b0]) | skip)
    have H':=A_ H
    clear H
    obtain ⟨hcz8_0,hcz8_1,hfz8_0,hfz8_1⟩:=c2_ BK493
    go_wp2_with (first | ((with_reducible refine gA_ (f:=88) rfl ?_);refine gL_ (some 12) Tryz.func88 #[.agg #[.slice A0_0 l0_0.length c0_0,.slice A0_1 l0_1.length c0_1]] rfl qa_ ?_;(with_reducible refine (Z26.calls k _ _ l0_0 _ _ l0_1 true _ (cb_ HR0_0) HC0_0.out (cb_ HR0_1) HC0_1.out A5.out).mono ?_);rintro e w9 ⟨rfl,hb⟩;refine ⟨_,rfl,?_⟩;replace BK493:=bb_ BK493 hb;replace HB:=b1_ hb;clear hb))
    go_meet
    case rel=>exact ⟨_,(true),qc_,H',⟨qd_⟩,⟨(kk_ BK493)⟩,⟨hB_⟩⟩
   ·rw [if_neg c7] at H
    have c7b0:=oD_ c7
    clear c7
    (first | rw [c7b0] | (simp only [i64_w,i32_w];rw [c7b0]) | skip)
    have H':=A_ H
    clear H
    obtain ⟨hcz10_0,hcz10_1,hfz10_0,hfz10_1⟩:=c2_ BK493
    go_wp2_with (first | ((with_reducible refine gA_ (f:=88) rfl ?_);refine gL_ (some 12) Tryz.func88 #[.agg #[.slice A0_0 l0_0.length c0_0,.slice A0_1 l0_1.length c0_1]] rfl qa_ ?_;(with_reducible refine (Z26.calls k _ _ l0_0 _ _ l0_1 true _ (cb_ HR0_0) HC0_0.out (cb_ HR0_1) HC0_1.out A5.out).mono ?_);rintro e w11 ⟨rfl,hb⟩;refine ⟨_,rfl,?_⟩;replace BK493:=bb_ BK493 hb;replace HB:=b1_ hb;clear hb;obtain ⟨hcz12_0,hcz12_1,hfz12_0,hfz12_1⟩:=c2_ BK493))
    go_meet
    case rel=>exact ⟨_,(decide (a1 ≥ (l0_0.length:Int))),qc_,H',⟨qd_⟩,⟨(kk_ BK493)⟩,⟨hB_⟩⟩
  ·replace c6:=Bool.eq_false_iff.mpr c6
   subst c6
   have H1:(Z24.j0 k a1 true l0_0 l0_1) = some r:=by rw [if_neg (show ¬ (false = true) by decide)] at H;exact H
   clear H
   have H:=H1
   clear H1
   have H':=A_ H
   clear H
   obtain ⟨hcz13_0,hcz13_1,hfz13_0,hfz13_1⟩:=c2_ BK493
   go_wp2_with (first | ((with_reducible refine gA_ (f:=88) rfl ?_);refine gL_ (some 12) Tryz.func88 #[.agg #[.slice A0_0 l0_0.length c0_0,.slice A0_1 l0_1.length c0_1]] rfl qa_ ?_;(with_reducible refine (Z26.calls k _ _ l0_0 _ _ l0_1 false _ (cb_ HR0_0) HC0_0.out (cb_ HR0_1) HC0_1.out A5.out).mono ?_);rintro e w14 ⟨rfl,hb⟩;refine ⟨_,rfl,?_⟩;replace BK493:=bb_ BK493 hb;replace HB:=b1_ hb;clear hb))
   go_meet
   case rel=>exact ⟨_,(true),qc_,H',⟨qd_⟩,⟨(kk_ BK493)⟩,⟨hB_⟩⟩
 case rest =>
  clear HC3
  obtain ⟨kq,x24_2,rfl,HA,HJ2,BK493,HB⟩:=hcut
  cases kq with
  | zero=>exact absurd HA.out (by simp [Z24.j0])
  | succ kj2 =>
   have H:=HA.out
   clear HA
   simp only [Z24.j0] at H
   by_cases c15:x24_2 = true
   ·subst c15
    rw [if_pos rfl] at H
    obtain rfl:=Option.some.inj H
    go_wp2
    go_ret
    exact ⟨_,qb_,by first | exact Kd.R_nil _ _ _ _ _ | exact Kd.N_nil _ _ _ _ _ | exact Kd.V_nil _ _ _ _ _ | exact Kd.Q_nil _ _ _ _ _ | exact Kd.S_nil _ _ _ _ _,hB_⟩
   ·replace c15:=Bool.eq_false_iff.mpr c15
    subst c15
    have H1:(if 0≤(l0_0.length:Int) then (if ((l0_0.length:Int):Int).toNat≤35184372088832 then ((some (List.replicate ((l0_0.length:Int):Int).toNat 0:List Int)).bind fun y495=>(Z24.l0 kj2 a1 y495 (y495.length:Int) 0 l0_0 l0_1)) else (none)) else (none)) = some r:=by rw [if_neg (show ¬ (false = true) by decide)] at H;exact H
    clear H
    have H:=H1
    clear H1
    have c16:=cp_ H
    replace H:=ca_ H
    have c16b0:=eq_true c16
    have c16b1:=oC_ c16
    clear c16
    have c17:=cp_ H
    replace H:=ca_ H
    have c17b0:=eq_true c17
    have c17b1:=oC_ c17
    clear c17
    obtain ⟨y495,hy495⟩:∃ y_:List Int,y_ = (List.replicate ((l0_0.length:Int):Int).toNat 0):=⟨_,rfl⟩
    replace H:(Z24.l0 kj2 a1 y495 (y495.length:Int) 0 l0_0 l0_1) = some r:=by first | (rw [hy495];exact H) | exact H
    have Ny495:=A_ hy495
    clear hy495
    have H':=A_ H
    clear H
    obtain ⟨hcz18_0,hcz18_1,hfz18_0,hfz18_1⟩:=c2_ BK493
    go_wp2_with (first | ((with_reducible refine gB_ (N:=28) rfl ?_);(try (refine gate_guard (by rfl) ?_;dsimp only));refine Kd.R_make (Kd.int .i64) _ 3 rfl (N:=28) rfl 27 _ _ rfl (l0_0.length:Int) rfl rfl Tryz.underlying27 (.int .i64 0) 8 info3 rfl (by decide) (by omega) 0 (ok:=fun _=>True) (okp:=fun _=>True) rfl (fun _ hk=>hk) trivial (oB_ qe_) (Nat.le_trans (Nat.mul_le_mul_right _ (oB_ qe_:(l0_0.length:Int).toNat≤35184372088832)) (by omega)) (Below.refl _ _) (nA_ _) ?_;intro v496 w19 ho20 hb hg_ hnew_;clear hg_ hnew_;(first | rw [← Ny495.out] at ho20 | (simp only [Int.reduceToNat] at ho20;rw [← Ny495.out] at ho20));have HO497:=rl_ w ho20;replace BK493:=bb_ BK493 hb;replace HB:=b1_ hb;clear hb ho20;obtain ⟨Ao21,co21,eo21⟩:=Kd.R_slice HO497.out;subst eo21))
    go_loopg [31] kj2 (fun kq v31 w'=>∃ (x5_2:List Int) (x31_2:Int),v31 = .int .i64 x31_2∧Aside0 (Z24.l0 kq a1 x5_2 (y495.length:Int) x31_2 l0_0 l0_1 = some r)∧Aside0 (kq≤kj2)∧Aside0 (Kd.R (Kd.int .i64) 3 w' w.heap.size (fun _=>True) (.slice Ao21 y495.length co21) x5_2)∧Aside0 (w'.heap[gb493]? = some (.cells #[(.slice A0_0 l0_0.length c0_0),(.slice A0_1 l0_1.length c0_1)] 38 (0,0)))∧Aside0 (Below w.heap.size w w'))
    case atStart=>exact ⟨(y495),(0),qc_,H',⟨nA_ _⟩,⟨(rr_ HO497)⟩,⟨(kk_ BK493)⟩,⟨hB_⟩⟩
    case round =>
     clear H'
     obtain ⟨x5_2,x31_2,rfl,HA,HK2,HO_5,BK493,HB⟩:=hrel
     have hl5_2:=(Kd.R_reads' HO_5.out).1
     rw [hl5_2] at HO_5
     (try simp only [hl5_2])
     (try simp only [hl5_2] at BK493)
     cases gk with
     | zero=>exact absurd HA.out (by simp [Z24.l0])
     | succ k2 =>
      have H:=HA.out
      clear HA
      simp only [Z24.l0] at H
      by_cases c22:x31_2 < (y495.length:Int)
      ·rw [if_pos c22] at H
       have c22b0:=oC_ c22
       clear c22
       have c23:=cp_ H
       replace H:=ca_ H
       have c23b0:=oC_ c23
       clear c23
       have c24:=cp_ H
       replace H:=ca_ H
       have c24b0:=oC_ c24
       clear c24
       obtain ⟨y498,hy498⟩:∃ y_:List Int,y_ = (x5_2.set (x31_2:Int).toNat (-1)):=⟨_,rfl⟩
       replace H:(Z24.l0 k2 a1 y498 (y495.length:Int) (wrap64 (x31_2 + 1)) l0_0 l0_1) = some r:=by first | (rw [hy498];exact H) | exact H
       have Ny498:=A_ hy498
       clear hy498
       have H':=A_ H
       clear H
       have p25:0≤(x31_2:Int):=oB_ qe_
       have q25:(x31_2:Int) < ((x5_2.length:Int):Int):=oB_ qe_
       obtain ⟨go25,co25,eo25,gb25,gl25,cl25,HG25⟩:=Kd.R_form HO_5.out (by omega)
       (first | cases eo25 | (injection eo25 with ea_ en_ ec_;(first | subst ea_ | (injection ea_ with ea_;subst ea_));subst ec_;clear en_))
       have GB25:=A_ gb25
       have GG25:=A_ HG25
       clear gb25 gl25 HG25
       obtain ⟨hx25_0,hf25_0⟩:=Kd.R_celln 0 HO_5.out (x31_2:Int) p25 q25
       replace p25:=eq_true p25
       replace q25:=eq_true q25
       have HP26:=Kd.R_putg HO_5.out (x31_2:Int) (-1)
       go_wp2_with (first | ((with_reducible refine gate_store (t:=3) (p:=36) rfl ?_);refine store_event (t:=3) (p:=36) (v:=?vo_w27) (w1:=(wr.setCell ⟨go25,(x31_2:Int).toNat,none⟩ (.int .i64 (-1)))) ?hg ?ho ?hn ?hr ?_;(case ho=>rfl);(case hg=>rfl);(case hn=>rfl);(case hr=>first | (go_simp;done) | (go_simp;rfl));intro w27 hw;have hg:wr.grownBy w27 (some go25):=(by rw [hw];exact HP26.2);have hp_:Kd.R (Kd.int .i64) 3 w27 w.heap.size (fun _=>True) (.slice (some ⟨go25,0,none⟩) x5_2.length co21) y498:=(by rw [hw,Ny498.out];exact HP26.1);clear HP26;replace BK493:=A_ (blk_grown (kk_ BK493) hg (Kd.R_ne HO_5.out BK493.out (by decide)));replace HO_5:=A_ (hp_);replace HB:=A_ ((by rw [hw];exact bD_ (HB.out) GB25.out:Below w.heap.size w w27));clear hg hw hp_))
       (try simp only [← hl5_2])
       go_roundg k2
       case measure=>have:=HJ2.out;have:=HK2.out;omega
       case rel=>exact ⟨(y498),(wrap64 (x31_2 + 1)),qc_,H',⟨by have:=HJ2.out;have:=HK2.out;omega⟩,⟨by (try simp only [hl5_2]);(with_reducible repeat (first | apply rA_ | apply rB_ | apply rC_));exact HO_5.out⟩,⟨by (try simp only [hl5_2]);(with_reducible repeat (first | refine kA_ ?_ _ | refine kB_ ?_ | refine kC_ ?_ _));exact BK493.out⟩,⟨hB_⟩⟩
      ·rw [if_neg c22] at H
       have c22b0:=oD_ c22
       (try simp only [hl5_2] at c22b0)
       clear c22
       have c28:=cp_ H
       replace H:=ca_ H
       have c28b0:=oC_ c28
       clear c28
       have c29:=cp_ H
       replace H:=ca_ H
       have c29b0:=oC_ c29
       clear c29
       obtain ⟨y499,hy499⟩:∃ y_:List Int,y_ = (x5_2.set (a1:Int).toNat 0):=⟨_,rfl⟩
       replace H:(Z24.l1 k2 y499 (([a1]:List Int)) 0 l0_0 l0_1) = some r:=by first | (rw [hy499];exact H) | exact H
       have Ny499:=A_ hy499
       clear hy499
       obtain ⟨y500,hy500⟩:∃ y_:List Int,y_ = (([a1]:List Int)):=⟨_,rfl⟩
       replace H:(Z24.l1 k2 y499 y500 0 l0_0 l0_1) = some r:=by first | (rw [hy500];exact H) | exact H
       have Ny500:=A_ hy500
       clear hy500
       have H':=A_ H
       clear H
       have p30:0≤(a1:Int):=oB_ qe_
       have q30:(a1:Int) < ((x5_2.length:Int):Int):=oB_ qe_
       obtain ⟨go30,co30,eo30,gb30,gl30,cl30,HG30⟩:=Kd.R_form HO_5.out (by omega)
       (first | cases eo30 | (injection eo30 with ea_ en_ ec_;(first | subst ea_ | (injection ea_ with ea_;subst ea_));subst ec_;clear en_))
       have GB30:=A_ gb30
       have GG30:=A_ HG30
       clear gb30 gl30 HG30
       obtain ⟨hx30_0,hf30_0⟩:=Kd.R_celln 0 HO_5.out (a1:Int) p30 q30
       replace p30:=eq_true p30
       replace q30:=eq_true q30
       have HP31:=Kd.R_putg HO_5.out (a1:Int) 0
       go_wp2_with (first | ((with_reducible refine gate_store (t:=3) (p:=40) rfl ?_);refine store_event (t:=3) (p:=40) (v:=?vo_w32) (w1:=(wr.setCell ⟨go30,(a1:Int).toNat,none⟩ (.int .i64 0))) ?hg ?ho ?hn ?hr ?_;(case ho=>rfl);(case hg=>rfl);(case hn=>rfl);(case hr=>first | (go_simp;done) | (go_simp;rfl));intro w32 hw;have hg:wr.grownBy w32 (some go30):=(by rw [hw];exact HP31.2);have hp_:Kd.R (Kd.int .i64) 3 w32 w.heap.size (fun _=>True) (.slice (some ⟨go30,0,none⟩) x5_2.length co21) y499:=(by rw [hw,Ny499.out];exact HP31.1);clear HP31;replace BK493:=A_ (blk_grown (kk_ BK493) hg (Kd.R_ne HO_5.out BK493.out (by decide)));replace HO_5:=A_ (hp_);replace HB:=A_ ((by rw [hw];exact bD_ (HB.out) GB30.out:Below w.heap.size w w32));clear hg hw hp_) | ((with_reducible refine gB_ (N:=42) rfl ?_);(try (refine gate_guard (by rfl) ?_;dsimp only));refine Kd.R_lit (Kd.int .i64) _ 3 ?hg (N:=42) ?hd (xs:=([a1]:List Int)) (inner:=[.int .i64 a1]) (ok:=fun _=>True) (okp:=fun _=>True) ?hr ?hp (fun _ hk=>hk) trivial (Below.refl _ _) (nA_ _) (by simp) ?_;(case hd=>rfl);(case hg=>rfl);(case hr=>first | (go_simp;done) | (go_simp;rfl));(case hp=>exact (Reps.one (show Kd.M (Kd.int .i64) _ _ _ a1 [.int .i64 a1] from rfl) (Reps.none _ _)));intro v501 w33 ho34 hb hg_ hnew_;clear hg_ hnew_;(first | rw [← Ny500.out] at ho34 | (simp only [Int.reduceToNat] at ho34;rw [← Ny500.out] at ho34));have HO502:=A_ (rE_ (Kd.R_new' ho34 (Kd.R_lt (rr_ HO_5))) (bF_ hB_));replace HO_5:=A_ (Kd.R_elder' (rr_ HO_5) (Kd.R_base ho34) hb);replace BK493:=bb_ BK493 hb;replace HB:=b1_ hb;clear hb ho34))
       go_loopg [7,8] k2 (fun kq v7 v8 w'=>∃ (x5_3:List Int) (x7_3:List Int) (x8_3:Int),v8 = .int .i64 x8_3∧Aside0 (Z24.l1 kq x5_3 x7_3 x8_3 l0_0 l0_1 = some r)∧Aside0 (kq≤k2)∧Aside0 (Kd.R (Kd.int .i64) 3 w' w.heap.size (fun k_=>some k_≠(v7:Value).ownBlock) (.slice (some ⟨go30,0,none⟩) x5_2.length co21) x5_3)∧Aside0 (Kd.R (Kd.int .i64) 3 w' w.heap.size (fun k_=>some k_≠((.slice (some ⟨go30,0,none⟩) x5_2.length co21):Value).ownBlock) v7 x7_3)∧Aside0 (w'.heap[gb493]? = some (.cells #[(.slice A0_0 l0_0.length c0_0),(.slice A0_1 l0_1.length c0_1)] 38 (0,0)))∧Aside0 (Below w.heap.size w w'))
       case atStart=>exact ⟨(y499),(y500),(0),qc_,H',⟨nA_ _⟩,⟨by (try simp only [hl5_2]);(with_reducible repeat (first | apply rA_ | apply rB_ | apply rC_));exact Kd.R_mono HO_5.out (fun _ hk=>hk.2)⟩,⟨by (try simp only [hl5_2]);(with_reducible repeat (first | apply rA_ | apply rB_ | apply rC_));exact Kd.R_mono HO502.out (fun _ hk=>hk.2)⟩,⟨by (try simp only [hl5_2]);(with_reducible repeat (first | refine kA_ ?_ _ | refine kB_ ?_ | refine kC_ ?_ _));exact BK493.out⟩,⟨hB_⟩⟩
       case round =>
        clear H'
        obtain ⟨x5_3,x7_3,x8_3,rfl,HA,HK3,HO_5,HO_7,BK493,HB⟩:=hrel
        have hl5_3:=(Kd.R_reads' HO_5.out).1
        rw [hl5_3] at HO_5
        (try simp only [hl5_3])
        (try simp only [hl5_3] at BK493)
        (try simp only [hl5_3] at HO_7)
        cases gk with
        | zero=>exact absurd HA.out (by simp [Z24.l1])
        | succ k3 =>
         have H:=HA.out
         clear HA
         simp only [Z24.l1] at H
         by_cases c35:x8_3 < (x7_3.length:Int)
         ·rw [if_pos c35] at H
          have c35b0:=oC_ c35
          clear c35
          have c36:=cp_ H
          replace H:=ca_ H
          have c36b0:=oC_ c36
          clear c36
          have c37:=cp_ H
          replace H:=ca_ H
          have c37b0:=oC_ c37
          clear c37
          have c38:=cp_ H
          replace H:=ca_ H
          have c38b0:=oC_ c38
          clear c38
          have c39:=cp_ H
          replace H:=ca_ H
          have c39b0:=oC_ c39
          clear c39
          obtain ⟨y507,hy507⟩:∃ y_:List Int,y_ = (([rd l0_0 (rd x7_3 x8_3),rd l0_1 (rd x7_3 x8_3)]:List Int)):=⟨_,rfl⟩
          replace H:(Z24.l2 k3 x5_3 x7_3 x8_3 y507 (y507.length:Int) 0 l0_0 l0_1) = some r:=by first | (rw [hy507];exact H) | exact H
          have Ny507:=A_ hy507
          clear hy507
          have H':=A_ H
          clear H
          obtain ⟨Ao40,co40,eo40⟩:=Kd.R_slice HO_7.out
          subst eo40
          try go_wp2
          replace HO_5:=A_ (rC_ HO_5.out)
          replace HO_7:=A_ (rC_ HO_7.out)
          replace BK493:=A_ (kB_ BK493.out)
          replace HB:=A_ (bC_ HB.out)
          have p503:0≤(x8_3:Int):=oB_ qe_
          have q503:x8_3 < (x7_3.length:Int):=oB_ qe_
          obtain ⟨ad503,e503,hx503_0⟩:=Kd.at_int (Kd.R_reads' HO_7.out).2.2 x8_3 p503 q503
          cases e503
          replace p503:=eq_true p503
          replace q503:=eq_true q503
          have p504:0≤((rd x7_3 x8_3):Int):=oB_ qe_
          have q504:(rd x7_3 x8_3) < (l0_0.length:Int):=oB_ qe_
          obtain ⟨ad504,e504,hx504_0⟩:=Kd.at_int HR0_0.out (rd x7_3 x8_3) p504 q504
          have hw504_0:=hx504_0
          cases e504
          replace hx504_0:=(HB.out.cell (World.block_lt_of_cell? w _ hx504_0)).trans hx504_0
          replace p504:=eq_true p504
          replace q504:=eq_true q504
          have p505:0≤(x8_3:Int):=oB_ qe_
          have q505:x8_3 < (x7_3.length:Int):=oB_ qe_
          obtain ⟨ad505,e505,hx505_0⟩:=Kd.at_int (Kd.R_reads' HO_7.out).2.2 x8_3 p505 q505
          obtain rfl:ad503 = ad505:=(by injection e505)
          replace p505:=eq_true p505
          replace q505:=eq_true q505
          have p506:0≤((rd x7_3 x8_3):Int):=oB_ qe_
          have q506:(rd x7_3 x8_3) < (l0_1.length:Int):=oB_ qe_
          obtain ⟨ad506,e506,hx506_0⟩:=Kd.at_int HR0_1.out (rd x7_3 x8_3) p506 q506
          have hw506_0:=hx506_0
          cases e506
          replace hx506_0:=(HB.out.cell (World.block_lt_of_cell? w _ hx506_0)).trans hx506_0
          replace p506:=eq_true p506
          replace q506:=eq_true q506
          refine start_ (n:=19) (S:=fun w'=>w'.cell? ⟨gb493,0,none⟩ = some (.slice (some ad504) l0_0.length c0_0)∧w'.cell? ⟨gb493,1,none⟩ = some (.slice (some ad506) l0_1.length c0_1)∧w'.cell? (ad503.add (x8_3).toNat) = some (.int .i64 (rd x7_3 x8_3))∧w'.cell? (ad504.add ((rd x7_3 x8_3)).toNat) = some (.int .i64 (rd l0_0 (rd x7_3 x8_3)))∧w'.cell? (ad503.add (x8_3).toNat) = some (.int .i64 (rd x7_3 x8_3))∧w'.cell? (ad506.add ((rd x7_3 x8_3)).toNat) = some (.int .i64 (rd l0_1 (rd x7_3 x8_3)))) (ds:=[]) (bl_ 19 0) (by kernel_rfl) rfl (by kernel_rfl) ⟨cz0_ BK493,cz1_ BK493,hx503_0,((HB.out.cell (World.block_lt_of_cell? w _ hw504_0)).trans hw504_0),hx505_0,((HB.out.cell (World.block_lt_of_cell? w _ hw506_0)).trans hw506_0)⟩ (fun hHeld=>?_);refine with_tabW Z24.tab14 Z24.bits14 (fun HT_ HW_=>?_)
          generalize wr.drew = w41 at HO_5 HO_7 BK493 HB hx503_0 hx504_0 hx505_0 hx506_0 hHeld ⊢
          refine pu_ 0 (some 49) (bl_ 19 1) HT_ ?_
          refine pu_ 2 (some 51) (bl_ 19 5) HT_ ?_
          refine pu_ 3 (some 52) (bl_ 19 13) HT_ ?_
          refine pu_ 4 (some 53) (bl_ 19 29) HT_ ?_
          refine pu_ 8 (some 57) (bl_ 19 285) HT_ ?_
          refine pu_ 10 (some 59) (bl_ 19 1309) HT_ ?_
          refine pu_ 11 (some 60) (bl_ 19 3357) HT_ ?_
          refine pu_ 12 (some 61) (bl_ 19 7453) HT_ ?_
          refine pu_ 18 (some 67) (bl_ 19 269597) HT_ ?_
          refine ta_ 1 (some 50) (bl_ 19 269599) HT_ HW_ hHeld ?_
          refine ta_ 5 (some 54) (bl_ 19 269631) HT_ HW_ hHeld ?_
          refine pu_ 6 (some 55) (bl_ 19 269695) HT_ ?_
          refine ta_ 7 (some 56) (bl_ 19 269823) HT_ HW_ hHeld ?_
          refine ta_ 9 (some 58) (bl_ 19 270335) HT_ HW_ hHeld ?_
          refine ta_ 13 (some 62) (bl_ 19 278527) HT_ HW_ hHeld ?_
          refine pu_ 14 (some 63) (bl_ 19 294911) HT_ ?_
          refine ta_ 15 (some 64) (bl_ 19 327679) HT_ HW_ hHeld ?_
          refine on_ 16 (some 65) (bl_ 19 393215) HT_ (fun K hK=>?_)
          refine Kd.R_lit_step (Kd.int .i64) _ 3 ?hg (N:=65) ?hd (xs:=([rd l0_0 (rd x7_3 x8_3),rd l0_1 (rd x7_3 x8_3)]:List Int)) (inner:=[.int .i64 (rd l0_0 (rd x7_3 x8_3)),.int .i64 (rd l0_1 (rd x7_3 x8_3))]) (ok:=fun _=>True) (okp:=fun _=>True) ?hr ?hp (fun _ hk=>hk) trivial (Below.refl _ _) (nA_ _) (by simp) ?_;(case hd=>rfl);(case hg=>rfl);(case hr=>first | (go_simp;done) | (go_simp;rfl));(case hp=>exact (Reps.one (show Kd.M (Kd.int .i64) _ _ _ (rd l0_0 (rd x7_3 x8_3)) [.int .i64 (rd l0_0 (rd x7_3 x8_3))] from rfl) (Reps.one (show Kd.M (Kd.int .i64) _ _ _ (rd l0_1 (rd x7_3 x8_3)) [.int .i64 (rd l0_1 (rd x7_3 x8_3))] from rfl) (Reps.none _ _))))
          intro v508 w42 ho43 hb hg_ hnew_
          have HS2_:=(hb.cell (World.block_lt_of_cell? _ _ (hHeld.2.2.1))).trans (hHeld.2.2.1)
          have HS4_:=(hb.cell (World.block_lt_of_cell? _ _ (hHeld.2.2.2.2.1))).trans (hHeld.2.2.2.2.1)
          clear hg_ hnew_
          (first | rw [← Ny507.out] at ho43 | (simp only [Int.reduceToNat] at ho43;rw [← Ny507.out] at ho43))
          have HO509:=A_ (rE_ (Kd.R_new' (Kd.R_new' ho43 (Kd.R_lt (rr_ HO_5))) (Kd.R_lt (rr_ HO_7))) (bF_ hB_))
          replace HO_5:=A_ (Kd.R_elder' (rr_ HO_5) (Kd.R_base ho43) hb)
          replace HO_7:=A_ (Kd.R_elder' (rr_ HO_7) (Kd.R_base ho43) hb)
          replace BK493:=bb_ BK493 hb
          replace HB:=b1_ hb
          clear hb ho43
          obtain ⟨Ao44,co44,eo44⟩:=Kd.R_slice HO509.out
          (first | subst eo44 | (injection eo44 with f1_ f2_ f3_;have f4_:=f1_.symm;have f5_:=f3_.symm;clear f1_ f2_ f3_;subst f4_;subst f5_))
          refine hK.out _ _ ⟨cz0_ BK493,cz1_ BK493,HS2_,((HB.out.cell (World.block_lt_of_cell? w _ hw504_0)).trans hw504_0),HS4_,((HB.out.cell (World.block_lt_of_cell? w _ hw506_0)).trans hw506_0)⟩ (fun hHeld=>?_)
          clear hK K
          refine no_ (some 65) ?_
          refine pu_ 17 (some 66) (bl_ 19 524287) HT_ ?_
          refine done_ (done_of HT_.out (by kernel_rfl)) ?_
          try go_wp2
          go_loopg [7,67] k3 (fun kq v7 v67 w'=>∃ (x5_4:List Int) (x7_4:List Int) (x67_4:Int),v67 = .int .i64 x67_4∧Aside0 (Z24.l2 kq x5_4 x7_4 x8_3 y507 (y507.length:Int) x67_4 l0_0 l0_1 = some r)∧Aside0 (kq≤k3)∧Aside0 (Kd.R (Kd.int .i64) 3 w' w.heap.size (fun k_=>some k_≠(v7:Value).ownBlock∧some k_≠((.slice Ao44 y507.length co44):Value).ownBlock) (.slice (some ⟨go30,0,none⟩) x5_3.length co21) x5_4)∧Aside0 (Kd.R (Kd.int .i64) 3 w' w.heap.size (fun k_=>some k_≠((.slice (some ⟨go30,0,none⟩) x5_3.length co21):Value).ownBlock∧some k_≠((.slice Ao44 y507.length co44):Value).ownBlock) v7 x7_4)∧Aside0 (Kd.R (Kd.int .i64) 3 w' w.heap.size (fun k_=>some k_≠((.slice (some ⟨go30,0,none⟩) x5_3.length co21):Value).ownBlock∧some k_≠(v7:Value).ownBlock) (.slice Ao44 y507.length co44) y507)∧Aside0 (w'.heap[gb493]? = some (.cells #[(.slice (some ad504) l0_0.length c0_0),(.slice (some ad506) l0_1.length c0_1)] 38 (0,0)))∧Aside0 (Below w.heap.size w w'))
          case atStart=>exact ⟨(x5_3),(x7_3),(0),qc_,H',⟨nA_ _⟩,⟨by (try simp only [hl5_2]);(try simp only [hl5_3]);(with_reducible repeat (first | apply rA_ | apply rB_ | apply rC_));exact HO_5.out⟩,⟨by (try simp only [hl5_2]);(try simp only [hl5_3]);(with_reducible repeat (first | apply rA_ | apply rB_ | apply rC_));exact HO_7.out⟩,⟨by (try simp only [hl5_2]);(try simp only [hl5_3]);(with_reducible repeat (first | apply rA_ | apply rB_ | apply rC_));exact Kd.R_mono HO509.out (fun _ hk=>⟨hk.1.2,hk.2⟩)⟩,⟨by (try simp only [hl5_2]);(try simp only [hl5_3]);(with_reducible repeat (first | refine kA_ ?_ _ | refine kB_ ?_ | refine kC_ ?_ _));exact BK493.out⟩,⟨hB_⟩⟩
          case round =>
           clear H'
           obtain ⟨x5_4,x7_4,x67_4,rfl,HA,HK4,HO_5,HO_7,HO_65,BK493,HB⟩:=hrel
           have hl5_4:=(Kd.R_reads' HO_5.out).1
           rw [hl5_4] at HO_5
           (try simp only [hl5_4])
           (try simp only [hl5_4] at BK493)
           (try simp only [hl5_4] at HO_7)
           (try simp only [hl5_4] at HO_65)
           cases gk with
           | zero=>exact absurd HA.out (by simp [Z24.l2])
           | succ k4 =>
            have H:=HA.out
            clear HA
            simp only [Z24.l2] at H
            by_cases c45:x67_4 < (y507.length:Int)
            ·rw [if_pos c45] at H
             have c45b0:=oC_ c45
             clear c45
             have c46:=cp_ H
             replace H:=ca_ H
             have c46b0:=oC_ c46
             clear c46
             have c47:=cp_ H
             replace H:=ca_ H
             have c47b0:=oC_ c47
             clear c47
             have c48:=cp_ H
             replace H:=ca_ H
             have c48b0:=oC_ c48
             clear c48
             have c49:=cp_ H
             replace H:=ca_ H
             have c49b0:=oC_ c49
             clear c49
             by_cases c50:(rd x5_4 (rd y507 x67_4)) < 0
             ·rw [if_pos c50] at H
              have c50b0:=oC_ c50
              clear c50
              obtain ⟨y512,hy512⟩:∃ y_:List Int,y_ = (x5_4.set ((rd y507 x67_4):Int).toNat (x7_4.length:Int)):=⟨_,rfl⟩
              replace H:(if x7_4.length < 17592186044416 then (Z24.l2 k4 y512 (x7_4 ++ [rd y507 x67_4]) x8_3 y507 (y507.length:Int) (wrap64 (x67_4 + 1)) l0_0 l0_1) else (none)) = some r:=by first | (rw [hy512];exact H) | exact H
              have Ny512:=A_ hy512
              clear hy512
              have c52:=cp_ H
              replace H:=ca_ H
              have LMc52:=A_ c52
              clear c52
              obtain ⟨y513,hy513⟩:∃ y_:List Int,y_ = (x7_4 ++ [rd y507 x67_4]):=⟨_,rfl⟩
              replace H:(Z24.l2 k4 y512 y513 x8_3 y507 (y507.length:Int) (wrap64 (x67_4 + 1)) l0_0 l0_1) = some r:=by first | (rw [hy513];exact H) | exact H
              have Ny513:=A_ hy513
              clear hy513
              have H':=A_ H
              clear H
              have p510:0≤(x67_4:Int):=oB_ qe_
              have q510:x67_4 < (y507.length:Int):=oB_ qe_
              obtain ⟨ad510,e510,hx510_0⟩:=Kd.at_int (Kd.R_reads' HO_65.out).2.2 x67_4 p510 q510
              cases e510
              replace p510:=eq_true p510
              replace q510:=eq_true q510
              have p511:0≤((rd y507 x67_4):Int):=oB_ qe_
              have q511:(rd y507 x67_4) < (x5_4.length:Int):=oB_ qe_
              obtain ⟨ad511,e511,hx511_0⟩:=Kd.at_int (Kd.R_reads' HO_5.out).2.2 (rd y507 x67_4) p511 q511
              obtain rfl:(⟨go30,0,none⟩:Addr) = ad511:=(by injection e511)
              (first | simp only [add_plain] at hx511_0 | simp only [add_at] at hx511_0 | simp only [Addr.add,Nat.zero_add] at hx511_0 | skip)
              replace p511:=eq_true p511
              replace q511:=eq_true q511
              obtain ⟨Ao53,co53,eo53⟩:=Kd.R_slice HO_7.out
              subst eo53
              have p51:0≤((rd y507 x67_4):Int):=oB_ qe_
              have q51:((rd y507 x67_4):Int) < ((x5_4.length:Int):Int):=oB_ qe_
              obtain ⟨hx51_0,hf51_0⟩:=Kd.R_celln 0 HO_5.out ((rd y507 x67_4):Int) p51 q51
              replace p51:=eq_true p51
              replace q51:=eq_true q51
              have HP54:=Kd.R_putg HO_5.out ((rd y507 x67_4):Int) (x7_4.length:Int)
              go_wp2_with (first | ((with_reducible refine gate_store (t:=3) (p:=80) rfl ?_);refine store_event (t:=3) (p:=80) (v:=?vo_w55) (w1:=(wr.setCell ⟨go30,((rd y507 x67_4):Int).toNat,none⟩ (.int .i64 (x7_4.length:Int)))) ?hg ?ho ?hn ?hr ?_;(case ho=>rfl);(case hg=>rfl);(case hn=>rfl);(case hr=>first | (go_simp;done) | (go_simp;rfl));intro w55 hw;have hg:wr.grownBy w55 (some go30):=(by rw [hw];exact HP54.2);have hp_:Kd.R (Kd.int .i64) 3 w55 w.heap.size (fun k_=>some k_≠(.slice Ao53 x7_4.length co53:Value).ownBlock∧some k_≠(.slice (some ad510) y507.length co44:Value).ownBlock) (.slice (some ⟨go30,0,none⟩) x5_4.length co21) y512:=(by rw [hw,Ny512.out];exact HP54.1);clear HP54;replace HO_7:=A_ (Kd.R_after (v:=(.slice (some ⟨go30,0,none⟩) x5_4.length co21)) (v1:=(.slice (some ⟨go30,0,none⟩) x5_4.length co21)) (ok:=(fun k_=>some k_≠(.slice (some ad510) y507.length co44:Value).ownBlock)) (rw_ (Kd.R_mono HO_7.out (fun _ hk=>⟨hk.2,hk.1⟩))) hg (.inl rfl));replace HO_65:=A_ (Kd.R_after (v:=(.slice (some ⟨go30,0,none⟩) x5_4.length co21)) (v1:=(.slice (some ⟨go30,0,none⟩) x5_4.length co21)) (ok:=(fun k_=>some k_≠(.slice Ao53 x7_4.length co53:Value).ownBlock)) (rw_ (Kd.R_mono HO_65.out (fun _ hk=>⟨hk.2,hk.1⟩))) hg (.inl rfl));replace BK493:=A_ (blk_grown (kk_ BK493) hg (Kd.R_ne HO_5.out BK493.out (by decide)));replace HO_5:=A_ (hp_);replace HB:=A_ ((by rw [hw];exact bD_ (HB.out) GB30.out:Below w.heap.size w w55));clear hg hw hp_) | ((with_reducible refine gate_builtin (b:=.append) (xs:=#[.tmp 81,.tmp 83]) rfl ?_);(try (refine gate_guard (by rfl) ?_;dsimp only));at_builtin;refine Kd.R_append (Kd.int .i64) (w0:=w) w.heap.size rfl (.tmp 81) (.tmp 83) 27 3 (.int .i64 0) 8 rfl Tryz.underlying27 info3 rfl (by decide) (by omega) (.slice Ao53 x7_4.length co53) x7_4 (rd y507 x67_4) [.int .i64 (rd y507 x67_4)] (fun k_=>some k_≠(.slice (some ⟨go30,0,none⟩) x5_4.length co21:Value).ownBlock∧some k_≠(.slice (some ad510) y507.length co44:Value).ownBlock) (fun _=>False) rfl rfl ?aP (fun _ hk=>hk.elim) ?aF ?aO ?aB ?aS ?aL ?_;(case aP=>exact rfl);(case aB=>exact hB_);(case aF=>exact (fun k_ hk=>⟨Kd.fresh' (Kd.R_lt (rr_ HO_5)) k_ hk,Kd.fresh' (Kd.R_lt (rr_ HO_65)) k_ hk⟩));(case aO=>exact (rw_ (Kd.R_mono HO_7.out (fun _ hk=>⟨hk.2,hk.1⟩))));(case aS=>exact (bF_ hB_));(case aL=>have:=LMc52.out;omega);intro v514 w56 ho hb hg hat;rw [← Ny513.out] at ho;replace HO_5:=A_ (Kd.R_after (ok:=(fun k_=>some k_≠(.slice (some ad510) y507.length co44:Value).ownBlock)) (rw_ (Kd.R_mono HO_5.out (fun _ hk=>⟨hk.2,hk.1⟩))) hg hat);replace HO_65:=A_ (Kd.R_after (ok:=(fun k_=>some k_≠(.slice (some ⟨go30,0,none⟩) x5_4.length co21:Value).ownBlock)) (rw_ (Kd.R_mono HO_65.out (fun _ hk=>⟨hk.2,hk.1⟩))) hg hat);replace BK493:=A_ (blk_grown (kk_ BK493) hg (Kd.R_ne HO_7.out BK493.out (by decide)));replace HB:=A_ hb;have HO515:=A_ ho;clear HO_7;clear ho hb hg hat))
              (try simp only [← hl5_4])
              go_roundg k4
              case measure=>have:=HJ2.out;have:=HK2.out;have:=HK3.out;have:=HK4.out;omega
              case rel=>exact ⟨(y512),(y513),(wrap64 (x67_4 + 1)),qc_,H',⟨by have:=HJ2.out;have:=HK2.out;have:=HK3.out;have:=HK4.out;omega⟩,⟨by (try simp only [hl5_2]);(try simp only [hl5_3]);(try simp only [hl5_4]);(with_reducible repeat (first | apply rA_ | apply rB_ | apply rC_));exact Kd.R_mono HO_5.out (fun _ hk=>⟨hk.2,hk.1⟩)⟩,⟨by (try simp only [hl5_2]);(try simp only [hl5_3]);(try simp only [hl5_4]);(with_reducible repeat (first | apply rA_ | apply rB_ | apply rC_));exact HO515.out⟩,⟨by (try simp only [hl5_2]);(try simp only [hl5_3]);(try simp only [hl5_4]);(with_reducible repeat (first | apply rA_ | apply rB_ | apply rC_));exact HO_65.out⟩,⟨by (try simp only [hl5_2]);(try simp only [hl5_3]);(try simp only [hl5_4]);(with_reducible repeat (first | refine kA_ ?_ _ | refine kB_ ?_ | refine kC_ ?_ _));exact BK493.out⟩,⟨hB_⟩⟩
             ·rw [if_neg c50] at H
              have c50b0:=oD_ c50
              clear c50
              have H':=A_ H
              clear H
              have p510:0≤(x67_4:Int):=oB_ qe_
              have q510:x67_4 < (y507.length:Int):=oB_ qe_
              obtain ⟨ad510,e510,hx510_0⟩:=Kd.at_int (Kd.R_reads' HO_65.out).2.2 x67_4 p510 q510
              cases e510
              replace p510:=eq_true p510
              replace q510:=eq_true q510
              have p511:0≤((rd y507 x67_4):Int):=oB_ qe_
              have q511:(rd y507 x67_4) < (x5_4.length:Int):=oB_ qe_
              obtain ⟨ad511,e511,hx511_0⟩:=Kd.at_int (Kd.R_reads' HO_5.out).2.2 (rd y507 x67_4) p511 q511
              obtain rfl:(⟨go30,0,none⟩:Addr) = ad511:=(by injection e511)
              (first | simp only [add_plain] at hx511_0 | simp only [add_at] at hx511_0 | simp only [Addr.add,Nat.zero_add] at hx511_0 | skip)
              replace p511:=eq_true p511
              replace q511:=eq_true q511
              go_wp2
              (try simp only [← hl5_4])
              go_roundg k4
              case measure=>have:=HJ2.out;have:=HK2.out;have:=HK3.out;have:=HK4.out;omega
              case rel=>exact ⟨(x5_4),(x7_4),(wrap64 (x67_4 + 1)),qc_,H',⟨by have:=HJ2.out;have:=HK2.out;have:=HK3.out;have:=HK4.out;omega⟩,⟨by (try simp only [hl5_2]);(try simp only [hl5_3]);(try simp only [hl5_4]);(with_reducible repeat (first | apply rA_ | apply rB_ | apply rC_));exact HO_5.out⟩,⟨by (try simp only [hl5_2]);(try simp only [hl5_3]);(try simp only [hl5_4]);(with_reducible repeat (first | apply rA_ | apply rB_ | apply rC_));exact HO_7.out⟩,⟨by (try simp only [hl5_2]);(try simp only [hl5_3]);(try simp only [hl5_4]);(with_reducible repeat (first | apply rA_ | apply rB_ | apply rC_));exact HO_65.out⟩,⟨by (try simp only [hl5_2]);(try simp only [hl5_3]);(try simp only [hl5_4]);(with_reducible repeat (first | refine kA_ ?_ _ | refine kB_ ?_ | refine kC_ ?_ _));exact BK493.out⟩,⟨hB_⟩⟩
            ·rw [if_neg c45] at H
             have c45b0:=oD_ c45
             (try simp only [hl5_4] at c45b0)
             clear c45
             have H':=A_ H
             clear H
             go_wp2
             (try simp only [← hl5_3,← hl5_4])
             go_roundg k4
             case measure=>have:=HJ2.out;have:=HK2.out;have:=HK3.out;have:=HK4.out;omega
             case rel=>exact ⟨(x5_4),(x7_4),(wrap64 (x8_3 + 1)),qc_,H',⟨by have:=HJ2.out;have:=HK2.out;have:=HK3.out;have:=HK4.out;omega⟩,⟨by (try simp only [hl5_2]);(try simp only [hl5_3]);(try simp only [hl5_4]);(with_reducible repeat (first | apply rA_ | apply rB_ | apply rC_));exact Kd.R_mono HO_5.out (fun _ hk=>hk.1)⟩,⟨by (try simp only [hl5_2]);(try simp only [hl5_3]);(try simp only [hl5_4]);(with_reducible repeat (first | apply rA_ | apply rB_ | apply rC_));exact Kd.R_mono HO_7.out (fun _ hk=>hk.1)⟩,⟨by (try simp only [hl5_2]);(try simp only [hl5_3]);(try simp only [hl5_4]);(with_reducible repeat (first | refine kA_ ?_ _ | refine kB_ ?_ | refine kC_ ?_ _));exact BK493.out⟩,⟨hB_⟩⟩
         ·rw [if_neg c35] at H
          have c35b0:=oD_ c35
          clear c35
          obtain rfl:=Option.some.inj H
          obtain ⟨Ao57,co57,eo57⟩:=Kd.R_slice HO_7.out
          subst eo57
          go_wp2
          go_ret
          exact ⟨_,qb_,(rw_ (Kd.R_mono HO_5.out (fun _ hk=>trivial))),hB_⟩
end Go.Proofs.YtoijcallajegfaaGreat.A
end
section
namespace Go.Proofs.YtoijcallajegfaaGreat.A
open Go.RowKit Go.Proofs.YtoijcallajegfaaGreatW.PrintWords Go.Proofs.YtoijcallajegfaaGreatW.PrintLast Go.Proofs.YtoijcallajegfaaGreatW.PrintMore
attribute [local go_sem] max2_int min2_int max_two min_two max_three min_three max_four min_four
set_option linter.unusedVariables false
set_option linter.unusedSimpArgs false
def Z27.l0:Nat→List (S38)→Int→List Int→List Int→Option ((List (S38)))
 | 0,_,_,_,_=>none
 | k + 1,x3,x4,x517000,x517001=>(Z8.f k x517000 x517001).bind fun t520=>(if x4 < t520 then ((Z24.f k x517000 x517001 x4).bind fun t521=>((Z7.f k x517000 x517001 t521).bind fun bt524=>(if x3.length < 2932031007402 then (Z27.l0 k (x3 ++ [(⟨bt524.1,bt524.2.1⟩:S38)]) (wrap64 (x4 + 1)) x517000 x517001) else (none)))) else (some x3))
def Z27.f (k:Nat) (l0_0:List Int) (l0_1:List Int):Option ((List (S38))):=Z27.l0 k (([]:List (S38))) 0 l0_0 l0_1
theorem Z27.mono_l:∀ k,(∀ y0 y1 y2 y3,LeO (Z27.l0 k y0 y1 y2 y3) (Z27.l0 (k + 1) y0 y1 y2 y3))
 | 0=>fun _ _ _ _ r h=>by simp [Z27.l0] at h
 | k + 1=>by
  have ih0:=Z27.mono_l k
  ·intro y0 y1 y2 y3
   unfold Z27.l0
   repeat' first|exact ih0 _ _ _ _|exact Z8.mono _ _ _|exact Z24.mono _ _ _ _|exact Z7.mono _ _ _ _|exact lo_|refine LeO.ite ?_ ?_|refine LeO.bind ?_ (fun _=>?_)
theorem Z27.mono:∀ a0 a1 k,LeO (Z27.f k a0 a1) (Z27.f (k + 1) a0 a1):=by
 intro a0 a1 k
 have ih0:=Z27.mono_l k
 unfold Z27.f
 repeat' first|exact ih0 _ _ _ _|exact Z8.mono _ _ _|exact Z24.mono _ _ _ _|exact Z7.mono _ _ _ _|exact lo_|refine LeO.ite ?_ ?_|refine LeO.bind ?_ (fun _=>?_)
def Z27.T5:Bool × List (List Nat × List Nat):=(true,[([],[]),([],[]),([],[]),([1,2],[1,2]),([0,3,3],[0,3]),([4],[4]),([5],[5]),([5],[5]),([],[]),([8,6,4,0,1,2,3,4,5,6,8],[6,8]),([7,9,0,1,2,3,4,5,6,7,8,9],[7])])
def Z27.B5:List Nat:=[0,0,0,6,15,31,63,63,0,383,1023]
theorem Z27.tab5:rtab .any (opsOf Tryz.f55 5) = Z27.T5:=by kernel_rfl
theorem Z27.bits5:waitsOk Z27.T5.2 Z27.B5 = true:=by kernel_rfl
set_option maxHeartbeats 8000000 in
set_option maxRecDepth 100000 in
theorem Z27.calls (k:Nat) (A0_0:Option Addr) (c0_0:Nat) (l0_0:List Int) (A0_1:Option Addr) (c0_1:Nat) (l0_1:List Int) (r:List (S38)) (w:World) (hr0_0:Kd.C (Kd.int .i64) w A0_0 l0_0.length l0_0) (hc0_0:l0_0.length≤c0_0) (hr0_1:Kd.C (Kd.int .i64) w A0_1 l0_1.length l0_1) (hc0_1:l0_1.length≤c0_1) (h:Z27.f k l0_0 l0_1 = some r) :
  Calls Tryz.prog 55 #[.agg #[.slice A0_0 l0_0.length c0_0,.slice A0_1 l0_1.length c0_1]] w fun e w'=>∃ v0_:Value,e = .returned (v0_)∧Kd.S k38 38 w' w.heap.size (fun _=>True) v0_ r∧Below w.heap.size w w':=by
 have hu38:=Tryz.underlying38
 have HR0_0:=A_ hr0_0
 have HC0_0:=A_ hc0_0
 clear hr0_0 hc0_0
 have HR0_1:=A_ hr0_1
 have HC0_1:=A_ hc0_1
 clear hr0_1 hc0_1
 have HB:=A_ (Below.refl w.heap.size w)
 have H:=h
 unfold Z27.f at H
 clear h
 obtain ⟨y517,hy517⟩:∃ y_:List (S38),y_ = (([]:List (S38))):=⟨_,rfl⟩
 replace H:(Z27.l0 k y517 0 l0_0 l0_1) = some r:=by first | (rw [hy517];exact H) | exact H
 have Ny517:=A_ hy517
 clear hy517
 have H':=A_ H
 clear H
 go_enter Tryz.func55,Tryz.ntmps55
 go_wp2_with (first | ((with_reducible refine gB_ (N:=1) rfl ?_);refine bx_ 1 #[.slice A0_0 l0_0.length c0_0,.slice A0_1 l0_1.length c0_1] 38 ?_;intro gb516 hg w2 hbox hb;have BK516:=A_ hbox;have GW516:=gw_ w hg;have GE516:=GW516;replace HB:=b1_ hb;clear hb hbox hg) | ((with_reducible refine gB_ (N:=7) rfl ?_);refine Kd.S_lit k38 _ 38 ?hg (N:=7) ?hd (xs:=([]:List (S38))) (inner:=[]) (ok:=fun _=>True) (okp:=fun _=>True) ?hr ?hp (fun _ hk=>hk) trivial (Below.refl _ _) (nA_ _) (by simp) ?_;(case hd=>rfl);(case hg=>rfl);(case hr=>first | (go_simp;done) | (go_simp;rfl));(case hp=>exact (Reps.none _ _));intro v518 w3 ho4 hb hg_ hnew_;clear hg_ hnew_;(first | rw [← Ny517.out] at ho4 | (simp only [Int.reduceToNat] at ho4;rw [← Ny517.out] at ho4));have HO519:=A_ (Kd.S_lower (Kd.S_newB ho4 (kk_ BK516)) (bF_ hB_));replace BK516:=bb_ BK516 hb;replace HB:=b1_ hb;clear hb ho4))
 go_loopg [3,4] k (fun kq v3 v4 w'=>∃ (x3_1:List (S38)) (x4_1:Int),v4 = .int .i64 x4_1∧Aside0 (Z27.l0 kq x3_1 x4_1 l0_0 l0_1 = some r)∧Aside0 (kq≤k)∧Aside0 (Kd.S k38 38 w' w.heap.size (fun k_=>k_≠gb516) v3 x3_1)∧Aside0 (w'.heap[gb516]? = some (.cells #[(.slice A0_0 l0_0.length c0_0),(.slice A0_1 l0_1.length c0_1)] 38 (0,0)))∧Aside0 (Below w.heap.size w w'))
 case atStart=>exact ⟨(y517),(0),qc_,H',⟨nA_ _⟩,⟨(sw_ (Kd.S_mono HO519.out (fun _ hk=>hk.2)))⟩,⟨(kk_ BK516)⟩,⟨hB_⟩⟩
 case round =>
  clear H'
  obtain ⟨x3_1,x4_1,rfl,HA,HK1,HO_3,BK516,HB⟩:=hrel
  cases gk with
  | zero=>exact absurd HA.out (by simp [Z27.l0])
  | succ k1 =>
   have H:=HA.out
   clear HA
   simp only [Z27.l0] at H
   obtain ⟨t520,A5,H⟩:=bi_ H
   by_cases c6:x4_1 < t520
   ·rw [if_pos c6] at H
    have c6b0:=oC_ c6
    clear c6
    obtain ⟨t521,A7,H⟩:=bi_ H
    obtain ⟨⟨t524,t527,t530⟩,A8,H⟩:=bi_ H
    try dsimp only at H
    have c9:=cp_ H
    replace H:=ca_ H
    have LMc9:=A_ c9
    clear c9
    obtain ⟨y532,hy532⟩:∃ y_:List (S38),y_ = (x3_1 ++ [(⟨t524,t527⟩:S38)]):=⟨_,rfl⟩
    replace H:(Z27.l0 k1 y532 (wrap64 (x4_1 + 1)) l0_0 l0_1) = some r:=by first | (rw [hy532];exact H) | exact H
    have Ny532:=A_ hy532
    clear hy532
    have H':=A_ H
    clear H
    obtain ⟨hcz10_0,hcz10_1,hfz10_0,hfz10_1⟩:=c2_ BK516
    try go_wp2_with (first | ((with_reducible refine gA_ (f:=84) rfl ?_);refine gL_ (some 10) Tryz.func84 #[.agg #[.slice A0_0 l0_0.length c0_0,.slice A0_1 l0_1.length c0_1]] rfl qa_ ?_;(with_reducible refine (Z8.calls k1 _ _ l0_0 _ _ l0_1 t520 _ (cb_ HR0_0) HC0_0.out (cb_ HR0_1) HC0_1.out A5.out).mono ?_);rintro e w11 ⟨rfl,hb⟩;refine ⟨_,rfl,?_⟩;replace HO_3:=sb_ HO_3 hb;replace BK516:=bb_ BK516 hb;replace HB:=b1_ hb;clear hb))
    replace HO_3:=A_ (Kd.S_drew HO_3.out)
    replace BK516:=A_ (kB_ BK516.out)
    replace HB:=A_ (bC_ HB.out)
    refine start_ (n:=11) (S:=fun w'=>w'.cell? ⟨gb516,0,none⟩ = some (.slice A0_0 l0_0.length c0_0)∧w'.cell? ⟨gb516,1,none⟩ = some (.slice A0_1 l0_1.length c0_1)) (ds:=[]) (bl_ 11 0) (by kernel_rfl) rfl (by kernel_rfl) ⟨cz0_ BK516,cz1_ BK516⟩ (fun hHeld=>?_);refine with_tabW Z27.tab5 Z27.bits5 (fun HT_ HW_=>?_)
    generalize w11.drew = w12 at HO_3 BK516 HB hHeld ⊢
    refine pu_ 2 (some 17) (bl_ 11 4) HT_ ?_
    refine ta_ 0 (some 15) (bl_ 11 5) HT_ HW_ hHeld ?_
    refine ta_ 1 (some 16) (bl_ 11 7) HT_ HW_ hHeld ?_
    refine join_ (σ:=Value × Value × Value × Nat) 2 (bl_ 11 511) (fun s_=>[(18,s_.1),(19,.tuple #[.agg #[s_.2.1,s_.2.2.1],.bool t530]),(5,.pointer (some ⟨s_.2.2.2,0,none⟩)),(14,.tuple #[.agg #[s_.2.1,s_.2.2.1],.bool t530]),(20,.agg #[s_.2.1,s_.2.2.1]),(21,.bool t530)]) (fun s_ w'=>(w'.cell? ⟨gb516,0,none⟩ = some (.slice A0_0 l0_0.length c0_0)∧w'.cell? ⟨gb516,1,none⟩ = some (.slice A0_1 l0_1.length c0_1))∧(Kd.R (Kd.int .i64) 3 w' w.heap.size (fun k_=>some k_≠(s_.2.1:Value).ownBlock∧some k_≠(s_.2.2.1:Value).ownBlock) s_.1 t521)∧(Kd.R (Kd.int .i64) 3 w' w.heap.size (fun k_=>some k_≠(s_.1:Value).ownBlock∧some k_≠(s_.2.2.1:Value).ownBlock) s_.2.1 t524)∧(Kd.R (Kd.int .i64) 3 w' w.heap.size (fun k_=>some k_≠(s_.1:Value).ownBlock∧some k_≠(s_.2.1:Value).ownBlock) s_.2.2.1 t527)∧(Kd.S k38 38 w' w.heap.size (fun k_=>some k_≠(s_.1:Value).ownBlock∧some k_≠(s_.2.1:Value).ownBlock∧some k_≠(s_.2.2.1:Value).ownBlock∧k_≠gb516∧k_≠s_.2.2.2) u3 x3_1)∧(w'.heap[gb516]? = some (.cells #[.slice A0_0 l0_0.length c0_0,.slice A0_1 l0_1.length c0_1] 38 (0,0)))∧(w'.heap[s_.2.2.2]? = some (.cells #[.slice none 0 0,.slice none 0 0] 38 (0,0)))∧(w.heap.size≤s_.2.2.2)∧(w.heap.size≤s_.2.2.2)∧(gb516≠s_.2.2.2)∧(s_.2.2.2≠gb516)∧(Below w.heap.size w w')) ?_ ?_
    rotate_left
    ·intro hCont
     refine two_ (i:=3) (j:=8) (Ni:=some 18) (Nj:=some 5) (bl_ 11 15) (bl_ 11 263) rfl rfl rfl rfl (two_of HT_.out (by kernel_rfl)) (by decide) (by decide) (fun K hK=>?_) (fun K hK=>?_)
     ·skip
      refine gO_ Tryz.func86 #[.agg #[.slice A0_0 l0_0.length c0_0,.slice A0_1 l0_1.length c0_1],.int .i64 x4_1] (by rfl) rfl rfl qa_ ?_
      with_reducible refine (Z24.calls k1 _ _ l0_0 _ _ l0_1 x4_1 t521 _ (cb_ HR0_0) HC0_0.out (cb_ HR0_1) HC0_1.out A7.out).mono ?_
      rintro e w13 ⟨v522,rfl,ho0,hb⟩
      refine ⟨_,rfl,?_⟩
      replace HO_3:=A_ (Kd.S_elder' (ss_ HO_3) (Kd.R_base ho0) hb)
      have HO523:=rl_ w ho0
      replace BK516:=bb_ BK516 hb
      replace HB:=b1_ hb
      clear hb ho0
      obtain ⟨Ao14,co14,eo14⟩:=Kd.R_slice HO523.out
      (first | subst eo14 | (injection eo14 with f1_ f2_ f3_;have f4_:=f1_.symm;have f5_:=f3_.symm;clear f1_ f2_ f3_;subst f4_;subst f5_))
      refine hK.out _ _ ⟨cz0_ BK516,cz1_ BK516⟩ (fun hHeld=>?_)
      clear hK K
      refine no_ (some 18) ?_
      refine two_ (i:=4) (j:=8) (Ni:=some 19) (Nj:=some 5) (bl_ 11 31) (bl_ 11 271) rfl rfl rfl rfl (two_of HT_.out (by kernel_rfl)) (by decide) (by decide) (fun K hK=>?_) (fun K hK=>?_)
      ·skip
       refine gO_ Tryz.func85 #[.agg #[.slice A0_0 l0_0.length c0_0,.slice A0_1 l0_1.length c0_1],.slice Ao14 t521.length co14] (by rfl) rfl rfl qa_ ?_
       with_reducible refine (Z7.calls k1 _ _ l0_0 _ _ l0_1 _ _ t521 t524 t527 t530 _ (cb_ HR0_0) HC0_0.out (cb_ HR0_1) HC0_1.out (cr_ HO523) ((Kd.R_reads' HO523.out).2.1) A8.out).mono ?_
       rintro e w15 ⟨v525,v528,rfl,ho0,ho1,hb⟩
       refine ⟨_,rfl,?_⟩
       replace HO_3:=A_ (Kd.S_mono (Kd.S_told (Kd.S_told (Kd.S_old (ss_ HO_3) hb) (Kd.R_base ho0)) (Kd.R_base ho1)) (fun _ h_=>h_.1))
       have HO526:=A_ (rE_ (Kd.R_new' ho0 (Kd.R_lt (rr_ HO523))) (bF_ hB_))
       have HO529:=A_ (rE_ (Kd.R_new' ho1 (Kd.R_lt (rr_ HO523))) (bF_ hB_))
       replace HO523:=A_ (Kd.R_mono (Kd.R_told (Kd.R_told (Kd.R_old (rr_ HO523) hb) (Kd.R_base ho0)) (Kd.R_base ho1)) (fun _ h_=>h_.1))
       replace BK516:=bb_ BK516 hb
       replace HB:=b1_ hb
       clear hb ho0 ho1
       refine hK.out _ _ ⟨cz0_ BK516,cz1_ BK516⟩ (fun hHeld=>?_)
       clear hK K
       refine no_ (some 19) ?_
       refine pu_ 5 (some 14) (bl_ 11 63) HT_ ?_
       refine pu_ 6 (some 20) (bl_ 11 127) HT_ ?_
       refine pu_ 7 (some 21) (bl_ 11 255) HT_ ?_
       refine on_ 8 (some 5) (bl_ 11 511) HT_ (fun K hK=>?_)
       refine box_step ?hg (N:=5) ?hd (cs:=#[.slice none 0 0,.slice none 0 0]) (t:=38) ?hr ?_;(case hd=>rfl);(case hg=>rfl);(case hr=>first | (go_simp;done) | (go_simp;rfl))
       intro gb531 hg w16 hbox hb
       replace HO_3:=A_ (Kd.S_below (Kd.S_elderB (ss_ HO_3) gb531 (Nat.le_of_eq hg.symm)) hb)
       replace HO523:=rb_ HO523 hb
       replace HO526:=rb_ HO526 hb
       replace HO529:=rb_ HO529 hb
       have BK531:=A_ hbox
       have GW531:=gw_ w hg
       have GE531:=GW531
       replace HB:=b1_ hb
       have NB516_531:=gN_ BK516 hg
       have NB531_516:=gP_ BK516 hg
       replace BK516:=bb_ BK516 hb
       clear hb hbox hg
       refine hK.out _ _ ⟨cz0_ BK516,cz1_ BK516⟩ (fun hHeld=>?_)
       clear hK K
       refine no_ (some 5) ?_
       exact norm_ (by simp only [putAll,Act.put,sA_,sB_,sC_]) (hCont (.slice Ao14 t521.length co14,v525,v528,gb531) _ ⟨hHeld,(rw_ (Kd.R_mono HO523.out (fun _ hk=>⟨hk.1.2,hk.2⟩))),(rw_ (Kd.R_mono HO526.out (fun _ hk=>⟨hk.2,hk.1⟩))),(rw_ (Kd.R_mono HO529.out (fun _ hk=>⟨hk.2,hk.1⟩))),(sw_ (Kd.S_mono HO_3.out (fun _ hk=>⟨hk.1.1.1.2,⟨hk.1.1.2,⟨hk.1.2,⟨hk.1.1.1.1,hk.2⟩⟩⟩⟩))),(kk_ BK516),(kk_ BK531),GW531.out,GE531.out,NB516_531.out,NB531_516.out,hB_⟩)
      ·skip
       refine box_step ?hg (N:=5) ?hd (cs:=#[.slice none 0 0,.slice none 0 0]) (t:=38) ?hr ?_;(case hd=>rfl);(case hg=>rfl);(case hr=>first | (go_simp;done) | (go_simp;rfl))
       intro gb531 hg w14 hbox hb
       replace HO_3:=A_ (Kd.S_below (Kd.S_elderB (ss_ HO_3) gb531 (Nat.le_of_eq hg.symm)) hb)
       replace HO523:=rb_ HO523 hb
       have BK531:=A_ hbox
       have GW531:=gw_ w hg
       have GE531:=GW531
       replace HB:=b1_ hb
       have NB516_531:=gN_ BK516 hg
       have NB531_516:=gP_ BK516 hg
       replace BK516:=bb_ BK516 hb
       clear hb hbox hg
       obtain ⟨Ao15,co15,eo15⟩:=Kd.R_slice HO523.out
       (first | subst eo15 | (injection eo15 with f1_ f2_ f3_;have f4_:=f1_.symm;have f5_:=f3_.symm;clear f1_ f2_ f3_;subst f4_;subst f5_))
       refine hK.out _ _ ⟨cz0_ BK516,cz1_ BK516⟩ (fun hHeld=>?_)
       clear hK K
       refine no_ (some 5) ?_
       refine on_ 4 (some 19) (bl_ 11 287) HT_ (fun K hK=>?_)
       refine gO_ Tryz.func85 #[.agg #[.slice A0_0 l0_0.length c0_0,.slice A0_1 l0_1.length c0_1],.slice Ao15 t521.length co15] (by rfl) rfl rfl qa_ ?_
       with_reducible refine (Z7.calls k1 _ _ l0_0 _ _ l0_1 _ _ t521 t524 t527 t530 _ (cb_ HR0_0) HC0_0.out (cb_ HR0_1) HC0_1.out (cr_ HO523) ((Kd.R_reads' HO523.out).2.1) A8.out).mono ?_
       rintro e w16 ⟨v525,v528,rfl,ho0,ho1,hb⟩
       refine ⟨_,rfl,?_⟩
       replace HO_3:=A_ (Kd.S_mono (Kd.S_told (Kd.S_told (Kd.S_old (ss_ HO_3) hb) (Kd.R_base ho0)) (Kd.R_base ho1)) (fun _ h_=>h_.1))
       have HO526:=A_ (rE_ (Kd.R_new' ho0 (Kd.R_lt (rr_ HO523))) (bF_ hB_))
       have HO529:=A_ (rE_ (Kd.R_new' ho1 (Kd.R_lt (rr_ HO523))) (bF_ hB_))
       replace HO523:=A_ (Kd.R_mono (Kd.R_told (Kd.R_told (Kd.R_old (rr_ HO523) hb) (Kd.R_base ho0)) (Kd.R_base ho1)) (fun _ h_=>h_.1))
       replace BK516:=bb_ BK516 hb
       replace BK531:=bb_ BK531 hb
       replace HB:=b1_ hb
       clear hb ho0 ho1
       refine hK.out _ _ ⟨cz0_ BK516,cz1_ BK516⟩ (fun hHeld=>?_)
       clear hK K
       refine no_ (some 19) ?_
       refine pu_ 5 (some 14) (bl_ 11 319) HT_ ?_
       refine pu_ 6 (some 20) (bl_ 11 383) HT_ ?_
       refine pu_ 7 (some 21) (bl_ 11 511) HT_ ?_
       exact norm_ (by simp only [putAll,Act.put,sA_,sB_,sC_]) (hCont (.slice Ao15 t521.length co15,v525,v528,gb531) _ ⟨hHeld,(rw_ (Kd.R_mono HO523.out (fun _ hk=>⟨hk.1.2,hk.2⟩))),(rw_ (Kd.R_mono HO526.out (fun _ hk=>⟨hk.2,hk.1⟩))),(rw_ (Kd.R_mono HO529.out (fun _ hk=>⟨hk.2,hk.1⟩))),(sw_ (Kd.S_mono HO_3.out (fun _ hk=>⟨hk.1.1.1.2,⟨hk.1.2,⟨hk.2,⟨hk.1.1.1.1,hk.1.1.2⟩⟩⟩⟩))),(kk_ BK516),(kk_ BK531),GW531.out,GE531.out,NB516_531.out,NB531_516.out,hB_⟩)
     ·skip
      refine box_step ?hg (N:=5) ?hd (cs:=#[.slice none 0 0,.slice none 0 0]) (t:=38) ?hr ?_;(case hd=>rfl);(case hg=>rfl);(case hr=>first | (go_simp;done) | (go_simp;rfl))
      intro gb531 hg w13 hbox hb
      replace HO_3:=A_ (Kd.S_below (Kd.S_elderB (ss_ HO_3) gb531 (Nat.le_of_eq hg.symm)) hb)
      have BK531:=A_ hbox
      have GW531:=gw_ w hg
      have GE531:=GW531
      replace HB:=b1_ hb
      have NB516_531:=gN_ BK516 hg
      have NB531_516:=gP_ BK516 hg
      replace BK516:=bb_ BK516 hb
      clear hb hbox hg
      refine hK.out _ _ ⟨cz0_ BK516,cz1_ BK516⟩ (fun hHeld=>?_)
      clear hK K
      refine no_ (some 5) ?_
      refine on_ 3 (some 18) (bl_ 11 271) HT_ (fun K hK=>?_)
      refine gO_ Tryz.func86 #[.agg #[.slice A0_0 l0_0.length c0_0,.slice A0_1 l0_1.length c0_1],.int .i64 x4_1] (by rfl) rfl rfl qa_ ?_
      with_reducible refine (Z24.calls k1 _ _ l0_0 _ _ l0_1 x4_1 t521 _ (cb_ HR0_0) HC0_0.out (cb_ HR0_1) HC0_1.out A7.out).mono ?_
      rintro e w14 ⟨v522,rfl,ho0,hb⟩
      refine ⟨_,rfl,?_⟩
      replace HO_3:=A_ (Kd.S_elder' (ss_ HO_3) (Kd.R_base ho0) hb)
      have HO523:=rl_ w ho0
      replace BK516:=bb_ BK516 hb
      replace BK531:=bb_ BK531 hb
      replace HB:=b1_ hb
      clear hb ho0
      obtain ⟨Ao15,co15,eo15⟩:=Kd.R_slice HO523.out
      (first | subst eo15 | (injection eo15 with f1_ f2_ f3_;have f4_:=f1_.symm;have f5_:=f3_.symm;clear f1_ f2_ f3_;subst f4_;subst f5_))
      refine hK.out _ _ ⟨cz0_ BK516,cz1_ BK516⟩ (fun hHeld=>?_)
      clear hK K
      refine no_ (some 18) ?_
      refine on_ 4 (some 19) (bl_ 11 287) HT_ (fun K hK=>?_)
      refine gO_ Tryz.func85 #[.agg #[.slice A0_0 l0_0.length c0_0,.slice A0_1 l0_1.length c0_1],.slice Ao15 t521.length co15] (by rfl) rfl rfl qa_ ?_
      with_reducible refine (Z7.calls k1 _ _ l0_0 _ _ l0_1 _ _ t521 t524 t527 t530 _ (cb_ HR0_0) HC0_0.out (cb_ HR0_1) HC0_1.out (cr_ HO523) ((Kd.R_reads' HO523.out).2.1) A8.out).mono ?_
      rintro e w16 ⟨v525,v528,rfl,ho0,ho1,hb⟩
      refine ⟨_,rfl,?_⟩
      replace HO_3:=A_ (Kd.S_mono (Kd.S_told (Kd.S_told (Kd.S_old (ss_ HO_3) hb) (Kd.R_base ho0)) (Kd.R_base ho1)) (fun _ h_=>h_.1))
      have HO526:=A_ (rE_ (Kd.R_new' ho0 (Kd.R_lt (rr_ HO523))) (bF_ hB_))
      have HO529:=A_ (rE_ (Kd.R_new' ho1 (Kd.R_lt (rr_ HO523))) (bF_ hB_))
      replace HO523:=A_ (Kd.R_mono (Kd.R_told (Kd.R_told (Kd.R_old (rr_ HO523) hb) (Kd.R_base ho0)) (Kd.R_base ho1)) (fun _ h_=>h_.1))
      replace BK516:=bb_ BK516 hb
      replace BK531:=bb_ BK531 hb
      replace HB:=b1_ hb
      clear hb ho0 ho1
      refine hK.out _ _ ⟨cz0_ BK516,cz1_ BK516⟩ (fun hHeld=>?_)
      clear hK K
      refine no_ (some 19) ?_
      refine pu_ 5 (some 14) (bl_ 11 319) HT_ ?_
      refine pu_ 6 (some 20) (bl_ 11 383) HT_ ?_
      refine pu_ 7 (some 21) (bl_ 11 511) HT_ ?_
      exact norm_ (by simp only [putAll,Act.put,sA_,sB_,sC_]) (hCont (.slice Ao15 t521.length co15,v525,v528,gb531) _ ⟨hHeld,(rw_ (Kd.R_mono HO523.out (fun _ hk=>⟨hk.1.2,hk.2⟩))),(rw_ (Kd.R_mono HO526.out (fun _ hk=>⟨hk.2,hk.1⟩))),(rw_ (Kd.R_mono HO529.out (fun _ hk=>⟨hk.2,hk.1⟩))),(sw_ (Kd.S_mono HO_3.out (fun _ hk=>⟨hk.1.1.2,⟨hk.1.2,⟨hk.2,⟨hk.1.1.1.1,hk.1.1.1.2⟩⟩⟩⟩))),(kk_ BK516),(kk_ BK531),GW531.out,GE531.out,NB516_531.out,NB531_516.out,hB_⟩)
    rintro ⟨v522,v525,v528,gb531⟩ w17 ⟨hS_,h0_,h1_,h2_,h3_,h4_,h5_,h6_,h7_,h8_,h9_,h10_⟩
    have n0_:Aside0 (Kd.R (Kd.int .i64) 3 w17 w.heap.size (fun k_=>some k_≠(v525:Value).ownBlock∧some k_≠(v528:Value).ownBlock) v522 t521):=⟨h0_⟩
    have n1_:Aside0 (Kd.R (Kd.int .i64) 3 w17 w.heap.size (fun k_=>some k_≠(v522:Value).ownBlock∧some k_≠(v528:Value).ownBlock) v525 t524):=⟨h1_⟩
    have n2_:Aside0 (Kd.R (Kd.int .i64) 3 w17 w.heap.size (fun k_=>some k_≠(v522:Value).ownBlock∧some k_≠(v525:Value).ownBlock) v528 t527):=⟨h2_⟩
    have n3_:Aside0 (Kd.S k38 38 w17 w.heap.size (fun k_=>some k_≠(v522:Value).ownBlock∧some k_≠(v525:Value).ownBlock∧some k_≠(v528:Value).ownBlock∧k_≠gb516∧k_≠gb531) u3 x3_1):=⟨h3_⟩
    have n4_:Aside0 (w17.heap[gb516]? = some (.cells #[.slice A0_0 l0_0.length c0_0,.slice A0_1 l0_1.length c0_1] 38 (0,0))):=⟨h4_⟩
    have n5_:Aside0 (w17.heap[gb531]? = some (.cells #[.slice none 0 0,.slice none 0 0] 38 (0,0))):=⟨h5_⟩
    have n6_:Aside0 (w.heap.size≤gb531):=⟨h6_⟩
    have n7_:Aside0 (w.heap.size≤gb531):=⟨h7_⟩
    have n8_:Aside0 (gb516≠gb531):=⟨h8_⟩
    have n9_:Aside0 (gb531≠gb516):=⟨h9_⟩
    have n10_:Aside0 (Below w.heap.size w w17):=⟨h10_⟩
    clear HO_3
    clear BK516
    clear HB
    clear h0_ h1_ h2_ h3_ h4_ h5_ h6_ h7_ h8_ h9_ h10_
    have HO523:=n0_
    have HO526:=n1_
    have HO529:=n2_
    have HO_3:=n3_
    have BK516:=n4_
    have BK531:=n5_
    have GW531:=n6_
    have GE531:=n7_
    have NB516_531:=n8_
    have NB531_516:=n9_
    have HB:=n10_
    clear n0_ n1_ n2_ n3_ n4_ n5_ n6_ n7_ n8_ n9_ n10_
    have hHeld:w17.cell? ⟨gb516,0,none⟩ = some (.slice A0_0 l0_0.length c0_0)∧w17.cell? ⟨gb516,1,none⟩ = some (.slice A0_1 l0_1.length c0_1):=hS_
    obtain ⟨Ao18,co18,eo18⟩:=Kd.R_slice HO526.out
    (first | subst eo18 | (injection eo18 with f1_ f2_ f3_;have f4_:=f1_.symm;have f5_:=f3_.symm;clear f1_ f2_ f3_;subst f4_;subst f5_))
    obtain ⟨Ao20,co20,eo20⟩:=Kd.R_slice HO529.out
    (first | subst eo20 | (injection eo20 with f1_ f2_ f3_;have f4_:=f1_.symm;have f5_:=f3_.symm;clear f1_ f2_ f3_;subst f4_;subst f5_))
    refine norm_ (a':=?_) ?_ ?_
    rotate_left
    ·simp only [putAll,Act.put,sA_,sB_,sC_]
     rfl
    refine on_ 9 (none) (bl_ 11 1023) HT_ (fun K hK=>?_)
    have hs19:w17.cell? ⟨gb531,0,none⟩ = some (.slice none 0 0):=cz0_ BK531
    have hfs19:=kD_ BK531.out 0
    have hns19_0:=NB516_531.out
    have hms19_0:=NB531_516.out
    have hs21:w17.cell? ⟨gb531,1,none⟩ = some (.slice none 0 0):=cz1_ BK531
    have hfs21:=kD_ BK531.out 1
    have hns21_0:=NB516_531.out
    have hms21_0:=NB531_516.out
    refine skip_ (w1:=?_) (by rfl) rfl ?_ ?_
    rotate_left
    ·go_simp
     rfl
    refine hK.out _ _ ⟨((cell_far (p:=⟨gb531,_,none⟩) NB516_531.out _).trans (((cell_far (p:=⟨gb531,_,none⟩) NB516_531.out _).trans (hHeld.1)))),((cell_far (p:=⟨gb531,_,none⟩) NB516_531.out _).trans (((cell_far (p:=⟨gb531,_,none⟩) NB516_531.out _).trans (hHeld.2))))⟩ (fun hHeld=>?_)
    clear hK K
    refine pu_ 10 (some 6) (bl_ 11 2047) HT_ ?_
    refine done_ (done_of HT_.out (by kernel_rfl)) ?_
    have n0_:Aside0 (Kd.S k38 38 ((w17.setCell ⟨gb531,0,none⟩ (.slice Ao18 t524.length co18)).setCell ⟨gb531,1,none⟩ (.slice Ao20 t527.length co20)) w.heap.size (fun k_=>some k_≠(v522:Value).ownBlock∧some k_≠(.slice Ao18 t524.length co18:Value).ownBlock∧some k_≠(.slice Ao20 t527.length co20:Value).ownBlock∧k_≠gb516∧k_≠gb531) u3 x3_1):=⟨(sw_ (Kd.S_mono (Kd.S_far (p:=⟨gb531,1,none⟩) (Kd.S_far (p:=⟨gb531,0,none⟩) (Kd.S_mono HO_3.out (fun k_ hk=>(⟨hk,hk.2.2.2.2⟩:_∧k_≠gb531))) (fun _ hk=>hk.2) (.slice Ao18 t524.length co18)) (fun _ hk=>hk.2) (.slice Ao20 t527.length co20)) (fun _ hk=>⟨hk.1.1,⟨hk.1.2.1,⟨hk.1.2.2.1,⟨hk.1.2.2.2.1,hk.1.2.2.2.2⟩⟩⟩⟩)))⟩
    have n1_:Aside0 (Kd.R (Kd.int .i64) 3 ((w17.setCell ⟨gb531,0,none⟩ (.slice Ao18 t524.length co18)).setCell ⟨gb531,1,none⟩ (.slice Ao20 t527.length co20)) w.heap.size (fun k_=>some k_≠(.slice Ao18 t524.length co18:Value).ownBlock∧some k_≠(.slice Ao20 t527.length co20:Value).ownBlock) v522 t521):=⟨(rw_ (Kd.R_mono (Kd.R_far (p:=⟨gb531,1,none⟩) (Kd.R_far (p:=⟨gb531,0,none⟩) (Kd.R_types HO523.out BK531.out (by decide)) (fun _ hk=>hk.2) (.slice Ao18 t524.length co18)) (fun _ hk=>hk.2) (.slice Ao20 t527.length co20)) (fun _ hk=>⟨hk.1.1,hk.1.2⟩)))⟩
    have n2_:Aside0 (Kd.R (Kd.int .i64) 3 ((w17.setCell ⟨gb531,0,none⟩ (.slice Ao18 t524.length co18)).setCell ⟨gb531,1,none⟩ (.slice Ao20 t527.length co20)) w.heap.size (fun k_=>some k_≠(v522:Value).ownBlock∧some k_≠(.slice Ao20 t527.length co20:Value).ownBlock) (.slice Ao18 t524.length co18) t524):=⟨(rw_ (Kd.R_mono (Kd.R_far (p:=⟨gb531,1,none⟩) (Kd.R_far (p:=⟨gb531,0,none⟩) (Kd.R_types HO526.out BK531.out (by decide)) (fun _ hk=>hk.2) (.slice Ao18 t524.length co18)) (fun _ hk=>hk.2) (.slice Ao20 t527.length co20)) (fun _ hk=>⟨hk.1.1,hk.1.2⟩)))⟩
    have n3_:Aside0 (Kd.R (Kd.int .i64) 3 ((w17.setCell ⟨gb531,0,none⟩ (.slice Ao18 t524.length co18)).setCell ⟨gb531,1,none⟩ (.slice Ao20 t527.length co20)) w.heap.size (fun k_=>some k_≠(v522:Value).ownBlock∧some k_≠(.slice Ao18 t524.length co18:Value).ownBlock) (.slice Ao20 t527.length co20) t527):=⟨(rw_ (Kd.R_mono (Kd.R_far (p:=⟨gb531,1,none⟩) (Kd.R_far (p:=⟨gb531,0,none⟩) (Kd.R_types HO529.out BK531.out (by decide)) (fun _ hk=>hk.2) (.slice Ao18 t524.length co18)) (fun _ hk=>hk.2) (.slice Ao20 t527.length co20)) (fun _ hk=>⟨hk.1.1,hk.1.2⟩)))⟩
    have n4_:Aside0 (((w17.setCell ⟨gb531,0,none⟩ (.slice Ao18 t524.length co18)).setCell ⟨gb531,1,none⟩ (.slice Ao20 t527.length co20)).heap[gb516]? = some (.cells #[.slice A0_0 l0_0.length c0_0,.slice A0_1 l0_1.length c0_1] 38 (0,0))):=⟨by (with_reducible repeat (first | refine kA_ ?_ _ | refine kB_ ?_ | refine kC_ ?_ _));refine blk_far ?_ NB516_531.out _;(with_reducible repeat (first | refine kA_ ?_ _ | refine kB_ ?_ | refine kC_ ?_ _));refine blk_far ?_ NB516_531.out _;(with_reducible repeat (first | refine kA_ ?_ _ | refine kB_ ?_ | refine kC_ ?_ _));exact BK516.out⟩
    have n5_:Aside0 (((w17.setCell ⟨gb531,0,none⟩ (.slice Ao18 t524.length co18)).setCell ⟨gb531,1,none⟩ (.slice Ao20 t527.length co20)).heap[gb531]? = some (.cells #[.slice Ao18 t524.length co18,.slice Ao20 t527.length co20] 38 (0,0))):=⟨qp_⟩
    have n6_:Aside0 (Below w.heap.size w ((w17.setCell ⟨gb531,0,none⟩ (.slice Ao18 t524.length co18)).setCell ⟨gb531,1,none⟩ (.slice Ao20 t527.length co20))):=⟨hB_⟩
    skip
    generalize ((w17.setCell ⟨gb531,0,none⟩ (.slice Ao18 t524.length co18)).setCell ⟨gb531,1,none⟩ (.slice Ao20 t527.length co20)) = w22 at n0_ n1_ n2_ n3_ n4_ n5_ n6_ ⊢
    have HO_3:=n0_
    have HO523:=n1_
    have HO526:=n2_
    have HO529:=n3_
    have BK516:=n4_
    have BK531:=n5_
    have HB:=n6_
    clear n0_ n1_ n2_ n3_ n4_ n5_ n6_
    have hnb23:=NB531_516.out
    have hnc23:=NB516_531.out
    obtain ⟨hcz24_0,hcz24_1,hfz24_0,hfz24_1⟩:=c2_ BK531
    try go_wp2_with (first | ((with_reducible refine gate_builtin (b:=.append) (xs:=#[.tmp 22,.tmp 24]) rfl ?_);at_builtin;refine Kd.S_append k38 (w0:=w) w.heap.size rfl (.tmp 22) (.tmp 24) 28 38 (.agg #[(.slice none 0 0),(.slice none 0 0)]) 48 rfl Tryz.underlying28 info38 rfl (by decide) (by omega) u3 x3_1 (⟨t524,t527⟩:S38) [.slice Ao18 t524.length co18,.slice Ao20 t527.length co20] (fun k_=>some k_≠(v522:Value).ownBlock∧k_≠gb516∧k_≠gb531) (fun k_=>some k_ = (.slice Ao18 t524.length co18:Value).ownBlock ∨ some k_ = (.slice Ao20 t527.length co20:Value).ownBlock) rfl rfl ?aP (fun k_ hk_=>hk_.elim (fun h_=>((Kd.R_mono (ok':=fun k_=>((fun k_=>some k_≠(v522:Value).ownBlock∧k_≠gb516∧k_≠gb531)) k_∧some k_≠(u3:Value).ownBlock) (Kd.R_types (Kd.R_types (Kd.R_apart' (HO526.out) (Kd.S_typed HO_3.out) (by decide)) BK516.out (by decide)) BK531.out (by decide)) (fun k_ hk=>⟨⟨hk.1.1.1.1,⟨hk.1.2,hk.2⟩⟩,hk.1.1.2⟩))).1 k_ h_.symm) (fun h_=>((Kd.R_mono (ok':=fun k_=>((fun k_=>some k_≠(v522:Value).ownBlock∧k_≠gb516∧k_≠gb531)) k_∧some k_≠(u3:Value).ownBlock) (Kd.R_types (Kd.R_types (Kd.R_apart' (HO529.out) (Kd.S_typed HO_3.out) (by decide)) BK516.out (by decide)) BK531.out (by decide)) (fun k_ hk=>⟨⟨hk.1.1.1.1,⟨hk.1.2,hk.2⟩⟩,hk.1.1.2⟩))).1 k_ h_.symm)) ?aF ?aO ?aB ?aS ?aL ?_;(case aP=>exact k38_mkM _ _ _ (⟨t524,t527⟩:S38) (Kd.R_mono (Kd.R_tight rfl (Kd.R_mono (ok':=fun k_=>((fun k_=>some k_≠(v522:Value).ownBlock∧k_≠gb516∧k_≠gb531)) k_∧some k_≠(u3:Value).ownBlock) (Kd.R_types (Kd.R_types (Kd.R_apart' (HO526.out) (Kd.S_typed HO_3.out) (by decide)) BK516.out (by decide)) BK531.out (by decide)) (fun k_ hk=>⟨⟨hk.1.1.1.1,⟨hk.1.2,hk.2⟩⟩,hk.1.1.2⟩))) (fun _ h_=>Or.inl h_)) (Kd.R_mono (Kd.R_tight rfl (Kd.R_mono (ok':=fun k_=>((fun k_=>some k_≠(v522:Value).ownBlock∧k_≠gb516∧k_≠gb531)) k_∧some k_≠(u3:Value).ownBlock) (Kd.R_types (Kd.R_types (Kd.R_apart' (HO529.out) (Kd.S_typed HO_3.out) (by decide)) BK516.out (by decide)) BK531.out (by decide)) (fun k_ hk=>⟨⟨hk.1.1.1.1,⟨hk.1.2,hk.2⟩⟩,hk.1.1.2⟩))) (fun _ h_=>Or.inr (h_))) (fun k_ h_ e_=>(HO526.out.1 k_ h_).2 e_.symm));(case aB=>exact hB_);(case aF=>exact (fun k_ hk=>⟨Kd.fresh' (Kd.R_lt (rr_ HO523)) k_ hk,Kd.freshB (kk_ BK516) k_ hk,Kd.freshB (kk_ BK531) k_ hk⟩));(case aO=>exact (sw_ (Kd.S_mono HO_3.out (fun k_ hk=>⟨⟨hk.1,⟨hk.2.2.2.1,hk.2.2.2.2⟩⟩,fun e_=>e_.elim (fun h_=>hk.2.1 h_) (fun h_=>hk.2.2.1 h_)⟩))));(case aS=>exact (bF_ hB_));(case aL=>have:=LMc9.out;omega);intro v533 w25 ho hb hg hat;rw [← Ny532.out] at ho;replace BK516:=A_ (blk_grown (kk_ BK516) hg (Kd.S_away HO_3.out (fun _ hk=>hk.2.2.2.1)));replace HO523:=A_ (Kd.R_over' (rr_ HO523) (Kd.S_typed (ss_ HO_3)) (by decide) hg);replace BK531:=A_ (blk_grown (kk_ BK531) hg (Kd.S_away HO_3.out (fun _ hk=>hk.2.2.2.2)));replace HB:=A_ hb;have HO534:=A_ ho;clear HO_3 HO526 HO529;clear ho hb hg hat))
    go_roundg k1
    case measure=>have:=HK1.out;omega
    case rel=>exact ⟨(y532),(wrap64 (x4_1 + 1)),qc_,H',⟨by have:=HK1.out;omega⟩,⟨(sw_ (Kd.S_mono HO534.out (fun _ hk=>hk.2.1)))⟩,⟨(kk_ BK516)⟩,⟨hB_⟩⟩
   ·rw [if_neg c6] at H
    have c6b0:=oD_ c6
    clear c6
    obtain rfl:=Option.some.inj H
    obtain ⟨hcz26_0,hcz26_1,hfz26_0,hfz26_1⟩:=c2_ BK516
    go_wp2_with (first | ((with_reducible refine gA_ (f:=84) rfl ?_);refine gL_ (some 10) Tryz.func84 #[.agg #[.slice A0_0 l0_0.length c0_0,.slice A0_1 l0_1.length c0_1]] rfl qa_ ?_;(with_reducible refine (Z8.calls k1 _ _ l0_0 _ _ l0_1 t520 _ (cb_ HR0_0) HC0_0.out (cb_ HR0_1) HC0_1.out A5.out).mono ?_);rintro e w27 ⟨rfl,hb⟩;refine ⟨_,rfl,?_⟩;replace HO_3:=sb_ HO_3 hb;replace BK516:=bb_ BK516 hb;replace HB:=b1_ hb;clear hb))
    go_ret
    exact ⟨_,qb_,(sw_ (Kd.S_mono HO_3.out (fun _ hk=>trivial))),hB_⟩
def Z38.f (a0:Int):Option (Bool):=some (a0 != a0)
set_option maxHeartbeats 8000000 in
set_option maxRecDepth 100000 in
theorem Z38.calls (a0:Int) (r:Bool) (w:World) (h:Z38.f a0 = some r) :
  Calls Tryz.prog 74 #[.int .i64 a0] w fun e w'=>e = .returned (.bool r)∧Drawn0 w w':=by
 have H:=h
 unfold Z38.f at H
 clear h
 obtain rfl:=Option.some.inj H
 go_enter Tryz.func74,Tryz.ntmps74
 go_wp2
 go_ret
 exact ⟨qc_,by repeat (first | exact Drawn0.refl _ | apply Drawn0.step)⟩
def Z16.f (a0:Int) (a1:Int):Option (Int):=(Z38.f a0).bind fun t535=>((Z38.f a1).bind fun t536=>(if t535 = true then (if t536 = true then (some 0) else (some (-1))) else (if t536 = true then (some 1) else (if a0 < a1 then (some (-1)) else (if a0 > a1 then (some 1) else (some 0))))))
set_option maxHeartbeats 8000000 in
set_option maxRecDepth 100000 in
theorem Z16.calls (a0:Int) (a1:Int) (r:Int) (w:World) (h:Z16.f a0 a1 = some r) :
  Calls Tryz.prog 43 #[.int .i64 a0,.int .i64 a1] w fun e w'=>e = .returned (.int .i64 r)∧Drawn0 w w':=by
 have H:=h
 unfold Z16.f at H
 clear h
 obtain ⟨t535,A3,H⟩:=bi_ H
 obtain ⟨t536,A4,H⟩:=bi_ H
 by_cases c5:t535 = true
 ·subst c5
  rw [if_pos rfl] at H
  by_cases c6:t536 = true
  ·subst c6
   rw [if_pos rfl] at H
   obtain rfl:=Option.some.inj H
   go_enter Tryz.func43,Tryz.ntmps43
   go_wp2_with (first | ((with_reducible refine gA_ (f:=74) rfl ?_);refine gL_ (some 8) Tryz.func74 #[.int .i64 a0] rfl qa_ ?_;(with_reducible refine (Z38.calls a0 true _ A3.out).mono ?_);rintro e w' ⟨rfl,⟨nd,rfl⟩⟩;refine ⟨_,rfl,?_⟩) | ((with_reducible refine gA_ (f:=74) rfl ?_);refine gL_ (some 10) Tryz.func74 #[.int .i64 a1] rfl qa_ ?_;(with_reducible refine (Z38.calls a1 true _ A4.out).mono ?_);rintro e w' ⟨rfl,⟨nd,rfl⟩⟩;refine ⟨_,rfl,?_⟩))
   go_ret
   exact ⟨qc_,by repeat (first | exact Drawn0.refl _ | apply Drawn0.step)⟩
  ·replace c6:=Bool.eq_false_iff.mpr c6
   subst c6
   have H1:(some (-1)) = some r:=by rw [if_neg (show ¬ (false = true) by decide)] at H;exact H
   clear H
   have H:=H1
   clear H1
   obtain rfl:=Option.some.inj H
   go_enter Tryz.func43,Tryz.ntmps43
   go_wp2_with (first | ((with_reducible refine gA_ (f:=74) rfl ?_);refine gL_ (some 8) Tryz.func74 #[.int .i64 a0] rfl qa_ ?_;(with_reducible refine (Z38.calls a0 true _ A3.out).mono ?_);rintro e w' ⟨rfl,⟨nd,rfl⟩⟩;refine ⟨_,rfl,?_⟩) | ((with_reducible refine gA_ (f:=74) rfl ?_);refine gL_ (some 10) Tryz.func74 #[.int .i64 a1] rfl qa_ ?_;(with_reducible refine (Z38.calls a1 false _ A4.out).mono ?_);rintro e w' ⟨rfl,⟨nd,rfl⟩⟩;refine ⟨_,rfl,?_⟩))
   go_ret
   exact ⟨qc_,by repeat (first | exact Drawn0.refl _ | apply Drawn0.step)⟩
 ·replace c5:=Bool.eq_false_iff.mpr c5
  subst c5
  have H1:(if t536 = true then (some 1) else (if a0 < a1 then (some (-1)) else (if a0 > a1 then (some 1) else (some 0)))) = some r:=by rw [if_neg (show ¬ (false = true) by decide)] at H;exact H
  clear H
  have H:=H1
  clear H1
  by_cases c7:t536 = true
  ·subst c7
   rw [if_pos rfl] at H
   obtain rfl:=Option.some.inj H
   go_enter Tryz.func43,Tryz.ntmps43
   go_wp2_with (first | ((with_reducible refine gA_ (f:=74) rfl ?_);refine gL_ (some 8) Tryz.func74 #[.int .i64 a0] rfl qa_ ?_;(with_reducible refine (Z38.calls a0 false _ A3.out).mono ?_);rintro e w' ⟨rfl,⟨nd,rfl⟩⟩;refine ⟨_,rfl,?_⟩) | ((with_reducible refine gA_ (f:=74) rfl ?_);refine gL_ (some 10) Tryz.func74 #[.int .i64 a1] rfl qa_ ?_;(with_reducible refine (Z38.calls a1 true _ A4.out).mono ?_);rintro e w' ⟨rfl,⟨nd,rfl⟩⟩;refine ⟨_,rfl,?_⟩))
   go_ret
   exact ⟨qc_,by repeat (first | exact Drawn0.refl _ | apply Drawn0.step)⟩
  ·replace c7:=Bool.eq_false_iff.mpr c7
   subst c7
   have H1:(if a0 < a1 then (some (-1)) else (if a0 > a1 then (some 1) else (some 0))) = some r:=by rw [if_neg (show ¬ (false = true) by decide)] at H;exact H
   clear H
   have H:=H1
   clear H1
   by_cases c8:a0 < a1
   ·rw [if_pos c8] at H
    have c8b0:=oC_ c8
    clear c8
    obtain rfl:=Option.some.inj H
    go_enter Tryz.func43,Tryz.ntmps43
    go_wp2_with (first | ((with_reducible refine gA_ (f:=74) rfl ?_);refine gL_ (some 8) Tryz.func74 #[.int .i64 a0] rfl qa_ ?_;(with_reducible refine (Z38.calls a0 false _ A3.out).mono ?_);rintro e w' ⟨rfl,⟨nd,rfl⟩⟩;refine ⟨_,rfl,?_⟩) | ((with_reducible refine gA_ (f:=74) rfl ?_);refine gL_ (some 10) Tryz.func74 #[.int .i64 a1] rfl qa_ ?_;(with_reducible refine (Z38.calls a1 false _ A4.out).mono ?_);rintro e w' ⟨rfl,⟨nd,rfl⟩⟩;refine ⟨_,rfl,?_⟩))
    go_ret
    exact ⟨qc_,by repeat (first | exact Drawn0.refl _ | apply Drawn0.step)⟩
   ·rw [if_neg c8] at H
    have c8b0:=oD_ c8
    clear c8
    by_cases c9:a0 > a1
    ·rw [if_pos c9] at H
     have c9b0:decide (a1 < a0) = true:=oC_ c9
     clear c9
     obtain rfl:=Option.some.inj H
     go_enter Tryz.func43,Tryz.ntmps43
     go_wp2_with (first | ((with_reducible refine gA_ (f:=74) rfl ?_);refine gL_ (some 8) Tryz.func74 #[.int .i64 a0] rfl qa_ ?_;(with_reducible refine (Z38.calls a0 false _ A3.out).mono ?_);rintro e w' ⟨rfl,⟨nd,rfl⟩⟩;refine ⟨_,rfl,?_⟩) | ((with_reducible refine gA_ (f:=74) rfl ?_);refine gL_ (some 10) Tryz.func74 #[.int .i64 a1] rfl qa_ ?_;(with_reducible refine (Z38.calls a1 false _ A4.out).mono ?_);rintro e w' ⟨rfl,⟨nd,rfl⟩⟩;refine ⟨_,rfl,?_⟩))
     go_ret
     exact ⟨qc_,by repeat (first | exact Drawn0.refl _ | apply Drawn0.step)⟩
    ·rw [if_neg c9] at H
     have c9b0:decide (a1 < a0) = false:=oD_ c9
     clear c9
     obtain rfl:=Option.some.inj H
     go_enter Tryz.func43,Tryz.ntmps43
     go_wp2_with (first | ((with_reducible refine gA_ (f:=74) rfl ?_);refine gL_ (some 8) Tryz.func74 #[.int .i64 a0] rfl qa_ ?_;(with_reducible refine (Z38.calls a0 false _ A3.out).mono ?_);rintro e w' ⟨rfl,⟨nd,rfl⟩⟩;refine ⟨_,rfl,?_⟩) | ((with_reducible refine gA_ (f:=74) rfl ?_);refine gL_ (some 10) Tryz.func74 #[.int .i64 a1] rfl qa_ ?_;(with_reducible refine (Z38.calls a1 false _ A4.out).mono ?_);rintro e w' ⟨rfl,⟨nd,rfl⟩⟩;refine ⟨_,rfl,?_⟩))
     go_ret
     exact ⟨qc_,by repeat (first | exact Drawn0.refl _ | apply Drawn0.step)⟩
def Z3.l0:Nat→List Int→List Int→List Int→Int→Int→Option (Int)
 | 0,_,_,_,_,_=>none
 | k + 1,x0,x1,x9,x10,x11=>if x11 < x10 then (if 0≤x11 then (if x11 < (x9.length:Int) then (if x11 ≥ (x1.length:Int) then (some 1) else (if x11 < (x1.length:Int) then ((Z16.f (rd x9 x11) (rd x1 x11)).bind fun t539=>(if t539 = 0 then (Z3.l0 k x0 x1 x9 x10 (wrap64 (x11 + 1))) else (some t539))) else (none))) else (none)) else (none)) else (if (x0.length:Int) < (x1.length:Int) then (some (-1)) else (some 0))
def Z3.f (k:Nat) (l0:List Int) (l1:List Int):Option (Int):=Z3.l0 k l0 l1 l0 (l0.length:Int) 0
theorem Z3.mono_l:∀ k,(∀ y0 y1 y2 y3 y4,LeO (Z3.l0 k y0 y1 y2 y3 y4) (Z3.l0 (k + 1) y0 y1 y2 y3 y4))
 | 0=>fun _ _ _ _ _ r h=>by simp [Z3.l0] at h
 | k + 1=>by
  have ih0:=Z3.mono_l k
  ·intro y0 y1 y2 y3 y4
   unfold Z3.l0
   repeat' first|exact ih0 _ _ _ _ _|exact lo_|refine LeO.ite ?_ ?_|refine LeO.bind ?_ (fun _=>?_)
theorem Z3.mono:∀ a0 a1 k,LeO (Z3.f k a0 a1) (Z3.f (k + 1) a0 a1):=by
 intro a0 a1 k
 have ih0:=Z3.mono_l k
 unfold Z3.f
 repeat' first|exact ih0 _ _ _ _ _|exact lo_|refine LeO.ite ?_ ?_|refine LeO.bind ?_ (fun _=>?_)
set_option maxHeartbeats 8000000 in
set_option maxRecDepth 100000 in
theorem Z3.calls (k:Nat) (A0:Option Addr) (c0:Nat) (l0:List Int) (A1:Option Addr) (c1:Nat) (l1:List Int) (r:Int) (w:World) (hr0:Kd.C (Kd.int .i64) w A0 l0.length l0) (hc0:l0.length≤c0) (hr1:Kd.C (Kd.int .i64) w A1 l1.length l1) (hc1:l1.length≤c1) (h:Z3.f k l0 l1 = some r) :
  Calls Tryz.prog 26 #[.slice A0 l0.length c0,.slice A1 l1.length c1] w fun e w'=>e = .returned (.int .i64 r)∧Drawn0 w w':=by
 have HR0:=A_ hr0
 have HC0:=A_ hc0
 clear hr0 hc0
 have HR1:=A_ hr1
 have HC1:=A_ hc1
 clear hr1 hc1
 have H:=h
 unfold Z3.f at H
 clear h
 have H':=A_ H
 clear H
 go_enter Tryz.func26,Tryz.ntmps26
 go_wp2
 go_loopg [11] k (fun kq v11 w'=>∃ (x11_1:Int),v11 = .int .i64 x11_1∧Aside0 (Z3.l0 kq l0 l1 l0 (l0.length:Int) x11_1 = some r)∧Aside0 (kq≤k)∧Drawn0 w w')
 case atStart=>exact ⟨(0),qc_,H',⟨nA_ _⟩,by repeat (first | exact Drawn0.refl _ | apply Drawn0.step)⟩
 case round =>
  clear H'
  obtain ⟨x11_1,rfl,HA,HK1,⟨m1,rfl⟩⟩:=hrel
  cases gk with
  | zero=>exact absurd HA.out (by simp [Z3.l0])
  | succ k1 =>
   have H:=HA.out
   clear HA
   simp only [Z3.l0] at H
   by_cases c3:x11_1 < (l0.length:Int)
   ·rw [if_pos c3] at H
    have c3b0:=oC_ c3
    clear c3
    have c4:=cp_ H
    replace H:=ca_ H
    have c4b0:=oC_ c4
    clear c4
    have c5:=cp_ H
    replace H:=ca_ H
    have c5b0:=oC_ c5
    clear c5
    by_cases c6:x11_1 ≥ (l1.length:Int)
    ·rw [if_pos c6] at H
     have c6b0:decide ((l1.length:Int)≤x11_1) = true:=oC_ c6
     clear c6
     obtain rfl:=Option.some.inj H
     have p537:0≤(x11_1:Int):=oB_ qe_
     have q537:x11_1 < (l0.length:Int):=oB_ qe_
     obtain ⟨ad537,e537,hx537_0⟩:=Kd.at_int HR0.out x11_1 p537 q537
     cases e537
     replace p537:=eq_true p537
     replace q537:=eq_true q537
     go_wp2
     go_ret
     exact ⟨qc_,by repeat (first | exact Drawn0.refl _ | apply Drawn0.step)⟩
    ·rw [if_neg c6] at H
     have c6b0:decide ((l1.length:Int)≤x11_1) = false:=oD_ c6
     clear c6
     have c7:=cp_ H
     replace H:=ca_ H
     have c7b0:=oC_ c7
     clear c7
     obtain ⟨t539,A8,H⟩:=bi_ H
     by_cases c9:t539 = 0
     ·rw [if_pos c9] at H
      have c9b0:(t539 == 0) = true:=beq_iff_eq.mpr c9
      have c9b1:(t539 != 0) = false:=bne_eq_false_iff_eq.mpr c9
      clear c9
      have H':=A_ H
      clear H
      have p537:0≤(x11_1:Int):=oB_ qe_
      have q537:x11_1 < (l0.length:Int):=oB_ qe_
      obtain ⟨ad537,e537,hx537_0⟩:=Kd.at_int HR0.out x11_1 p537 q537
      cases e537
      replace p537:=eq_true p537
      replace q537:=eq_true q537
      have p538:0≤(x11_1:Int):=oB_ qe_
      have q538:x11_1 < (l1.length:Int):=oB_ qe_
      obtain ⟨ad538,e538,hx538_0⟩:=Kd.at_int HR1.out x11_1 p538 q538
      cases e538
      replace p538:=eq_true p538
      replace q538:=eq_true q538
      go_wp2_with (first | ((with_reducible refine gA_ (f:=43) rfl ?_);refine gL_ (some 26) Tryz.func43 #[.int .i64 (rd l0 x11_1),.int .i64 (rd l1 x11_1)] rfl qa_ ?_;(with_reducible refine (Z16.calls (rd l0 x11_1) (rd l1 x11_1) t539 _ A8.out).mono ?_);rintro e w' ⟨rfl,⟨nd,rfl⟩⟩;refine ⟨_,rfl,?_⟩))
      go_roundg k1
      case measure=>have:=HK1.out;omega
      case rel=>exact ⟨(wrap64 (x11_1 + 1)),qc_,H',⟨by have:=HK1.out;omega⟩,by repeat (first | exact Drawn0.refl _ | apply Drawn0.step)⟩
     ·rw [if_neg c9] at H
      have c9b0:(t539 == 0) = false:=beq_eq_false_iff_ne.mpr c9
      have c9b1:(t539 != 0) = true:=bne_iff_ne.mpr c9
      obtain rfl:=Option.some.inj H
      have p537:0≤(x11_1:Int):=oB_ qe_
      have q537:x11_1 < (l0.length:Int):=oB_ qe_
      obtain ⟨ad537,e537,hx537_0⟩:=Kd.at_int HR0.out x11_1 p537 q537
      cases e537
      replace p537:=eq_true p537
      replace q537:=eq_true q537
      have p538:0≤(x11_1:Int):=oB_ qe_
      have q538:x11_1 < (l1.length:Int):=oB_ qe_
      obtain ⟨ad538,e538,hx538_0⟩:=Kd.at_int HR1.out x11_1 p538 q538
      cases e538
      replace p538:=eq_true p538
      replace q538:=eq_true q538
      go_wp2_with (first | ((with_reducible refine gA_ (f:=43) rfl ?_);refine gL_ (some 26) Tryz.func43 #[.int .i64 (rd l0 x11_1),.int .i64 (rd l1 x11_1)] rfl qa_ ?_;(with_reducible refine (Z16.calls (rd l0 x11_1) (rd l1 x11_1) t539 _ A8.out).mono ?_);rintro e w' ⟨rfl,⟨nd,rfl⟩⟩;refine ⟨_,rfl,?_⟩))
      go_ret
      exact ⟨qc_,by repeat (first | exact Drawn0.refl _ | apply Drawn0.step)⟩
   ·rw [if_neg c3] at H
    have c3b0:=oD_ c3
    clear c3
    by_cases c10:(l0.length:Int) < (l1.length:Int)
    ·rw [if_pos c10] at H
     have c10b0:=oC_ c10
     have c10b1:decide (l0.length < l1.length) = true:=oC_ (Int.ofNat_lt.mp c10)
     clear c10
     obtain rfl:=Option.some.inj H
     go_wp2
     go_ret
     exact ⟨qc_,by repeat (first | exact Drawn0.refl _ | apply Drawn0.step)⟩
    ·rw [if_neg c10] at H
     have c10b0:=oD_ c10
     have c10b1:decide (l0.length < l1.length) = false:=oD_ (fun h=>c10 (Int.ofNat_lt.mpr h))
     clear c10
     obtain rfl:=Option.some.inj H
     go_wp2
     go_ret
     exact ⟨qc_,by repeat (first | exact Drawn0.refl _ | apply Drawn0.step)⟩
def Z4.f (k:Nat) (l0_0:List Int) (l0_1:List Int) (l1_0:List Int) (l1_1:List Int):Option (Int):=(Z3.f k l0_0 l1_0).bind fun t542=>(if t542 = 0 then ((Z3.f k l0_1 l1_1).bind fun t543=>(some t543)) else (some t542))
theorem Z4.mono:∀ a0 a1 a2 a3 k,LeO (Z4.f k a0 a1 a2 a3) (Z4.f (k + 1) a0 a1 a2 a3):=by
 intro a0 a1 a2 a3 k
 unfold Z4.f
 repeat' first|exact Z3.mono _ _ _|exact lo_|refine LeO.ite ?_ ?_|refine LeO.bind ?_ (fun _=>?_)
set_option maxHeartbeats 8000000 in
set_option maxRecDepth 100000 in
theorem Z4.calls (k:Nat) (A0_0:Option Addr) (c0_0:Nat) (l0_0:List Int) (A0_1:Option Addr) (c0_1:Nat) (l0_1:List Int) (A1_0:Option Addr) (c1_0:Nat) (l1_0:List Int) (A1_1:Option Addr) (c1_1:Nat) (l1_1:List Int) (r:Int) (w:World) (hr0_0:Kd.C (Kd.int .i64) w A0_0 l0_0.length l0_0) (hc0_0:l0_0.length≤c0_0) (hr0_1:Kd.C (Kd.int .i64) w A0_1 l0_1.length l0_1) (hc0_1:l0_1.length≤c0_1) (hr1_0:Kd.C (Kd.int .i64) w A1_0 l1_0.length l1_0) (hc1_0:l1_0.length≤c1_0) (hr1_1:Kd.C (Kd.int .i64) w A1_1 l1_1.length l1_1) (hc1_1:l1_1.length≤c1_1) (h:Z4.f k l0_0 l0_1 l1_0 l1_1 = some r) :
  Calls Tryz.prog 57 #[.agg #[.slice A0_0 l0_0.length c0_0,.slice A0_1 l0_1.length c0_1],.agg #[.slice A1_0 l1_0.length c1_0,.slice A1_1 l1_1.length c1_1]] w fun e w'=>e = .returned (.int .i64 r)∧Below w.heap.size w w':=by
 have hu38:=Tryz.underlying38
 have HR0_0:=A_ hr0_0
 have HC0_0:=A_ hc0_0
 clear hr0_0 hc0_0
 have HR0_1:=A_ hr0_1
 have HC0_1:=A_ hc0_1
 clear hr0_1 hc0_1
 have HR1_0:=A_ hr1_0
 have HC1_0:=A_ hc1_0
 clear hr1_0 hc1_0
 have HR1_1:=A_ hr1_1
 have HC1_1:=A_ hc1_1
 clear hr1_1 hc1_1
 have HB:=A_ (Below.refl w.heap.size w)
 have H:=h
 unfold Z4.f at H
 clear h
 obtain ⟨t542,A3,H⟩:=bi_ H
 by_cases c4:t542 = 0
 ·rw [if_pos c4] at H
  have c4b0:(t542 == 0) = true:=beq_iff_eq.mpr c4
  have c4b1:(t542 != 0) = false:=bne_eq_false_iff_eq.mpr c4
  clear c4
  obtain ⟨t543,A5,H⟩:=bi_ H
  obtain rfl:=Option.some.inj H
  go_enter Tryz.func57,Tryz.ntmps57
  go_wp2_with (first | ((with_reducible refine gB_ (N:=2) rfl ?_);refine bx_ 2 #[.slice A0_0 l0_0.length c0_0,.slice A0_1 l0_1.length c0_1] 38 ?_;intro gb540 hg w6 hbox hb;have BK540:=A_ hbox;have GW540:=gw_ w hg;have GE540:=GW540;replace HB:=b1_ hb;clear hb hbox hg) | ((with_reducible refine gB_ (N:=3) rfl ?_);refine bx_ 3 #[.slice A1_0 l1_0.length c1_0,.slice A1_1 l1_1.length c1_1] 38 ?_;intro gb541 hg w7 hbox hb;have BK541:=A_ hbox;have GW541:=gw_ w hg;have GE541:=GW541;replace HB:=b1_ hb;have NB540_541:=gN_ BK540 hg;have NB541_540:=gP_ BK540 hg;replace BK540:=bb_ BK540 hb;clear hb hbox hg;have hnb8:=NB540_541.out;have hnc8:=NB541_540.out;obtain ⟨hcz9_0,hcz9_1,hfz9_0,hfz9_1⟩:=c2_ BK540;obtain ⟨hcz10_0,hcz10_1,hfz10_0,hfz10_1⟩:=c2_ BK541) | ((with_reducible refine gA_ (f:=26) rfl ?_);refine gL_ (some 10) Tryz.func26 #[.slice A0_0 l0_0.length c0_0,.slice A1_0 l1_0.length c1_0] rfl qa_ ?_;(with_reducible refine (Z3.calls k _ _ l0_0 _ _ l1_0 t542 _ (cb_ HR0_0) HC0_0.out (cb_ HR1_0) HC1_0.out A3.out).mono ?_);rintro e w' ⟨rfl,⟨nd,rfl⟩⟩;refine ⟨_,rfl,?_⟩) | ((with_reducible refine gA_ (f:=26) rfl ?_);refine gL_ (some 18) Tryz.func26 #[.slice A0_1 l0_1.length c0_1,.slice A1_1 l1_1.length c1_1] rfl qa_ ?_;(with_reducible refine (Z3.calls k _ _ l0_1 _ _ l1_1 t543 _ (cw_ (cD_ HR0_1.out hB_)) HC0_1.out (cw_ (cD_ HR1_1.out hB_)) HC1_1.out A5.out).mono ?_);rintro e w' ⟨rfl,⟨nd,rfl⟩⟩;refine ⟨_,rfl,?_⟩))
  go_ret
  exact ⟨qb_,hB_⟩
 ·rw [if_neg c4] at H
  have c4b0:(t542 == 0) = false:=beq_eq_false_iff_ne.mpr c4
  have c4b1:(t542 != 0) = true:=bne_iff_ne.mpr c4
  obtain rfl:=Option.some.inj H
  go_enter Tryz.func57,Tryz.ntmps57
  go_wp2_with (first | ((with_reducible refine gB_ (N:=2) rfl ?_);refine bx_ 2 #[.slice A0_0 l0_0.length c0_0,.slice A0_1 l0_1.length c0_1] 38 ?_;intro gb540 hg w11 hbox hb;have BK540:=A_ hbox;have GW540:=gw_ w hg;have GE540:=GW540;replace HB:=b1_ hb;clear hb hbox hg) | ((with_reducible refine gB_ (N:=3) rfl ?_);refine bx_ 3 #[.slice A1_0 l1_0.length c1_0,.slice A1_1 l1_1.length c1_1] 38 ?_;intro gb541 hg w12 hbox hb;have BK541:=A_ hbox;have GW541:=gw_ w hg;have GE541:=GW541;replace HB:=b1_ hb;have NB540_541:=gN_ BK540 hg;have NB541_540:=gP_ BK540 hg;replace BK540:=bb_ BK540 hb;clear hb hbox hg;have hnb13:=NB540_541.out;have hnc13:=NB541_540.out;obtain ⟨hcz14_0,hcz14_1,hfz14_0,hfz14_1⟩:=c2_ BK540;obtain ⟨hcz15_0,hcz15_1,hfz15_0,hfz15_1⟩:=c2_ BK541) | ((with_reducible refine gA_ (f:=26) rfl ?_);refine gL_ (some 10) Tryz.func26 #[.slice A0_0 l0_0.length c0_0,.slice A1_0 l1_0.length c1_0] rfl qa_ ?_;(with_reducible refine (Z3.calls k _ _ l0_0 _ _ l1_0 t542 _ (cb_ HR0_0) HC0_0.out (cb_ HR1_0) HC1_0.out A3.out).mono ?_);rintro e w' ⟨rfl,⟨nd,rfl⟩⟩;refine ⟨_,rfl,?_⟩))
  go_ret
  exact ⟨qb_,hB_⟩
def Z19.l0:Nat→List (S38)→Int→List Int→List Int→Option (List Int × List Int)
 | 0,_,_,_,_=>none
 | k + 1,x0,x6,x547000,x547001=>if x6 < (x0.length:Int) then (if 0≤x6 then ((Z4.f k ((rd_T38 x0 x6).f0) ((rd_T38 x0 x6).f1) x547000 x547001).bind fun t548=>(if t548 < 0 then (Z19.l0 k x0 (wrap64 (x6 + 1)) ((rd_T38 x0 x6).f0) ((rd_T38 x0 x6).f1)) else (Z19.l0 k x0 (wrap64 (x6 + 1)) x547000 x547001))) else (none)) else (some (x547000,x547001))
def Z19.f (k:Nat) (l0:List (S38)):Option (List Int × List Int):=if (l0.length:Int) < 1 then (none) else (if 0 < (l0.length:Int) then (Z19.l0 k l0 1 ((rd_T38 l0 0).f0) ((rd_T38 l0 0).f1)) else (none))
theorem Z19.mono_l:∀ k,(∀ y0 y1 y2 y3,LeO (Z19.l0 k y0 y1 y2 y3) (Z19.l0 (k + 1) y0 y1 y2 y3))
 | 0=>fun _ _ _ _ r h=>by simp [Z19.l0] at h
 | k + 1=>by
  have ih0:=Z19.mono_l k
  ·intro y0 y1 y2 y3
   unfold Z19.l0
   repeat' first|exact ih0 _ _ _ _|exact Z4.mono _ _ _ _ _|exact lo_|refine LeO.ite ?_ ?_|refine LeO.bind ?_ (fun _=>?_)
theorem Z19.mono:∀ a0 k,LeO (Z19.f k a0) (Z19.f (k + 1) a0):=by
 intro a0 k
 have ih0:=Z19.mono_l k
 unfold Z19.f
 repeat' first|exact ih0 _ _ _ _|exact Z4.mono _ _ _ _ _|exact lo_|refine LeO.ite ?_ ?_|refine LeO.bind ?_ (fun _=>?_)
def Z19.T7:Bool × List (List Nat × List Nat):=(true,[([],[]),([],[]),([],[]),([1,2],[1,2]),([3],[3]),([],[]),([0,4,5],[0,4,5]),([6],[6])])
def Z19.B7:List Nat:=[0,0,0,6,14,0,63,127]
theorem Z19.tab7:rtab .any (opsOf Tryz.f56 7) = Z19.T7:=by kernel_rfl
theorem Z19.bits7:waitsOk Z19.T7.2 Z19.B7 = true:=by kernel_rfl
def AtJ (w:World) (l0:List S38) (A:Option Addr) (u0 u1:Value) (x0 x1:List Int):Prop:=∃ (ad:Addr) (j:Nat),A = some ad∧j < l0.length∧w.cell? (ad.add (j * 2)) = some u0∧w.cell? ⟨(ad.add (j * 2)).block,(ad.add (j * 2)).off + 1,none⟩ = some u1∧x0 = (rd_T38 l0 (j:Int)).f0∧x1 = (rd_T38 l0 (j:Int)).f1
theorem atJ_of {w w':World} {P:Nat→Prop} {b:Nat} {ad:Addr} {c:Nat} {l0:List S38} (hs0:Kd.V k38 38 w b P (.slice (some ad) l0.length c) l0) (hB:Below w.heap.size w w') (i:Int) (h0:0≤i) (h1:i < (l0.length:Int)) {u0 u1:Value} (hx0:w'.cell? (ad.add (i.toNat * 2)) = some u0) (hx1:w'.cell? ⟨(ad.add (i.toNat * 2)).block,(ad.add (i.toNat * 2)).off + 1,none⟩ = some u1):AtJ w l0 (some ad) u0 u1 (rd_T38 l0 i).f0 (rd_T38 l0 i).f1:=by
 obtain ⟨ad',A0,c0,A1,c1,e,y0,y1,_⟩:=at_T38 (Kd.V_reads' hs0).2.2 i h0 h1
 injection e with e
 subst e
 have z0:=hB.cell (World.block_lt_of_cell? w _ y0)
 have z1:=hB.cell (World.block_lt_of_cell? w _ y1)
 have e:((i.toNat:Nat):Int) = i:=Int.toNat_of_nonneg h0
 exact ⟨ad,i.toNat,rfl,by omega,z0.symm.trans hx0,z1.symm.trans hx1,by rw [e],by rw [e]⟩
theorem atJ_own {w w':World} {base:Nat} {ok:Nat→Prop} {A:Option Addr} {c:Nat} {l0:List S38} {u0 u1:Value} {x0 x1:List Int} (hS:Kd.S k38 38 w base ok (.slice A l0.length c) l0) (hJ:AtJ w l0 A u0 u1 x0 x1) (hB:Below w.heap.size w w'):Kd.R (Kd.int .i64) 3 w' base ok u0 x0∧Kd.R (Kd.int .i64) 3 w' base ok u1 x1∧NeRow u0 u1:=by
 obtain ⟨ad,j,rfl,hj,h0,h1,rfl,rfl⟩:=hJ
 obtain ⟨c,hcl,hM,hc⟩:=Kd.R_getA (Kd.S_R hS) z38 (j:Int) (by omega) (by omega)
 have hc':∀ i u,c[i]? = some u→w.cell? (ad.add (j * 2 + i)) = some u:=hc
 obtain ⟨v0,v1,rfl,g0,g1,ne⟩:=k38_openN hM
 have e0:=hc' 0 v0 rfl
 have e1:=hc' 1 v1 rfl
 rw [add_field _ _ 1 (by omega)] at e1
 rw [Nat.add_zero] at e0
 obtain rfl:u0 = v0:=Option.some.inj (h0.symm.trans e0)
 obtain rfl:u1 = v1:=Option.some.inj (h1.symm.trans e1)
 exact ⟨Kd.R_mono (rD_ g0 hB) (fun _ h=>h.1),Kd.R_mono (rD_ g1 hB) (fun _ h=>h.1),ne⟩
set_option maxHeartbeats 8000000 in
set_option maxRecDepth 100000 in
theorem Z19.calls (k:Nat) (P0_:Nat→Prop) (A0:Option Addr) (c0:Nat) (l0:List (S38)) (r1:List Int) (r2:List Int) (w:World) (hs0:Kd.V k38 38 w w.heap.size (fun k_=>P0_ k_) (.slice A0 l0.length c0) l0) (h:Z19.f k l0 = some (r1,r2)) :
  Calls Tryz.prog 56 #[.slice A0 l0.length c0,.func (.func 57) #[] #[]] w fun e w'=>∃ v0_ v1_:Value,e = .returned (.agg #[v0_,v1_])∧Kd.V (Kd.int .i64) 3 w' w.heap.size (fun k_=>(P0_ k_ ∨ w.heap.size≤k_)) v0_ r1∧Kd.V (Kd.int .i64) 3 w' w.heap.size (fun k_=>(P0_ k_ ∨ w.heap.size≤k_)) v1_ r2∧Below w.heap.size w w'∧AtJ w l0 A0 v0_ v1_ r1 r2:=by
 have HS0:=A_ hs0
 have hu38:=Tryz.underlying38
 have HO0:=A_ (show Kd.V k38 38 w w.heap.size (fun k_=>(P0_ k_ ∨ w.heap.size≤k_)) (.slice A0 l0.length c0) l0 from Kd.V_mono hs0 (fun k_ hk=>.inl hk))
 have HB:=A_ (Below.refl w.heap.size w)
 have H:=h
 unfold Z19.f at H
 clear h
 by_cases c2:(l0.length:Int) < 1
 ·rw [if_pos c2] at H
  exact absurd H (by simp)
 ·rw [if_neg c2] at H
  have c2b0:=oD_ c2
  have c2b1:decide (l0.length < 1) = false:=oD_ (by omega)
  clear c2
  have c3:=cp_ H
  replace H:=ca_ H
  have c3b0:=oC_ c3
  have c3b1:decide (0 < l0.length) = true:=oC_ (by omega)
  clear c3
  have H':=A_ H
  clear H
  go_enter Tryz.func56,Tryz.ntmps56
  go_wp2_with (first | ((with_reducible refine gB_ (N:=4) rfl ?_);refine bx_ 4 #[.slice none 0 0,.slice none 0 0] 38 ?_;intro gb544 hg w4 hbox hb;replace HO0:=A_ (Kd.V_below (Kd.V_elderB (by (with_reducible repeat (first | apply Kd.V_alloc | apply Kd.V_drewN | apply Kd.V_drew));exact HO0.out) gb544 (Nat.le_of_eq hg.symm)) hb);have BK544:=A_ hbox;have GW544:=gw_ w hg;have GE544:=GW544;replace HB:=b1_ hb;clear hb hbox hg;have p545:0≤(0:Int):=(by omega);have q545:0 < (l0.length:Int):=oB_ qe_;obtain ⟨ad545,A545_0,c545_0,A545_1,c545_1,e545,hx545_0,hx545_1,hl545_0,hi545_0,hl545_1,hi545_1⟩:=at_T38 (Kd.V_reads' HO0.out).2.2 0 p545 q545;cases e545;obtain ⟨ce545,hce545,hMe545,hcc545⟩:=Kd.V_get HO0.out z38 0 p545 (by first | exact q545 | exact oB_ qe_ | (have e_:=(Kd.V_reads' HO0.out).1;omega));obtain ⟨ua545_0,uc545_0,ua545_1,uc545_1,rfl,ul545_0,ge545_0,ul545_1,ge545_1⟩:=k38_openF hMe545;have hv545_0:=hcc545 0 _ rfl;rw [Nat.add_zero] at hv545_0;replace hv545_0:=Option.some.inj (hv545_0.symm.trans hx545_0);injection hv545_0 with hva_ hvn_ hvc_;rw [hva_] at ge545_0;rw [hvc_] at ul545_0;have HL545_0:=A_ (show Kd.V (Kd.int .i64) 3 _ w.heap.size _ _ ((rd_T38 l0 0).f0) from Kd.V_mk ul545_0 ge545_0);clear hva_ hvn_ hvc_ ge545_0 ul545_0;have hv545_1:=hcc545 1 _ rfl;rw [add_field _ _ 1 (by omega)] at hv545_1;replace hv545_1:=Option.some.inj (hv545_1.symm.trans hx545_1);injection hv545_1 with hva_ hvn_ hvc_;rw [hva_] at ge545_1;rw [hvc_] at ul545_1;have HL545_1:=A_ (show Kd.V (Kd.int .i64) 3 _ w.heap.size _ _ ((rd_T38 l0 0).f1) from Kd.V_mk ul545_1 ge545_1);clear hva_ hvn_ hvc_ ge545_1 ul545_1;clear hcc545 hce545;have HJ:=A_ (atJ_of HS0.out hB_ 0 p545 q545 hx545_0 hx545_1);have qi545:(0 < l0.length) = True:=eq_true (by omega);(try rw [show ((0:Int)).toNat = 0 from rfl] at hx545_0);(try rw [show 0 * 2 = 0 from rfl] at hx545_0);(try rw [Addr.add_zero'] at hx545_0);(try rw [show ((0:Int)).toNat = 0 from rfl] at hx545_1);(try rw [show 0 * 2 = 0 from rfl] at hx545_1);(try rw [Addr.add_zero'] at hx545_1);have HR545_0:=A_ hi545_0;have HC545_0:=A_ hl545_0;clear hi545_0 hl545_0;have HR545_1:=A_ hi545_1;have HC545_1:=A_ hl545_1;clear hi545_1 hl545_1;replace p545:=eq_true p545;replace q545:=eq_true q545) | ((with_reducible refine gB_ (N:=5) rfl ?_);refine bx_ 5 #[.slice none 0 0,.slice none 0 0] 38 ?_;intro gb546 hg w5 hbox hb;replace HO0:=A_ (Kd.V_below (Kd.V_elderB (by (with_reducible repeat (first | apply Kd.V_alloc | apply Kd.V_drewN | apply Kd.V_drew));exact HO0.out) gb546 (Nat.le_of_eq hg.symm)) hb);replace HL545_0:=A_ (Kd.V_below (Kd.V_elderB (by (with_reducible repeat (first | apply Kd.V_alloc | apply Kd.V_drewN | apply Kd.V_drew));exact HL545_0.out) gb546 (Nat.le_of_eq hg.symm)) hb);replace HL545_1:=A_ (Kd.V_below (Kd.V_elderB (by (with_reducible repeat (first | apply Kd.V_alloc | apply Kd.V_drewN | apply Kd.V_drew));exact HL545_1.out) gb546 (Nat.le_of_eq hg.symm)) hb);have BK546:=A_ hbox;have GW546:=gw_ w hg;have GE546:=GW546;replace HB:=b1_ hb;have NB544_546:=gN_ BK544 hg;have NB546_544:=gP_ BK544 hg;replace BK544:=bb_ BK544 hb;clear hb hbox hg;have hnb6:=NB546_544.out;have hnc6:=NB544_546.out;obtain ⟨hcz7_0,hcz7_1,hfz7_0,hfz7_1⟩:=c2_ BK546))
  go_loopg [6] k (fun kq v6 w'=>∃ (x6_1:Int) (x547000_1:List Int) (x547001_1:List Int) (u547000:Value) (u547001:Value),v6 = .int .i64 x6_1∧Aside0 (Z19.l0 kq l0 x6_1 x547000_1 x547001_1 = some (r1,r2))∧Aside0 (kq≤k)∧Aside0 (Kd.V k38 38 w' w.heap.size (fun k_=>(P0_ k_ ∨ w.heap.size≤k_)∧k_≠gb544∧k_≠gb546) (.slice (some ad545) l0.length c0) l0)∧Aside0 (Kd.V (Kd.int .i64) 3 w' w.heap.size (fun k_=>(P0_ k_ ∨ w.heap.size≤k_)∧k_≠gb544∧k_≠gb546) u547000 x547000_1)∧Aside0 (Kd.V (Kd.int .i64) 3 w' w.heap.size (fun k_=>(P0_ k_ ∨ w.heap.size≤k_)∧k_≠gb544∧k_≠gb546) u547001 x547001_1)∧Aside0 (w'.heap[gb544]? = some (.cells #[(.slice none 0 0),(.slice none 0 0)] 38 (0,0)))∧Aside0 (w'.heap[gb546]? = some (.cells #[u547000,u547001] 38 (0,0)))∧Aside0 (Below w.heap.size w w')∧Aside0 (AtJ w l0 (some ad545) u547000 u547001 x547000_1 x547001_1))
  case atStart=>exact ⟨(1),((rd_T38 l0 0).f0),((rd_T38 l0 0).f1),(.slice A545_0 ((rd_T38 l0 0).f0).length c545_0),(.slice A545_1 ((rd_T38 l0 0).f1).length c545_1),qc_,H',⟨nA_ _⟩,⟨by (with_reducible repeat (first | apply Kd.V_alloc | apply Kd.V_drewN | apply Kd.V_drew));exact Kd.V_mono (Kd.V_far (p:=⟨gb546,1,none⟩) (Kd.V_far (p:=⟨gb546,0,none⟩) (Kd.V_mono HO0.out (fun k_ hk=>(⟨hk,hk.2⟩:_∧k_≠gb546))) (fun _ hk=>hk.2) (.slice A545_0 ((rd_T38 l0 0).f0).length c545_0)) (fun _ hk=>hk.2) (.slice A545_1 ((rd_T38 l0 0).f1).length c545_1)) (fun _ hk=>⟨hk.1.1.1,⟨hk.1.1.2,hk.1.2⟩⟩)⟩,⟨by (with_reducible repeat (first | apply Kd.V_alloc | apply Kd.V_drewN | apply Kd.V_drew));exact Kd.V_mono (Kd.V_far (p:=⟨gb546,1,none⟩) (Kd.V_far (p:=⟨gb546,0,none⟩) (Kd.V_mono HL545_0.out (fun k_ hk=>(⟨hk,hk.2⟩:_∧k_≠gb546))) (fun _ hk=>hk.2) (.slice A545_0 ((rd_T38 l0 0).f0).length c545_0)) (fun _ hk=>hk.2) (.slice A545_1 ((rd_T38 l0 0).f1).length c545_1)) (fun _ hk=>⟨hk.1.1.1,⟨hk.1.1.2,hk.1.2⟩⟩)⟩,⟨by (with_reducible repeat (first | apply Kd.V_alloc | apply Kd.V_drewN | apply Kd.V_drew));exact Kd.V_mono (Kd.V_far (p:=⟨gb546,1,none⟩) (Kd.V_far (p:=⟨gb546,0,none⟩) (Kd.V_mono HL545_1.out (fun k_ hk=>(⟨hk,hk.2⟩:_∧k_≠gb546))) (fun _ hk=>hk.2) (.slice A545_0 ((rd_T38 l0 0).f0).length c545_0)) (fun _ hk=>hk.2) (.slice A545_1 ((rd_T38 l0 0).f1).length c545_1)) (fun _ hk=>⟨hk.1.1.1,⟨hk.1.1.2,hk.1.2⟩⟩)⟩,⟨by (with_reducible repeat (first | refine kA_ ?_ _ | refine kB_ ?_ | refine kC_ ?_ _));refine blk_far ?_ NB544_546.out _;(with_reducible repeat (first | refine kA_ ?_ _ | refine kB_ ?_ | refine kC_ ?_ _));refine blk_far ?_ NB544_546.out _;(with_reducible repeat (first | refine kA_ ?_ _ | refine kB_ ?_ | refine kC_ ?_ _));exact BK544.out⟩,⟨qp_⟩,⟨hB_⟩,HJ⟩
  case round =>
   clear H'
   obtain ⟨x6_1,x547000_1,x547001_1,u547000,u547001,rfl,HA,HK1,HO_0,HO_547000,HO_547001,BK544,BK546,HB,HJ⟩:=hrel
   cases gk with
   | zero=>exact absurd HA.out (by simp [Z19.l0])
   | succ k1 =>
    have H:=HA.out
    clear HA
    simp only [Z19.l0] at H
    by_cases c8:x6_1 < (l0.length:Int)
    ·rw [if_pos c8] at H
     have c8b0:=oC_ c8
     clear c8
     have c9:=cp_ H
     replace H:=ca_ H
     have c9b0:=oC_ c9
     clear c9
     obtain ⟨t548,A10,H⟩:=bi_ H
     by_cases c11:t548 < 0
     ·rw [if_pos c11] at H
      have c11b0:=oC_ c11
      clear c11
      have H':=A_ H
      clear H
      try go_wp2
      replace HO_0:=A_ (Kd.V_drew HO_0.out)
      replace HO_547000:=A_ (Kd.V_drew HO_547000.out)
      replace HO_547001:=A_ (Kd.V_drew HO_547001.out)
      replace BK544:=A_ (kB_ BK544.out)
      replace BK546:=A_ (kB_ BK546.out)
      replace HB:=A_ (bC_ HB.out)
      have p547:0≤(x6_1:Int):=oB_ qe_
      have q547:x6_1 < (l0.length:Int):=oB_ qe_
      obtain ⟨ad547,A547_0,c547_0,A547_1,c547_1,e547,hx547_0,hx547_1,hl547_0,hi547_0,hl547_1,hi547_1⟩:=at_T38 (Kd.V_reads' HO_0.out).2.2 x6_1 p547 q547
      obtain rfl:ad545 = ad547:=(by injection e547)
      obtain ⟨ce547,hce547,hMe547,hcc547⟩:=Kd.V_get HO_0.out z38 x6_1 p547 (by first | exact q547 | exact oB_ qe_ | (have e_:=(Kd.V_reads' HO_0.out).1;omega))
      obtain ⟨ua547_0,uc547_0,ua547_1,uc547_1,rfl,ul547_0,ge547_0,ul547_1,ge547_1⟩:=k38_openF hMe547
      have hv547_0:=hcc547 0 _ rfl
      rw [Nat.add_zero] at hv547_0
      replace hv547_0:=Option.some.inj (hv547_0.symm.trans hx547_0)
      injection hv547_0 with hva_ hvn_ hvc_
      rw [hva_] at ge547_0
      rw [hvc_] at ul547_0
      have HL547_0:=A_ (show Kd.V (Kd.int .i64) 3 _ w.heap.size _ _ ((rd_T38 l0 x6_1).f0) from Kd.V_mk ul547_0 ge547_0)
      clear hva_ hvn_ hvc_ ge547_0 ul547_0
      have hv547_1:=hcc547 1 _ rfl
      rw [add_field _ _ 1 (by omega)] at hv547_1
      replace hv547_1:=Option.some.inj (hv547_1.symm.trans hx547_1)
      injection hv547_1 with hva_ hvn_ hvc_
      rw [hva_] at ge547_1
      rw [hvc_] at ul547_1
      have HL547_1:=A_ (show Kd.V (Kd.int .i64) 3 _ w.heap.size _ _ ((rd_T38 l0 x6_1).f1) from Kd.V_mk ul547_1 ge547_1)
      clear hva_ hvn_ hvc_ ge547_1 ul547_1
      clear hcc547 hce547
      have HJ547:=A_ (atJ_of HS0.out hB_ x6_1 p547 q547 hx547_0 hx547_1)
      have HR547_0:=A_ hi547_0
      have HC547_0:=A_ hl547_0
      clear hi547_0 hl547_0
      have HR547_1:=A_ hi547_1
      have HC547_1:=A_ hl547_1
      clear hi547_1 hl547_1
      replace p547:=eq_true p547
      replace q547:=eq_true q547
      obtain ⟨Ao13,co13,eo13⟩:=Kd.V_slice HO_547000.out
      (first | subst eo13 | (injection eo13 with f1_ f2_ f3_;have f4_:=f1_.symm;have f5_:=f3_.symm;clear f1_ f2_ f3_;subst f4_;subst f5_))
      obtain ⟨Ao14,co14,eo14⟩:=Kd.V_slice HO_547001.out
      (first | subst eo14 | (injection eo14 with f1_ f2_ f3_;have f4_:=f1_.symm;have f5_:=f3_.symm;clear f1_ f2_ f3_;subst f4_;subst f5_))
      refine start_ (n:=8) (S:=fun w'=>w'.cell? ⟨gb546,0,none⟩ = some (.slice Ao13 x547000_1.length co13)∧w'.cell? ⟨gb546,1,none⟩ = some (.slice Ao14 x547001_1.length co14)∧w'.cell? (ad545.add ((x6_1).toNat * 2)) = some (.slice A547_0 ((rd_T38 l0 x6_1).f0).length c547_0)∧w'.cell? ⟨(ad545.add ((x6_1).toNat * 2)).block,(ad545.add ((x6_1).toNat * 2)).off + 1,none⟩ = some (.slice A547_1 ((rd_T38 l0 x6_1).f1).length c547_1)) (ds:=[]) (bl_ 8 0) (by kernel_rfl) rfl (by kernel_rfl) ⟨cz0_ BK546,cz1_ BK546,hx547_0,hx547_1⟩ (fun hHeld=>?_);refine with_tabW Z19.tab7 Z19.bits7 (fun HT_ HW_=>?_)
      generalize wr.drew = w12 at HO_0 HO_547000 HO_547001 BK544 BK546 HB HL547_0 HL547_1 HR547_0 HR547_1 hx547_0 hx547_1 hHeld ⊢
      refine pu_ 0 (some 20) (bl_ 8 1) HT_ ?_
      refine pu_ 1 (some 21) (bl_ 8 3) HT_ ?_
      refine pu_ 2 (some 22) (bl_ 8 7) HT_ ?_
      refine pu_ 3 (some 23) (bl_ 8 15) HT_ ?_
      refine ta_ 4 (some 24) (bl_ 8 31) HT_ HW_ hHeld ?_
      refine ta_ 5 (some 25) (bl_ 8 63) HT_ HW_ hHeld ?_
      refine on_ 6 (some 26) (bl_ 8 127) HT_ (fun K hK=>?_)
      refine goesF_ Tryz.func57 (by kernel_rfl) rfl #[.agg #[.slice A547_0 ((rd_T38 l0 x6_1).f0).length c547_0,.slice A547_1 ((rd_T38 l0 x6_1).f1).length c547_1],.agg #[.slice Ao13 x547000_1.length co13,.slice Ao14 x547001_1.length co14]] (by rfl) rfl rfl qa_ ?_
      with_reducible refine (Z4.calls k1 _ _ ((rd_T38 l0 x6_1).f0) _ _ ((rd_T38 l0 x6_1).f1) _ _ x547000_1 _ _ x547001_1 t548 _ ?side1 ?side2 ?side3 ?side4 ?side5 ?side6 ?side7 ?side8 A10.out).mono ?_
      (case side1=>repeat (first | exact (by repeat (first | (with_reducible exact HR547_0.out) | (with_reducible refine cA_ ?_ _) | (with_reducible refine cB_ ?_ _) | (with_reducible refine cC_ ?_) | exact HR547_0.out)) | (with_reducible first | refine cA_ ?_ _ | refine cB_ ?_ _ | refine cC_ ?_)))
      (case side2=>exact HC547_0.out)
      (case side3=>repeat (first | exact (by repeat (first | (with_reducible exact HR547_1.out) | (with_reducible refine cA_ ?_ _) | (with_reducible refine cB_ ?_ _) | (with_reducible refine cC_ ?_) | exact HR547_1.out)) | (with_reducible first | refine cA_ ?_ _ | refine cB_ ?_ _ | refine cC_ ?_)))
      (case side4=>exact HC547_1.out)
      (case side5=>exact cw_ ((Kd.V_reads' HO_547000.out).2.2))
      (case side6=>exact (Kd.V_reads' HO_547000.out).2.1)
      (case side7=>exact cw_ ((Kd.V_reads' HO_547001.out).2.2))
      (case side8=>exact (Kd.V_reads' HO_547001.out).2.1)
      rintro e w15 ⟨rfl,hb⟩
      have HS2_:=(hb.cell (World.block_lt_of_cell? _ _ (hHeld.2.2.1))).trans (hHeld.2.2.1)
      have HS3_:=(hb.cell (World.block_lt_of_cell? _ _ (hHeld.2.2.2))).trans (hHeld.2.2.2)
      refine ⟨_,rfl,?_⟩
      replace HO_0:=A_ (Kd.V_below (by (with_reducible repeat (first | apply Kd.V_alloc | apply Kd.V_drewN | apply Kd.V_drew));exact HO_0.out) hb)
      replace HO_547000:=A_ (Kd.V_below (by (with_reducible repeat (first | apply Kd.V_alloc | apply Kd.V_drewN | apply Kd.V_drew));exact HO_547000.out) hb)
      replace HO_547001:=A_ (Kd.V_below (by (with_reducible repeat (first | apply Kd.V_alloc | apply Kd.V_drewN | apply Kd.V_drew));exact HO_547001.out) hb)
      replace HL547_0:=A_ (Kd.V_below (by (with_reducible repeat (first | apply Kd.V_alloc | apply Kd.V_drewN | apply Kd.V_drew));exact HL547_0.out) hb)
      replace HL547_1:=A_ (Kd.V_below (by (with_reducible repeat (first | apply Kd.V_alloc | apply Kd.V_drewN | apply Kd.V_drew));exact HL547_1.out) hb)
      replace BK544:=bb_ BK544 hb
      replace BK546:=bb_ BK546 hb
      replace HR547_0:=A_ (cD_ (by repeat (first | (with_reducible exact HR547_0.out) | (with_reducible refine cA_ ?_ _) | (with_reducible refine cB_ ?_ _) | (with_reducible refine cC_ ?_) | exact HR547_0.out)) hb)
      replace HR547_1:=A_ (cD_ (by repeat (first | (with_reducible exact HR547_1.out) | (with_reducible refine cA_ ?_ _) | (with_reducible refine cB_ ?_ _) | (with_reducible refine cC_ ?_) | exact HR547_1.out)) hb)
      replace HB:=b1_ hb
      clear hb
      refine hK.out _ _ ⟨cz0_ BK546,cz1_ BK546,HS2_,HS3_⟩ (fun hHeld=>?_)
      clear hK K
      refine no_ (some 26) ?_
      refine pu_ 7 (some 27) (bl_ 8 255) HT_ ?_
      refine done_ (done_of HT_.out (by kernel_rfl)) ?_
      have p549:0≤(x6_1:Int):=oB_ qe_
      have q549:x6_1 < (l0.length:Int):=oB_ qe_
      obtain ⟨ad549,A549_0,c549_0,A549_1,c549_1,e549,hx549_0,hx549_1,hl549_0,hi549_0,hl549_1,hi549_1⟩:=at_T38 (Kd.V_reads' HO_0.out).2.2 x6_1 p549 q549
      obtain rfl:ad545 = ad549:=(by injection e549)
      have e0_:=Option.some.inj (hx549_0.symm.trans hHeld.2.2.1)
      injection e0_ with f1_ f2_ f3_
      have e1_:=Option.some.inj (hx549_1.symm.trans hHeld.2.2.2)
      injection e1_ with f4_ f5_ f6_
      subst f1_ f3_ f4_ f6_
      clear f2_ f5_
      obtain ⟨ce549,hce549,hMe549,hcc549⟩:=Kd.V_get HO_0.out z38 x6_1 p549 (by first | exact q549 | exact oB_ qe_ | (have e_:=(Kd.V_reads' HO_0.out).1;omega))
      obtain ⟨ua549_0,uc549_0,ua549_1,uc549_1,rfl,ul549_0,ge549_0,ul549_1,ge549_1⟩:=k38_openF hMe549
      have hv549_0:=hcc549 0 _ rfl
      rw [Nat.add_zero] at hv549_0
      replace hv549_0:=Option.some.inj (hv549_0.symm.trans hx549_0)
      injection hv549_0 with hva_ hvn_ hvc_
      rw [hva_] at ge549_0
      rw [hvc_] at ul549_0
      have HL549_0:=A_ (show Kd.V (Kd.int .i64) 3 _ w.heap.size _ _ ((rd_T38 l0 x6_1).f0) from Kd.V_mk ul549_0 ge549_0)
      clear hva_ hvn_ hvc_ ge549_0 ul549_0
      have hv549_1:=hcc549 1 _ rfl
      rw [add_field _ _ 1 (by omega)] at hv549_1
      replace hv549_1:=Option.some.inj (hv549_1.symm.trans hx549_1)
      injection hv549_1 with hva_ hvn_ hvc_
      rw [hva_] at ge549_1
      rw [hvc_] at ul549_1
      have HL549_1:=A_ (show Kd.V (Kd.int .i64) 3 _ w.heap.size _ _ ((rd_T38 l0 x6_1).f1) from Kd.V_mk ul549_1 ge549_1)
      clear hva_ hvn_ hvc_ ge549_1 ul549_1
      clear hcc549 hce549
      have HJ549:=A_ (atJ_of HS0.out hB_ x6_1 p549 q549 hx549_0 hx549_1)
      have HR549_0:=A_ hi549_0
      have HC549_0:=A_ hl549_0
      clear hi549_0 hl549_0
      have HR549_1:=A_ hi549_1
      have HC549_1:=A_ hl549_1
      clear hi549_1 hl549_1
      replace p549:=eq_true p549
      replace q549:=eq_true q549
      have hnb16:=NB546_544.out
      have hnc16:=NB544_546.out
      obtain ⟨hcz17_0,hcz17_1,hfz17_0,hfz17_1⟩:=c2_ BK546
      try go_wp2
      go_roundg k1
      case measure=>have:=HK1.out;omega
      case rel=>exact ⟨(wrap64 (x6_1 + 1)),((rd_T38 l0 x6_1).f0),((rd_T38 l0 x6_1).f1),(.slice A549_0 ((rd_T38 l0 x6_1).f0).length c549_0),(.slice A549_1 ((rd_T38 l0 x6_1).f1).length c549_1),qc_,H',⟨by have:=HK1.out;omega⟩,⟨by (with_reducible repeat (first | apply Kd.V_alloc | apply Kd.V_drewN | apply Kd.V_drew));exact Kd.V_mono (Kd.V_far (p:=⟨gb546,1,none⟩) (Kd.V_far (p:=⟨gb546,0,none⟩) (Kd.V_mono HO_0.out (fun k_ hk=>(⟨hk,hk.2.2⟩:_∧k_≠gb546))) (fun _ hk=>hk.2) (.slice A549_0 ((rd_T38 l0 x6_1).f0).length c549_0)) (fun _ hk=>hk.2) (.slice A549_1 ((rd_T38 l0 x6_1).f1).length c549_1)) (fun _ hk=>⟨hk.1.1,⟨hk.1.2.1,hk.1.2.2⟩⟩)⟩,⟨by (with_reducible repeat (first | apply Kd.V_alloc | apply Kd.V_drewN | apply Kd.V_drew));exact Kd.V_mono (Kd.V_far (p:=⟨gb546,1,none⟩) (Kd.V_far (p:=⟨gb546,0,none⟩) (Kd.V_mono HL549_0.out (fun k_ hk=>(⟨hk,hk.2.2⟩:_∧k_≠gb546))) (fun _ hk=>hk.2) (.slice A549_0 ((rd_T38 l0 x6_1).f0).length c549_0)) (fun _ hk=>hk.2) (.slice A549_1 ((rd_T38 l0 x6_1).f1).length c549_1)) (fun _ hk=>⟨hk.1.1,⟨hk.1.2.1,hk.1.2.2⟩⟩)⟩,⟨by (with_reducible repeat (first | apply Kd.V_alloc | apply Kd.V_drewN | apply Kd.V_drew));exact Kd.V_mono (Kd.V_far (p:=⟨gb546,1,none⟩) (Kd.V_far (p:=⟨gb546,0,none⟩) (Kd.V_mono HL549_1.out (fun k_ hk=>(⟨hk,hk.2.2⟩:_∧k_≠gb546))) (fun _ hk=>hk.2) (.slice A549_0 ((rd_T38 l0 x6_1).f0).length c549_0)) (fun _ hk=>hk.2) (.slice A549_1 ((rd_T38 l0 x6_1).f1).length c549_1)) (fun _ hk=>⟨hk.1.1,⟨hk.1.2.1,hk.1.2.2⟩⟩)⟩,⟨by (with_reducible repeat (first | refine kA_ ?_ _ | refine kB_ ?_ | refine kC_ ?_ _));refine blk_far ?_ NB544_546.out _;(with_reducible repeat (first | refine kA_ ?_ _ | refine kB_ ?_ | refine kC_ ?_ _));refine blk_far ?_ NB544_546.out _;(with_reducible repeat (first | refine kA_ ?_ _ | refine kB_ ?_ | refine kC_ ?_ _));exact BK544.out⟩,⟨qp_⟩,⟨hB_⟩,HJ549⟩
     ·rw [if_neg c11] at H
      have c11b0:=oD_ c11
      clear c11
      have H':=A_ H
      clear H
      try go_wp2
      replace HO_0:=A_ (Kd.V_drew HO_0.out)
      replace HO_547000:=A_ (Kd.V_drew HO_547000.out)
      replace HO_547001:=A_ (Kd.V_drew HO_547001.out)
      replace BK544:=A_ (kB_ BK544.out)
      replace BK546:=A_ (kB_ BK546.out)
      replace HB:=A_ (bC_ HB.out)
      have p547:0≤(x6_1:Int):=oB_ qe_
      have q547:x6_1 < (l0.length:Int):=oB_ qe_
      obtain ⟨ad547,A547_0,c547_0,A547_1,c547_1,e547,hx547_0,hx547_1,hl547_0,hi547_0,hl547_1,hi547_1⟩:=at_T38 (Kd.V_reads' HO_0.out).2.2 x6_1 p547 q547
      obtain rfl:ad545 = ad547:=(by injection e547)
      obtain ⟨ce547,hce547,hMe547,hcc547⟩:=Kd.V_get HO_0.out z38 x6_1 p547 (by first | exact q547 | exact oB_ qe_ | (have e_:=(Kd.V_reads' HO_0.out).1;omega))
      obtain ⟨ua547_0,uc547_0,ua547_1,uc547_1,rfl,ul547_0,ge547_0,ul547_1,ge547_1⟩:=k38_openF hMe547
      have hv547_0:=hcc547 0 _ rfl
      rw [Nat.add_zero] at hv547_0
      replace hv547_0:=Option.some.inj (hv547_0.symm.trans hx547_0)
      injection hv547_0 with hva_ hvn_ hvc_
      rw [hva_] at ge547_0
      rw [hvc_] at ul547_0
      have HL547_0:=A_ (show Kd.V (Kd.int .i64) 3 _ w.heap.size _ _ ((rd_T38 l0 x6_1).f0) from Kd.V_mk ul547_0 ge547_0)
      clear hva_ hvn_ hvc_ ge547_0 ul547_0
      have hv547_1:=hcc547 1 _ rfl
      rw [add_field _ _ 1 (by omega)] at hv547_1
      replace hv547_1:=Option.some.inj (hv547_1.symm.trans hx547_1)
      injection hv547_1 with hva_ hvn_ hvc_
      rw [hva_] at ge547_1
      rw [hvc_] at ul547_1
      have HL547_1:=A_ (show Kd.V (Kd.int .i64) 3 _ w.heap.size _ _ ((rd_T38 l0 x6_1).f1) from Kd.V_mk ul547_1 ge547_1)
      clear hva_ hvn_ hvc_ ge547_1 ul547_1
      clear hcc547 hce547
      have HJ547:=A_ (atJ_of HS0.out hB_ x6_1 p547 q547 hx547_0 hx547_1)
      have HR547_0:=A_ hi547_0
      have HC547_0:=A_ hl547_0
      clear hi547_0 hl547_0
      have HR547_1:=A_ hi547_1
      have HC547_1:=A_ hl547_1
      clear hi547_1 hl547_1
      replace p547:=eq_true p547
      replace q547:=eq_true q547
      obtain ⟨Ao19,co19,eo19⟩:=Kd.V_slice HO_547000.out
      (first | subst eo19 | (injection eo19 with f1_ f2_ f3_;have f4_:=f1_.symm;have f5_:=f3_.symm;clear f1_ f2_ f3_;subst f4_;subst f5_))
      obtain ⟨Ao20,co20,eo20⟩:=Kd.V_slice HO_547001.out
      (first | subst eo20 | (injection eo20 with f1_ f2_ f3_;have f4_:=f1_.symm;have f5_:=f3_.symm;clear f1_ f2_ f3_;subst f4_;subst f5_))
      refine start_ (n:=8) (S:=fun w'=>w'.cell? ⟨gb546,0,none⟩ = some (.slice Ao19 x547000_1.length co19)∧w'.cell? ⟨gb546,1,none⟩ = some (.slice Ao20 x547001_1.length co20)∧w'.cell? (ad545.add ((x6_1).toNat * 2)) = some (.slice A547_0 ((rd_T38 l0 x6_1).f0).length c547_0)∧w'.cell? ⟨(ad545.add ((x6_1).toNat * 2)).block,(ad545.add ((x6_1).toNat * 2)).off + 1,none⟩ = some (.slice A547_1 ((rd_T38 l0 x6_1).f1).length c547_1)) (ds:=[]) (bl_ 8 0) (by kernel_rfl) rfl (by kernel_rfl) ⟨cz0_ BK546,cz1_ BK546,hx547_0,hx547_1⟩ (fun hHeld=>?_);refine with_tabW Z19.tab7 Z19.bits7 (fun HT_ HW_=>?_)
      generalize wr.drew = w18 at HO_0 HO_547000 HO_547001 BK544 BK546 HB HL547_0 HL547_1 HR547_0 HR547_1 hx547_0 hx547_1 hHeld ⊢
      refine pu_ 0 (some 20) (bl_ 8 1) HT_ ?_
      refine pu_ 1 (some 21) (bl_ 8 3) HT_ ?_
      refine pu_ 2 (some 22) (bl_ 8 7) HT_ ?_
      refine pu_ 3 (some 23) (bl_ 8 15) HT_ ?_
      refine ta_ 4 (some 24) (bl_ 8 31) HT_ HW_ hHeld ?_
      refine ta_ 5 (some 25) (bl_ 8 63) HT_ HW_ hHeld ?_
      refine on_ 6 (some 26) (bl_ 8 127) HT_ (fun K hK=>?_)
      refine goesF_ Tryz.func57 (by kernel_rfl) rfl #[.agg #[.slice A547_0 ((rd_T38 l0 x6_1).f0).length c547_0,.slice A547_1 ((rd_T38 l0 x6_1).f1).length c547_1],.agg #[.slice Ao19 x547000_1.length co19,.slice Ao20 x547001_1.length co20]] (by rfl) rfl rfl qa_ ?_
      with_reducible refine (Z4.calls k1 _ _ ((rd_T38 l0 x6_1).f0) _ _ ((rd_T38 l0 x6_1).f1) _ _ x547000_1 _ _ x547001_1 t548 _ ?side1 ?side2 ?side3 ?side4 ?side5 ?side6 ?side7 ?side8 A10.out).mono ?_
      (case side1=>repeat (first | exact (by repeat (first | (with_reducible exact HR547_0.out) | (with_reducible refine cA_ ?_ _) | (with_reducible refine cB_ ?_ _) | (with_reducible refine cC_ ?_) | exact HR547_0.out)) | (with_reducible first | refine cA_ ?_ _ | refine cB_ ?_ _ | refine cC_ ?_)))
      (case side2=>exact HC547_0.out)
      (case side3=>repeat (first | exact (by repeat (first | (with_reducible exact HR547_1.out) | (with_reducible refine cA_ ?_ _) | (with_reducible refine cB_ ?_ _) | (with_reducible refine cC_ ?_) | exact HR547_1.out)) | (with_reducible first | refine cA_ ?_ _ | refine cB_ ?_ _ | refine cC_ ?_)))
      (case side4=>exact HC547_1.out)
      (case side5=>exact cw_ ((Kd.V_reads' HO_547000.out).2.2))
      (case side6=>exact (Kd.V_reads' HO_547000.out).2.1)
      (case side7=>exact cw_ ((Kd.V_reads' HO_547001.out).2.2))
      (case side8=>exact (Kd.V_reads' HO_547001.out).2.1)
      rintro e w21 ⟨rfl,hb⟩
      have HS2_:=(hb.cell (World.block_lt_of_cell? _ _ (hHeld.2.2.1))).trans (hHeld.2.2.1)
      have HS3_:=(hb.cell (World.block_lt_of_cell? _ _ (hHeld.2.2.2))).trans (hHeld.2.2.2)
      refine ⟨_,rfl,?_⟩
      replace HO_0:=A_ (Kd.V_below (by (with_reducible repeat (first | apply Kd.V_alloc | apply Kd.V_drewN | apply Kd.V_drew));exact HO_0.out) hb)
      replace HO_547000:=A_ (Kd.V_below (by (with_reducible repeat (first | apply Kd.V_alloc | apply Kd.V_drewN | apply Kd.V_drew));exact HO_547000.out) hb)
      replace HO_547001:=A_ (Kd.V_below (by (with_reducible repeat (first | apply Kd.V_alloc | apply Kd.V_drewN | apply Kd.V_drew));exact HO_547001.out) hb)
      replace HL547_0:=A_ (Kd.V_below (by (with_reducible repeat (first | apply Kd.V_alloc | apply Kd.V_drewN | apply Kd.V_drew));exact HL547_0.out) hb)
      replace HL547_1:=A_ (Kd.V_below (by (with_reducible repeat (first | apply Kd.V_alloc | apply Kd.V_drewN | apply Kd.V_drew));exact HL547_1.out) hb)
      replace BK544:=bb_ BK544 hb
      replace BK546:=bb_ BK546 hb
      replace HR547_0:=A_ (cD_ (by repeat (first | (with_reducible exact HR547_0.out) | (with_reducible refine cA_ ?_ _) | (with_reducible refine cB_ ?_ _) | (with_reducible refine cC_ ?_) | exact HR547_0.out)) hb)
      replace HR547_1:=A_ (cD_ (by repeat (first | (with_reducible exact HR547_1.out) | (with_reducible refine cA_ ?_ _) | (with_reducible refine cB_ ?_ _) | (with_reducible refine cC_ ?_) | exact HR547_1.out)) hb)
      replace HB:=b1_ hb
      clear hb
      refine hK.out _ _ ⟨cz0_ BK546,cz1_ BK546,HS2_,HS3_⟩ (fun hHeld=>?_)
      clear hK K
      refine no_ (some 26) ?_
      refine pu_ 7 (some 27) (bl_ 8 255) HT_ ?_
      refine done_ (done_of HT_.out (by kernel_rfl)) ?_
      try go_wp2
      go_roundg k1
      case measure=>have:=HK1.out;omega
      case rel=>exact ⟨(wrap64 (x6_1 + 1)),(x547000_1),(x547001_1),(.slice Ao19 x547000_1.length co19),(.slice Ao20 x547001_1.length co20),qc_,H',⟨by have:=HK1.out;omega⟩,⟨by (with_reducible repeat (first | apply Kd.V_alloc | apply Kd.V_drewN | apply Kd.V_drew));exact HO_0.out⟩,⟨by (with_reducible repeat (first | apply Kd.V_alloc | apply Kd.V_drewN | apply Kd.V_drew));exact HO_547000.out⟩,⟨by (with_reducible repeat (first | apply Kd.V_alloc | apply Kd.V_drewN | apply Kd.V_drew));exact HO_547001.out⟩,⟨(kk_ BK544)⟩,⟨(kk_ BK546)⟩,⟨hB_⟩,HJ⟩
    ·rw [if_neg c8] at H
     have c8b0:=oD_ c8
     clear c8
     simp only [Option.some.injEq,Prod.mk.injEq] at H
     obtain ⟨rfl,rfl⟩:=H
     have hnb22:=NB546_544.out
     have hnc22:=NB544_546.out
     obtain ⟨hcz23_0,hcz23_1,hfz23_0,hfz23_1⟩:=c2_ BK546
     obtain ⟨Ao24,co24,eo24⟩:=Kd.V_slice HO_547000.out
     subst eo24
     obtain ⟨hcz25_0,hcz25_1,hfz25_0,hfz25_1⟩:=c2_ BK544
     obtain ⟨Ao26,co26,eo26⟩:=Kd.V_slice HO_547001.out
     subst eo26
     go_wp2
     refine bodyPost_ret (results_cell_row rfl _ _ gb544 38 #[.slice Ao24 x547000_1.length co24,.slice Ao26 x547001_1.length co26] (0,0) _ rfl qp_ Tryz.underlying38 rfl (by kernel_rfl)) rfl ?_
     exact ⟨_,_,qb_,by (with_reducible repeat (first | apply Kd.V_alloc | apply Kd.V_drewN | apply Kd.V_drew));exact Kd.V_mono (Kd.V_far (p:=⟨gb544,1,none⟩) (Kd.V_far (p:=⟨gb544,0,none⟩) (Kd.V_mono HO_547000.out (fun k_ hk=>(⟨hk,hk.2.1⟩:_∧k_≠gb544))) (fun _ hk=>hk.2) (.slice Ao24 x547000_1.length co24)) (fun _ hk=>hk.2) (.slice Ao26 x547001_1.length co26)) (fun _ hk=>hk.1.1),by (with_reducible repeat (first | apply Kd.V_alloc | apply Kd.V_drewN | apply Kd.V_drew));exact Kd.V_mono (Kd.V_far (p:=⟨gb544,1,none⟩) (Kd.V_far (p:=⟨gb544,0,none⟩) (Kd.V_mono HO_547001.out (fun k_ hk=>(⟨hk,hk.2.1⟩:_∧k_≠gb544))) (fun _ hk=>hk.2) (.slice Ao24 x547000_1.length co24)) (fun _ hk=>hk.2) (.slice Ao26 x547001_1.length co26)) (fun _ hk=>hk.1.1),hB_,HJ.out⟩
def Z55.f (k:Nat) (l0_0:List Int) (l0_1:List Int):Option (List Int × List Int × Bool):=(Z27.f k l0_0 l0_1).bind fun t552=>(if (t552.length:Int) = 0 then (some (([]:List Int),([]:List Int),false)) else ((Z19.f k t552).bind fun bt555=>(some (bt555.1,bt555.2,true))))
theorem Z55.mono:∀ a0 a1 k,LeO (Z55.f k a0 a1) (Z55.f (k + 1) a0 a1):=by
 intro a0 a1 k
 unfold Z55.f
 repeat' first|exact Z19.mono _ _|exact Z27.mono _ _ _|exact lo_|refine LeO.ite ?_ ?_|refine LeO.bind ?_ (fun _=>?_)
set_option maxHeartbeats 8000000 in
set_option maxRecDepth 100000 in
theorem Z55.calls (k:Nat) (A0_0:Option Addr) (c0_0:Nat) (l0_0:List Int) (A0_1:Option Addr) (c0_1:Nat) (l0_1:List Int) (r1:List Int) (r2:List Int) (r3:Bool) (w:World) (hr0_0:Kd.C (Kd.int .i64) w A0_0 l0_0.length l0_0) (hc0_0:l0_0.length≤c0_0) (hr0_1:Kd.C (Kd.int .i64) w A0_1 l0_1.length l0_1) (hc0_1:l0_1.length≤c0_1) (h:Z55.f k l0_0 l0_1 = some (r1,r2,r3)) :
  Calls Tryz.prog 38 #[.agg #[.slice A0_0 l0_0.length c0_0,.slice A0_1 l0_1.length c0_1]] w fun e w'=>∃ v0_ v1_:Value,e = .returned (.tuple #[.agg #[v0_,v1_],.bool r3])∧Kd.R (Kd.int .i64) 3 w' w.heap.size (fun k_=>some k_≠(v1_:Value).ownBlock) v0_ r1∧Kd.R (Kd.int .i64) 3 w' w.heap.size (fun k_=>some k_≠(v0_:Value).ownBlock) v1_ r2∧Below w.heap.size w w':=by
 have hu38:=Tryz.underlying38
 have HR0_0:=A_ hr0_0
 have HC0_0:=A_ hc0_0
 clear hr0_0 hc0_0
 have HR0_1:=A_ hr0_1
 have HC0_1:=A_ hc0_1
 clear hr0_1 hc0_1
 have HB:=A_ (Below.refl w.heap.size w)
 have H:=h
 unfold Z55.f at H
 clear h
 obtain ⟨t552,A2,H⟩:=bi_ H
 by_cases c3:(t552.length:Int) = 0
 ·rw [if_pos c3] at H
  have c3b0:((t552.length:Int) == 0) = true:=beq_iff_eq.mpr c3
  have c3b1:((t552.length:Int) != 0) = false:=bne_eq_false_iff_eq.mpr c3
  clear c3
  simp only [Option.some.injEq,Prod.mk.injEq] at H
  obtain ⟨rfl,rfl,rfl⟩:=H
  go_enter Tryz.func38,Tryz.ntmps38
  go_wp2_with (first | ((with_reducible refine gB_ (N:=1) rfl ?_);refine bx_ 1 #[.slice A0_0 l0_0.length c0_0,.slice A0_1 l0_1.length c0_1] 38 ?_;intro gb550 hg w4 hbox hb;have BK550:=A_ hbox;have GW550:=gw_ w hg;have GE550:=GW550;replace HB:=b1_ hb;clear hb hbox hg) | ((with_reducible refine gB_ (N:=2) rfl ?_);refine bx_ 2 #[.slice none 0 0,.slice none 0 0] 38 ?_;intro gb551 hg w5 hbox hb;have BK551:=A_ hbox;have GW551:=gw_ w hg;have GE551:=GW551;replace HB:=b1_ hb;have NB550_551:=gN_ BK550 hg;have NB551_550:=gP_ BK550 hg;replace BK550:=bb_ BK550 hb;clear hb hbox hg;have hnb6:=NB550_551.out;have hnc6:=NB551_550.out;obtain ⟨hcz7_0,hcz7_1,hfz7_0,hfz7_1⟩:=c2_ BK550) | ((with_reducible refine gA_ (f:=55) rfl ?_);refine gL_ (some 6) Tryz.func55 #[.agg #[.slice A0_0 l0_0.length c0_0,.slice A0_1 l0_1.length c0_1]] rfl qa_ ?_;(with_reducible refine (Z27.calls k _ _ l0_0 _ _ l0_1 t552 _ (cb_ HR0_0) HC0_0.out (cb_ HR0_1) HC0_1.out A2.out).mono ?_);rintro e w8 ⟨v553,rfl,ho0,hb⟩;refine ⟨_,rfl,?_⟩;have HO554:=A_ (Kd.S_lower (Kd.S_newB (Kd.S_newB (Kd.S_newM (M:=fun k_=>(w.heap.size≤k_)) ho0 (bF_ hB_) (fun k_ h_=>h_)) (kk_ BK550)) (kk_ BK551)) (bF_ hB_));replace BK550:=bb_ BK550 hb;replace BK551:=bb_ BK551 hb;replace HB:=b1_ hb;clear hb ho0;obtain ⟨Ao9,co9,eo9⟩:=Kd.S_slice HO554.out;subst eo9;obtain ⟨hcz10_0,hcz10_1,hfz10_0,hfz10_1⟩:=c2_ BK551))
  refine bodyPost_ret (results_ct rfl _ _ gb551 38 #[.slice none 0 0,.slice none 0 0] (0,0) _ rfl qp_ Tryz.underlying38 rfl (by kernel_rfl)) rfl ?_
  exact ⟨_,_,qb_,(Kd.R_nil _ _ _ _ _),(Kd.R_nil _ _ _ _ _),hB_⟩
 ·rw [if_neg c3] at H
  have c3b0:((t552.length:Int) == 0) = false:=beq_eq_false_iff_ne.mpr c3
  have c3b1:((t552.length:Int) != 0) = true:=bne_iff_ne.mpr c3
  have c3b2:¬ (t552 = []):=fun h_=>c3 (by rw [h_];rfl)
  obtain ⟨⟨t555,t558⟩,A11,H⟩:=bi_ H
  try dsimp only at H
  simp only [Option.some.injEq,Prod.mk.injEq] at H
  obtain ⟨rfl,rfl,rfl⟩:=H
  go_enter Tryz.func38,Tryz.ntmps38
  go_wp2_with (first | ((with_reducible refine gB_ (N:=1) rfl ?_);refine bx_ 1 #[.slice A0_0 l0_0.length c0_0,.slice A0_1 l0_1.length c0_1] 38 ?_;intro gb550 hg w12 hbox hb;have BK550:=A_ hbox;have GW550:=gw_ w hg;have GE550:=GW550;replace HB:=b1_ hb;clear hb hbox hg) | ((with_reducible refine gB_ (N:=2) rfl ?_);refine bx_ 2 #[.slice none 0 0,.slice none 0 0] 38 ?_;intro gb551 hg w13 hbox hb;have BK551:=A_ hbox;have GW551:=gw_ w hg;have GE551:=GW551;replace HB:=b1_ hb;have NB550_551:=gN_ BK550 hg;have NB551_550:=gP_ BK550 hg;replace BK550:=bb_ BK550 hb;clear hb hbox hg;have hnb14:=NB550_551.out;have hnc14:=NB551_550.out;obtain ⟨hcz15_0,hcz15_1,hfz15_0,hfz15_1⟩:=c2_ BK550) | ((with_reducible refine gA_ (f:=55) rfl ?_);refine gL_ (some 6) Tryz.func55 #[.agg #[.slice A0_0 l0_0.length c0_0,.slice A0_1 l0_1.length c0_1]] rfl qa_ ?_;(with_reducible refine (Z27.calls k _ _ l0_0 _ _ l0_1 t552 _ (cb_ HR0_0) HC0_0.out (cb_ HR0_1) HC0_1.out A2.out).mono ?_);rintro e w16 ⟨v553,rfl,ho0,hb⟩;refine ⟨_,rfl,?_⟩;have HO554:=A_ (Kd.S_lower (Kd.S_newB (Kd.S_newB (Kd.S_newM (M:=fun k_=>(w.heap.size≤k_)) ho0 (bF_ hB_) (fun k_ h_=>h_)) (kk_ BK550)) (kk_ BK551)) (bF_ hB_));replace BK550:=bb_ BK550 hb;replace BK551:=bb_ BK551 hb;replace HB:=b1_ hb;clear hb ho0;obtain ⟨Ao17,co17,eo17⟩:=Kd.S_slice HO554.out;subst eo17) | ((with_reducible refine gA_ (f:=56) rfl ?_);refine gL_ (some 12) Tryz.func56 #[.slice Ao17 t552.length co17,.func (.func 57) #[] #[]] rfl qa_ ?_;(with_reducible refine (Z19.calls k (fun k_=>((((w.heap.size≤k_)∧True)∧k_≠gb550)∧k_≠gb551)) _ _ t552 t555 t558 _ (Kd.S_V (HO554.out)) A11.out).mono ?_);rintro e w18 ⟨v556,v559,rfl,ho0,ho1,hb,hj_⟩;refine ⟨_,rfl,?_⟩;have HOW_:=A_ (atJ_own (ss_ HO554) hj_ hb);clear hj_;replace HO554:=sb_ HO554 hb;have HO557:=A_ (Kd.V_lower (Kd.V_mono (ok':=fun k_=>(w.heap.size≤k_)∧k_≠gb550∧k_≠gb551) ho0 (fun k_ hk_=>⟨Or.elim hk_ (fun hs_=>hs_.1.1.1) (fun hn_=>(Nat.le_trans (bF_ hB_) hn_)),Or.elim hk_ (fun hs_=>hs_.1.2) (fun hn_=>(Kd.freshB (kk_ BK550) k_ hn_)),Or.elim hk_ (fun hs_=>hs_.2) (fun hn_=>(Kd.freshB (kk_ BK551) k_ hn_))⟩)) (bF_ hB_));have HO560:=A_ (Kd.V_lower (Kd.V_mono (ok':=fun k_=>(w.heap.size≤k_)∧k_≠gb550∧k_≠gb551) ho1 (fun k_ hk_=>⟨Or.elim hk_ (fun hs_=>hs_.1.1.1) (fun hn_=>(Nat.le_trans (bF_ hB_) hn_)),Or.elim hk_ (fun hs_=>hs_.1.2) (fun hn_=>(Kd.freshB (kk_ BK550) k_ hn_)),Or.elim hk_ (fun hs_=>hs_.2) (fun hn_=>(Kd.freshB (kk_ BK551) k_ hn_))⟩)) (bF_ hB_));replace BK550:=bb_ BK550 hb;replace BK551:=bb_ BK551 hb;replace HB:=b1_ hb;clear hb ho0 ho1;obtain ⟨Ao19,co19,eo19⟩:=Kd.V_slice HO557.out;subst eo19;obtain ⟨hcz20_0,hcz20_1,hfz20_0,hfz20_1⟩:=c2_ BK551;obtain ⟨Ao21,co21,eo21⟩:=Kd.V_slice HO560.out;subst eo21))
  refine bodyPost_ret (results_ct rfl _ _ gb551 38 #[.slice Ao19 t555.length co19,.slice Ao21 t558.length co21] (0,0) _ rfl qp_ Tryz.underlying38 rfl (by kernel_rfl)) rfl ?_
  exact ⟨_,_,qb_,(rw_ (Kd.R_mono (Kd.R_tight rfl (Kd.R_far (p:=⟨gb551,1,none⟩) (Kd.R_far (p:=⟨gb551,0,none⟩) (Kd.R_types HOW_.out.1 (BK551.out) (by decide)) (fun _ hk=>hk.2) _) (fun _ hk=>hk.2) _)) (fun k_ e1_ e2_=>HOW_.out.2.2 k_ e1_.symm e2_.symm))),(rw_ (Kd.R_mono (Kd.R_tight rfl (Kd.R_far (p:=⟨gb551,1,none⟩) (Kd.R_far (p:=⟨gb551,0,none⟩) (Kd.R_types HOW_.out.2.1 (BK551.out) (by decide)) (fun _ hk=>hk.2) _) (fun _ hk=>hk.2) _)) (fun k_ e1_ e2_=>HOW_.out.2.2 k_ e2_.symm e1_.symm))),hB_⟩
end Go.Proofs.YtoijcallajegfaaGreat.A
end
section
/- Sorting a row of the call's own: what slices.SortFunc leaves. No conditions. -/
namespace Go.Proofs.YtoijcallajegfaaGreat.M
set_option linter.unusedVariables false
set_option linter.unusedSimpArgs false
open Go Go.RowKit Go.Proofs.YtoijcallajegfaaGreatW.PrintWords.Kd Go.Proofs.YtoijcallajegfaaGreatW.PrintWords Go.Proofs.YtoijcallajegfaaGreatW.PrintLast Go.Proofs.YtoijcallajegfaaGreatW.PrintMore Go.Shelf Go.Lib Go.Sort Go.Proofs
structure Cel {α:Type} (d:Kd α) (Q:α→Prop) (w:World) (base:Nat) (ok:Nat→Prop) where
 x:α
 c:List Value
 h:d.M w base ok x c
 q:Q x
section
variable {α:Type} {d:Kd α} {Q:α→Prop} {w W:World} {ok:Nat→Prop} {e base g cap:Nat} {v:Value} {xs:List α}
theorem Cel.len (z:Cel d Q w base ok):z.c.length = d.sz:=d.K_len (d.K_of_M z.h)
theorem Cel.one (z:Cel d Q w base ok):∀ u ∈ z.c,u.oneCell' = true:=d.K_one (d.K_of_M z.h)
theorem Cel.move (z:Cel d Q w base ok) (hm:∀ k,ok k→k < w.heap.size→W.heap[k]? = w.heap[k]?):d.M W base ok z.x z.c :=
 d.M_mono (fun _ hk=>hk.1) (d.M_move (fun k hk=>hm k hk.1 hk.2.2.1) (d.M_bound z.h))
theorem cels_of:∀ (xs:List α) (rows:List (List Value)),rows.length = xs.length→(∀ x ∈ xs,Q x)→(∀ (j:Nat) (x:α) (c:List Value),xs[j]? = some x→rows[j]? = some c→d.M w base ok x c) →
  ∃ l:List (Cel d Q w base ok),l.map (·.x) = xs∧l.map (·.c) = rows
 | [],[],_,_,_=>⟨[],rfl,rfl⟩
 | [],_ :: _,h,_,_=>by simp at h
 | _ :: _,[],h,_,_=>by simp at h
 | x :: xs,c :: rows,h,hq,hf=>by
  obtain ⟨l,h1,h2⟩:=cels_of xs rows (by simpa using h) (fun y hy=>hq y (List.mem_cons_of_mem _ hy)) (fun j y c' hy hc=>hf (j + 1) y c' (by simpa using hy) (by simpa using hc))
  exact ⟨⟨x,c,hf 0 x c rfl rfl,hq x List.mem_cons_self⟩ :: l,by simp [h1],by simp [h2]⟩
theorem flat_lenK {sz:Nat}:∀ {rows:List (List Value)},(∀ c ∈ rows,c.length = sz)→rows.flatten.length = rows.length * sz
 | [],_=>by simp
 | c :: rows,h=>by
  rw [List.flatten_cons,List.length_append,flat_lenK (fun c' hc=>h c' (List.mem_cons_of_mem _ hc)),h c List.mem_cons_self,List.length_cons,Nat.add_mul,Nat.one_mul,Nat.add_comm]
theorem flat_chunk {sz:Nat}:∀ {rows:List (List Value)} (j:Nat) (c:List Value),(∀ c ∈ rows,c.length = sz)→rows[j]? = some c→(rows.flatten.drop (j * sz)).take sz = c
 | [],j,c,_,h=>by simp at h
 | r :: rows,0,c,hl,h=>by
  simp only [List.getElem?_cons_zero,Option.some.injEq] at h
  subst h
  have:=hl r List.mem_cons_self
  rw [Nat.zero_mul,List.drop_zero,List.flatten_cons,List.take_append_of_le_length (by omega),List.take_of_length_le (by omega)]
 | r :: rows,j + 1,c,hl,h=>by
  have h0:=hl r List.mem_cons_self
  have hd:r.drop sz = []:=List.drop_of_length_le (by omega)
  rw [List.flatten_cons,Nat.add_mul,Nat.one_mul,Nat.add_comm,← List.drop_drop,List.drop_append_of_le_length (by omega),hd,List.nil_append]
  exact flat_chunk j c (fun c' hc=>hl c' (List.mem_cons_of_mem _ hc)) (by simpa using h)
theorem flat_at {sz:Nat} {rows:List (List Value)} (hl:∀ c ∈ rows,c.length = sz) {t:Nat} (ht:t < rows.length * sz) {c:List Value} (hc:rows[t / sz]? = some c):rows.flatten[t]? = c[t % sz]?:=by
 have h:=flat_chunk (t / sz) c hl hc
 have hsz:0 < sz:=by
  rcases Nat.eq_zero_or_pos sz with h0 | h0
  ·subst h0;simp at ht
  ·exact h0
 have hm:=Nat.mod_lt t hsz
 rw [← h,List.getElem?_take,if_pos hm,List.getElem?_drop,Nat.mul_comm,Nat.div_add_mod]
theorem R_of_cells {l:List (Cel d Q w base ok)} {okk:Nat→Prop} {cur:Array Value} (hg0:okk g) (hbase:base≤g) (hW:∀ k,k≠g→k < w.heap.size→W.heap[k]? = w.heap[k]?)
  (hg:W.heap[g]? = some (.cells cur e (0,0))) (hn:l.length≤cap) (hm:cap≤maxLen) (hs:cur.size = cap * d.sz) (ht:cur.toList.take (l.length * d.sz) = (l.map (·.c)).flatten) (hok2:∀ k,ok k→okk k∧k≠g) :
  d.R e W base okk (.slice (some ⟨g,0,none⟩) l.length cap) (l.map (·.x)):=by
 have hl:∀ c ∈ l.map (·.c),c.length = d.sz:=by
  intro c hc
  obtain ⟨z,_,rfl⟩:=List.mem_map.1 hc
  exact z.len
 refine ⟨fun k hk=>?_,(l.map (·.c)).flatten,?_,?_,?_⟩
 ·simp only [Value.ownBlock,Option.some.injEq] at hk;rw [← hk];exact hg0
 ·show World.ownsRow W base e d.sz _ _ _
  rw [List.length_map]
  exact ⟨by rw [flat_lenK hl,List.length_map],.inr ⟨g,cap,cur,rfl,hbase,hg,hn,hm,hs,ht⟩⟩
 ·rw [flat_lenK hl,List.length_map,List.length_map]
 ·intro j p hj
  rw [List.getElem?_map] at hj
  cases hz:l[j]? with
  | none=>rw [hz] at hj;simp at hj
  | some z =>
   rw [hz] at hj
   simp only [Option.map_some,Option.some.injEq] at hj
   subst hj
   rw [flat_chunk j z.c hl (by rw [List.getElem?_map,hz];rfl)]
   exact d.M_mono (fun k hk=>⟨(hok2 k hk).1,fun e_=>(hok2 k hk).2 (by simpa [Value.ownBlock] using e_)⟩) (z.move (fun k hk hlt=>hW k (hok2 k hk).2 hlt))
theorem R_cells (h:d.R e w base ok v xs) (hq:∀ x ∈ xs,Q x) (hp:0 < xs.length):∃ g cap cur,v = .slice (some ⟨g,0,none⟩) xs.length cap∧ok g∧base≤g∧g < w.heap.size∧w.heap[g]? = some (.cells cur e (0,0))∧xs.length≤cap∧cap≤maxLen∧cur.size = cap * d.sz ∧
  ∃ l:List (Cel d Q w base (fun k=>ok k∧k≠g)),l.map (·.x) = xs∧cur.toList.take (xs.length * d.sz) = (l.map (·.c)).flatten:=by
 obtain ⟨h0,inner,ho,hr⟩:=h
 obtain ⟨hlen,ho⟩:=ho
 rcases ho with ⟨rfl,hz⟩ | ⟨g,cap,cur,rfl,hb,hg,hn,hm,hs,ht⟩
 ·omega
 ·have hgl:g < w.heap.size:=by
   rcases Nat.lt_or_ge g w.heap.size with h | h
   ·exact h
   ·rw [Array.getElem?_eq_none h] at hg;cases hg
  obtain ⟨l,h1,h2⟩:=cels_of (d:=d) (w:=w) (base:=base) (Q:=Q) (ok:=fun k=>ok k∧k≠g) xs (chunks d.sz xs.length inner) (chunks_length _ _ _) hq (fun j x c hx hc=>by
   rw [chunks_get hc]
   exact d.M_mono (fun k hk=>⟨hk.1,fun e_=>hk.2 (by rw [e_];rfl)⟩) (hr.2 j x hx))
  refine ⟨g,cap,cur,rfl,h0 g rfl,hb,hgl,hg,hn,hm,hs,l,h1,?_⟩
  have hrl:∀ c ∈ l.map (·.c),c.length = d.sz:=by
   intro c hc
   obtain ⟨z,_,rfl⟩:=List.mem_map.1 hc
   exact z.len
  rw [ht]
  apply List.ext_getElem?
  intro t
  have hll:(l.map (·.c)).length = xs.length:=by rw [List.length_map,← h1,List.length_map]
  by_cases htl:t < xs.length * d.sz
  ·have hsz:0 < d.sz:=by
    rcases Nat.eq_zero_or_pos d.sz with h | h
    ·rw [h] at htl;simp at htl
    ·exact h
   have hdiv:t / d.sz < xs.length:=(Nat.div_lt_iff_lt_mul hsz).2 htl
   have hc:=chunks_at (sz:=d.sz) (inner:=inner) hdiv
   rw [← h2] at hc
   rw [flat_at hrl (by rw [hll];exact htl) hc]
   have hmod:=Nat.mod_lt t hsz
   rw [List.getElem?_take,if_pos hmod,List.getElem?_drop,Nat.mul_comm,Nat.div_add_mod]
  ·rw [List.getElem?_eq_none (by rw [hlen];omega),List.getElem?_eq_none (by rw [flat_lenK hrl,hll];omega)]
theorem row_after {cur F:Array Value} {m:Nat} {os:Array Obj} (hg:w.heap[g]? = some (.cells cur e (0,0))) (hF:F.size≤cur.size) (hW:W = grow (putRow id (Sort.ahead w m) g 0 F) os) :
  W.heap[g]? = some (.cells (putCells id 0 F cur) e (0,0))∧(∀ k,k≠g→k < w.heap.size→W.heap[k]? = w.heap[k]?)∧w.heap.size≤W.heap.size∧W.os = w.os∧W.tape = w.tape∧W.output = w.output∧(putCells id 0 F cur).size = cur.size∧(putCells id 0 F cur).toList.take F.size = F.toList:=by
 subst hW
 have hgl:g < w.heap.size:=by
  rcases Nat.lt_or_ge g w.heap.size with h | h
  ·exact h
  ·rw [Array.getElem?_eq_none h] at hg;cases hg
 have hp:∀ k,k < w.heap.size→(grow (putRow id (Sort.ahead w m) g 0 F) os).heap[k]? = (w.heap.modify g (onCells (putCells id 0 F)))[k]?:=by
  intro k hk
  show ((w.heap.modify g (onCells (putCells id 0 F))) ++ os)[k]? = _
  rw [Array.getElem?_append_left (by simpa using hk)]
 refine ⟨?_,?_,?_,rfl,rfl,rfl,by simp [putCells],?_⟩
 ·rw [hp g hgl,Array.getElem?_modify,if_pos rfl,hg];rfl
 ·intro k hk hlt
  rw [hp k hlt,Array.getElem?_modify,if_neg (fun e_=>hk e_.symm)]
 ·show w.heap.size≤((w.heap.modify g (onCells (putCells id 0 F))) ++ os).size
  simp
 ·apply List.ext_getElem?
  intro t
  by_cases ht:t < F.size
  ·rw [List.getElem?_take,if_pos ht,Array.getElem?_toList,Array.getElem?_toList]
   have htc:t < cur.size:=by omega
   simp only [putCells,Array.getElem?_mapIdx,Array.getElem?_eq_getElem htc,Array.getElem?_eq_getElem ht,Option.map_some,Nat.zero_le,true_and,Nat.zero_add,ht,if_true,Nat.sub_zero,id]
   rw [getElem!_pos F t ht]
  ·rw [List.getElem?_eq_none (by simp;omega),List.getElem?_eq_none (by simp;omega)]
theorem flatK_list [Inhabited (Cel d Q w base ok)] (D:Array (Cel d Q w base ok)):(flatK (·.c) d.sz D).toList = (D.toList.map (·.c)).flatten:=by
 have hl:∀ c ∈ D.toList.map (·.c),c.length = d.sz:=by
  intro c hc
  obtain ⟨z,_,rfl⟩:=List.mem_map.1 hc
  exact z.len
 apply List.ext_getElem?
 intro t
 by_cases ht:t < D.size * d.sz
 ·have hsz:0 < d.sz:=by
   rcases Nat.eq_zero_or_pos d.sz with h | h
   ·rw [h] at ht;simp at ht
   ·exact h
  have hdiv:t / d.sz < D.size:=(Nat.div_lt_iff_lt_mul hsz).2 ht
  have hmod:=Nat.mod_lt t hsz
  rw [flat_at hl (by simpa using ht) (c:=D[t / d.sz].c) (by rw [List.getElem?_map,Array.getElem?_toList,Array.getElem?_eq_getElem hdiv];rfl),Array.getElem?_toList]
  rw [Array.getElem?_eq_getElem (by rw [size_flatK];exact ht)]
  have hg:=get_flatK (fun z:Cel d Q w base ok=>z.c) d.sz D t ht
  rw [getElem!_pos _ t (by rw [size_flatK];exact ht),getElem!_pos D _ hdiv] at hg
  have hlen:=D[t / d.sz].len
  rw [hg,getElem!_pos _ _ (by omega),List.getElem?_eq_getElem (by omega)]
 ·rw [List.getElem?_eq_none (by simp;omega),List.getElem?_eq_none (by rw [flat_lenK hl];simp;omega)]
theorem perm_list {β:Type} [Inhabited β] {D D':Array β} (h:PermIn 0 D.size D D'):D'.toList.Perm D.toList:=by
 obtain ⟨hs,_,hp⟩:=h
 have h1:D.extract 0 D.size = D:=by simp
 have h2:D'.extract 0 D.size = D':=by rw [← hs];simp
 rw [h1,h2] at hp
 exact hp
theorem sorted_list {β:Type} [Inhabited β] {lt:β→β→Bool} {D D':Array β} (hs:D'.size = D.size) (h:SortedIn lt 0 D.size D'):D'.toList.Pairwise (fun a b=>lt b a = false):=by
 rw [List.pairwise_iff_getElem]
 intro i j hi hj hij
 have hi':i < D'.size:=by simpa using hi
 have hj':j < D'.size:=by simpa using hj
 have:=h i j (Nat.zero_le _) hij (by omega)
 rwa [getElem!_pos D' i hi',getElem!_pos D' j hj'] at this
theorem below_of {b:Nat} (hW:∀ k,k≠g→k < w.heap.size→W.heap[k]? = w.heap[k]?) (hs:w.heap.size≤W.heap.size) (h1:W.os = w.os) (h2:W.tape = w.tape) (h3:W.output = w.output) (hb:b≤g) (hg:g < w.heap.size):Go.RowKit.Below b w W :=
 ⟨h1,h2,h3,hs,fun k hk=>hW k (by omega) (by omega)⟩
structure Ord3 (Q:α→Prop) (cf:α→α→Int):Prop where
 irr:∀ x,Q x→¬ cf x x < 0
 tr:∀ x y z,Q x→Q y→Q z→cf x y < 0→cf y z < 0→cf x z < 0
 nt:∀ x y z,Q x→Q y→Q z→¬ cf x y < 0→¬ cf y z < 0→¬ cf x z < 0
theorem Ord3.swo {cf:α→α→Int} (h:Ord3 Q cf):SWO (ltOf fun p q:Cel d Q w base ok=>cf p.x q.x) where
 irrefl p:=decide_eq_false (h.irr p.x p.q)
 trans p q r h1 h2:=decide_eq_true (h.tr p.x q.x r.x p.q q.q r.q (of_decide_eq_true h1) (of_decide_eq_true h2))
 ntrans p q r h1 h2:=decide_eq_false (h.nt p.x q.x r.x p.q q.q r.q (of_decide_eq_false h1) (of_decide_eq_false h2))
def SortedTo (d:Kd α) (cf:α→α→Int) (e:Nat) (w w':World) (base:Nat) (ok:Nat→Prop) (v:Value) (xs:List α):Prop :=
 ∃ xs':List α,xs'.Perm xs∧xs'.Pairwise (fun a b=>¬ cf b a < 0)∧d.R e w' base ok v xs'∧Kept w w' (fun k=>some k = v.ownBlock)∧Go.RowKit.Below base w w'
theorem sortedTo_nil {cf:α→α→Int} (h:d.R e w base ok v []):SortedTo d cf e w w base ok v [] :=
 ⟨[],List.Perm.refl _,List.Pairwise.nil,h,Kept.refl _ _,Go.RowKit.Below.refl _ _⟩
theorem sortedTo_of {cf:α→α→Int} {D D':Array (Cel d Q w base (fun k=>ok k∧k≠g))} [Inhabited (Cel d Q w base (fun k=>ok k∧k≠g))] {cur F:Array Value} {m:Nat} {os:Array Obj} (hD:D.toList.map (·.x) = xs) (hp:PermIn 0 D.size D D') (hs:SortedIn (ltOf fun p q:Cel d Q w base (fun k=>ok k∧k≠g)=>cf p.x q.x) 0 D.size D')
  (hF:F.toList = (D'.toList.map (·.c)).flatten) (hW:W = grow (putRow id (Sort.ahead w m) g 0 F) os) (hg0:ok g) (hb:base≤g) (hgl:g < w.heap.size) (hg:w.heap[g]? = some (.cells cur e (0,0))) (hn:xs.length≤cap) (hm:cap≤maxLen) (hc:cur.size = cap * d.sz) :
  SortedTo d cf e w W base ok (.slice (some ⟨g,0,none⟩) xs.length cap) xs:=by
 have hpl:=perm_list hp
 have hlen:D'.toList.length = xs.length:=by rw [hpl.length_eq,← hD,List.length_map]
 have hFs:F.size = xs.length * d.sz:=by
  have h1:F.toList.length = _:=congrArg List.length hF
  rw [flat_lenK (fun c hc=>by obtain ⟨z,_,rfl⟩:=List.mem_map.1 hc;exact z.len),List.length_map,hlen] at h1
  simpa using h1
 obtain ⟨a1,a2,a3,a4,a5,a6,a7,a8⟩:=row_after (W:=W) hg (by rw [hFs,hc];exact Nat.mul_le_mul_right _ hn) hW
 have hN:=R_of_cells (l:=D'.toList) (okk:=ok) (base:=base) (e:=e) (cap:=cap) hg0 hb a2 a1 (by omega) hm (by omega) (by rw [hlen,← hFs,a8,hF]) (fun k hk=>hk)
 rw [hlen] at hN
 refine ⟨D'.toList.map (·.x),?_,?_,hN,⟨a3,fun k hk hne=>a2 k (fun e_=>hne (by rw [e_];rfl)) hk⟩,below_of a2 a3 a4 a5 a6 hb hgl⟩
 ·rw [← hD];exact hpl.map _
 ·rw [List.pairwise_map]
  exact (sorted_list hp.1 hs).imp (fun h=>of_decide_eq_false h)
end
section
variable {P:Program} {ρ:Ren} {α:Type} {d:Kd α} {Q:α→Prop} {w:World} {ok:Nat→Prop} {e base:Nat} {v:Value} {xs:List α}
set_option maxHeartbeats 2000000 in
theorem sortN (L:SlLaysF0.n6 P ρ) (aE:∀ w,(isAgg (ρ.t 24)).run P w = .ok true w) (zE:∀ w,(Go.sizeOf (ρ.t 24)).run P w = .ok d.sz w) {cf:α→α→Int} (hO:Ord3 Q cf) (f:Nat)
  (eg:∀ args w,(callFunc f args).run P w = .ok (.enter f args) w) (hc:∀ (W:World) (x y:α) (cx cy:List Value),Q x→Q y→d.K W x cx→d.K W y cy→Calls P f #[.agg cx.toArray,.agg cy.toArray] W fun e w'=>e = .returned (.int .i64 (cf x y))∧∃ q os',w' = grow (W.drewN q) os')
  (h:d.R e w base ok v xs) (hq:∀ x ∈ xs,Q x) (hsz:xs.length < 4611686018427387904) :
  Calls P (ρ.f 6) #[v,.func (.func f) #[] #[]] w fun e' w'=>e' = .returned (.tuple #[])∧SortedTo d cf e w w' base ok v xs:=by
 rcases Nat.eq_zero_or_pos xs.length with h0 | hp
 ·have hx:xs = []:=List.length_eq_zero_iff.1 h0
  subst hx
  obtain ⟨A,c,rfl⟩:=Kd.R_slice h
  exact (AnyF.slices_SortFunc_none L A c _ w).mono fun _ _ ⟨he,hw⟩=>⟨he,by rw [hw];exact sortedTo_nil h⟩
 ·obtain ⟨g,cap,cur,rfl,hg0,hb,hgl,hg,hn,hm,hcs,l,hl1,hl2⟩:=R_cells h hq hp
  have hll:l.length = xs.length:=by rw [← hl1,List.length_map]
  haveI:Inhabited (Cel d Q w base (fun k=>ok k∧k≠g)):=⟨l[0]'(by omega)⟩
  have hFl:=flatK_list (d:=d) (Q:=Q) (w:=w) (ok:=fun k=>ok k∧k≠g) l.toArray
  have hFs:(flatK (fun z:Cel d Q w base (fun k=>ok k∧k≠g)=>z.c) d.sz l.toArray).size = xs.length * d.sz:=by rw [size_flatK];simp [hll]
  have hcs':xs.length * d.sz≤cur.size:=by rw [hcs];exact Nat.mul_le_mul_right _ hn
  have hH:HoldsK (fun z:Cel d Q w base (fun k=>ok k∧k≠g)=>z.c) d.sz w g 0 l.toArray:=by
   intro j hj
   rw [hFs] at hj
   have h1:cur[j]? = (flatK (fun z:Cel d Q w base (fun k=>ok k∧k≠g)=>z.c) d.sz l.toArray)[j]?:=by
    rw [← Array.getElem?_toList,← Array.getElem?_toList,hFl]
    show _ = (List.map _ l).flatten[j]?
    rw [← hl2,List.getElem?_take,if_pos hj]
   refine ⟨?_,?_⟩
   ·show w.cell? ⟨g,0 + j,none⟩ = _
    rw [Nat.zero_add,getElem!_pos _ j (by rw [hFs];exact hj)]
    simp only [World.cell?,hg,Option.isSome_none,Bool.false_eq_true,if_false]
    rw [h1,Array.getElem?_eq_getElem (by rw [hFs];exact hj)]
    rfl
   ·simp [World.frozen?,hg]
  have key:=AnyQ.slices_SortFunc L d.sz aE zE (fun z:Cel d Q w base (fun k=>ok k∧k≠g)=>z.c) (fun z=>z.len) (fun z=>z.one) (fun p q=>cf p.x q.x) hO.swo f #[] g 0 cap l.toArray w eg
   (fun m os dk hs p q=>by
    have hh:∀ (z:Cel d Q w base (fun k=>ok k∧k≠g)),d.K (sortWorldK (fun z:Cel d Q w base (fun k=>ok k∧k≠g)=>z.c) d.sz w g 0 m dk os) z.x z.c:=fun z=>d.K_of_M (z.move (fun k hk hlt=>(row_after hg (F:=flatK (fun z:Cel d Q w base (fun k=>ok k∧k≠g)=>z.c) d.sz dk) (by rw [size_flatK,hs];simpa [hll] using hcs') rfl).2.1 k hk.2 hlt))
    exact hc _ p.x q.x p.c q.c p.q q.q (hh p) (hh q)) hH hgl (by simpa [hll] using hsz)
  have hsz':l.toArray.size = xs.length:=by simp [hll]
  rw [hsz'] at key
  refine key.mono ?_
  rintro e' w' ⟨rfl,D',n,os,hp',hs',rfl⟩
  rw [← hsz'] at hp' hs'
  exact ⟨rfl,sortedTo_of (D:=l.toArray) (D':=D') (by simpa using hl1) hp' hs' (flatK_list D') rfl hg0 hb hgl hg hn hm hcs⟩
set_option maxHeartbeats 2000000 in
theorem sortN1 (L:SlLaysF.n6 P ρ) (L0:SlLaysF0.n6 P ρ) (hd:d.sz = 1) {cf:α→α→Int} (hO:Ord3 Q cf) (f:Nat)
  (eg:∀ args w,(callFunc f args).run P w = .ok (.enter f args) w) (hc:∀ (W:World) (x y:α) (cx cy:Value),Q x→Q y→d.K W x [cx]→d.K W y [cy]→Calls P f #[cx,cy] W fun e w'=>e = .returned (.int .i64 (cf x y))∧∃ q os',w' = grow (W.drewN q) os')
  (h:d.R e w base ok v xs) (hq:∀ x ∈ xs,Q x) (hsz:xs.length < 4611686018427387904) :
  Calls P (ρ.f 6) #[v,.func (.func f) #[] #[]] w fun e' w'=>e' = .returned (.tuple #[])∧SortedTo d cf e w w' base ok v xs:=by
 rcases Nat.eq_zero_or_pos xs.length with h0 | hp
 ·have hx:xs = []:=List.length_eq_zero_iff.1 h0
  subst hx
  obtain ⟨A,c,rfl⟩:=Kd.R_slice h
  exact (AnyF.slices_SortFunc_none L0 A c _ w).mono fun _ _ ⟨he,hw⟩=>⟨he,by rw [hw];exact sortedTo_nil h⟩
 ·obtain ⟨g,cap,cur,rfl,hg0,hb,hgl,hg,hn,hm,hcs,l,hl1,hl2⟩:=R_cells h hq hp
  have hll:l.length = xs.length:=by rw [← hl1,List.length_map]
  haveI:Inhabited (Cel d Q w base (fun k=>ok k∧k≠g)):=⟨l[0]'(by omega)⟩
  obtain ⟨enc,one⟩:∃ enc:Cel d Q w base (fun k=>ok k∧k≠g)→Value,∀ z,z.c = [enc z]:=⟨fun z=>z.c.headD .nilIface,fun z=>by
   have hz:=z.len
   rw [hd] at hz
   obtain ⟨u,hu⟩:=List.length_eq_one_iff.1 hz
   show z.c = [z.c.headD .nilIface]
   rw [hu];rfl⟩
  have hfl:∀ r:List (Cel d Q w base (fun k=>ok k∧k≠g)),(r.map (·.c)).flatten = r.map enc:=by
   intro r
   induction r with
   | nil=>rfl
   | cons z r ih=>rw [List.map_cons,List.map_cons,List.flatten_cons,ih,one z];rfl
  have hput:∀ (w':World) (D:Array (Cel d Q w base (fun k=>ok k∧k≠g))),putRow enc w' g 0 D = putRow id w' g 0 (D.map enc):=by
   intro w' D
   unfold putRow
   apply mapBlock_congr
   intro c e fr _
   unfold putCells
   apply Array.ext
   ·simp
   ·intro i h1 h2
    simp only [Array.getElem_mapIdx,Array.size_map,id]
    by_cases hi:0≤i∧i < 0 + D.size
    ·rw [if_pos hi,if_pos hi,getElem!_pos D _ (by omega),getElem!_pos (D.map _) _ (by simp;omega),Array.getElem_map]
    ·rw [if_neg hi,if_neg hi]
  have hsw:∀ m (D:Array (Cel d Q w base (fun k=>ok k∧k≠g))) os,sortWorld enc w g 0 m D os = grow (putRow id (Sort.ahead w m) g 0 (D.map enc)) os:=by
   intro m D os
   unfold sortWorld
   rw [hput]
  have hcs':xs.length≤cur.size:=by rw [hcs,hd];omega
  have hsame:∀ m (D:Array (Cel d Q w base (fun k=>ok k∧k≠g))) os,D.size = xs.length→∀ k,k≠g→k < w.heap.size→(sortWorld enc w g 0 m D os).heap[k]? = w.heap[k]?:=by
   intro m D os hD
   rw [hsw]
   exact (row_after hg (F:=D.map enc) (by rw [Array.size_map,hD];exact hcs') rfl).2.1
  have hH:Holds enc w g 0 l.toArray:=by
   intro j hj
   have hj':j < l.length:=by simpa using hj
   refine ⟨?_,?_⟩
   ·show w.cell? ⟨g,0 + j,none⟩ = _
    rw [Nat.zero_add,getElem!_pos _ j hj]
    simp only [World.cell?,hg,Option.isSome_none,Bool.false_eq_true,if_false]
    rw [hd,Nat.mul_one,hfl] at hl2
    have h1:=congrArg (fun r=>r[j]?) hl2
    simp only [List.getElem?_take,List.getElem?_map] at h1
    rw [if_pos (by omega),Array.getElem?_toList,List.getElem?_eq_getElem hj'] at h1
    rw [h1]
    rfl
   ·simp [World.frozen?,hg]
  have key:=Any.slices_SortFunc L enc (fun z=>z.one _ (by rw [one z];exact List.mem_singleton.2 rfl)) (fun p q=>cf p.x q.x) hO.swo f #[] g 0 cap l.toArray w eg
   (fun m os dk hs p q=>by
    have hh:∀ (z:Cel d Q w base (fun k=>ok k∧k≠g)),d.K (sortWorld enc w g 0 m dk os) z.x [enc z]:=fun z=>by
     have h1:=d.K_of_M (z.move (W:=sortWorld enc w g 0 m dk os) (fun k hk hlt=>hsame m dk os (by rw [hs];simpa using hll) k hk.2 hlt))
     rw [one z] at h1
     exact h1
    exact hc _ p.x q.x _ _ p.q q.q (hh p) (hh q)) hH hgl (by simpa [hll] using hsz)
  have hsz':l.toArray.size = xs.length:=by simp [hll]
  rw [hsz'] at key
  refine key.mono ?_
  rintro e' w' ⟨rfl,D',n,os,hp',hs',rfl⟩
  rw [← hsz'] at hp' hs'
  refine ⟨rfl,?_⟩
  rw [hsw n D' os]
  exact sortedTo_of (D:=l.toArray) (D':=D') (F:=D'.map enc) (by simpa using hl1) hp' hs' (by rw [Array.toList_map,hfl]) rfl hg0 hb hgl hg hn hm hcs
end
section
variable {α:Type} {d:Kd α} {Q:α→Prop} {w W:World} {ok:Nat→Prop} {e base g cap:Nat} {v:Value} {xs:List α}
theorem idxOf_nodup:∀ (l:List Nat) (j:Nat) (a:Nat),l.Nodup→l[j]? = some a→l.idxOf a = j
 | [],j,a,_,h=>by simp at h
 | b :: l,0,a,_,h=>by simp at h;subst h;simp
 | b :: l,j + 1,a,hn,h=>by
  have h':l[j]? = some a:=by simpa using h
  have hm:=List.mem_of_getElem? h'
  have hne:b≠a:=fun e_=>(List.nodup_cons.1 hn).1 (e_ ▸ hm)
  have ih:=idxOf_nodup l j a (List.nodup_cons.1 hn).2 h'
  rw [List.idxOf_cons]
  have hb:(b == a) = false:=beq_eq_false_iff_ne.2 hne
  rw [hb,ih];rfl
theorem S_of_tag {f:Nat→Nat} {ys:List (α × Nat)} (h:(Kd.tag f d).R e w base ok v ys) (hn:(ys.map (·.2)).Nodup):Kd.S d e w base ok v (ys.map (·.1)):=by
 obtain ⟨h0,inner,ho,hr⟩:=h
 refine ⟨fun k=>(ys.map (·.2)).idxOf (f k),h0,inner,?_,?_,?_⟩
 ·rw [List.length_zipIdx,List.length_map];exact ho
 ·rw [List.length_zipIdx,List.length_map];exact hr.1
 ·intro j p hj
  rw [List.getElem?_zipIdx,List.getElem?_map] at hj
  cases hy:ys[j]? with
  | none=>rw [hy] at hj;simp at hj
  | some y =>
   rw [hy] at hj
   simp only [Option.map_some,Option.some.injEq,Nat.zero_add] at hj
   subst hj
   refine d.M_mono (fun k hk=>⟨hk.1,?_⟩) (hr.2 j y hy)
   show (ys.map (·.2)).idxOf (f k) = j
   rw [hk.2]
   exact idxOf_nodup _ j _ hn (by rw [List.getElem?_map,hy];rfl)
theorem zip_nodup (xs:List α):(xs.zipIdx.map (·.2)).Nodup:=by
 rw [List.zipIdx_map_snd]
 exact List.nodup_range'
theorem zip_fst (xs:List α):xs.zipIdx.map (·.1) = xs:=List.zipIdx_map_fst 0 xs
def SortedToS (d:Kd α) (cf:α→α→Int) (e:Nat) (w w':World) (base:Nat) (ok:Nat→Prop) (v:Value) (xs:List α):Prop :=
 ∃ xs':List α,xs'.Perm xs∧xs'.Pairwise (fun a b=>¬ cf b a < 0)∧Kd.S d e w' base ok v xs'∧Kept w w' (fun k=>some k = v.ownBlock)∧Go.RowKit.Below base w w'
theorem sortedS_of {f:Nat→Nat} {cf:α→α→Int} (h:SortedTo (Kd.tag f d) (fun p q=>cf p.1 q.1) e w W base ok v xs.zipIdx):SortedToS d cf e w W base ok v xs:=by
 obtain ⟨ys,h1,h2,h3,h4,h5⟩:=h
 refine ⟨ys.map (·.1),?_,?_,S_of_tag h3 ?_,h4,h5⟩
 ·have:=h1.map (·.1)
  rwa [zip_fst] at this
 ·rw [List.pairwise_map];exact h2
 ·exact (h1.map (·.2)).nodup_iff.2 (zip_nodup xs)
theorem Ord3.fst {cf:α→α→Int} (h:Ord3 Q cf):Ord3 (fun p:α × Nat=>Q p.1) (fun p q=>cf p.1 q.1) where
 irr p hp:=h.irr p.1 hp
 tr p q r hp hq hr:=h.tr p.1 q.1 r.1 hp hq hr
 nt p q r hp hq hr:=h.nt p.1 q.1 r.1 hp hq hr
theorem zip_all (h:∀ x ∈ xs,Q x):∀ p ∈ xs.zipIdx,Q p.1:=fun p hp=>h p.1 (by
 have:=List.mem_map_of_mem (f:=(·.1)) hp
 rwa [zip_fst] at this)
end
section
variable {α β:Type}
def cptGo (eqf:α→α→Bool):α→List α→List α
 | _,[]=>[]
 | p,y :: r=>if eqf y p then cptGo eqf y r else y :: cptGo eqf y r
def cpt (eqf:α→α→Bool):List α→List α
 | []=>[]
 | x :: r=>x :: cptGo eqf x r
theorem cptGo_sub (eqf:α→α→Bool):∀ (p:α) (l:List α),(cptGo eqf p l).Sublist l
 | _,[]=>List.Sublist.refl _
 | p,y :: r=>by
  unfold cptGo
  split
  ·exact (cptGo_sub eqf y r).cons _
  ·exact (cptGo_sub eqf y r).cons_cons _
theorem cpt_sub (eqf:α→α→Bool):∀ l:List α,(cpt eqf l).Sublist l
 | []=>List.Sublist.refl _
 | x :: r=>(cptGo_sub eqf x r).cons_cons _
theorem cptGo_map (f:β→α) (eqf:α→α→Bool):∀ (p:β) (l:List β),(cptGo (fun a b=>eqf (f a) (f b)) p l).map f = cptGo eqf (f p) (l.map f)
 | _,[]=>rfl
 | p,y :: r=>by
  simp only [cptGo,List.map_cons]
  split
  ·exact cptGo_map f eqf y r
  ·rw [List.map_cons,cptGo_map f eqf y r]
theorem cpt_map (f:β→α) (eqf:α→α→Bool):∀ l:List β,(cpt (fun a b=>eqf (f a) (f b)) l).map f = cpt eqf (l.map f)
 | []=>rfl
 | x :: r=>by simp only [cpt,List.map_cons,cptGo_map]
theorem cptGo_snoc (eqf:α→α→Bool) (x:α):∀ (p:α) (l:List α),cptGo eqf p (l ++ [x]) = cptGo eqf p l ++ (if eqf x ((p :: l).getLast (by simp)) then [] else [x])
 | p,[]=>by
  show (if eqf x p then [] else [x]) = [] ++ (if eqf x p then [] else [x])
  rw [List.nil_append]
 | p,y :: r=>by
  have e:(p :: y :: r).getLast (by simp) = (y :: r).getLast (by simp):=List.getLast_cons (by simp)
  rw [e]
  simp only [List.cons_append,cptGo]
  rw [cptGo_snoc eqf x y r]
  split <;> simp
theorem cpt_snoc (eqf:α→α→Bool) (x:α) (l:List α) (h:l≠[]):cpt eqf (l ++ [x]) = cpt eqf l ++ (if eqf x (l.getLast h) then [] else [x]):=by
 cases l with
 | nil=>exact absurd rfl h
 | cons y r=>simp only [List.cons_append,cpt];rw [cptGo_snoc]
variable [Inhabited α]
def keepsB (eqf:α→α→Bool) (d:Array α) (j:Nat):Bool:=j == 0 || !(eqf d[j]! d[j - 1]!)
theorem cpt_take (eqf:α→α→Bool) (d:Array α) (m:Nat) (h:m < d.size):cpt eqf (d.toList.take (m + 1)) = cpt eqf (d.toList.take m) ++ (if keepsB eqf d m then [d[m]!] else []):=by
 have hl:m < d.toList.length:=by simpa using h
 rw [List.take_add_one,List.getElem?_eq_getElem hl]
 have hm:d.toList[m] = d[m]!:=by rw [getElem!_pos d m h];simp
 rw [hm]
 rcases Nat.eq_zero_or_pos m with h0 | h0
 ·subst h0;simp [cpt,cptGo,keepsB]
 ·have hne:d.toList.take m≠[]:=by
   intro e_
   have h1:=congrArg List.length e_
   have h2:d.toList.length = d.size:=by simp
   rw [List.length_take,h2] at h1
   have h3:min m d.size = 0:=h1
   omega
  show cpt eqf (d.toList.take m ++ [d[m]!]) = _
  rw [cpt_snoc eqf _ _ hne]
  have hlast:(d.toList.take m).getLast hne = d[m - 1]!:=by
   rw [List.getLast_eq_getElem]
   have h1:(d.toList.take m).length - 1 = m - 1:=by rw [List.length_take];simp;omega
   simp only [h1,List.getElem_take]
   rw [getElem!_pos d (m - 1) (by omega)]
   simp
  rw [hlast]
  have:(m == 0) = false:=by simp;omega
  simp only [keepsB,this,Bool.false_or]
  cases eqf d[m]! d[m - 1]! <;> simp
structure CompB (eqf:α→α→Bool) (d:Array α) (m k:Nat) (dk:Array α):Prop where
 size:dk.size = d.size
 len:(cpt eqf (d.toList.take m)).length = k
 le:k≤m
 low:∀ j,j < k→(cpt eqf (d.toList.take m))[j]? = some dk[j]!
 high:∀ j,k≤j→dk[j]! = d[j]!
variable {eqf:α→α→Bool} {d dk:Array α} {m k:Nat}
theorem CompB.one (h:0 < d.size):CompB eqf d 1 1 d:=by
 have h0:d.toList.take 1 = [d[0]!]:=by
  have:=List.take_add_one (l:=d.toList) (i:=0)
  rw [List.getElem?_eq_getElem (by simpa using h)] at this
  rw [this,getElem!_pos d 0 h];simp
 refine ⟨rfl,by rw [h0];rfl,Nat.le_refl _,fun j hj=>?_,fun _ _=>rfl⟩
 obtain rfl:j = 0:=by omega
 rw [h0];rfl
theorem CompB.skip (h:CompB eqf d m k dk) (hm:m < d.size) (hk:keepsB eqf d m = false):CompB eqf d (m + 1) k dk where
 size:=h.size
 len:=by rw [cpt_take eqf d m hm,hk];simpa using h.len
 le:=by have:=h.le;omega
 low:=fun j hj=>by rw [cpt_take eqf d m hm,hk];simpa using h.low j hj
 high:=h.high
theorem CompB.keep (h:CompB eqf d m k dk) (hm:m < d.size) (hk:keepsB eqf d m = true):CompB eqf d (m + 1) (k + 1) (dk.setIfInBounds k d[m]!) where
 size:=by simp [h.size]
 len:=by rw [cpt_take eqf d m hm,hk];simp [h.len]
 le:=by have:=h.le;omega
 low:=fun j hj=>by
  rw [cpt_take eqf d m hm,hk,if_pos rfl]
  by_cases e_:j = k
  ·subst e_
   rw [List.getElem?_append_right (by rw [h.len];exact Nat.le_refl _),h.len,Nat.sub_self,Go.Sort.getElem!_set_same dk j _ (by have:=h.le;have:=h.size;omega)]
   rfl
  ·rw [List.getElem?_append_left (by rw [h.len];omega),h.low j (by omega),Go.Sort.getElem!_set_other dk k j _ e_]
 high:=fun j hj=>by rw [Go.Sort.getElem!_set_other dk k j _ (by omega),h.high j (by omega)]
theorem CompB.same (h:CompB eqf d m m d) (hm:m < d.size) (hk:keepsB eqf d m = true):CompB eqf d (m + 1) (m + 1) d where
 size:=rfl
 len:=by rw [cpt_take eqf d m hm,hk];simp [h.len]
 le:=Nat.le_refl _
 low:=fun j hj=>by
  rw [cpt_take eqf d m hm,hk,if_pos rfl]
  by_cases e_:j = m
  ·subst e_
   rw [List.getElem?_append_right (by rw [h.len];exact Nat.le_refl _),h.len,Nat.sub_self]
   rfl
  ·rw [List.getElem?_append_left (by rw [h.len];omega),h.low j (by omega)]
 high:=fun _ _=>rfl
theorem CompB.done (h:CompB eqf d d.size k dk):dk.toList.take k = cpt eqf d.toList∧k = (cpt eqf d.toList).length:=by
 have ht:d.toList.take d.size = d.toList:=by rw [List.take_of_length_le];simp
 have hl:=h.len
 have hlow:=h.low
 rw [ht] at hl hlow
 refine ⟨?_,hl.symm⟩
 apply List.ext_getElem?
 intro j
 have hle:=h.le
 have hsz:=h.size
 by_cases hj:j < k
 ·rw [List.getElem?_take,if_pos hj,hlow j hj,Array.getElem?_toList,Array.getElem?_eq_getElem (by omega),getElem!_pos dk j (by omega)]
 ·rw [List.getElem?_eq_none (by simp;omega),List.getElem?_eq_none (by omega)]
end
section
variable {α:Type} {d:Kd α} {Q:α→Prop} {w W W':World} {ok:Nat→Prop} {e base g cap:Nat} {v:Value} {xs:List α}
theorem after_set:∀ (vs:List Value) (o:Nat) (W:World) (cur:Array Value),W.heap[g]? = some (.cells cur e (0,0)) →
  ∃ cur',(W.setCells g o vs).heap[g]? = some (.cells cur' e (0,0))∧cur'.size = cur.size∧(∀ t,t < o→cur'[t]? = cur[t]?)∧(∀ k,k≠g→(W.setCells g o vs).heap[k]? = W.heap[k]?)∧(W.setCells g o vs).heap.size = W.heap.size∧(W.setCells g o vs).os = W.os∧(W.setCells g o vs).tape = W.tape∧(W.setCells g o vs).output = W.output
 | [],o,W,cur,h=>⟨cur,h,rfl,fun _ _=>rfl,fun _ _=>rfl,rfl,rfl,rfl,rfl⟩
 | u :: r,o,W,cur,h=>by
  have h1:(W.setCell ⟨g,o,none⟩ u).heap[g]? = some (.cells (cur.setIfInBounds o u) e (0,0)):=by
   rw [setCell_eq]
   show (W.heap.modify g (onCells _))[g]? = _
   rw [Array.getElem?_modify,if_pos rfl,h];rfl
  obtain ⟨cur',a1,a2,a3,a4,a5,a6,a7,a8⟩:=after_set r (o + 1) (W.setCell ⟨g,o,none⟩ u) _ h1
  refine ⟨cur',a1,by rw [a2];simp,fun t ht=>?_,fun k hk=>?_,?_,a6,a7,a8⟩
  ·rw [a3 t (by omega),Array.getElem?_setIfInBounds,if_neg (by omega)]
  ·rw [World.setCells,a4 k hk,setCell_eq]
   show (W.heap.modify g (onCells _))[k]? = _
   rw [Array.getElem?_modify,if_neg (fun e_=>hk e_.symm)]
  ·rw [World.setCells,a5,setCell_eq]
   show (W.heap.modify g (onCells _)).size = _
   simp
def CompactTo (d:Kd α) (eqf:α→α→Bool) (e:Nat) (w w':World) (base:Nat) (ok:Nat→Prop) (v v':Value) (xs:List α):Prop :=
 d.R e w' base ok v' (cpt eqf xs)∧Kept w w' (fun k=>some k = v.ownBlock)∧Go.RowKit.Below base w w'
theorem compR_of [Inhabited (Cel d Q w base (fun k=>ok k∧k≠g))] {D dk:Array (Cel d Q w base (fun k=>ok k∧k≠g))} {eqf:α→α→Bool} {kk m:Nat} {F cur:Array Value} {os:Array Obj} (hC:CompB (fun p q:Cel d Q w base (fun k=>ok k∧k≠g)=>eqf p.x q.x) D D.size kk dk) (hD:D.toList.map (·.x) = xs)
  (hF:F.toList = (dk.toList.map (·.c)).flatten) (hW:W = grow (putRow id (Sort.ahead w m) g 0 F) os) (hW':W' = W ∨ ∃ vs,W' = W.setCells g (kk * d.sz) vs) (hg0:ok g) (hb:base≤g) (hgl:g < w.heap.size) (hg:w.heap[g]? = some (.cells cur e (0,0))) (hn:xs.length≤cap) (hm:cap≤maxLen) (hc:cur.size = cap * d.sz) :
  CompactTo d eqf e w W' base ok (.slice (some ⟨g,0,none⟩) xs.length cap) (.slice (some ⟨g,0,none⟩) kk cap) xs:=by
 obtain ⟨hcp,hk⟩:=hC.done
 have hlen:dk.size = xs.length:=by rw [hC.size,← hD];simp
 have hlenD:D.toList.length = xs.length:=by rw [← hD];simp
 have hkk:kk≤xs.length:=by rw [hk,← hlenD];exact (cpt_sub _ _).length_le
 have hl:∀ c ∈ dk.toList.map (·.c),c.length = d.sz:=by
  intro c hc
  obtain ⟨z,_,rfl⟩:=List.mem_map.1 hc
  exact z.len
 have hFs:F.size = xs.length * d.sz:=by
  have h1:F.toList.length = _:=congrArg List.length hF
  rw [flat_lenK hl,List.length_map] at h1
  rw [← hlen]
  simpa using h1
 have hle:F.size≤cur.size:=by rw [hFs,hc];exact Nat.mul_le_mul_right _ hn
 obtain ⟨a1,a2,a3,a4,a5,a6,a7,a8⟩:=row_after (W:=W) hg hle hW
 have hkm:kk * d.sz≤xs.length * d.sz:=Nat.mul_le_mul_right _ hkk
 have hpre:∀ t,t < kk * d.sz→(putCells id 0 F cur)[t]? = ((dk.toList.take kk).map (·.c)).flatten[t]?:=by
  intro t ht
  have h1:(putCells id 0 F cur).toList[t]? = F.toList[t]?:=by
   rw [← a8,List.getElem?_take,if_pos (by omega)]
  rw [Array.getElem?_toList] at h1
  rw [h1,hF]
  conv=>lhs;rw [← List.take_append_drop kk dk.toList,List.map_append,List.flatten_append]
  rw [List.getElem?_append_left]
  rw [flat_lenK (fun c hc=>hl c (by obtain ⟨z,hz,rfl⟩:=List.mem_map.1 hc;exact List.mem_map_of_mem (List.mem_of_mem_take hz))),List.length_map,List.length_take]
  simp only [Array.length_toList]
  rw [Nat.min_eq_left (by omega)]
  exact ht
 have fin:∀ (X:World) (cur':Array Value),X.heap[g]? = some (.cells cur' e (0,0))→cur'.size = cur.size→(∀ t,t < kk * d.sz→cur'[t]? = (putCells id 0 F cur)[t]?)→(∀ k,k≠g→k < w.heap.size→X.heap[k]? = w.heap[k]?) →
   d.R e X base ok (.slice (some ⟨g,0,none⟩) kk cap) (cpt eqf xs):=by
  intro X cur' h1 h2 h3 h4
  have hll:(dk.toList.take kk).length = kk:=by rw [List.length_take];simp only [Array.length_toList];omega
  have:=R_of_cells (l:=dk.toList.take kk) (W:=X) (okk:=ok) (base:=base) (e:=e) (cap:=cap) hg0 hb h4 h1 (by omega) hm (by omega) (by
   rw [hll]
   apply List.ext_getElem?
   intro t
   by_cases ht:t < kk * d.sz
   ·rw [List.getElem?_take,if_pos ht,Array.getElem?_toList,h3 t ht,hpre t ht]
   ·rw [List.getElem?_eq_none (by simp;omega),List.getElem?_eq_none]
    rw [flat_lenK (fun c hc=>hl c (by obtain ⟨z,hz,rfl⟩:=List.mem_map.1 hc;exact List.mem_map_of_mem (List.mem_of_mem_take hz))),List.length_map,hll]
    omega) (fun k hk=>hk)
  rw [hll,hcp,cpt_map (fun z:Cel d Q w base (fun k=>ok k∧k≠g)=>z.x),hD] at this
  exact this
 rcases hW' with rfl | ⟨vs,rfl⟩
 ·exact ⟨fin _ _ a1 a7 (fun _ _=>rfl) a2,⟨a3,fun k hk hne=>a2 k (fun e_=>hne (by rw [e_];rfl)) hk⟩,below_of a2 a3 a4 a5 a6 hb hgl⟩
 ·obtain ⟨cur',b1,b2,b3,b4,b5,b6,b7,b8⟩:=after_set vs (kk * d.sz) W _ a1
  have h4:∀ k,k≠g→k < w.heap.size→(W.setCells g (kk * d.sz) vs).heap[k]? = w.heap[k]?:=fun k hk hlt=>by rw [b4 k hk,a2 k hk hlt]
  have h5:w.heap.size≤(W.setCells g (kk * d.sz) vs).heap.size:=by rw [b5];exact a3
  exact ⟨fin _ _ b1 (by rw [b2,a7]) b3 h4,⟨h5,fun k hk hne=>h4 k (fun e_=>hne (by rw [e_];rfl)) hk⟩,below_of h4 h5 (b6.trans a4) (b7.trans a5) (b8.trans a6) hb hgl⟩
end
end Go.Proofs.YtoijcallajegfaaGreat.M
end
section
/- Runs of equal surfaces struck out: the walk of slices.CompactFunc. No conditions. -/
namespace Go.Proofs.YtoijcallajegfaaGreat.M
set_option linter.unusedVariables false
set_option linter.unusedSimpArgs false
open Go Go.RowKit Go.Proofs.YtoijcallajegfaaGreatW.PrintWords Go.Proofs.YtoijcallajegfaaGreatW.PrintLast Go.Proofs.YtoijcallajegfaaGreatW.PrintMore Go.Shelf Go.Lib Go.Sort Go.Proofs
theorem two_of_len {l:List Value} (h:l.length = 2):∃ a b,l = [a,b]:=by
 match l,h with
 | [a,b],_=>exact ⟨a,b,rfl⟩
theorem swk_cell {α:Type} [Inhabited α] {enc:α→List Value} {w0 W:World} {blk off:Nat} {dk d0:Array α} (h:SWK enc 2 w0 blk off dk W) (R:RowK enc 2 w0 blk off d0) (n:Nat) (os:Array Obj) {i:Nat} (hi:i < dk.size) {a b:Value} (hv:enc dk[i]! = [a,b]) (hs:dk.size = d0.size:=by first | rfl | assumption) :
  (grow (W.drewN n) os).cell? ⟨blk,off + i * 2,none⟩ = some a∧(grow (W.drewN n) os).cell? ⟨blk,off + i * 2 + 1,none⟩ = some b:=by
 have hh:=(h.grown n os).holds R.hblk R.hH hs
 have h0:=(hh.cell (c:=0) hi (by omega)).1
 have h1:=(hh.cell (c:=1) hi (by omega)).1
 rw [hv] at h0 h1
 exact ⟨h0,h1⟩
theorem run_clear_two (w:World) (t e ty:TypeId) (ht:Tryz.prog.underlying t = some (.slice e)) (hv:∀ w,(zeroValue e).run Tryz.prog w = .ok (.agg #[.slice none 0 0,.slice none 0 0]) w) (b o n c:Nat) (hn:0 < n)
  (hc:∀ j,j < n * 2→(w.cell? ⟨b,o + j,none⟩).isSome = true) (hf:∀ j,j < n * 2→w.frozen? ⟨b,o + j,none⟩ = false) :
  ∃ vs,(Builtin.clear_ #[t] ty #[.slice (some ⟨b,o,none⟩) n c]).run Tryz.prog w = .ok (.tuple #[]) (w.setCells b o vs):=by
 obtain ⟨vs,hvs⟩:∃ vs,vs = (Builtin.zeroCells (Value.agg #[.slice none 0 0,.slice none 0 0]).cells n).toList:=⟨_,rfl⟩
 have hl:vs.length = n * 2:=by rw [hvs];simp [Builtin.zeroCells,Value.cells]
 have h1:∀ v ∈ vs,v.oneCell' = true:=by
  intro v hv'
  rw [hvs] at hv'
  simp only [Builtin.zeroCells,Value.cells,Array.toList_map,List.mem_map] at hv'
  obtain ⟨i,_,rfl⟩:=hv'
  have h2:i % 2 = 0 ∨ i % 2 = 1:=by omega
  rcases h2 with h2 | h2 <;> simp [h2,Value.oneCell']
 have hst:=run_storeCells_cells (P:=Tryz.prog) b o vs 0 w (by rw [hl];simpa using hc) (by rw [hl];simpa using hf) h1
 simp only [Nat.add_zero] at hst
 refine ⟨vs,?_⟩
 obtain ⟨m,rfl⟩:∃ m,n = m + 1:=⟨n - 1,by omega⟩
 simp [Builtin.clear_,run_underlying ht,hv,← hvs,hst]
theorem setMany_put {α:Type} [Inhabited α] (enc:α→List Value) (k:Nat) (hk:∀ x,(enc x).length = k) (d:Array α) (i:Nat) (x:α) (hi:i < d.size):setMany (flatK enc k d) (i * k) (enc x) = flatK enc k (d.setIfInBounds i x):=by
 refine ext_get! (by simp) fun t ht=>?_
 have ht':t < d.size * k:=by simpa using ht
 have k0:0 < k:=by
  rcases Nat.eq_zero_or_pos k with h | h
  ·subst h;simp at ht'
  ·exact h
 rw [get_setMany _ _ _ t (by simpa using ht'),get_flatK _ _ _ t ht',get_flatK _ _ _ t (by simpa using ht'),hk]
 have m:∀ q,t / k = q→t - q * k = t % k:=fun q h=>by subst h;rw [Nat.mod_eq_sub_div_mul]
 by_cases a:t / k = i
 ·rw [if_pos ((blk_iff k i t k0).2 a),m i a,a,getElem!_set_same d i x hi]
 ·rw [if_neg (fun h=>a ((blk_iff k i t k0).1 h)),getElem!_set_other d i _ x a]
theorem swk_put {α:Type} [Inhabited α] {enc:α→List Value} {w0 W:World} {blk off:Nat} {dk:Array α} (h:SWK enc 2 w0 blk off dk W) (hk:∀ x,(enc x).length = 2) (hb:blk < w0.heap.size) {i:Nat} (hi:i < dk.size) (x:α) {a b:Value} (hx:enc x = [a,b]) :
  SWK enc 2 w0 blk off (dk.setIfInBounds i x) ((W.setCell ⟨blk,off + i * 2,none⟩ a).setCell ⟨blk,off + i * 2 + 1,none⟩ b):=by
 obtain ⟨n,os,rfl⟩:=h
 refine ⟨n,os,?_⟩
 show (sortWorldK enc 2 w0 blk off n dk os).setCells blk (off + i * 2) [a,b] = _
 unfold sortWorldK
 rw [setCells_grow os blk _ _ _ (by rw [size_putRowK];exact hb)]
 congr 1
 unfold putRowK
 have hle:=rowK_bnd dk 2 i hi
 rw [setCells_putRow _ _ _ _ _ _ (by rw [size_flatK];simpa using hle),← hx,setMany_put enc 2 hk dk i x hi]
theorem swk_frozen {α:Type} [Inhabited α] {enc:α→List Value} {w0 W:World} {blk off:Nat} {dk d0:Array α} (h:SWK enc 2 w0 blk off dk W) (R:RowK enc 2 w0 blk off d0) (hs:dk.size = d0.size) {j:Nat} (hj:j < dk.size * 2) :
  (W.cell? ⟨blk,off + j,none⟩).isSome = true∧W.frozen? ⟨blk,off + j,none⟩ = false:=by
 have hh:=h.holds R.hblk R.hH hs
 have:=hh j (by rw [size_flatK];exact hj)
 exact ⟨by rw [this.1];rfl,this.2⟩
set_option maxHeartbeats 4000000 in
set_option maxRecDepth 1000000 in
theorem compact_walk {α:Type} [Inhabited α] (enc:α→List Value) (eqf:α→α→Bool) (f blk off cap:Nat) (d:Array α) (w:World) (R:RowK enc 2 w blk off d)
  (eg:∀ args w,(callFunc f args).run Tryz.prog w = .ok (.enter f args) w)
  (hcmp:∀ (W:World),(∃ dk:Array α,dk.size = d.size∧SWK enc 2 w blk off dk W)→∀ x y,Calls Tryz.prog f #[.agg (enc x).toArray,.agg (enc y).toArray] W fun e w'=>e = .returned (.bool (eqf x y))∧∃ q os',w' = grow (W.drewN q) os')
  (h0:0 < d.size) (hsz:d.size < 4611686018427387904) (hcap:d.size≤cap) :
  Calls Tryz.prog 59 #[.slice (some ⟨blk,off,none⟩) d.size cap,.func (.func f) #[] #[]] w fun e w'=>∃ kk,e = .returned (.slice (some ⟨blk,off,none⟩) kk cap)∧∃ dk W,CompB eqf d d.size kk dk∧SWK enc 2 w blk off dk W∧(w' = W ∨ ∃ vs,w' = W.setCells blk (off + kk * 2) vs):=by
 have HS:Aside (SWK enc 2 w blk off d w):=SWK.start R.hH
 have HR:Aside (RowK enc 2 w blk off d):=R
 have HC:Aside _:=hcmp
 clear R hcmp
 have hmix:Tryz.prog.follows .mixedOrders = true:=by kernel_rfl
 go_enter Tryz.func59,Tryz.ntmps59
 by_cases h2:d.size < 2
 ·have h2z:(d.size:Int) < 2:=by omega
  go_wp2
  go_ret
  have e1:d.size = 1:=by omega
  exact ⟨1,by rw [e1];rfl,d,w,by have:=CompB.one (eqf:=eqf) h0;rw [e1];exact this,HS.out,.inl rfl⟩
 ·have h2z:¬ (d.size:Int) < 2:=by omega
  go_wp2
  go_loopg [5] d.size (fun g1 v5 wr=>∃ (kx:Nat),v5 = .int .i64 kx∧1≤kx∧kx≤d.size∧d.size - kx≤g1∧Aside (SWK enc 2 w blk off d wr)∧Hid (CompB eqf d kx kx d))
  case atStart=>exact ⟨1,by go_num,by omega,by omega,by omega,HS,CompB.one h0⟩
  case round =>
   clear HS
   obtain ⟨kx,rfl,hk1,hk2,hg1,S1,hC⟩:=hrel
   by_cases hlt:kx < d.size
   ·have hltz:(kx:Int) < (d.size:Int):=by omega
    obtain ⟨kp,rfl⟩:∃ kp,kx = kp + 1:=⟨kx - 1,by omega⟩
    obtain ⟨xk,hxk⟩:∃ x,x = d[kp + 1]!:=⟨_,rfl⟩
    obtain ⟨xp,hxp⟩:∃ x,x = d[kp]!:=⟨_,rfl⟩
    have pk:(0:Int)≤(kp:Int) + 1:=by omega
    have ek:((kp:Int) + 1).toNat = kp + 1:=by omega
    have bk:(kp:Int) + 1 < (d.size:Int):=by omega
    have bp:(kp:Int) < (d.size:Int):=by omega
    have wp:IntKind.i64.wrap (kp:Int) = (kp:Int):=by rw [IntKind.wrap_i64];omega
    obtain ⟨a0,a1,ha⟩:∃ a0 a1,enc xk = [a0,a1]:=two_of_len (HR.out.hk xk)
    obtain ⟨b0,b1,hb⟩:∃ b0 b1,enc xp = [b0,b1]:=two_of_len (HR.out.hk xp)
    have lk0:=fun n os=>swk_cell S1.out HR.out n os (i:=kp + 1) (by omega) (by rw [← hxk];exact ha)
    have lp0:=fun n os=>swk_cell S1.out HR.out n os (i:=kp) (by omega) (by rw [← hxp];exact hb)
    have lk1:=fun n os=>(lk0 n os).2
    have lp1:=fun n os=>(lp0 n os).2
    replace lk0:=fun n os=>(lk0 n os).1
    replace lp0:=fun n os=>(lp0 n os).1
    have hc:∀ n os,Calls Tryz.prog f #[.agg (enc xk).toArray,.agg (enc xp).toArray] (grow (wr.drewN n) os) fun e w'=>e = .returned (.bool (eqf xk xp))∧∃ q os',w' = grow ((grow (wr.drewN n) os).drewN q) os':=fun n os=>HC.out _ ⟨d,rfl,S1.out.grown n os⟩ xk xp
    have hkeep:Hid (keepsB eqf d (kp + 1) = !(eqf xk xp)):=by
     show _ = _
     unfold keepsB
     rw [hxk,hxp]
     simp
    rw [ha,hb] at hc
    clear hxk hxp
    cases hv:eqf xk xp with
    | false =>
     rw [hv] at hc
     go_wp2_with fail
     go_quiet_grown (first | (go_at_fn f;refine Calls.grown_of (hc _ _)))
     have S2:Aside (SWK enc 2 w blk off d (grow (wr.drewN nq) osq)):=S1.out.grown nq osq
     clear lk0 lk1 lp0 lp1 hc S1
     generalize grow (wr.drewN nq) osq = wu2 at S2 ⊢
     clear nq osq
     go_wp2
     go_roundg (d.size - (kp + 1 + 1))
     case measure=>omega
     case rel=>exact ⟨kp + 1 + 1,by go_num,by omega,by omega,by omega,S2,hC.out.same (by omega) (by rw [hkeep.out,hv];rfl)⟩
    | true =>
     rw [hv] at hc
     go_wp2_with fail
     go_quiet_grown (first | (go_at_fn f;refine Calls.grown_of (hc _ _)))
     have S2:Aside (SWK enc 2 w blk off d (grow (wr.drewN nq) osq)):=S1.out.grown nq osq
     clear lk0 lk1 lp0 lp1 hc S1
     generalize grow (wr.drewN nq) osq = wu2 at S2 ⊢
     clear nq osq
     have hC2:Hid (CompB eqf d (kp + 1 + 1) (kp + 1) d):=hC.out.skip (by omega) (by rw [hkeep.out,hv];rfl)
     clear hC
     clear ha hb hkeep hv
     go_wp2
     go_loopg [5,7] d.size (fun g2 v5 v7 wr2=>∃ (kk k2:Nat) (dk:Array α),v5 = .int .i64 kk∧v7 = .int .i64 k2∧1≤k2∧kp + 1 + k2≤d.size∧kk < kp + 1 + k2∧d.size - (kp + 1 + k2)≤g2∧dk.size = d.size∧Aside (SWK enc 2 w blk off dk wr2)∧Hid (CompB eqf d (kp + 1 + k2) kk dk))
     case atStart=>exact ⟨kp + 1,1,d,by go_num,by go_num,by omega,by omega,by omega,by omega,rfl,S2,hC2⟩
     case round =>
      clear S2 hC2
      obtain ⟨kk,k2,dk,rfl,rfl,h1,hle,hkk,hg2,hds,S3,hC3⟩:=hrel
      by_cases hlt2:kp + 1 + k2 < d.size
      ·obtain ⟨j,rfl⟩:∃ j,k2 = j + 1:=⟨k2 - 1,by omega⟩
       have hltz2:(j:Int) + 1 < ((d.size - (kp + 1):Nat):Int):=by omega
       obtain ⟨xu,hxu⟩:∃ x,x = dk[kp + 1 + (j + 1)]!:=⟨_,rfl⟩
       obtain ⟨xv,hxv⟩:∃ x,x = dk[kp + 1 + j]!:=⟨_,rfl⟩
       have p1:(0:Int)≤(j:Int) + 1:=by omega
       have e1:((j:Int) + 1).toNat = j + 1:=by omega
       have w1:IntKind.i64.wrap (j:Int) = (j:Int):=by rw [IntKind.wrap_i64];omega
       have p2:(j:Int) < ((d.size - (kp + 1):Nat):Int):=by omega
       obtain ⟨a0,a1,ha⟩:∃ a0 a1,enc xu = [a0,a1]:=two_of_len (HR.out.hk xu)
       obtain ⟨b0,b1,hb⟩:∃ b0 b1,enc xv = [b0,b1]:=two_of_len (HR.out.hk xv)
       have lk0:=fun n os=>swk_cell S3.out HR.out n os (i:=kp + 1 + (j + 1)) (by omega) (by rw [← hxu];exact ha) hds
       have lp0:=fun n os=>swk_cell S3.out HR.out n os (i:=kp + 1 + j) (by omega) (by rw [← hxv];exact hb) hds
       rw [show off + (kp + 1 + (j + 1)) * 2 = off + (kp + 1) * 2 + (j + 1) * 2 by omega] at lk0
       rw [show off + (kp + 1 + j) * 2 = off + (kp + 1) * 2 + j * 2 by omega] at lp0
       have lk1:=fun n os=>(lk0 n os).2
       have lp1:=fun n os=>(lp0 n os).2
       replace lk0:=fun n os=>(lk0 n os).1
       replace lp0:=fun n os=>(lp0 n os).1
       have hc:∀ n os,Calls Tryz.prog f #[.agg (enc xu).toArray,.agg (enc xv).toArray] (grow (wr.drewN n) os) fun e w'=>e = .returned (.bool (eqf xu xv))∧∃ q os',w' = grow ((grow (wr.drewN n) os).drewN q) os':=fun n os=>HC.out _ ⟨dk,hds,S3.out.grown n os⟩ xu xv
       have hkeep:Hid (keepsB eqf d (kp + 1 + (j + 1)) = !(eqf xu xv)):=by
        show _ = _
        unfold keepsB
        rw [hxu,hxv,hC3.out.high _ (by omega),hC3.out.high _ (by omega),show kp + 1 + (j + 1) - 1 = kp + 1 + j by omega]
        have:(kp + 1 + (j + 1) == 0) = false:=by simp
        rw [this,Bool.false_or]
       have hxd:Hid (xu = d[kp + 1 + (j + 1)]!):=by
        show _ = _
        rw [hxu,hC3.out.high _ (by omega)]
       have HA:Hid (enc xu = [a0,a1]):=ha
       rw [ha,hb] at hc
       clear hxu hxv ha hb
       cases hv:eqf xu xv with
       | true =>
        rw [hv] at hc
        go_wp2_with fail
        go_quiet_grown (first | (go_at_fn f;refine Calls.grown_of (hc _ _)))
        have S4:Aside (SWK enc 2 w blk off dk (grow (wr.drewN nq) osq)):=S3.out.grown nq osq
        clear lk0 lk1 lp0 lp1 hc S3
        generalize grow (wr.drewN nq) osq = wu2 at S4 ⊢
        clear nq osq
        go_wp2
        go_roundg (d.size - (kp + 1 + (j + 1 + 1)))
        case measure=>omega
        case rel=>exact ⟨kk,j + 1 + 1,dk,by go_num,by go_num,by omega,by omega,by omega,by omega,hds,S4,hC3.out.skip (by omega) (by rw [hkeep.out,hv];rfl)⟩
       | false =>
        rw [hv] at hc
        go_wp2_with fail
        go_quiet_grown (first | (go_at_fn f;refine Calls.grown_of (hc _ _)))
        have S4:Aside (SWK enc 2 w blk off dk (grow (wr.drewN nq) osq)):=S3.out.grown nq osq
        replace lk0:=lk0 nq osq
        replace lk1:=lk1 nq osq
        clear lp0 lp1 hc S3
        generalize grow (wr.drewN nq) osq = wu2 at S4 lk0 lk1 ⊢
        clear nq osq
        have s0:=(swk_frozen S4.out HR.out hds (j:=kk * 2) (by omega))
        have s1:=(swk_frozen S4.out HR.out hds (j:=kk * 2 + 1) (by omega))
        obtain ⟨o0,c0⟩:=Option.isSome_iff_exists.1 s0.1
        obtain ⟨o1,c1⟩:=Option.isSome_iff_exists.1 s1.1
        have f0:=s0.2
        have f1:=s1.2
        rw [← Nat.add_assoc] at c1 f1
        clear s0 s1
        have oa:=HR.out.h1 xu a0 (by rw [HA.out];simp)
        have ob:=HR.out.h1 xu a1 (by rw [HA.out];simp)
        have bk2:(kk:Int) < (d.size:Int):=by omega
        have t0:Sem.run Tryz.prog (store ⟨blk,off + kk * 2,none⟩ a0) wu2 = .ok () (wu2.setCell ⟨blk,off + kk * 2,none⟩ a0):=by
         rw [run_store _ _ _ _ _ oa]
         simp [c0,f0]
        have t1:Sem.run Tryz.prog (store ⟨blk,off + kk * 2 + 1,none⟩ a1) (wu2.setCell ⟨blk,off + kk * 2,none⟩ a0) = .ok () ((wu2.setCell ⟨blk,off + kk * 2,none⟩ a0).setCell ⟨blk,off + kk * 2 + 1,none⟩ a1):=by
         rw [run_store _ _ _ _ _ ob]
         have c1':(wu2.setCell ⟨blk,off + kk * 2,none⟩ a0).cell? ⟨blk,off + kk * 2 + 1,none⟩ = some o1:=by rw [World.cell?_setCell_other _ _ _ _ (by intro e_;injection e_ with _ h2 _;omega)];exact c1
         have f1':(wu2.setCell ⟨blk,off + kk * 2,none⟩ a0).frozen? ⟨blk,off + kk * 2 + 1,none⟩ = false:=by rw [World.frozen?_setCell];exact f1
         simp [c1',f1']
        have S5:Aside (SWK enc 2 w blk off (dk.setIfInBounds kk xu) ((wu2.setCell ⟨blk,off + kk * 2,none⟩ a0).setCell ⟨blk,off + kk * 2 + 1,none⟩ a1)):=swk_put S4.out HR.out.hk HR.out.hblk (by omega) xu HA.out
        go_wp2
        go_roundg (d.size - (kp + 1 + (j + 1 + 1)))
        case measure=>omega
        case rel=>exact ⟨kk + 1,j + 1 + 1,dk.setIfInBounds kk xu,by go_num,by go_num,by omega,by omega,by omega,by omega,by simpa using hds,S5,by rw [hxd.out];exact hC3.out.keep (by omega) (by rw [hkeep.out,hv];rfl)⟩
      ·have hend:kp + 1 + k2 = d.size:=by omega
       have hltz2:¬ (k2:Int) < ((d.size - (kp + 1):Nat):Int):=by omega
       obtain ⟨vs,hcl⟩:=run_clear_two wr 28 38 0 Tryz.underlying28 Tryz.zeroValue38 blk (off + kk * 2) (d.size - kk) (cap - kk) (by omega) (fun j hj=>by rw [Nat.add_assoc];exact (swk_frozen S3.out HR.out hds (by omega)).1) (fun j hj=>by rw [Nat.add_assoc];exact (swk_frozen S3.out HR.out hds (by omega)).2)
       go_wp2
       go_ret
       have hI:=hC3.out
       rw [hend] at hI
       exact ⟨kk,rfl,dk,hI,_,S3.out,.inr ⟨vs,rfl⟩⟩
   ·have hltz:¬ (kx:Int) < (d.size:Int):=by omega
    go_wp2
    go_ret
    have e1:kx = d.size:=by omega
    subst e1
    exact ⟨d.size,rfl,d,hC.out,_,S1.out,.inl rfl⟩
end Go.Proofs.YtoijcallajegfaaGreat.M
end
section
/- Plain mathematics: permutations as lists of numbers. No conditions. -/
namespace Go.Proofs.YtoijcallajegfaaGreat.M
set_option linter.unusedVariables false
set_option linter.unusedSimpArgs false
def I (l:List Nat):List Int:=l.map Int.ofNat
def g (p:List Nat) (i:Nat):Nat:=p.getD i 0
def tab (n:Nat) (f:Nat→Nat):List Nat:=(List.range n).map f
theorem I_len (l:List Nat):(I l).length = l.length:=by simp [I]
theorem I_inj {a b:List Nat} (h:I a = I b):a = b:=by
 unfold I at h
 exact (List.map_inj_right (fun x y hxy=>Int.ofNat.inj hxy)).mp h
theorem tab_len (n:Nat) (f:Nat→Nat):(tab n f).length = n:=by simp [tab]
theorem g_tab {n:Nat} {f:Nat→Nat} {i:Nat} (h:i < n):g (tab n f) i = f i:=by simp [g,tab,List.getD_eq_getElem?_getD,h]
theorem g_get {p:List Nat} {i:Nat} (h:i < p.length):g p i = p[i]:=by simp [g,List.getD_eq_getElem?_getD,h]
theorem g_mem {p:List Nat} {i:Nat} (h:i < p.length):g p i ∈ p:=by rw [g_get h];exact List.getElem_mem h
theorem mem_g {p:List Nat} {x:Nat} (h:x ∈ p):∃ i,i < p.length∧g p i = x:=by
 obtain ⟨i,hi,rfl⟩:=List.mem_iff_getElem.mp h
 exact ⟨i,hi,g_get hi⟩
theorem ext_g {a b:List Nat} (hl:a.length = b.length) (h:∀ i,i < a.length→g a i = g b i):a = b:=by
 apply List.ext_getElem hl
 intro i h1 h2
 rw [← g_get h1,← g_get h2]
 exact h i h1
theorem eq_tab {l:List Nat} {n:Nat} {f:Nat→Nat} (hl:l.length = n) (h:∀ i,i < n→g l i = f i):l = tab n f :=
 ext_g (by rw [tab_len,hl]) (fun i hi=>by rw [hl] at hi;rw [g_tab hi,h i hi])
theorem g_set {p:List Nat} {i x j:Nat} (h:i < p.length):g (p.set i x) j = if i = j then x else g p j:=by
 unfold g
 rw [List.getD_eq_getElem?_getD,List.getD_eq_getElem?_getD,List.getElem?_set]
 by_cases e:i = j
 ·subst e
  simp [h]
 ·simp [e]
theorem I_set (p:List Nat) (i x:Nat):(I p).set i (x:Int) = I (p.set i x):=by simp [I,List.map_set]
theorem I_snoc (p:List Nat) (x:Nat):I p ++ [(x:Int)] = I (p ++ [x]):=by simp [I]
theorem I_rep (n x:Nat):I (List.replicate n x) = List.replicate n (x:Int):=by simp [I]
structure IsP (p:List Nat):Prop where
 lt:∀ x ∈ p,x < p.length
 nd:p.Nodup
instance (p:List Nat):Decidable (IsP p):=decidable_of_iff ((∀ x ∈ p,x < p.length)∧p.Nodup) ⟨fun h=>⟨h.1,h.2⟩,fun h=>⟨h.lt,h.nd⟩⟩
theorem nodup_le (n:Nat):∀ l:List Nat,l.Nodup→(∀ x ∈ l,x < n)→l.length≤n:=by
 induction n with
 | zero =>
  intro l _ h
  cases l with
  | nil=>simp
  | cons a l=>exact absurd (h a (by simp)) (by omega)
 | succ n ih =>
  intro l hn h
  have h1:=ih (l.erase n) (hn.erase n) (fun x hx=>by
   have h2:=(List.Nodup.mem_erase_iff hn).mp hx
   have h3:=h x h2.2
   have h4:=h2.1
   omega)
  have h5:=@List.length_erase _ _ _ n l
  split at h5 <;> omega
theorem mem_all {p:List Nat} (hp:IsP p) {x:Nat} (h:x < p.length):x ∈ p:=by
 apply Classical.byContradiction
 intro hx
 have:=nodup_le p.length (x :: p) (List.nodup_cons.mpr ⟨hx,hp.nd⟩) (fun y hy=>by
  rcases List.mem_cons.mp hy with rfl | hy
  ·exact h
  ·exact hp.lt y hy)
 simp at this
 omega
theorem g_lt {p:List Nat} (hp:IsP p) {i:Nat} (h:i < p.length):g p i < p.length:=hp.lt _ (g_mem h)
theorem g_inj {p:List Nat} (hp:IsP p) {i j:Nat} (hi:i < p.length) (hj:j < p.length) (h:g p i = g p j):i = j:=by
 rw [g_get hi,g_get hj] at h
 have hw:=List.pairwise_iff_getElem.mp hp.nd
 rcases Nat.lt_trichotomy i j with hij | hij | hij
 ·exact absurd h (hw i j hi hj hij)
 ·exact hij
 ·exact absurd h.symm (hw j i hj hi hij)
def ix (p:List Nat) (x:Nat):Nat:=p.idxOf x
theorem ix_lt {p:List Nat} (hp:IsP p) {x:Nat} (h:x < p.length):ix p x < p.length:=List.idxOf_lt_length_of_mem (mem_all hp h)
theorem g_ix {p:List Nat} (hp:IsP p) {x:Nat} (h:x < p.length):g p (ix p x) = x:=by
 rw [g_get (ix_lt hp h)]
 exact List.getElem_idxOf (ix_lt hp h)
theorem ix_g {p:List Nat} (hp:IsP p) {i:Nat} (h:i < p.length):ix p (g p i) = i :=
 g_inj hp (ix_lt hp (g_lt hp h)) h (g_ix hp (g_lt hp h))
theorem ix_eq {p:List Nat} (hp:IsP p) {i x:Nat} (h:i < p.length) (e:g p i = x):ix p x = i:=by rw [← e];exact ix_g hp h
theorem isP_mk {p:List Nat} (h1:∀ i,i < p.length→g p i < p.length) (h2:∀ i j,i < p.length→j < p.length→g p i = g p j→i = j):IsP p:=by
 refine ⟨fun x hx=>?_,?_⟩
 ·obtain ⟨i,hi,rfl⟩:=mem_g hx
  exact h1 i hi
 ·refine List.pairwise_iff_getElem.mpr ?_
  intro i j hi hj hij e'
  rw [← g_get hi,← g_get hj] at e'
  have:=h2 i j hi hj e'
  omega
theorem isP_tab {n:Nat} {f:Nat→Nat} (h1:∀ i,i < n→f i < n) (h2:∀ i j,i < n→j < n→f i = f j→i = j):IsP (tab n f):=by
 refine isP_mk (fun i hi=>?_) (fun i j hi hj e=>?_)
 ·rw [tab_len] at hi ⊢;rw [g_tab hi];exact h1 i hi
 ·rw [tab_len] at hi hj;rw [g_tab hi,g_tab hj] at e;exact h2 i j hi hj e
def inv (p:List Nat):List Nat:=tab p.length (ix p)
theorem inv_len (p:List Nat):(inv p).length = p.length:=tab_len _ _
theorem g_inv {p:List Nat} {i:Nat} (h:i < p.length):g (inv p) i = ix p i:=g_tab h
theorem isP_inv {p:List Nat} (hp:IsP p):IsP (inv p):=isP_tab (fun i hi=>ix_lt hp hi) (fun i j hi hj e=>by rw [← g_ix hp hi,← g_ix hp hj,e])
def thn (p q:List Nat):List Nat:=tab p.length (fun i=>g q (g p i))
theorem thn_len (p q:List Nat):(thn p q).length = p.length:=tab_len _ _
theorem isP_thn {p q:List Nat} (hp:IsP p) (hq:IsP q) (hl:p.length = q.length):IsP (thn p q) :=
 isP_tab (fun i hi=>by have h1:=g_lt hp hi;have h2:=g_lt hq (i:=g p i) (by omega);omega)
  (fun i j hi hj e=>g_inj hp hi hj (g_inj hq (by have:=g_lt hp hi;omega) (by have:=g_lt hp hj;omega) e))
def ren (p names:List Nat):List Nat:=tab p.length (fun j=>g names (g p (ix names j)))
theorem ren_len (p names:List Nat):(ren p names).length = p.length:=tab_len _ _
theorem g_ren {p names:List Nat} {j:Nat} (h:j < p.length):g (ren p names) j = g names (g p (ix names j)):=g_tab h
end Go.Proofs.YtoijcallajegfaaGreat.M
end
section
/- Plain mathematics: permutations of whole numbers, and what is reached by two of them. No conditions. -/
namespace Go.Proofs.YtoijcallajegfaaGreat.M
set_option linter.unusedVariables false
set_option linter.unusedSimpArgs false
open Go.RowKit Go.Proofs.YtoijcallajegfaaGreatW.PrintWords Go.Proofs.YtoijcallajegfaaGreatW.PrintLast Go.Proofs.YtoijcallajegfaaGreatW.PrintMore
theorem w64 {x:Int} (h0:-9223372036854775808≤x) (h1:x≤9223372036854775807):wrap64 x = x:=by unfold wrap64;omega
theorem w64s (i:Nat) (h:i≤9000000000000000000):wrap64 ((i:Int) + 1) = ((i + 1:Nat):Int):=by rw [w64 (by omega) (by omega)];omega
theorem ev_succ {α:Type} {f:Nat→Option α} {r:α} (h:Ev (fun k=>f (k + 1)) r):Ev f r:=Ev.step (fun _=>rfl) h
theorem rdI (p:List Nat) (i:Nat):rd (I p) (i:Int) = ((g p i:Nat):Int):=by
 unfold rd g I
 simp only [Int.toNat_natCast,List.getD_eq_getElem?_getD,List.getElem?_map]
 cases p[i]? <;> rfl
theorem rd_get (l:List Int) (i:Nat) (h:i < l.length):rd l (i:Int) = l[i]:=by
 unfold rd
 simp [List.getD_eq_getElem?_getD,h]
theorem mem_I {p:List Nat} {x:Nat}:(x:Int) ∈ I p ↔ x ∈ p:=by
 unfold I
 constructor
 ·intro h
  obtain ⟨y,hy,e⟩:=List.mem_map.mp h
  have:y = x:=Int.ofNat.inj e
  exact this ▸ hy
 ·intro h
  exact List.mem_map.mpr ⟨x,h,rfl⟩
def PI (l:List Int):Prop:=l.length≤24∧(∀ x ∈ l,0≤x∧x < (l.length:Int))∧l.Nodup
instance:DecidablePred PI:=fun l=>by unfold PI;infer_instance
def permB (l:List Int):Bool:=decide (PI l)
def N (l:List Int):List Nat:=l.map Int.toNat
theorem N_I (p:List Nat):N (I p) = p:=by
 unfold N I
 rw [List.map_map]
 exact List.map_id'' (fun x=>rfl) p
theorem N_len (l:List Int):(N l).length = l.length:=by simp [N]
theorem I_N {l:List Int} (h:∀ x ∈ l,0≤x):I (N l) = l:=by
 unfold N I
 rw [List.map_map]
 conv=>rhs;rw [← List.map_id l]
 apply List.map_congr_left
 intro x hx
 have:=h x hx
 simp only [Function.comp,id]
 show ((x.toNat:Nat):Int) = x
 omega
theorem PI_nat {l:List Int} (h:PI l):∃ p,l = I p∧IsP p∧p.length≤24:=by
 obtain ⟨h1,h2,h3⟩:=h
 refine ⟨N l,(I_N (fun x hx=>(h2 x hx).1)).symm,?_,by rw [N_len];exact h1⟩
 have e:=I_N (fun x hx=>(h2 x hx).1)
 refine ⟨fun x hx=>?_,?_⟩
 ·have:=(h2 (x:Int) (by rw [← e];exact mem_I.mpr hx)).2
  rw [N_len]
  omega
 ·rw [← e] at h3
  unfold I at h3
  exact (List.pairwise_map.mp h3).imp (fun {a b} hab hh=>hab (by rw [hh]))
theorem PI_I {p:List Nat}:PI (I p) ↔ IsP p∧p.length≤24:=by
 constructor
 ·intro h
  obtain ⟨q,e,h1,h2⟩:=PI_nat h
  have:=I_inj e
  subst this
  exact ⟨h1,h2⟩
 ·intro ⟨h1,h2⟩
  refine ⟨by rw [I_len];exact h2,fun x hx=>?_,?_⟩
  ·unfold I at hx
   obtain ⟨y,hy,rfl⟩:=List.mem_map.mp hx
   have:=h1.lt y hy
   rw [I_len]
   exact ⟨Int.natCast_nonneg y,Int.ofNat_lt.mpr this⟩
  ·unfold I
   exact List.pairwise_map.mpr (h1.nd.imp (fun {a b} hab hh=>hab (Int.ofNat.inj hh)))
theorem permB_I {p:List Nat}:permB (I p) = true ↔ IsP p∧p.length≤24:=by
 unfold permB
 rw [decide_eq_true_iff]
 exact PI_I
def okFrom (l:List Int) (i:Nat):Prop:=∀ j:Nat,i≤j→j < l.length→0≤rd l (j:Int)∧rd l (j:Int) < (l.length:Int)∧rd l (j:Int) ∉ l.take j
theorem okFrom_end (l:List Int) (i:Nat) (h:l.length≤i):okFrom l i:=fun j h1 h2=>by omega
theorem okFrom_step {l:List Int} {i:Nat} (h:0≤rd l (i:Int)∧rd l (i:Int) < (l.length:Int)∧rd l (i:Int) ∉ l.take i):okFrom l i ↔ okFrom l (i + 1):=by
 constructor
 ·intro k j h1 h2
  exact k j (by omega) h2
 ·intro k j h1 h2
  by_cases e:j = i
  ·subst e
   exact h
  ·exact k j (by omega) h2
theorem okFrom_not {l:List Int} {i:Nat} (hi:i < l.length) (h:¬ (0≤rd l (i:Int)∧rd l (i:Int) < (l.length:Int)∧rd l (i:Int) ∉ l.take i)):¬ okFrom l i:=fun k=>h (k i (Nat.le_refl _) hi)
theorem okFrom_PI {l:List Int} (h:l.length≤24):okFrom l 0 ↔ PI l:=by
 constructor
 ·intro k
  refine ⟨h,fun x hx=>?_,?_⟩
  ·obtain ⟨i,hi,rfl⟩:=List.mem_iff_getElem.mp hx
   have:=k i (Nat.zero_le _) hi
   rw [rd_get l i hi] at this
   exact ⟨this.1,this.2.1⟩
  ·refine List.pairwise_iff_getElem.mpr ?_
   intro i j hi hj hij e
   have:=(k j (Nat.zero_le _) hj).2.2
   rw [rd_get l j hj,← e] at this
   exact this (List.mem_take_iff_getElem.mpr ⟨i,by omega,rfl⟩)
 ·intro ⟨_,h2,h3⟩ j _ hj
  rw [rd_get l j hj]
  refine ⟨(h2 _ (List.getElem_mem hj)).1,(h2 _ (List.getElem_mem hj)).2,fun hm=>?_⟩
  obtain ⟨i,hi,e⟩:=List.mem_take_iff_getElem.mp hm
  exact List.pairwise_iff_getElem.mp h3 i j (by omega) hj (by omega) e
theorem permB_of {l:List Int} {b:Bool} (h:l.length≤24) (hb:b = true ↔ okFrom l 0):b = permB l:=by
 rw [Bool.eq_iff_iff,hb,okFrom_PI h]
 unfold permB
 rw [decide_eq_true_iff]
theorem take_succ (l:List Int) (i:Nat) (h:i < l.length):l.take (i + 1) = l.take i ++ [rd l (i:Int)]:=by
 rw [rd_get l i h,List.take_append_getElem h]
def st1 (out:List Nat) (x:Nat):List Nat:=if x ∈ out then out else out ++ [x]
def bfs (p q:List Nat):Nat→Nat→List Nat→List Nat
 | 0,_,out=>out
 | f + 1,a,out=>if a < out.length then bfs p q f (a + 1) (st1 (st1 out (g p (g out a))) (g q (g out a))) else out
def reach (p q:List Nat) (s:Nat):List Nat:=bfs p q (p.length + 1) 0 [s]
structure RInv (n:Nat) (out:List Nat):Prop where
 nd:out.Nodup
 lt:∀ x ∈ out,x < n
theorem RInv.le {n:Nat} {out:List Nat} (h:RInv n out):out.length≤n:=nodup_le n out h.nd h.lt
theorem RInv.st {n:Nat} {out:List Nat} {x:Nat} (h:RInv n out) (hx:x < n):RInv n (st1 out x):=by
 unfold st1
 split
 ·exact h
 ·rename_i hn
  refine ⟨List.nodup_append.mpr ⟨h.nd,by simp,fun a ha b hb e=>?_⟩,fun y hy=>?_⟩
  ·have:b = x:=by simpa using hb
   subst this
   exact hn (e ▸ ha)
  ·rcases List.mem_append.mp hy with hy | hy
   ·exact h.lt y hy
   ·have:y = x:=by simpa using hy
    omega
theorem st1_len (out:List Nat) (x:Nat):out.length≤(st1 out x).length:=by
 unfold st1
 split <;> simp
theorem RInv.g {n:Nat} {out:List Nat} {a:Nat} (h:RInv n out) (ha:a < out.length):M.g out a < n:=h.lt _ (g_mem ha)
structure Sf (r u:List Nat):Prop where
 pr:IsP r
 pu:IsP u
 le:r.length≤24
 eq:u.length = r.length
 pos:0 < r.length
 all:(reach r u 0).length = r.length
def surfB (r u:List Int):Bool:=permB r && permB u && decide (r.length = u.length) && decide (0 < r.length) && ((reach (N r) (N u) 0).length == r.length)
theorem surf_nat {r u:List Int} (h:surfB r u = true):∃ r' u',r = I r'∧u = I u'∧Sf r' u':=by
 unfold surfB at h
 simp only [Bool.and_eq_true,decide_eq_true_eq,beq_iff_eq] at h
 obtain ⟨⟨⟨⟨h1,h2⟩,h3⟩,h4⟩,h5⟩:=h
 obtain ⟨r',rfl,a1,a2⟩:=PI_nat (of_decide_eq_true h1)
 obtain ⟨u',rfl,b1,b2⟩:=PI_nat (of_decide_eq_true h2)
 rw [N_I,N_I,I_len] at h5
 rw [I_len,I_len] at h3
 rw [I_len] at h4
 exact ⟨r',u',rfl,rfl,a1,b1,a2,h3.symm,h4,h5⟩
theorem surfB_I {r u:List Nat}:surfB (I r) (I u) = true ↔ Sf r u:=by
 constructor
 ·intro h
  obtain ⟨r',u',e1,e2,hs⟩:=surf_nat h
  have:=I_inj e1
  have:=I_inj e2
  subst_vars
  exact hs
 ·intro h
  unfold surfB
  simp only [Bool.and_eq_true,decide_eq_true_eq,beq_iff_eq]
  rw [N_I,N_I,I_len,I_len]
  exact ⟨⟨⟨⟨permB_I.mpr ⟨h.pr,h.le⟩,permB_I.mpr ⟨h.pu,by have:=h.le;have:=h.eq;omega⟩⟩,h.eq.symm⟩,h.pos⟩,h.all⟩
end Go.Proofs.YtoijcallajegfaaGreat.M
end
section
/- Plain mathematics: going round a permutation. No conditions. -/
namespace Go.Proofs.YtoijcallajegfaaGreat.M
set_option linter.unusedVariables false
set_option linter.unusedSimpArgs false
def itr (p:List Nat):Nat→Nat→Nat
 | 0,s=>s
 | m + 1,s=>g p (itr p m s)
theorem itr_lt {p:List Nat} (hp:IsP p) (m:Nat) {s:Nat} (hs:s < p.length):itr p m s < p.length:=by
 induction m with
 | zero=>exact hs
 | succ m ih=>exact g_lt hp ih
theorem itr_add (p:List Nat) (a b s:Nat):itr p (a + b) s = itr p a (itr p b s):=by
 induction a with
 | zero=>simp [itr]
 | succ a ih =>
  have e:a + 1 + b = (a + b) + 1:=by omega
  rw [e,itr,itr,ih]
theorem itr_back {p:List Nat} (hp:IsP p) {s:Nat} (hs:s < p.length) (i d:Nat) (h:itr p (i + d) s = itr p i s):itr p d s = s:=by
 induction i with
 | zero =>
  have e:0 + d = d:=by omega
  rw [e] at h
  exact h
 | succ i ih =>
  have e:i + 1 + d = (i + d) + 1:=by omega
  rw [e] at h
  exact ih (g_inj hp (itr_lt hp _ hs) (itr_lt hp _ hs) h)
theorem period {p:List Nat} (hp:IsP p) {s:Nat} (hs:s < p.length):∃ m,1≤m∧m≤p.length∧itr p m s = s:=by
 apply Classical.byContradiction
 intro hn
 have hd:((List.range (p.length + 1)).map (fun m=>itr p m s)).Nodup:=by
  refine List.pairwise_map.mpr ?_
  refine List.pairwise_iff_getElem.mpr ?_
  intro i j hi hj hij
  rw [List.length_range] at hi hj
  rw [List.getElem_range,List.getElem_range]
  intro e
  have:itr p (j - i) s = s:=itr_back hp hs i (j - i) (by
   have e2:i + (j - i) = j:=by omega
   rw [e2]
   exact e.symm)
  exact hn ⟨j - i,by omega,by omega,this⟩
 have:=nodup_le p.length _ hd (fun x hx=>by
  obtain ⟨m,_,rfl⟩:=List.mem_map.mp hx
  exact itr_lt hp m hs)
 simp at this
 omega
def per (p:List Nat) (s:Nat):Nat:=(((List.range p.length).find? (fun m=>itr p (m + 1) s == s)).getD 0) + 1
theorem per_spec {p:List Nat} (hp:IsP p) {s:Nat} (hs:s < p.length):itr p (per p s) s = s∧per p s≤p.length∧∀ m,1≤m→m < per p s→itr p m s≠s:=by
 obtain ⟨m,m1,m2,m3⟩:=period hp hs
 unfold per
 cases h:(List.range p.length).find? (fun m=>itr p (m + 1) s == s) with
 | none =>
  have:=List.find?_eq_none.mp h (m - 1) (List.mem_range.mpr (by omega))
  have e:m - 1 + 1 = m:=by omega
  rw [e,m3] at this
  simp at this
 | some a =>
  simp only [Option.getD_some]
  have h1:=List.find?_some h
  have h2:=List.mem_of_find?_eq_some h
  rw [List.mem_range] at h2
  refine ⟨by simpa using h1,by omega,fun m hm1 hm2 e=>?_⟩
  obtain ⟨_,as1,bs1,hb,hn⟩:=List.find?_eq_some_iff_append.mp h
  have hm:m - 1 ∈ as1:=by
   have hl:as1.length = a:=by
    have e1:(List.range p.length)[as1.length]? = some a:=by rw [hb];simp
    have:=List.getElem?_eq_some_iff.mp e1
    obtain ⟨_,e2⟩:=this
    rw [List.getElem_range] at e2
    exact e2
   have e1:(List.range p.length)[m - 1]? = some (m - 1):=by
    rw [List.getElem?_range]
    omega
   rw [hb,List.getElem?_append_left (by omega)] at e1
   exact List.mem_of_getElem? e1
  have:=hn _ hm
  have e3:m - 1 + 1 = m:=by omega
  rw [e3,e] at this
  simp at this
theorem per_pos (p:List Nat) (s:Nat):1≤per p s:=by unfold per;omega
def orbTo (p:List Nat) (s m:Nat):List Nat:=(List.range m).map (fun k=>itr p k s)
def orb (p:List Nat) (s:Nat):List Nat:=orbTo p s (per p s)
theorem mem_orbTo {p:List Nat} {s m x:Nat}:x ∈ orbTo p s m ↔ ∃ k,k < m∧itr p k s = x:=by
 unfold orbTo
 simp
theorem orbTo_snoc (p:List Nat) (s m:Nat):orbTo p s m ++ [itr p m s] = orbTo p s (m + 1):=by
 unfold orbTo
 rw [List.range_succ]
 simp
theorem orb_close {p:List Nat} (hp:IsP p) {s m:Nat} (hs:s < p.length) (hm:m < per p s) (h1:1≤m):itr p m s ∉ orbTo p s m:=by
 intro h
 obtain ⟨k,hk,e⟩:=mem_orbTo.mp h
 have:itr p (m - k) s = s:=itr_back hp hs k (m - k) (by
  have e2:k + (m - k) = m:=by omega
  rw [e2]
  exact e.symm)
 exact (per_spec hp hs).2.2 (m - k) (by omega) (by omega) this
theorem mem_orb {p:List Nat} (hp:IsP p) {s:Nat} (hs:s < p.length) {x:Nat}:x ∈ orb p s ↔ ∃ k,itr p k s = x:=by
 constructor
 ·intro h
  obtain ⟨k,_,e⟩:=mem_orbTo.mp h
  exact ⟨k,e⟩
 ·intro ⟨k,e⟩
  have hper:=per_spec hp hs
  have hpos:=per_pos p s
  have hmod:∀ k,itr p (k % per p s) s = itr p k s:=by
   intro k
   have e1:k % per p s + per p s * (k / per p s) = k:=Nat.mod_add_div k (per p s)
   have hz:∀ j,itr p (per p s * j) s = s:=by
    intro j
    induction j with
    | zero=>rfl
    | succ j ih =>
     have:per p s * (j + 1) = per p s * j + per p s:=by rw [Nat.mul_add,Nat.mul_one]
     rw [this,itr_add,hper.1,ih]
   conv=>rhs;rw [← e1]
   rw [itr_add,hz]
  exact mem_orbTo.mpr ⟨k % per p s,Nat.mod_lt _ (by omega),by rw [hmod,e]⟩
theorem orb_self {p:List Nat} (hp:IsP p) {s:Nat} (hs:s < p.length):s ∈ orb p s:=(mem_orb hp hs).mpr ⟨0,rfl⟩
theorem orb_lt {p:List Nat} (hp:IsP p) {s:Nat} (hs:s < p.length) {x:Nat} (h:x ∈ orb p s):x < p.length:=by
 obtain ⟨k,rfl⟩:=(mem_orb hp hs).mp h
 exact itr_lt hp k hs
theorem orb_sym {p:List Nat} (hp:IsP p) {s:Nat} (hs:s < p.length) {x:Nat} (h:x ∈ orb p s):s ∈ orb p x:=by
 obtain ⟨k,hk,e⟩:=mem_orbTo.mp h
 have hx:=orb_lt hp hs h
 refine (mem_orb hp hx).mpr ⟨per p s - k,?_⟩
 rw [← e,← itr_add]
 have:per p s - k + k = per p s:=by omega
 rw [this]
 exact (per_spec hp hs).1
theorem orb_trans {p:List Nat} (hp:IsP p) {s:Nat} (hs:s < p.length) {x y:Nat} (h:x ∈ orb p s) (k:y ∈ orb p x):y ∈ orb p s:=by
 have hx:=orb_lt hp hs h
 obtain ⟨a,rfl⟩:=(mem_orb hp hs).mp h
 obtain ⟨b,rfl⟩:=(mem_orb hp hx).mp k
 exact (mem_orb hp hs).mpr ⟨b + a,itr_add p b a s⟩
def cyc (p:List Nat):Nat→List (List Nat)
 | 0=>[]
 | i + 1=>if ∃ c ∈ cyc p i,i ∈ c then cyc p i else cyc p i ++ [orb p i]
def cycles (p:List Nat):List (List Nat):=cyc p p.length
theorem cyc_form (p:List Nat) (i:Nat):∀ c ∈ cyc p i,∃ s,s < i∧c = orb p s:=by
 induction i with
 | zero=>intro c h;simp [cyc] at h
 | succ i ih =>
  intro c h
  unfold cyc at h
  split at h
  ·obtain ⟨s,h1,h2⟩:=ih c h
   exact ⟨s,by omega,h2⟩
  ·rcases List.mem_append.mp h with h | h
   ·obtain ⟨s,h1,h2⟩:=ih c h
    exact ⟨s,by omega,h2⟩
   ·exact ⟨i,by omega,by simpa using h⟩
theorem orb_meet {p:List Nat} (hp:IsP p) {s t x:Nat} (hs:s < p.length) (ht:t < p.length) (h1:x ∈ orb p s) (h2:x ∈ orb p t):t ∈ orb p s :=
 orb_trans hp hs h1 (orb_sym hp ht h2)
theorem cyc_new {p:List Nat} (hp:IsP p) {i:Nat} (hi:i < p.length) (h:¬ ∃ c ∈ cyc p i,i ∈ c) {x:Nat} (hx:x ∈ orb p i):¬ ∃ c ∈ cyc p i,x ∈ c:=by
 intro ⟨c,hc,hm⟩
 obtain ⟨s,hs,rfl⟩:=cyc_form p i c hc
 exact h ⟨_,hc,orb_meet hp (by omega) hi hm hx⟩
end Go.Proofs.YtoijcallajegfaaGreat.M
end
section
/- Plain mathematics: surfaces, and what the four letters make of them. No conditions. -/
namespace Go.Proofs.YtoijcallajegfaaGreat.M
set_option linter.unusedVariables false
set_option linter.unusedSimpArgs false
theorem st1_mem {out:List Nat} {x y:Nat}:y ∈ st1 out x ↔ y ∈ out ∨ y = x:=by
 unfold st1
 split
 ·rename_i h
  constructor
  ·exact Or.inl
  ·rintro (h' | rfl)
   ·exact h'
   ·exact h
 ·simp
theorem st1_g {out:List Nat} {x i:Nat} (h:i < out.length):g (st1 out x) i = g out i:=by
 unfold st1
 split
 ·rfl
 ·unfold g
  rw [List.getD_eq_getElem?_getD,List.getD_eq_getElem?_getD,List.getElem?_append_left h]
theorem st1_le (out:List Nat) (x:Nat):out.length≤(st1 out x).length:=by
 unfold st1
 split
 ·exact Nat.le_refl _
 ·simp
theorem bfs_ind {r u:List Nat} {n:Nat} (S:Nat→Prop) (h1:∀ x,x < n→S x→S (g r x)∧g r x < n) (h2:∀ x,x < n→S x→S (g u x)∧g u x < n):∀ (F a:Nat) (out:List Nat),(∀ x ∈ out,S x∧x < n)→∀ x ∈ bfs r u F a out,S x∧x < n:=by
 intro F
 induction F with
 | zero=>intro a out h;exact h
 | succ F ih =>
  intro a out h
  unfold bfs
  split
  ·rename_i ha
   obtain ⟨s,l⟩:=h _ (g_mem ha)
   refine ih _ _ (fun x hx=>?_)
   rcases st1_mem.mp hx with hx | rfl
   ·rcases st1_mem.mp hx with hx | rfl
    ·exact h x hx
    ·exact h1 _ l s
   ·exact h2 _ l s
  ·exact h
theorem bfs_sub {r u:List Nat}:∀ (F a:Nat) (out:List Nat),∀ x ∈ out,x ∈ bfs r u F a out:=by
 intro F
 induction F with
 | zero=>intro a out x h;exact h
 | succ F ih =>
  intro a out x h
  unfold bfs
  split
  ·exact ih _ _ x (st1_mem.mpr (.inl (st1_mem.mpr (.inl h))))
  ·exact h
theorem bfs_rinv {r u:List Nat} {n:Nat} (h1:∀ x,x < n→g r x < n) (h2:∀ x,x < n→g u x < n):∀ (F a:Nat) (out:List Nat),RInv n out→RInv n (bfs r u F a out):=by
 intro F
 induction F with
 | zero=>intro a out h;exact h
 | succ F ih =>
  intro a out h
  unfold bfs
  split
  ·rename_i ha
   have hx:=h.g ha
   exact ih _ _ ((h.st (h1 _ hx)).st (h2 _ hx))
  ·exact h
theorem bfs_shut {r u:List Nat} {n:Nat} (h1:∀ x,x < n→g r x < n) (h2:∀ x,x < n→g u x < n):∀ (F a:Nat) (out:List Nat),RInv n out→a≤out.length→n < F + a→(∀ i,i < a→g r (g out i) ∈ out∧g u (g out i) ∈ out)→∀ x ∈ bfs r u F a out,g r x ∈ bfs r u F a out∧g u x ∈ bfs r u F a out:=by
 intro F
 induction F with
 | zero =>
  intro a out h ha hF
  have:=h.le
  omega
 | succ F ih =>
  intro a out h ha hF hc
  unfold bfs
  split
  ·rename_i ha'
   have hx:=h.g ha'
   have r1:=h.st (h1 _ hx)
   have l1:=st1_le out (g r (g out a))
   have l2:=st1_le (st1 out (g r (g out a))) (g u (g out a))
   refine ih _ _ (r1.st (h2 _ hx)) (by omega) (by omega) (fun i hi=>?_)
   have e:g (st1 (st1 out (g r (g out a))) (g u (g out a))) i = g out i:=by
    rw [st1_g (by omega),st1_g (by omega)]
   rw [e]
   by_cases hia:i < a
   ·exact ⟨st1_mem.mpr (.inl (st1_mem.mpr (.inl (hc i hia).1))),st1_mem.mpr (.inl (st1_mem.mpr (.inl (hc i hia).2)))⟩
   ·obtain rfl:i = a:=by omega
    exact ⟨st1_mem.mpr (.inl (st1_mem.mpr (.inr rfl))),st1_mem.mpr (.inr rfl)⟩
  ·intro x hx
   obtain ⟨i,hi,rfl⟩:=mem_g hx
   exact hc i (by omega)
theorem nodup_sub_len5:∀ (a b:List Nat),a.Nodup→(∀ x ∈ a,x ∈ b)→a.length≤b.length:=by
 intro a
 induction a with
 | nil=>intro b _ _;simp
 | cons x a ih =>
  intro b hn h
  obtain ⟨h1,h2⟩:=List.nodup_cons.mp hn
  have hx:x ∈ b:=h x (by simp)
  have:=ih (b.erase x) h2 (fun y hy=>(List.mem_erase_of_ne (fun e=>h1 (by rw [← e];exact hy))).mpr (h y (by simp [hy])))
  rw [List.length_erase_of_mem hx] at this
  have hp:=List.length_pos_of_mem hx
  simp
  omega
def Tr (r u:List Nat):Prop:=∀ S:Nat→Prop,S 0→(∀ x,x < r.length→S x→S (g r x))→(∀ x,x < r.length→S x→S (g u x))→∀ x,x < r.length→S x
theorem sf_of_tr {r u:List Nat} (pr:IsP r) (pu:IsP u) (le:r.length≤24) (eq:u.length = r.length) (pos:0 < r.length) (h:Tr r u):Sf r u:=by
 have b1:∀ x,x < r.length→g r x < r.length:=fun x hx=>g_lt pr hx
 have b2:∀ x,x < r.length→g u x < r.length:=fun x hx=>by have:=g_lt pu (i:=x) (by omega);omega
 have hri:RInv r.length (reach r u 0):=bfs_rinv b1 b2 _ _ _ ⟨by simp,by simpa using pos⟩
 have hsh:=bfs_shut b1 b2 (r.length + 1) 0 [0] ⟨by simp,by simpa using pos⟩ (by simp) (by omega) (fun i hi=>by omega)
 have hall:∀ x,x < r.length→x ∈ reach r u 0:=h (fun x=>x ∈ reach r u 0) (bfs_sub _ _ _ 0 (by simp)) (fun x _ hx=>(hsh x hx).1) (fun x _ hx=>(hsh x hx).2)
 refine ⟨pr,pu,le,eq,pos,?_⟩
 have l1:=hri.le
 have l2:=nodup_sub_len5 (List.range r.length) (reach r u 0) List.nodup_range (fun x hx=>hall x (List.mem_range.mp hx))
 rw [List.length_range] at l2
 omega
theorem Sf.tr {r u:List Nat} (hs:Sf r u):Tr r u:=by
 intro S s0 h1 h2 x hx
 have b1:∀ x,x < r.length→g r x < r.length:=fun x hx=>g_lt hs.pr hx
 have b2:∀ x,x < r.length→g u x < r.length:=fun x hx=>by have:=g_lt hs.pu (i:=x) (by rw [hs.eq];exact hx);rw [hs.eq] at this;exact this
 have hri:RInv r.length (reach r u 0):=bfs_rinv b1 b2 _ _ _ ⟨by simp,by simpa using hs.pos⟩
 have hp:IsP (reach r u 0):=⟨fun x hx=>by rw [hs.all];exact hri.lt x hx,hri.nd⟩
 have hm:=mem_all hp (x:=x) (by rw [hs.all];exact hx)
 have h0:∀ y ∈ [0],S y∧y < r.length:=by
  intro y hy
  obtain rfl:y = 0:=by simpa using hy
  exact ⟨s0,hs.pos⟩
 exact (bfs_ind S (fun x hx h=>⟨h1 x hx h,b1 x hx⟩) (fun x hx h=>⟨h2 x hx h,b2 x hx⟩) _ _ [0] h0 x hm).1
theorem closed_back {p:List Nat} (hp:IsP p) {S:Nat→Prop} (hS:∀ x,x < p.length→S x→S (g p x)) {x:Nat} (hx:x < p.length) (h:S (g p x)):S x:=by
 obtain ⟨m,h1,_,h3⟩:=period hp hx
 have H:∀ k,S (itr p k (g p x)):=by
  intro k
  induction k with
  | zero=>exact h
  | succ k ih=>exact hS _ (itr_lt hp k (g_lt hp hx)) ih
 have e:itr p (m - 1) (g p x) = itr p m x:=by
  have:=itr_add p (m - 1) 1 x
  rw [show m - 1 + 1 = m by omega] at this
  exact this.symm
 have:=H (m - 1)
 rw [e,h3] at this
 exact this
theorem reach_full {r u:List Nat} (hs:Sf r u) {s:Nat} (hb:s < r.length):RInv r.length (reach r u s)∧∀ x,x < r.length→x ∈ reach r u s:=by
 have b1:∀ x,x < r.length→g r x < r.length:=fun x hx=>g_lt hs.pr hx
 have b2:∀ x,x < r.length→g u x < r.length:=fun x hx=>by have:=g_lt hs.pu (i:=x) (by rw [hs.eq];exact hx);rw [hs.eq] at this;exact this
 have h0:RInv r.length [s]:=⟨by simp,by simpa using hb⟩
 have hsh:=bfs_shut b1 b2 (r.length + 1) 0 [s] h0 (by simp) (by omega) (fun i hi=>by omega)
 have hmem:s ∈ reach r u s:=bfs_sub _ _ _ s (by simp)
 refine ⟨bfs_rinv b1 b2 _ _ _ h0,?_⟩
 have z:(0:Nat) ∈ reach r u s:=by
  apply Classical.byContradiction
  intro hz
  refine hs.tr (fun x=>x ∉ reach r u s) hz (fun x hx hn hm=>?_) (fun x hx hn hm=>?_) s hb hmem
  ·exact hn (closed_back hs.pr (S:=fun x=>x ∈ reach r u s) (fun y _ hy=>(hsh y hy).1) hx hm)
  ·exact hn (closed_back hs.pu (S:=fun x=>x ∈ reach r u s) (fun y _ hy=>(hsh y hy).2) (by rw [hs.eq];exact hx) hm)
 exact hs.tr (fun x=>x ∈ reach r u s) z (fun x _ hx=>(hsh x hx).1) (fun x _ hx=>(hsh x hx).2)
end Go.Proofs.YtoijcallajegfaaGreat.M
end
section
/- The tests of permutations, program and reference, come to one plain test. No conditions. -/
namespace Go.Proofs.YtoijcallajegfaaGreat.M
set_option linter.unusedVariables false
set_option linter.unusedSimpArgs false
open Go.RowKit Go.Proofs.YtoijcallajegfaaGreatW.PrintWords Go.Proofs.YtoijcallajegfaaGreatW.PrintLast Go.Proofs.YtoijcallajegfaaGreatW.PrintMore Go.Proofs.YtoijcallajegfaaGreat.A
theorem has_ev (l:List Int) (a:Int) (hl:l.length≤1000000000):Ev (fun k=>Z64.f k l a) (decide (a ∈ l)):=by
 have H:∀ d i:Nat,i + d = l.length→Ev (fun k=>Z64.l0 k a l (l.length:Int) (i:Int)) (decide (a ∈ l.drop i)):=by
  intro d
  induction d with
  | zero =>
   intro i h
   refine ev_succ ?_
   have h1:¬ ((i:Int) < (l.length:Int)):=by omega
   have e:decide (a ∈ l.drop i) = false:=by
    rw [List.drop_of_length_le (by omega)]
    simp
   simp only [Z64.l0,h1,if_false]
   rw [e]
   exact Ev.now _
  | succ d ih =>
   intro i h
   refine ev_succ ?_
   have hi:i < l.length:=by omega
   have h1:(i:Int) < (l.length:Int):=by omega
   have h2:(0:Int)≤(i:Int):=by omega
   have h3:=w64s i (by omega)
   have e:=List.drop_eq_getElem_cons hi
   rw [← rd_get l i hi] at e
   by_cases hr:rd l (i:Int) = a
   ·have e2:decide (a ∈ l.drop i) = true:=by rw [e,hr];simp
    simp only [Z64.l0,h1,h2,hr,if_true]
    rw [e2]
    exact Ev.now _
   ·have e2:decide (a ∈ l.drop i) = decide (a ∈ l.drop (i + 1)):=by
     rw [e]
     have:¬ a = rd l (i:Int):=fun h=>hr h.symm
     simp [this]
    simp only [Z64.l0,h1,h2,h3,hr,if_true,if_false]
    rw [e2]
    exact ih (i + 1) (by omega)
 have:=H l.length 0 (by omega)
 simpa [Z64.f] using this
theorem in_f (x:Int) (n:Nat) (hn:n≤24):Z65.f x 0 (wrap64 ((n:Int) - 1)) = some (decide (0≤x∧x < (n:Int))):=by
 unfold Z65.f
 rw [w64 (by omega) (by omega)]
 by_cases h:x ≥ 0
 ·rw [if_pos h]
  congr 1
  rw [Bool.eq_iff_iff,decide_eq_true_iff,decide_eq_true_iff]
  omega
 ·rw [if_neg h]
  congr 1
  symm
  rw [decide_eq_false_iff_not]
  omega
theorem spec_permOk (l:List Int):Ev (fun k=>Z63.f k l) (permB l):=by
 unfold Z63.f
 by_cases h24:(l.length:Int) > 24
 ·simp only [h24,if_true]
  have:permB l = false:=by
   unfold permB
   rw [decide_eq_false_iff_not]
   intro h
   have:=h.1
   omega
  rw [this]
  exact Ev.now _
 ·simp only [h24,if_false]
  have H:∀ d i:Nat,i + d = l.length→∃ b,Ev (fun k=>Z63.l0 k l l (l.length:Int) (i:Int)) b∧(b = true ↔ okFrom l i):=by
   intro d
   induction d with
   | zero =>
    intro i h
    refine ⟨true,ev_succ ?_,by simp [okFrom_end l i (by omega)]⟩
    have h1:¬ ((i:Int) < (l.length:Int)):=by omega
    simp only [Z63.l0,h1,if_false]
    exact Ev.now _
   | succ d ih =>
    intro i h
    have hi:i < l.length:=by omega
    have h1:(i:Int) < (l.length:Int):=by omega
    have h1':(i:Int)≤(l.length:Int):=by omega
    have h2:(0:Int)≤(i:Int):=by omega
    have h3:=w64s i (by omega)
    have hin:=in_f (rd l (i:Int)) l.length (by omega)
    by_cases c1:0≤rd l (i:Int)∧rd l (i:Int) < (l.length:Int)
    ·have hh:=has_ev (l.take i) (rd l (i:Int)) (by rw [List.length_take];omega)
     by_cases c2:rd l (i:Int) ∈ l.take i
     ·refine ⟨false,ev_succ ?_,by simpa using okFrom_not hi (fun h=>h.2.2 c2)⟩
      simp only [Z63.l0,h1,h1',h2,hin,c1,if_true,Option.bind_some,decide_true,Int.toNat_natCast,and_self]
      refine Ev.bind hh ?_
      simp only [c2,decide_true,if_true]
      exact Ev.now _
     ·obtain ⟨b,i1,i2⟩:=ih (i + 1) (by omega)
      refine ⟨b,ev_succ ?_,by rw [i2];exact (okFrom_step ⟨c1.1,c1.2,c2⟩).symm⟩
      simp only [Z63.l0,h1,h1',h2,h3,hin,c1,if_true,Option.bind_some,decide_true,Int.toNat_natCast,and_self]
      refine Ev.bind hh ?_
      simp only [c2,decide_false,Bool.false_eq_true,if_false]
      exact i1
    ·refine ⟨false,ev_succ ?_,by simpa using okFrom_not hi (fun h=>c1 ⟨h.1,h.2.1⟩)⟩
     simp only [Z63.l0,h1,h2,hin,c1,if_true,if_false,Option.bind_some,decide_false,Bool.false_eq_true]
     exact Ev.now _
  obtain ⟨b,i1,i2⟩:=H l.length 0 (by omega)
  rw [← permB_of (by omega) i2]
  exact i1
theorem rdOf_nat (s:List Bool) (x:Nat):rdOf false s (x:Int) = s.getD x false:=rfl
theorem getD_set (s:List Bool) (x y:Nat) (h:x < s.length):(s.set x true).getD y false = if x = y then true else s.getD y false:=by
 rw [List.getD_eq_getElem?_getD,List.getD_eq_getElem?_getD,List.getElem?_set]
 by_cases e:x = y
 ·subst e
  simp [h]
 ·simp [e]
theorem impl_permOk (l:List Int):Ev (fun k=>Z61.f k l) (permB l):=by
 unfold Z61.f
 by_cases h24:(l.length:Int) > 24
 ·simp only [h24,if_true]
  have:permB l = false:=by
   unfold permB
   rw [decide_eq_false_iff_not]
   intro h
   have:=h.1
   omega
  rw [this]
  exact Ev.now _
 ·simp only [h24,if_false]
  have H:∀ (d i:Nat) (s:List Bool),i + d = l.length→s.length = 24→(∀ x:Nat,x < 24→(s.getD x false = true ↔ (x:Int) ∈ l.take i))→∃ b,Ev (fun k=>Z61.l0 k l s (i:Int)) b∧(b = true ↔ okFrom l i):=by
   intro d
   induction d with
   | zero =>
    intro i s h hs hx
    refine ⟨true,ev_succ ?_,by simp [okFrom_end l i (by omega)]⟩
    have h1:¬ ((i:Int) < (l.length:Int)):=by omega
    simp only [Z61.l0,h1,if_false]
    exact Ev.now _
   | succ d ih =>
    intro i s h hs hx
    have hi:i < l.length:=by omega
    have h1:(i:Int) < (l.length:Int):=by omega
    have h2:(0:Int)≤(i:Int):=by omega
    have h3:=w64s i (by omega)
    by_cases c1:rd l (i:Int) < 0
    ·refine ⟨false,ev_succ ?_,by simpa using okFrom_not hi (fun h=>by omega)⟩
     simp only [Z61.l0,h1,h2,c1,if_true]
     exact Ev.now _
    ·by_cases c2:rd l (i:Int) ≥ (l.length:Int)
     ·refine ⟨false,ev_succ ?_,by simpa using okFrom_not hi (fun h=>by omega)⟩
      simp only [Z61.l0,h1,h2,c1,c2,if_true,if_false]
      exact Ev.now _
     ·obtain ⟨x,ex⟩:∃ x:Nat,rd l (i:Int) = (x:Int):=⟨(rd l (i:Int)).toNat,by omega⟩
      have hx24:x < 24:=by omega
      by_cases c3:s.getD x false = true
      ·have hm:=(hx x hx24).mp c3
       refine ⟨false,ev_succ ?_,by simpa using okFrom_not hi (fun h=>h.2.2 (by rw [ex];exact hm))⟩
       rw [ex] at c1 c2
       simp only [Z61.l0,h1,h2,ex,c1,c2,rdOf_nat,c3,if_true,if_false]
       exact Ev.now _
      ·have hm:(x:Int) ∉ l.take i:=fun h=>c3 ((hx x hx24).mpr h)
       obtain ⟨b,i1,i2⟩:=ih (i + 1) (s.set x true) (by omega) (by rw [List.length_set];exact hs) (fun y hy=>by
        rw [getD_set s x y (by omega),take_succ l i hi,ex]
        by_cases e:x = y
        ·subst e
         simp
        ·rw [if_neg e,hx y hy]
         have:¬ (y:Int) = (x:Int):=by omega
         simp [this])
       refine ⟨b,ev_succ ?_,by rw [i2];exact (okFrom_step ⟨by omega,by omega,by rw [ex];exact hm⟩).symm⟩
       rw [ex] at c1 c2
       simp only [Z61.l0,h1,h2,h3,ex,c1,c2,rdOf_nat,c3,if_true,if_false,Int.toNat_natCast]
       exact i1
  obtain ⟨b,i1,i2⟩:=H l.length 0 (List.replicate 24 false) (by omega) rfl (fun x hx=>by
   have:(List.replicate 24 false).getD x false = false:=by
    rw [List.getD_eq_getElem?_getD,List.getElem?_replicate]
    simp [hx]
   rw [this]
   simp)
  rw [← permB_of (by omega) i2]
  exact i1
end Go.Proofs.YtoijcallajegfaaGreat.M
end
section
/- The tests of surfaces, program and reference, come to one plain test. No conditions. -/
namespace Go.Proofs.YtoijcallajegfaaGreat.M
set_option linter.unusedVariables false
set_option linter.unusedSimpArgs false
open Go.RowKit Go.Proofs.YtoijcallajegfaaGreatW.PrintWords Go.Proofs.YtoijcallajegfaaGreatW.PrintLast Go.Proofs.YtoijcallajegfaaGreatW.PrintMore Go.Proofs.YtoijcallajegfaaGreat.A
theorem I_pair (a b:Nat):([(a:Int),(b:Int)]:List Int) = I [a,b]:=rfl
theorem I_len' (l:List Nat):((I l).length:Int) = (l.length:Int):=by rw [I_len]
theorem st1_I (out:List Nat) (x:Nat):I (st1 out x) = if (x:Int) ∈ I out then I out else I out ++ [(x:Int)]:=by
 unfold st1
 by_cases h:x ∈ out
 ·rw [if_pos h,if_pos (mem_I.mpr h)]
 ·rw [if_neg h,if_neg (fun k=>h (mem_I.mp k)),I_snoc]
theorem reach_one (p q out pr:List Nat) (a:Nat) (j:Nat) (hj:j < pr.length) (hp:pr.length≤2) (hl:out.length≤1000) (r:List Int)
  (H:Ev (fun k=>Z51.l1 k (I p) (I q) (I (st1 out (g pr j))) (a:Int) (I pr) (pr.length:Int) ((j + 1:Nat):Int)) r) :
  Ev (fun k=>Z51.l1 k (I p) (I q) (I out) (a:Int) (I pr) (pr.length:Int) (j:Int)) r:=by
 refine ev_succ ?_
 have h1:(j:Int) < (pr.length:Int):=by omega
 have h2:(0:Int)≤(j:Int):=by omega
 have h3:=w64s j (by omega)
 have h4:(I out).length < 17592186044416:=by rw [I_len];omega
 have hh:=has_ev (I out) ((g pr j:Nat):Int) (by rw [I_len];omega)
 simp only [Z51.l1,h1,h2,h3,h4,rdI,I_len',if_true]
 refine Ev.bind hh ?_
 rw [st1_I] at H
 by_cases hm:((g pr j:Nat):Int) ∈ I out
 ·rw [if_pos hm] at H
  simp only [hm,decide_true,if_true]
  exact H
 ·rw [if_neg hm] at H
  simp only [hm,decide_false,Bool.false_eq_true,if_false]
  exact H
theorem reach_loop {p q:List Nat} (hp:IsP p) (hq:IsP q) (hl:q.length = p.length) (h24:p.length≤24) (f:Nat):∀ (a:Nat) (out:List Nat),RInv p.length out→a≤out.length→p.length < f + a →
  Ev (fun k=>Z51.l0 k (I p) (I q) (I out) (a:Int)) (I (bfs p q f a out)):=by
 induction f with
 | zero =>
  intro a out hr ha hf
  have:=hr.le
  omega
 | succ f ih =>
  intro a out hr ha hf
  have hle:=hr.le
  refine ev_succ ?_
  by_cases h:a < out.length
  ·have h1:(a:Int) < (out.length:Int):=by omega
   have h2:(0:Int)≤(a:Int):=by omega
   have hx:=hr.g h
   have h3:((g out a:Nat):Int) < (p.length:Int):=by omega
   have h4:(0:Int)≤((g out a:Nat):Int):=by omega
   have h5:((g out a:Nat):Int) < (q.length:Int):=by omega
   have h6:=w64s a (by omega)
   simp only [Z51.l0,h1,h2,h3,h4,h5,rdI,I_len',if_true,Option.bind_some,I_pair]
   have r1:=hr.st (g_lt hp hx)
   have r2:=r1.st (x:=g q (g out a)) (by have:=g_lt hq (i:=g out a) (by omega);omega)
   have hb:bfs p q (f + 1) a out = bfs p q f (a + 1) (st1 (st1 out (g p (g out a))) (g q (g out a))):=by
    rw [bfs,if_pos h]
   rw [hb]
   have i1:=ih (a + 1) _ r2 (by have:=st1_len out (g p (g out a));have:=st1_len (st1 out (g p (g out a))) (g q (g out a));omega) (by omega)
   refine reach_one p q out [g p (g out a),g q (g out a)] a 0 (by simp) (by simp) (by omega) _ ?_
   refine reach_one p q _ [g p (g out a),g q (g out a)] a 1 (by simp) (by simp) (by have:=r1.le;simp only [g,List.getD_cons_zero] at this ⊢;omega) _ ?_
   refine ev_succ ?_
   have h7:¬ (((1 + 1:Nat):Int) < (([g p (g out a),g q (g out a)]:List Nat).length:Int)):=by simp
   simp only [Z51.l1,h7,h6,if_false]
   exact i1
  ·have h1:¬ ((a:Int) < (out.length:Int)):=by omega
   have hb:bfs p q (f + 1) a out = out:=by rw [bfs,if_neg h]
   rw [hb]
   simp only [Z51.l0,h1,I_len',if_false]
   exact Ev.now _
theorem reach_ev {p q:List Nat} (hp:IsP p) (hq:IsP q) (hl:q.length = p.length) (h24:p.length≤24) (s:Nat) (hs:s < p.length):Ev (fun k=>Z51.f k (I p) (I q) (s:Int)) (I (reach p q s)):=by
 unfold Z51.f reach
 exact reach_loop hp hq hl h24 (p.length + 1) 0 [s] ⟨by simp,by simpa using hs⟩ (by simp) (by omega)
theorem len_ne_false {r u:List Int} (h:r.length≠u.length):surfB r u = false:=by
 unfold surfB
 simp [h]
theorem surfB_mk {r u:List Int} (h1:permB r = true) (h2:permB u = true) (h3:r.length = u.length) (h4:0 < r.length):surfB r u = ((reach (N r) (N u) 0).length == r.length):=by
 unfold surfB
 simp [h1,h2,h3,h4]
 intro _
 omega
theorem spec_trans (r u:List Int):Ev (fun k=>Z12.f k r u) (surfB r u):=by
 unfold Z12.f
 refine Ev.bind (spec_permOk r) ?_
 by_cases h1:permB r = true
 ·simp only [h1,if_true]
  refine Ev.bind (spec_permOk u) ?_
  by_cases h2:permB u = true
  ·simp only [h2,if_true]
   by_cases h3:(r.length:Int) = (u.length:Int)
   ·have h3':r.length = u.length:=by omega
    by_cases h4:(r.length:Int) > 0
    ·have h4':0 < r.length:=by omega
     rw [surfB_mk h1 h2 h3' h4']
     obtain ⟨p,rfl,a1,a2⟩:=PI_nat (of_decide_eq_true h1)
     obtain ⟨q,rfl,b1,b2⟩:=PI_nat (of_decide_eq_true h2)
     rw [I_len,I_len] at h3'
     rw [I_len] at h4'
     have:=reach_ev a1 b1 h3'.symm a2 0 h4'
     simp only [h3,h4,if_true]
     rw [h3] at h4
     simp only [h4,if_true]
     refine Ev.bind this ?_
     rw [N_I,N_I]
     have e:(((I (reach p q 0)).length:Int) == ((I q).length:Int)) = ((reach p q 0).length == (I p).length):=by
      rw [I_len,I_len,I_len,Bool.eq_iff_iff,beq_iff_eq,beq_iff_eq]
      omega
     rw [← h3] at e
     simp only [h3] at e
     rw [← e]
     exact Ev.now _
    ·simp only [h3,if_true]
     rw [h3] at h4
     simp only [h4,if_false]
     have:surfB r u = false:=by
      unfold surfB
      have:¬ 0 < r.length:=by omega
      simp [this]
     rw [this]
     exact Ev.now _
   ·simp only [h3,if_false]
    rw [len_ne_false (by omega)]
    exact Ev.now _
  ·have h2':=Bool.eq_false_iff.mpr h2
   simp only [h2',Bool.false_eq_true,if_false]
   have:surfB r u = false:=by unfold surfB;simp [h2']
   rw [this]
   exact Ev.now _
 ·have h1':=Bool.eq_false_iff.mpr h1
  simp only [h1',Bool.false_eq_true,if_false]
  have:surfB r u = false:=by unfold surfB;simp [h1']
  rw [this]
  exact Ev.now _
theorem spec_surf (r u:List Int):Ev (fun k=>Z32.f k r u) (surfB r u):=by
 unfold Z32.f
 exact Ev.bind (spec_trans r u) (Ev.now _)
def Marks (n:Nat) (s:List Bool) (out:List Nat):Prop:=s.length = n∧∀ x,x < n→(s.getD x false = true ↔ x ∈ out)
theorem Marks.add {n:Nat} {s:List Bool} {out:List Nat} {x:Nat} (h:Marks n s out) (hx:x < n):Marks n (s.set x true) (out ++ [x]):=by
 refine ⟨by rw [List.length_set];exact h.1,fun y hy=>?_⟩
 rw [getD_set s x y (by rw [h.1];exact hx)]
 by_cases e:x = y
 ·subst e
  simp
 ·rw [if_neg e,h.2 y hy]
  have:¬ y = x:=fun k=>e k.symm
  simp [this]
theorem trans_one (p q out pr:List Nat) (s:List Bool) (a:Nat) (j:Nat) (hj:j < pr.length) (hp:pr.length≤2) (hl:out.length≤1000) (hm:Marks p.length s out) (hx:g pr j < p.length) (r:Bool)
  (H:∀ s',Marks p.length s' (st1 out (g pr j))→Ev (fun k=>Z9.l1 k (I p) (I q) s' (I (st1 out (g pr j))) (a:Int) (I pr) (pr.length:Int) ((j + 1:Nat):Int)) r) :
  Ev (fun k=>Z9.l1 k (I p) (I q) s (I out) (a:Int) (I pr) (pr.length:Int) (j:Int)) r:=by
 refine ev_succ ?_
 have h1:(j:Int) < (pr.length:Int):=by omega
 have h2:(0:Int)≤(j:Int):=by omega
 have h3:=w64s j (by omega)
 have h4:(I out).length < 17592186044416:=by rw [I_len];omega
 have h5:(0:Int)≤((g pr j:Nat):Int):=by omega
 have h6:((g pr j:Nat):Int) < (s.length:Int):=by rw [hm.1];omega
 simp only [Z9.l1,h1,h2,h3,h4,h5,h6,rdI,I_len',rdOf_nat,if_true,Int.toNat_natCast]
 by_cases hin:g pr j ∈ out
 ·have hs:=(hm.2 _ hx).mpr hin
  have e:st1 out (g pr j) = out:=by unfold st1;rw [if_pos hin]
  have:=H s (by rw [e];exact hm)
  rw [e] at this
  simp only [hs,if_true]
  exact this
 ·have hs:s.getD (g pr j) false = false:=Bool.eq_false_iff.mpr (fun h=>hin ((hm.2 _ hx).mp h))
  have e:st1 out (g pr j) = out ++ [g pr j]:=by unfold st1;rw [if_neg hin]
  have:=H (s.set (g pr j) true) (by rw [e];exact hm.add hx)
  rw [e,← I_snoc] at this
  simp only [hs,Bool.false_eq_true,if_false]
  exact this
theorem trans_loop {p q:List Nat} (hp:IsP p) (hq:IsP q) (hl:q.length = p.length) (h24:p.length≤24) (f:Nat):∀ (a:Nat) (out:List Nat) (s:List Bool),RInv p.length out→Marks p.length s out→a≤out.length→p.length < f + a →
  Ev (fun k=>Z9.l0 k (I p) (I q) s (I out) (a:Int)) ((bfs p q f a out).length == p.length):=by
 induction f with
 | zero =>
  intro a out s hr hm ha hf
  have:=hr.le
  omega
 | succ f ih =>
  intro a out s hr hm ha hf
  have hle:=hr.le
  refine ev_succ ?_
  by_cases h:a < out.length
  ·have h1:(a:Int) < (out.length:Int):=by omega
   have h2:(0:Int)≤(a:Int):=by omega
   have hx:=hr.g h
   have h3:((g out a:Nat):Int) < (p.length:Int):=by omega
   have h4:(0:Int)≤((g out a:Nat):Int):=by omega
   have h5:((g out a:Nat):Int) < (q.length:Int):=by omega
   have h6:=w64s a (by omega)
   simp only [Z9.l0,h1,h2,h3,h4,h5,rdI,I_len',if_true,Option.bind_some,I_pair]
   have hg1:=g_lt hp hx
   have hg2:g q (g out a) < p.length:=by have:=g_lt hq (i:=g out a) (by omega);omega
   have r1:=hr.st hg1
   have r2:=r1.st hg2
   have hb:bfs p q (f + 1) a out = bfs p q f (a + 1) (st1 (st1 out (g p (g out a))) (g q (g out a))):=by
    rw [bfs,if_pos h]
   rw [hb]
   refine trans_one p q out [g p (g out a),g q (g out a)] s a 0 (by simp) (by simp) (by omega) hm hg1 _ (fun s1 hm1=>?_)
   refine trans_one p q _ [g p (g out a),g q (g out a)] s1 a 1 (by simp) (by simp) (by have:=r1.le;simp only [g,List.getD_cons_zero] at this ⊢;omega) hm1 hg2 _ (fun s2 hm2=>?_)
   refine ev_succ ?_
   have h7:¬ (((1 + 1:Nat):Int) < (([g p (g out a),g q (g out a)]:List Nat).length:Int)):=by simp
   simp only [Z9.l1,h7,h6,if_false]
   exact ih (a + 1) _ s2 r2 hm2 (Nat.le_trans (by omega:a + 1≤out.length) (Nat.le_trans (st1_len _ _) (st1_len _ _))) (by omega)
  ·have h1:¬ ((a:Int) < (out.length:Int)):=by omega
   have hb:bfs p q (f + 1) a out = out:=by rw [bfs,if_neg h]
   rw [hb]
   simp only [Z9.l0,h1,I_len',if_false]
   have e:((out.length:Int) == (p.length:Int)) = (out.length == p.length):=by
    rw [Bool.eq_iff_iff,beq_iff_eq,beq_iff_eq]
    omega
   rw [e]
   exact Ev.now _
theorem j0_true (r u:List Int):Ev (fun k=>Z9.j0 k r u true) false:=by
 refine ev_succ ?_
 simp only [Z9.j0,if_true]
 exact Ev.now _
theorem impl_trans (r u:List Int):Ev (fun k=>Z9.f k r u) (surfB r u):=by
 unfold Z9.f
 refine Ev.bind (impl_permOk r) ?_
 by_cases h1:permB r = true
 ·simp only [h1,if_true]
  refine Ev.bind (impl_permOk u) ?_
  by_cases h2:permB u = true
  ·simp only [h2,if_true]
   by_cases h3:(r.length:Int) = (u.length:Int)
   ·have h3':r.length = u.length:=by omega
    simp only [h3,if_true]
    by_cases h4:0 < r.length
    ·rw [surfB_mk h1 h2 h3' h4]
     obtain ⟨p,rfl,a1,a2⟩:=PI_nat (of_decide_eq_true h1)
     obtain ⟨q,rfl,b1,b2⟩:=PI_nat (of_decide_eq_true h2)
     rw [I_len,I_len] at h3'
     rw [I_len] at h4
     refine ev_succ ?_
     have e0:((q.length:Int) == 0) = false:=by rw [beq_eq_false_iff_ne];omega
     have e1:(0:Int)≤(p.length:Int):=by omega
     have e2:((p.length:Int)).toNat≤281474976710656:=by omega
     have e3:(0:Int) < ((List.replicate p.length false).length:Int):=by rw [List.length_replicate];omega
     simp only [Z9.j0,e0,I_len',e1,e2,Bool.false_eq_true,if_true,if_false,Option.bind_some,Int.toNat_natCast,e3]
     simp only [Int.toNat_natCast] at e2
     simp only [e2,if_true]
     rw [N_I,N_I,I_len]
     refine trans_loop a1 b1 h3'.symm a2 (p.length + 1) 0 [0] _ ⟨by simp,by simpa using h4⟩ ?_ (by simp) (by omega)
     refine ⟨by simp,fun x hx=>?_⟩
     have:(0:Int).toNat = 0:=rfl
     rw [this,getD_set _ 0 x (by simp;omega)]
     by_cases e:0 = x
     ·subst e
      simp
     ·rw [if_neg e]
      have h0:¬ x = 0:=fun h=>e h.symm
      have:(List.replicate p.length false).getD x false = false:=by
       rw [List.getD_eq_getElem?_getD,List.getElem?_replicate]
       simp [hx]
      rw [this]
      simp [h0]
    ·have e0:((u.length:Int) == 0) = true:=by rw [beq_iff_eq];omega
     have:surfB r u = false:=by unfold surfB;simp [h4]
     rw [this]
     simp only [e0]
     exact j0_true r u
   ·simp only [h3,if_false]
    rw [len_ne_false (by omega)]
    exact j0_true r u
  ·have h2':=Bool.eq_false_iff.mpr h2
   simp only [h2',Bool.false_eq_true,if_false]
   have:surfB r u = false:=by unfold surfB;simp [h2']
   rw [this]
   exact j0_true r u
 ·have h1':=Bool.eq_false_iff.mpr h1
  simp only [h1',Bool.false_eq_true,if_false]
  have:surfB r u = false:=by unfold surfB;simp [h1']
  rw [this]
  exact j0_true r u
theorem impl_surf (r u:List Int):Ev (fun k=>Z26.f k r u) (surfB r u):=by
 unfold Z26.f
 exact Ev.bind (impl_trans r u) (Ev.now _)
end Go.Proofs.YtoijcallajegfaaGreat.M
end
section
namespace Go.Proofs.YtoijcallajegfaaGreat.A
open Go.RowKit Go.Proofs.YtoijcallajegfaaGreatW.PrintWords Go.Proofs.YtoijcallajegfaaGreatW.PrintLast Go.Proofs.YtoijcallajegfaaGreatW.PrintMore
attribute [local go_sem] max2_int min2_int max_two min_two max_three min_three max_four min_four
set_option linter.unusedVariables false
set_option linter.unusedSimpArgs false
def Z14.l0:Nat→List Int→List Int→Int→Int→Option (List Int)
 | 0,_,_,_,_=>none
 | k + 1,x3,x12,x13,x14=>if x14 < x13 then (if 0≤x14 then (if x14 < (x12.length:Int) then (if 0≤(rd x12 x14) then (if (rd x12 x14) < (x3.length:Int) then (Z14.l0 k (x3.set ((rd x12 x14):Int).toNat x14) x12 x13 (wrap64 (x14 + 1))) else (none)) else (none)) else (none)) else (none)) else (some x3)
def Z14.f (k:Nat) (l0:List Int):Option (List Int):=(Z61.f k l0).bind fun t623=>(if t623 = true then (if 0≤(l0.length:Int) then (if ((l0.length:Int):Int).toNat≤35184372088832 then (Z14.l0 k (List.replicate ((l0.length:Int):Int).toNat 0) l0 (l0.length:Int) 0) else (none)) else (none)) else (some ([]:List Int)))
theorem Z14.mono_l:∀ k,(∀ y0 y1 y2 y3,LeO (Z14.l0 k y0 y1 y2 y3) (Z14.l0 (k + 1) y0 y1 y2 y3))
 | 0=>fun _ _ _ _ r h=>by simp [Z14.l0] at h
 | k + 1=>by
  have ih0:=Z14.mono_l k
  ·intro y0 y1 y2 y3
   unfold Z14.l0
   repeat' first|exact ih0 _ _ _ _|exact Z61.mono _ _|exact lo_|refine LeO.ite ?_ ?_|refine LeO.bind ?_ (fun _=>?_)
theorem Z14.mono:∀ a0 k,LeO (Z14.f k a0) (Z14.f (k + 1) a0):=by
 intro a0 k
 have ih0:=Z14.mono_l k
 unfold Z14.f
 repeat' first|exact ih0 _ _ _ _|exact Z61.mono _ _|exact lo_|refine LeO.ite ?_ ?_|refine LeO.bind ?_ (fun _=>?_)
set_option maxHeartbeats 8000000 in
set_option maxRecDepth 100000 in
theorem Z14.calls (k:Nat) (A0:Option Addr) (c0:Nat) (l0:List Int) (r:List Int) (w:World) (hr0:Kd.C (Kd.int .i64) w A0 l0.length l0) (hc0:l0.length≤c0) (h:Z14.f k l0 = some r) :
  Calls Tryz.prog 110 #[.slice A0 l0.length c0] w fun e w'=>∃ v0_:Value,e = .returned (v0_)∧Kd.R (Kd.int .i64) 3 w' w.heap.size (fun _=>True) v0_ r∧Below w.heap.size w w':=by
 have HR0:=A_ hr0
 have HC0:=A_ hc0
 clear hr0 hc0
 have HB:=A_ (Below.refl w.heap.size w)
 have H:=h
 unfold Z14.f at H
 clear h
 obtain ⟨t623,A2,H⟩:=bi_ H
 by_cases c3:t623 = true
 ·subst c3
  rw [if_pos rfl] at H
  have c4:=cp_ H
  replace H:=ca_ H
  have c4b0:=eq_true c4
  have c4b1:=oC_ c4
  clear c4
  have c5:=cp_ H
  replace H:=ca_ H
  have c5b0:=eq_true c5
  have c5b1:=oC_ c5
  clear c5
  obtain ⟨y624,hy624⟩:∃ y_:List Int,y_ = (List.replicate ((l0.length:Int):Int).toNat 0):=⟨_,rfl⟩
  replace H:(Z14.l0 k y624 l0 (l0.length:Int) 0) = some r:=by first | (rw [hy624];exact H) | exact H
  have Ny624:=A_ hy624
  clear hy624
  have H':=A_ H
  clear H
  go_enter Tryz.func110,Tryz.ntmps110
  go_wp2_with (first | ((with_reducible refine gA_ (f:=98) rfl ?_);refine gL_ (some 7) Tryz.func98 #[.slice A0 l0.length c0] rfl qa_ ?_;(with_reducible refine (Z61.calls k _ _ l0 true _ (cc_ HR0) HC0.out A2.out).mono ?_);rintro e w6 ⟨rfl,hb⟩;refine ⟨_,rfl,?_⟩;replace HB:=b1_ hb;clear hb) | ((with_reducible refine gB_ (N:=11) rfl ?_);refine Kd.R_make (Kd.int .i64) _ 3 rfl (N:=11) rfl 27 _ _ rfl (l0.length:Int) rfl rfl Tryz.underlying27 (.int .i64 0) 8 info3 rfl (by decide) (by omega) 0 (ok:=fun _=>True) (okp:=fun _=>True) rfl (fun _ hk=>hk) trivial (oB_ qe_) (Nat.le_trans (Nat.mul_le_mul_right _ (oB_ qe_:(l0.length:Int).toNat≤35184372088832)) (by omega)) (Below.refl _ _) (nA_ _) ?_;intro v625 w7 ho8 hb hg_ hnew_;clear hg_ hnew_;(first | rw [← Ny624.out] at ho8 | (simp only [Int.reduceToNat] at ho8;rw [← Ny624.out] at ho8));have HO626:=rl_ w ho8;replace HB:=b1_ hb;clear hb ho8))
  go_loopg [14] k (fun kq v14 w'=>∃ (x3_1:List Int) (x14_1:Int),v14 = .int .i64 x14_1∧Aside0 (Z14.l0 kq x3_1 l0 (l0.length:Int) x14_1 = some r)∧Aside0 (kq≤k)∧Aside0 (Kd.R (Kd.int .i64) 3 w' w.heap.size (fun _=>True) v625 x3_1)∧Aside0 (Below w.heap.size w w'))
  case atStart=>exact ⟨(y624),(0),qc_,H',⟨nA_ _⟩,⟨(rr_ HO626)⟩,⟨hB_⟩⟩
  case round =>
   clear H'
   obtain ⟨x3_1,x14_1,rfl,HA,HK1,HO_3,HB⟩:=hrel
   cases gk with
   | zero=>exact absurd HA.out (by simp [Z14.l0])
   | succ k1 =>
    have H:=HA.out
    clear HA
    simp only [Z14.l0] at H
    by_cases c9:x14_1 < (l0.length:Int)
    ·rw [if_pos c9] at H
     have c9b0:=oC_ c9
     clear c9
     have c10:=cp_ H
     replace H:=ca_ H
     have c10b0:=oC_ c10
     clear c10
     have c11:=cp_ H
     replace H:=ca_ H
     have c11b0:=oC_ c11
     clear c11
     have c12:=cp_ H
     replace H:=ca_ H
     have c12b0:=oC_ c12
     clear c12
     have c13:=cp_ H
     replace H:=ca_ H
     have c13b0:=oC_ c13
     clear c13
     obtain ⟨y628,hy628⟩:∃ y_:List Int,y_ = (x3_1.set ((rd l0 x14_1):Int).toNat x14_1):=⟨_,rfl⟩
     replace H:(Z14.l0 k1 y628 l0 (l0.length:Int) (wrap64 (x14_1 + 1))) = some r:=by first | (rw [hy628];exact H) | exact H
     have Ny628:=A_ hy628
     clear hy628
     have H':=A_ H
     clear H
     have p627:0≤(x14_1:Int):=oB_ qe_
     have q627:x14_1 < (l0.length:Int):=oB_ qe_
     obtain ⟨ad627,e627,hx627_0⟩:=Kd.at_int HR0.out x14_1 p627 q627
     cases e627
     replace hx627_0:=(HB.out.cell (World.block_lt_of_cell? w _ hx627_0)).trans hx627_0
     replace p627:=eq_true p627
     replace q627:=eq_true q627
     have p14:0≤((rd l0 x14_1):Int):=oB_ qe_
     have q14:((rd l0 x14_1):Int) < ((x3_1.length:Int):Int):=oB_ qe_
     obtain ⟨go14,co14,eo14,gb14,gl14,cl14,HG14⟩:=Kd.R_form HO_3.out (by omega)
     (first | cases eo14 | (injection eo14 with ea_ en_ ec_;(first | subst ea_ | (injection ea_ with ea_;subst ea_));subst ec_;clear en_))
     have GB14:=A_ gb14
     have GG14:=A_ HG14
     clear gb14 gl14 HG14
     obtain ⟨hx14_0,hf14_0⟩:=Kd.R_celln 0 HO_3.out ((rd l0 x14_1):Int) p14 q14
     replace p14:=eq_true p14
     replace q14:=eq_true q14
     have HP15:=Kd.R_putg HO_3.out ((rd l0 x14_1):Int) x14_1
     go_wp2_with (first | ((with_reducible refine gate_store (t:=3) (p:=22) rfl ?_);refine store_event (t:=3) (p:=22) (v:=?vo_w16) (w1:=(wr.setCell ⟨go14,((rd l0 x14_1):Int).toNat,none⟩ (.int .i64 x14_1))) ?hg ?ho ?hn ?hr ?_;(case ho=>rfl);(case hg=>rfl);(case hn=>rfl);(case hr=>first | (go_simp;done) | (go_simp;rfl));intro w16 hw;have hg:wr.grownBy w16 (some go14):=(by rw [hw];exact HP15.2);have hp_:Kd.R (Kd.int .i64) 3 w16 w.heap.size (fun _=>True) (.slice (some ⟨go14,0,none⟩) x3_1.length co14) y628:=(by rw [hw,Ny628.out];exact HP15.1);clear HP15;replace HO_3:=A_ (hp_);replace HB:=A_ ((by rw [hw];exact bD_ (HB.out) GB14.out:Below w.heap.size w w16));clear hg hw hp_))
     go_roundg k1
     case measure=>have:=HK1.out;omega
     case rel=>exact ⟨(y628),(wrap64 (x14_1 + 1)),qc_,H',⟨by have:=HK1.out;omega⟩,⟨(rr_ HO_3)⟩,⟨hB_⟩⟩
    ·rw [if_neg c9] at H
     have c9b0:=oD_ c9
     clear c9
     obtain rfl:=Option.some.inj H
     go_wp2
     go_ret
     exact ⟨_,qb_,(rr_ HO_3),hB_⟩
 ·replace c3:=Bool.eq_false_iff.mpr c3
  subst c3
  have H1:(some ([]:List Int)) = some r:=by rw [if_neg (show ¬ (false = true) by decide)] at H;exact H
  clear H
  have H:=H1
  clear H1
  obtain rfl:=Option.some.inj H
  go_enter Tryz.func110,Tryz.ntmps110
  go_wp2_with (first | ((with_reducible refine gA_ (f:=98) rfl ?_);refine gL_ (some 7) Tryz.func98 #[.slice A0 l0.length c0] rfl qa_ ?_;(with_reducible refine (Z61.calls k _ _ l0 false _ (cc_ HR0) HC0.out A2.out).mono ?_);rintro e w17 ⟨rfl,hb⟩;refine ⟨_,rfl,?_⟩;replace HB:=b1_ hb;clear hb))
  go_ret
  exact ⟨_,qb_,by first | exact Kd.R_nil _ _ _ _ _ | exact Kd.N_nil _ _ _ _ _ | exact Kd.V_nil _ _ _ _ _ | exact Kd.Q_nil _ _ _ _ _ | exact Kd.S_nil _ _ _ _ _,hB_⟩
def Z62.l0:Nat→List Int→List Int→Int→Option (Bool)
 | 0,_,_,_=>none
 | k + 1,x0,x1,x5=>if x5 < (x0.length:Int) then (if 0≤x5 then (if x5 < (x1.length:Int) then (if (rd x0 x5) = (rd x1 x5) then (Z62.l0 k x0 x1 (wrap64 (x5 + 1))) else (some false)) else (none)) else (none)) else (some true)
def Z62.f (k:Nat) (l0:List Int) (l1:List Int):Option (Bool):=if (l0.length:Int) = (l1.length:Int) then (Z62.l0 k l0 l1 0) else (some false)
theorem Z62.mono_l:∀ k,(∀ y0 y1 y2,LeO (Z62.l0 k y0 y1 y2) (Z62.l0 (k + 1) y0 y1 y2))
 | 0=>fun _ _ _ r h=>by simp [Z62.l0] at h
 | k + 1=>by
  have ih0:=Z62.mono_l k
  ·intro y0 y1 y2
   unfold Z62.l0
   repeat' first|exact ih0 _ _ _|exact lo_|refine LeO.ite ?_ ?_|refine LeO.bind ?_ (fun _=>?_)
theorem Z62.mono:∀ a0 a1 k,LeO (Z62.f k a0 a1) (Z62.f (k + 1) a0 a1):=by
 intro a0 a1 k
 have ih0:=Z62.mono_l k
 unfold Z62.f
 repeat' first|exact ih0 _ _ _|exact lo_|refine LeO.ite ?_ ?_|refine LeO.bind ?_ (fun _=>?_)
set_option maxHeartbeats 8000000 in
set_option maxRecDepth 100000 in
theorem Z62.calls (k:Nat) (A0:Option Addr) (c0:Nat) (l0:List Int) (A1:Option Addr) (c1:Nat) (l1:List Int) (r:Bool) (w:World) (hr0:Kd.C (Kd.int .i64) w A0 l0.length l0) (hc0:l0.length≤c0) (hr1:Kd.C (Kd.int .i64) w A1 l1.length l1) (hc1:l1.length≤c1) (h:Z62.f k l0 l1 = some r) :
  Calls Tryz.prog 14 #[.slice A0 l0.length c0,.slice A1 l1.length c1] w fun e w'=>e = .returned (.bool r)∧Drawn0 w w':=by
 have HR0:=A_ hr0
 have HC0:=A_ hc0
 clear hr0 hc0
 have HR1:=A_ hr1
 have HC1:=A_ hc1
 clear hr1 hc1
 have H:=h
 unfold Z62.f at H
 clear h
 by_cases c3:(l0.length:Int) = (l1.length:Int)
 ·rw [if_pos c3] at H
  have c3b0:((l0.length:Int) == (l1.length:Int)) = true:=beq_iff_eq.mpr c3
  have c3b1:((l0.length:Int) != (l1.length:Int)) = false:=bne_eq_false_iff_eq.mpr c3
  have c3b2:(l0.length == l1.length) = true:=by first | simpa using c3 | (simp at c3 ⊢;omega)
  clear c3
  have H':=A_ H
  clear H
  go_enter Tryz.func14,Tryz.ntmps14
  go_wp2
  repeat (go_quiet (fail);try go_wp2)
  go_loopg [5] k (fun kq v5 w'=>∃ (x5_1:Int),v5 = .int .i64 x5_1∧Aside0 (Z62.l0 kq l0 l1 x5_1 = some r)∧Aside0 (kq≤k)∧Drawn0 w w')
  case atStart=>exact ⟨(0),qc_,H',⟨nA_ _⟩,by repeat (first | exact Drawn0.refl _ | apply Drawn0.step)⟩
  case round =>
   clear H'
   obtain ⟨x5_1,rfl,HA,HK1,⟨m1,rfl⟩⟩:=hrel
   cases gk with
   | zero=>exact absurd HA.out (by simp [Z62.l0])
   | succ k1 =>
    have H:=HA.out
    clear HA
    simp only [Z62.l0] at H
    by_cases c4:x5_1 < (l0.length:Int)
    ·rw [if_pos c4] at H
     have c4b0:=oC_ c4
     clear c4
     have c5:=cp_ H
     replace H:=ca_ H
     have c5b0:=oC_ c5
     clear c5
     have c6:=cp_ H
     replace H:=ca_ H
     have c6b0:=oC_ c6
     clear c6
     by_cases c7:(rd l0 x5_1) = (rd l1 x5_1)
     ·rw [if_pos c7] at H
      have c7b0:((rd l0 x5_1) == (rd l1 x5_1)) = true:=beq_iff_eq.mpr c7
      have c7b1:((rd l0 x5_1) != (rd l1 x5_1)) = false:=bne_eq_false_iff_eq.mpr c7
      clear c7
      have H':=A_ H
      clear H
      have p694:0≤(x5_1:Int):=oB_ qe_
      have q694:x5_1 < (l0.length:Int):=oB_ qe_
      obtain ⟨ad694,e694,hx694_0⟩:=Kd.at_int HR0.out x5_1 p694 q694
      cases e694
      replace p694:=eq_true p694
      replace q694:=eq_true q694
      have p695:0≤(x5_1:Int):=oB_ qe_
      have q695:x5_1 < (l1.length:Int):=oB_ qe_
      obtain ⟨ad695,e695,hx695_0⟩:=Kd.at_int HR1.out x5_1 p695 q695
      cases e695
      replace p695:=eq_true p695
      replace q695:=eq_true q695
      go_wp2
      repeat (go_quiet (fail);try go_wp2)
      go_roundg k1
      case measure=>have:=HK1.out;omega
      case rel=>exact ⟨(wrap64 (x5_1 + 1)),qc_,H',⟨by have:=HK1.out;omega⟩,by repeat (first | exact Drawn0.refl _ | apply Drawn0.step)⟩
     ·rw [if_neg c7] at H
      have c7b0:((rd l0 x5_1) == (rd l1 x5_1)) = false:=beq_eq_false_iff_ne.mpr c7
      have c7b1:((rd l0 x5_1) != (rd l1 x5_1)) = true:=bne_iff_ne.mpr c7
      obtain rfl:=Option.some.inj H
      have p694:0≤(x5_1:Int):=oB_ qe_
      have q694:x5_1 < (l0.length:Int):=oB_ qe_
      obtain ⟨ad694,e694,hx694_0⟩:=Kd.at_int HR0.out x5_1 p694 q694
      cases e694
      replace p694:=eq_true p694
      replace q694:=eq_true q694
      have p695:0≤(x5_1:Int):=oB_ qe_
      have q695:x5_1 < (l1.length:Int):=oB_ qe_
      obtain ⟨ad695,e695,hx695_0⟩:=Kd.at_int HR1.out x5_1 p695 q695
      cases e695
      replace p695:=eq_true p695
      replace q695:=eq_true q695
      go_wp2
      repeat (go_quiet (fail);try go_wp2)
      go_ret
      exact ⟨qc_,by repeat (first | exact Drawn0.refl _ | apply Drawn0.step)⟩
    ·rw [if_neg c4] at H
     have c4b0:=oD_ c4
     clear c4
     obtain rfl:=Option.some.inj H
     go_wp2
     repeat (go_quiet (fail);try go_wp2)
     go_ret
     exact ⟨qc_,by repeat (first | exact Drawn0.refl _ | apply Drawn0.step)⟩
 ·rw [if_neg c3] at H
  have c3b0:((l0.length:Int) == (l1.length:Int)) = false:=beq_eq_false_iff_ne.mpr c3
  have c3b1:((l0.length:Int) != (l1.length:Int)) = true:=bne_iff_ne.mpr c3
  have c3b2:(l0.length == l1.length) = false:=by first | simpa using c3 | (simp at c3 ⊢;omega)
  obtain rfl:=Option.some.inj H
  go_enter Tryz.func14,Tryz.ntmps14
  go_wp2
  repeat (go_quiet (fail);try go_wp2)
  go_ret
  exact ⟨qc_,by repeat (first | exact Drawn0.refl _ | apply Drawn0.step)⟩
end Go.Proofs.YtoijcallajegfaaGreat.A
end
section
/- What every law does with its arguments; inverses. No conditions. -/
namespace Go.Proofs.YtoijcallajegfaaGreat.M
set_option linter.unusedVariables false
set_option linter.unusedSimpArgs false
open Go.RowKit Go.Proofs.YtoijcallajegfaaGreatW.PrintWords Go.Proofs.YtoijcallajegfaaGreatW.PrintLast Go.Proofs.YtoijcallajegfaaGreatW.PrintMore Go.Proofs.YtoijcallajegfaaGreat.A
theorem rd_set {l:List Int} {i j:Nat} {x:Int} (h:i < l.length):rd (l.set i x) (j:Int) = if i = j then x else rd l (j:Int):=by
 unfold rd
 simp only [Int.toNat_natCast]
 rw [List.getD_eq_getElem?_getD,List.getD_eq_getElem?_getD,List.getElem?_set]
 by_cases e:i = j
 ·subst e
  simp [h]
 ·simp [e]
theorem ext_rd {a b:List Int} (hl:a.length = b.length) (h:∀ i:Nat,i < a.length→rd a (i:Int) = rd b (i:Int)):a = b:=by
 apply List.ext_getElem hl
 intro i h1 h2
 rw [← rd_get a i h1,← rd_get b i h2]
 exact h i h1
theorem eqInts_ev (a b:List Int) (ha:a.length≤9000000000000000000):Ev (fun k=>Z62.f k a b) (decide (a = b)):=by
 unfold Z62.f
 by_cases hl:(a.length:Int) = (b.length:Int)
 ·simp only [hl,if_true]
  have hl':a.length = b.length:=by omega
  have H:∀ d i:Nat,i + d = a.length→∃ c,Ev (fun k=>Z62.l0 k a b (i:Int)) c∧(c = true ↔ ∀ j:Nat,i≤j→j < a.length→rd a (j:Int) = rd b (j:Int)):=by
   intro d
   induction d with
   | zero =>
    intro i h
    refine ⟨true,ev_succ ?_,by simp;intro j h1 h2;omega⟩
    have h1:¬ ((i:Int) < (a.length:Int)):=by omega
    simp only [Z62.l0,h1,if_false]
    exact Ev.now _
   | succ d ih =>
    intro i h
    have h1:(i:Int) < (a.length:Int):=by omega
    have h2:(0:Int)≤(i:Int):=by omega
    have h3:(i:Int) < (b.length:Int):=by omega
    have h4:=w64s i (by omega)
    by_cases c:rd a (i:Int) = rd b (i:Int)
    ·obtain ⟨c',i1,i2⟩:=ih (i + 1) (by omega)
     refine ⟨c',ev_succ ?_,by
      rw [i2]
      constructor
      ·intro k j j1 j2
       by_cases e:j = i
       ·subst e;exact c
       ·exact k j (by omega) j2
      ·intro k j j1 j2
       exact k j (by omega) j2⟩
     simp only [Z62.l0,h1,h2,h3,h4,c,if_true]
     exact i1
    ·refine ⟨false,ev_succ ?_,by
      simp only [Bool.false_eq_true,false_iff]
      intro k
      exact c (k i (Nat.le_refl _) (by omega))⟩
     simp only [Z62.l0,h1,h2,h3,c,if_true,if_false]
     exact Ev.now _
  obtain ⟨c,i1,i2⟩:=H a.length 0 (by omega)
  have:decide (a = b) = c:=by
   rw [Bool.eq_iff_iff,i2,decide_eq_true_iff]
   constructor
   ·intro e j _ _
    rw [e]
   ·intro k
    exact ext_rd hl' (fun j hj=>k j (Nat.zero_le _) hj)
  rw [this]
  exact i1
 ·simp only [hl,if_false]
  have:decide (a = b) = false:=by
   rw [decide_eq_false_iff_not]
   intro e
   exact hl (by rw [e])
  rw [this]
  exact Ev.now _
theorem eqInts_same (a:List Int) (ha:a.length≤9000000000000000000):Ev (fun k=>Z62.f k a a) true:=by
 have:=eqInts_ev a a ha
 simpa using this
theorem inv_of {p c:List Nat} (hp:IsP p) (hc:c.length = p.length) (h:∀ j,j < p.length→g c (g p j) = j):c = inv p:=by
 refine ext_g (by rw [inv_len,hc]) (fun x hx=>?_)
 rw [hc] at hx
 rw [g_inv hx]
 have:=h (ix p x) (ix_lt hp hx)
 rw [g_ix hp hx] at this
 exact this
theorem inv_step {p c:List Nat} (hp:IsP p) {i:Nat} (hi:i < p.length) (hc:c.length = p.length) (h:∀ j,j < i→g c (g p j) = j):∀ j,j < i + 1→g (c.set (g p i) i) (g p j) = j:=by
 intro j hj
 rw [g_set (by rw [hc];exact g_lt hp hi)]
 by_cases e:j = i
 ·subst e
  simp
 ·rw [if_neg (fun k=>e (g_inj hp (by omega) hi k.symm))]
  exact h j (by omega)
theorem spec_inv {p:List Nat} (hp:IsP p) (h24:p.length≤24):Ev (fun k=>Z21.f k (I p)) (I (inv p)):=by
 unfold Z21.f
 have H:∀ (d i:Nat) (c:List Nat),i + d = p.length→c.length = p.length→(∀ j,j < i→g c (g p j) = j)→Ev (fun k=>Z21.l0 k (I c) (I p) (p.length:Int) (i:Int)) (I (inv p)):=by
  intro d
  induction d with
  | zero =>
   intro i c h hc hx
   refine ev_succ ?_
   have h1:¬ ((i:Int) < (p.length:Int)):=by omega
   rw [← inv_of hp hc (fun j hj=>hx j (by omega))]
   simp only [Z21.l0,h1,if_false]
   exact Ev.now _
  | succ d ih =>
   intro i c h hc hx
   refine ev_succ ?_
   have hi:i < p.length:=by omega
   have h1:(i:Int) < (p.length:Int):=by omega
   have h2:(0:Int)≤(i:Int):=by omega
   have h3:=w64s i (by omega)
   have h4:(0:Int)≤((g p i:Nat):Int):=by omega
   have h5:((g p i:Nat):Int) < (c.length:Int):=by have:=g_lt hp hi;omega
   simp only [Z21.l0,h1,h2,h3,h4,h5,rdI,I_len',I_set,if_true,Int.toNat_natCast]
   exact ih (i + 1) _ (by omega) (by rw [List.length_set];exact hc) (inv_step hp hi hc hx)
 have h1:(0:Int)≤(p.length:Int):=by omega
 have h2:p.length≤35184372088832:=by omega
 simp only [I_len',h1,h2,if_true,Int.toNat_natCast]
 have:=H p.length 0 (List.replicate p.length 0) (by omega) (by simp) (fun j hj=>by omega)
 rw [I_rep] at this
 exact this
theorem impl_inv {p:List Nat} (hp:IsP p) (h24:p.length≤24):Ev (fun k=>Z14.f k (I p)) (I (inv p)):=by
 unfold Z14.f
 have H:∀ (d i:Nat) (c:List Nat),i + d = p.length→c.length = p.length→(∀ j,j < i→g c (g p j) = j)→Ev (fun k=>Z14.l0 k (I c) (I p) (p.length:Int) (i:Int)) (I (inv p)):=by
  intro d
  induction d with
  | zero =>
   intro i c h hc hx
   refine ev_succ ?_
   have h1:¬ ((i:Int) < (p.length:Int)):=by omega
   rw [← inv_of hp hc (fun j hj=>hx j (by omega))]
   simp only [Z14.l0,h1,if_false]
   exact Ev.now _
  | succ d ih =>
   intro i c h hc hx
   refine ev_succ ?_
   have hi:i < p.length:=by omega
   have h1:(i:Int) < (p.length:Int):=by omega
   have h2:(0:Int)≤(i:Int):=by omega
   have h3:=w64s i (by omega)
   have h4:(0:Int)≤((g p i:Nat):Int):=by omega
   have h5:((g p i:Nat):Int) < (c.length:Int):=by have:=g_lt hp hi;omega
   simp only [Z14.l0,h1,h2,h3,h4,h5,rdI,I_len',I_set,if_true,Int.toNat_natCast]
   exact ih (i + 1) _ (by omega) (by rw [List.length_set];exact hc) (inv_step hp hi hc hx)
 refine Ev.bind (impl_permOk (I p)) ?_
 have h0:permB (I p) = true:=permB_I.mpr ⟨hp,h24⟩
 have h1:(0:Int)≤(p.length:Int):=by omega
 have h2:p.length≤35184372088832:=by omega
 simp only [h0,I_len',h1,h2,if_true,Int.toNat_natCast]
 have:=H p.length 0 (List.replicate p.length 0) (by omega) (by simp) (fun j hj=>by omega)
 rw [I_rep] at this
 exact this
end Go.Proofs.YtoijcallajegfaaGreat.M
end
section
/- Names from a square, and renaming: the program and the reference act alike. No conditions. -/
namespace Go.Proofs.YtoijcallajegfaaGreat.M
set_option linter.unusedVariables false
set_option linter.unusedSimpArgs false
open Go.RowKit Go.Proofs.YtoijcallajegfaaGreatW.PrintWords Go.Proofs.YtoijcallajegfaaGreatW.PrintLast Go.Proofs.YtoijcallajegfaaGreatW.PrintMore Go.Proofs.YtoijcallajegfaaGreat.A
theorem set_mid5 {α:Type} (p:List α) (x y:α) (xs:List α):(p ++ x :: xs).set p.length y = p ++ y :: xs:=by
 induction p with
 | nil=>rfl
 | cons a p ih=>simp [ih]
theorem isP_reach {r u:List Nat} (hs:Sf r u) {s:Nat} (h:s < r.length):IsP (reach r u s)∧(reach r u s).length = r.length:=by
 obtain ⟨h1,h2⟩:=reach_full hs h
 have l1:=h1.le
 have l2:=nodup_sub_len5 (List.range r.length) (reach r u s) List.nodup_range (fun x hx=>h2 x (List.mem_range.mp hx))
 rw [List.length_range] at l2
 have hl:(reach r u s).length = r.length:=by omega
 exact ⟨⟨fun x hx=>by rw [hl];exact h1.lt x hx,h1.nd⟩,hl⟩
def nm (r u:List Nat) (s:Nat):List Nat:=inv (reach r u s)
theorem isP_nm {r u:List Nat} (hs:Sf r u) {s:Nat} (h:s < r.length):IsP (nm r u s)∧(nm r u s).length = r.length:=by
 obtain ⟨h1,h2⟩:=isP_reach hs h
 exact ⟨isP_inv h1,by unfold nm;rw [inv_len,h2]⟩
theorem ren_of {p q c:List Nat} (hq:IsP q) (hl:q.length = p.length) (hc:c.length = p.length) (h:∀ j,j < p.length→g c (g q j) = g q (g p j)):c = ren p q:=by
 refine ext_g (by rw [ren_len,hc]) (fun x hx=>?_)
 rw [hc] at hx
 rw [g_ren hx]
 have hx':ix q x < q.length:=ix_lt hq (by omega)
 have:=h (ix q x) (by omega)
 rw [g_ix hq (by omega)] at this
 exact this
theorem ren_step {p q c:List Nat} (hq:IsP q) (hl:q.length = p.length) {i:Nat} (hi:i < p.length) (hc:c.length = p.length) (h:∀ j,j < i→g c (g q j) = g q (g p j)):∀ j,j < i + 1→g (c.set (g q i) (g q (g p i))) (g q j) = g q (g p j):=by
 intro j hj
 have hlt:g q i < c.length:=by rw [hc,← hl];exact g_lt hq (by omega)
 rw [g_set hlt]
 by_cases e:j = i
 ·subst e
  simp
 ·rw [if_neg (fun k=>e (g_inj hq (by omega) (by omega) k.symm))]
  exact h j (by omega)
theorem spec_ren {p q:List Nat} (hp:IsP p) (hq:IsP q) (hl:q.length = p.length) (h24:p.length≤24):Ev (fun k=>Z33.f k (I p) (I q)) (I (ren p q)):=by
 unfold Z33.f
 have H:∀ (d i:Nat) (c:List Nat),i + d = p.length→c.length = p.length→(∀ j,j < i→g c (g q j) = g q (g p j))→Ev (fun k=>Z33.l0 k (I q) (I c) (I p) (p.length:Int) (i:Int)) (I (ren p q)):=by
  intro d
  induction d with
  | zero =>
   intro i c h hc hx
   refine ev_succ ?_
   have h1:¬ ((i:Int) < (p.length:Int)):=by omega
   rw [← ren_of hq hl hc (fun j hj=>hx j (by omega))]
   simp only [Z33.l0,h1,if_false]
   exact Ev.now _
  | succ d ih =>
   intro i c h hc hx
   refine ev_succ ?_
   have hi:i < p.length:=by omega
   have k1:=g_lt hp hi
   have k2:=g_lt hq (i:=i) (by omega)
   have h1:(i:Int) < (p.length:Int):=by omega
   have h2:(0:Int)≤(i:Int):=by omega
   have h4:(i:Int) < (q.length:Int):=by omega
   have h5:(0:Int)≤((g p i:Nat):Int):=by omega
   have h6:((g p i:Nat):Int) < (q.length:Int):=by omega
   have h7:(0:Int)≤((g q i:Nat):Int):=by omega
   have h8:((g q i:Nat):Int) < (c.length:Int):=by omega
   have h3:=w64s i (by omega)
   simp only [Z33.l0,h1,h2,h3,h4,h5,h6,h7,h8,rdI,I_len',I_set,if_true,Int.toNat_natCast]
   exact ih (i + 1) _ (by omega) (by rw [List.length_set];exact hc) (ren_step hq hl hi hc hx)
 have h1:(0:Int)≤(p.length:Int):=by omega
 have h2:p.length≤35184372088832:=by omega
 simp only [I_len',h1,h2,if_true,Int.toNat_natCast]
 have:=H p.length 0 (List.replicate p.length 0) (by omega) (by simp) (fun j hj=>by omega)
 rw [I_rep] at this
 exact this
theorem impl_ren {p q:List Nat} (hp:IsP p) (hq:IsP q) (hl:q.length = p.length) (h24:p.length≤24):Ev (fun k=>Z17.f k (I p) (I q)) (I (ren p q)):=by
 unfold Z17.f
 have H:∀ (d i:Nat) (c:List Nat),i + d = p.length→c.length = p.length→(∀ j,j < i→g c (g q j) = g q (g p j))→Ev (fun k=>Z17.l0 k (I q) (I c) (I p) (p.length:Int) (i:Int)) (I (ren p q)):=by
  intro d
  induction d with
  | zero =>
   intro i c h hc hx
   refine ev_succ ?_
   have h1:¬ ((i:Int) < (p.length:Int)):=by omega
   rw [← ren_of hq hl hc (fun j hj=>hx j (by omega))]
   simp only [Z17.l0,h1,if_false]
   exact Ev.now _
  | succ d ih =>
   intro i c h hc hx
   refine ev_succ ?_
   have hi:i < p.length:=by omega
   have k1:=g_lt hp hi
   have k2:=g_lt hq (i:=i) (by omega)
   have h1:(i:Int) < (p.length:Int):=by omega
   have h2:(0:Int)≤(i:Int):=by omega
   have h4:(i:Int) < (q.length:Int):=by omega
   have h5:(0:Int)≤((g p i:Nat):Int):=by omega
   have h6:((g p i:Nat):Int) < (q.length:Int):=by omega
   have h7:(0:Int)≤((g q i:Nat):Int):=by omega
   have h8:((g q i:Nat):Int) < (c.length:Int):=by omega
   have h3:=w64s i (by omega)
   simp only [Z17.l0,h1,h2,h3,h4,h5,h6,h7,h8,rdI,I_len',I_set,if_true,Int.toNat_natCast]
   exact ih (i + 1) _ (by omega) (by rw [List.length_set];exact hc) (ren_step hq hl hi hc hx)
 have b1:permB (I p) = true:=permB_I.mpr ⟨hp,h24⟩
 have b2:permB (I q) = true:=permB_I.mpr ⟨hq,by omega⟩
 refine Ev.bind (impl_permOk _) ?_
 simp only [b1,if_true]
 refine Ev.bind (impl_permOk _) ?_
 have e:((p.length:Int) != (q.length:Int)) = false:=by rw [bne_eq_false_iff_eq];omega
 simp only [b2,I_len',e,if_true]
 refine ev_succ ?_
 have h1:(0:Int)≤(p.length:Int):=by omega
 have h2:p.length≤35184372088832:=by omega
 simp only [Z17.j0,I_len',h1,h2,Bool.false_eq_true,if_false,if_true,Int.toNat_natCast]
 have:=H p.length 0 (List.replicate p.length 0) (by omega) (by simp) (fun j hj=>by omega)
 rw [I_rep] at this
 exact this
def rnS (r u q:List Nat):List Nat × List Nat:=(ren r q,ren u q)
theorem spec_renS {r u q:List Nat} (hs:Sf r u) (hq:IsP q) (hl:q.length = r.length):Ev (fun k=>Z35.f k (I r) (I u) (I q)) (I (rnS r u q).1,I (rnS r u q).2):=by
 unfold Z35.f
 exact Ev.bind (spec_ren hs.pr hq hl hs.le) (Ev.bind (spec_ren hs.pu hq (by rw [hl,hs.eq]) (by rw [hs.eq];exact hs.le)) (Ev.now _))
theorem impl_renS {r u q:List Nat} (hs:Sf r u) (hq:IsP q) (hl:q.length = r.length):Ev (fun k=>Z7.f k (I r) (I u) (I q)) (I (rnS r u q).1,I (rnS r u q).2,true):=by
 unfold Z7.f
 have h0:=surfB_I.mpr hs
 have hle:=hs.le
 have b2:permB (I q) = true:=permB_I.mpr ⟨hq,by omega⟩
 refine Ev.bind (impl_surf _ _) ?_
 simp only [h0,if_true]
 refine Ev.bind (impl_permOk _) ?_
 have e:((q.length:Int) != (r.length:Int)) = false:=by rw [bne_eq_false_iff_eq];omega
 simp only [b2,I_len',e,if_true]
 refine ev_succ ?_
 simp only [Z7.j0,Bool.false_eq_true,if_false]
 exact Ev.bind (impl_ren hs.pr hq hl hs.le) (Ev.bind (impl_ren hs.pu hq (by rw [hl,hs.eq]) (by rw [hs.eq];exact hs.le)) (Ev.now _))
theorem spec_names {r u:List Nat} (hs:Sf r u) {s:Nat} (h:s < r.length):Ev (fun k=>Z53.f k (I r) (I u) (s:Int)) (I (nm r u s)):=by
 obtain ⟨h1,h2⟩:=isP_reach hs h
 unfold Z53.f
 exact Ev.bind (reach_ev hs.pr hs.pu hs.eq hs.le s h) (Ev.bind (spec_inv h1 (by rw [h2];exact hs.le)) (Ev.now _))
def nmP (n:Nat) (out:List Nat):List Int:=(List.range n).map (fun x=>if x ∈ out then ((out.idxOf x:Nat):Int) else -1)
theorem nmP_len (n:Nat) (out:List Nat):(nmP n out).length = n:=by simp [nmP]
theorem rd_nmP {n:Nat} {out:List Nat} {x:Nat} (h:x < n):rd (nmP n out) (x:Int) = if x ∈ out then ((out.idxOf x:Nat):Int) else -1:=by
 rw [rd_get _ _ (by rw [nmP_len];exact h)]
 simp [nmP]
theorem nmP_add {n:Nat} {out:List Nat} {x:Nat} (h:x < n) (hn:x ∉ out):(nmP n out).set x (out.length:Int) = nmP n (out ++ [x]):=by
 refine ext_rd (by rw [List.length_set,nmP_len,nmP_len]) (fun i hi=>?_)
 rw [List.length_set,nmP_len] at hi
 rw [rd_set (by rw [nmP_len];exact h),rd_nmP hi,rd_nmP hi]
 by_cases e:x = i
 ·subst e
  have:x ∈ out ++ [x]:=by simp
  rw [if_pos rfl,if_pos this,List.idxOf_append,if_neg hn]
  simp
 ·rw [if_neg e]
  by_cases hm:i ∈ out
  ·have:i ∈ out ++ [x]:=by simp [hm]
   rw [if_pos hm,if_pos this,List.idxOf_append,if_pos hm]
  ·have:i ∉ out ++ [x]:=by simp [hm];omega
   rw [if_neg hm,if_neg this]
theorem nmP_full {n:Nat} {out:List Nat} (hl:out.length = n) (h:∀ x,x < n→x ∈ out):nmP n out = I (inv out):=by
 refine ext_rd (by rw [nmP_len,I_len,inv_len,hl]) (fun i hi=>?_)
 rw [nmP_len] at hi
 rw [rd_nmP hi,if_pos (h i hi),rdI,g_inv (by omega)]
 rfl
theorem names_one {p q:List Nat} {out pr:List Nat} (a j:Nat) (hj:j < pr.length) (hpr:pr.length≤2) (hl:out.length≤1000) (hx:g pr j < p.length) (res:List Int)
  (H:Ev (fun k=>Z24.l2 k (nmP p.length (st1 out (g pr j))) (I (st1 out (g pr j))) (a:Int) (I pr) (pr.length:Int) ((j + 1:Nat):Int) (I p) (I q)) res) :
  Ev (fun k=>Z24.l2 k (nmP p.length out) (I out) (a:Int) (I pr) (pr.length:Int) (j:Int) (I p) (I q)) res:=by
 refine ev_succ ?_
 have h1:(j:Int) < (pr.length:Int):=by omega
 have h2:(0:Int)≤(j:Int):=by omega
 have h4:(I out).length < 17592186044416:=by rw [I_len];omega
 have h5:(0:Int)≤((g pr j:Nat):Int):=by omega
 have h6:((g pr j:Nat):Int) < ((nmP p.length out).length:Int):=by rw [nmP_len];omega
 have h7:rd (nmP p.length out) ((g pr j:Nat):Int) = if g pr j ∈ out then ((out.idxOf (g pr j):Nat):Int) else -1:=rd_nmP hx
 have h3:=w64s j (by omega)
 by_cases hin:g pr j ∈ out
 ·have e:st1 out (g pr j) = out:=by unfold st1;rw [if_pos hin]
  rw [e] at H
  rw [if_pos hin] at h7
  have h8:¬ (((out.idxOf (g pr j):Nat):Int) < 0):=by omega
  simp only [Z24.l2,h1,h2,h3,h5,h6,h7,h8,rdI,I_len',if_true,if_false]
  exact H
 ·have e:st1 out (g pr j) = out ++ [g pr j]:=by unfold st1;rw [if_neg hin]
  rw [e,← nmP_add hx hin,← I_snoc] at H
  rw [if_neg hin] at h7
  have h8:(-1:Int) < 0:=by omega
  simp only [Z24.l2,h1,h2,h3,h4,h5,h6,h7,h8,rdI,I_len',if_true,Int.toNat_natCast]
  exact H
theorem names_loop {p q:List Nat} (hp:IsP p) (hq:IsP q) (hl:q.length = p.length) (h24:p.length≤24) (f:Nat):∀ (a:Nat) (out:List Nat),RInv p.length out→a≤out.length→p.length < f + a →
  Ev (fun k=>Z24.l1 k (nmP p.length out) (I out) (a:Int) (I p) (I q)) (nmP p.length (bfs p q f a out)):=by
 induction f with
 | zero =>
  intro a out hr ha hf
  have:=hr.le
  omega
 | succ f ih =>
  intro a out hr ha hf
  have hle:=hr.le
  refine ev_succ ?_
  by_cases h:a < out.length
  ·have hx:=hr.g h
   have hg1:=g_lt hp hx
   have hg2:g q (g out a) < p.length:=by have:=g_lt hq (i:=g out a) (by omega);omega
   have r1:=hr.st hg1
   have r2:=r1.st hg2
   have h1:(a:Int) < (out.length:Int):=by omega
   have h2:(0:Int)≤(a:Int):=by omega
   have h3:((g out a:Nat):Int) < (p.length:Int):=by omega
   have h4:(0:Int)≤((g out a:Nat):Int):=by omega
   have h5:((g out a:Nat):Int) < (q.length:Int):=by omega
   have hb:bfs p q (f + 1) a out = bfs p q f (a + 1) (st1 (st1 out (g p (g out a))) (g q (g out a))):=by
    rw [bfs,if_pos h]
   rw [hb]
   have key:=ih (a + 1) _ r2 (Nat.le_trans (by omega:a + 1≤out.length) (Nat.le_trans (st1_len _ _) (st1_len _ _))) (by omega)
   have hq1:a≤9000000000000000000:=by omega
   have l1:=r1.le
   simp only [Z24.l1,h1,h2,h3,h4,h5,rdI,I_len',if_true,Option.bind_some,I_pair]
   refine names_one (q:=q) a 0 (by simp) (by simp) (by omega) hg1 _ ?_
   refine names_one (q:=q) a 1 (by simp) (by simp) (by simp only [g,List.getD_cons_zero] at l1 ⊢;omega) hg2 _ ?_
   refine ev_succ ?_
   have h7:¬ (((1 + 1:Nat):Int) < (([g p (g out a),g q (g out a)]:List Nat).length:Int)):=by simp
   have h6:=w64s a hq1
   simp only [Z24.l2,h7,h6,if_false]
   exact key
  ·have h1:¬ ((a:Int) < (out.length:Int)):=by omega
   have hb:bfs p q (f + 1) a out = out:=by rw [bfs,if_neg h]
   rw [hb]
   simp only [Z24.l1,h1,I_len',if_false]
   exact Ev.now _
theorem impl_names {r u:List Nat} (hs:Sf r u) {s:Nat} (h:s < r.length):Ev (fun k=>Z24.f k (I r) (I u) (s:Int)) (I (nm r u s)):=by
 have hle:=hs.le
 have h0:=surfB_I.mpr hs
 obtain ⟨k1,k2⟩:=reach_full hs h
 obtain ⟨_,k3⟩:=isP_reach hs h
 have fin:=names_loop hs.pr hs.pu hs.eq hs.le (r.length + 1) 0 [s] ⟨by simp,by simpa using h⟩ (by simp) (by omega)
 have e1:bfs r u (r.length + 1) 0 [s] = reach r u s:=rfl
 rw [e1,nmP_full k3 k2] at fin
 have H:∀ d i:Nat,i + d = r.length→Ev (fun k=>Z24.l0 k (s:Int) (List.replicate i (-1) ++ List.replicate d 0) (r.length:Int) (i:Int) (I r) (I u)) (I (nm r u s)):=by
  intro d
  induction d with
  | zero =>
   intro i hi
   obtain rfl:i = r.length:=by omega
   refine ev_succ ?_
   have c1:¬ ((r.length:Int) < (r.length:Int)):=by omega
   have c2:(0:Int)≤(s:Int):=by omega
   have c3:(s:Int) < (((List.replicate r.length (-1) ++ List.replicate 0 0:List Int)).length:Int):=by simp;omega
   have c4:(List.replicate r.length (-1) ++ List.replicate 0 0:List Int).set ((s:Int)).toNat 0 = nmP r.length [s]:=by
    refine ext_rd (by rw [List.length_set,nmP_len];simp) (fun i hi=>?_)
    rw [List.length_set] at hi
    have hi':i < r.length:=by simpa using hi
    rw [Int.toNat_natCast,rd_set (by simp;exact h),rd_nmP hi']
    by_cases e:s = i
    ·subst e
     simp
    ·rw [if_neg e]
     have:i ∉ [s]:=by simp;omega
     rw [if_neg this,rd_get _ _ hi]
     simp
   simp only [Z24.l0,c1,c2,c3,c4,if_true,if_false]
   exact fin
  | succ d ih =>
   intro i hi
   refine ev_succ ?_
   have c1:(i:Int) < (r.length:Int):=by omega
   have c2:(0:Int)≤(i:Int):=by omega
   have c3:(i:Int) < (((List.replicate i (-1) ++ List.replicate (d + 1) 0:List Int)).length:Int):=by simp;omega
   have c4:(List.replicate i (-1) ++ List.replicate (d + 1) 0:List Int).set ((i:Int)).toNat (-1) = List.replicate (i + 1) (-1) ++ List.replicate d 0:=by
    have hm:=set_mid5 (List.replicate i (-1:Int)) 0 (-1) (List.replicate d 0)
    rw [List.length_replicate] at hm
    rw [Int.toNat_natCast,List.replicate_succ,hm,List.replicate_succ',List.append_assoc]
    rfl
   have c5:=w64s i (by omega)
   simp only [Z24.l0,c1,c2,c3,c4,c5,if_true]
   exact ih (i + 1) (by omega)
 unfold Z24.f
 refine Ev.bind (impl_surf _ _) ?_
 have n1:¬ ((s:Int) < 0):=by omega
 have n2:decide ((s:Int) ≥ (r.length:Int)) = false:=by rw [decide_eq_false_iff_not];omega
 simp only [h0,n1,n2,I_len',if_true,if_false]
 refine ev_succ ?_
 have z1:(0:Int)≤(r.length:Int):=by omega
 have z2:r.length≤35184372088832:=by omega
 simp only [Z24.j0,Bool.false_eq_true,I_len',z1,z2,if_true,if_false,Int.toNat_natCast,Option.bind_some,List.length_replicate]
 have:=H r.length 0 (Nat.zero_add _)
 simpa using this
end Go.Proofs.YtoijcallajegfaaGreat.M
end
section
namespace Go.Proofs.YtoijcallajegfaaGreat.A
open Go.RowKit Go.Proofs.YtoijcallajegfaaGreatW.PrintWords Go.Proofs.YtoijcallajegfaaGreatW.PrintLast Go.Proofs.YtoijcallajegfaaGreatW.PrintMore
attribute [local go_sem] max2_int min2_int max_two min_two max_three min_three max_four min_four
set_option linter.unusedVariables false
set_option linter.unusedSimpArgs false
def Z5.l0:Nat→List Int→List Int→Int→Int→Option (Bool)
 | 0,_,_,_,_=>none
 | k + 1,x0,x1,x12,x13=>if x13 < x12 then (if 0≤x13 then (if x13 < (x0.length:Int) then (if x13 < (x1.length:Int) then (if (rd x0 x13) = (rd x1 x13) then (Z5.l0 k x0 x1 x12 (wrap64 (x13 + 1))) else (some false)) else (none)) else (none)) else (none)) else (some true)
def Z5.f (k:Nat) (l0:List Int) (l1:List Int):Option (Bool):=if (l0.length:Int) = (l1.length:Int) then (Z5.l0 k l0 l1 (l0.length:Int) 0) else (some false)
theorem Z5.mono_l:∀ k,(∀ y0 y1 y2 y3,LeO (Z5.l0 k y0 y1 y2 y3) (Z5.l0 (k + 1) y0 y1 y2 y3))
 | 0=>fun _ _ _ _ r h=>by simp [Z5.l0] at h
 | k + 1=>by
  have ih0:=Z5.mono_l k
  ·intro y0 y1 y2 y3
   unfold Z5.l0
   repeat' first|exact ih0 _ _ _ _|exact lo_|refine LeO.ite ?_ ?_|refine LeO.bind ?_ (fun _=>?_)
theorem Z5.mono:∀ a0 a1 k,LeO (Z5.f k a0 a1) (Z5.f (k + 1) a0 a1):=by
 intro a0 a1 k
 have ih0:=Z5.mono_l k
 unfold Z5.f
 repeat' first|exact ih0 _ _ _ _|exact lo_|refine LeO.ite ?_ ?_|refine LeO.bind ?_ (fun _=>?_)
set_option maxHeartbeats 8000000 in
set_option maxRecDepth 100000 in
theorem Z5.calls (k:Nat) (A0:Option Addr) (c0:Nat) (l0:List Int) (A1:Option Addr) (c1:Nat) (l1:List Int) (r:Bool) (w:World) (hr0:Kd.C (Kd.int .i64) w A0 l0.length l0) (hc0:l0.length≤c0) (hr1:Kd.C (Kd.int .i64) w A1 l1.length l1) (hc1:l1.length≤c1) (h:Z5.f k l0 l1 = some r) :
  Calls Tryz.prog 44 #[.slice A0 l0.length c0,.slice A1 l1.length c1] w fun e w'=>e = .returned (.bool r)∧Drawn0 w w':=by
 have HR0:=A_ hr0
 have HC0:=A_ hc0
 clear hr0 hc0
 have HR1:=A_ hr1
 have HC1:=A_ hc1
 clear hr1 hc1
 have H:=h
 unfold Z5.f at H
 clear h
 by_cases c3:(l0.length:Int) = (l1.length:Int)
 ·rw [if_pos c3] at H
  have c3b0:((l0.length:Int) == (l1.length:Int)) = true:=beq_iff_eq.mpr c3
  have c3b1:((l0.length:Int) != (l1.length:Int)) = false:=bne_eq_false_iff_eq.mpr c3
  have c3b2:(l0.length == l1.length) = true:=by first | simpa using c3 | (simp at c3 ⊢;omega)
  clear c3
  have H':=A_ H
  clear H
  go_enter Tryz.func44,Tryz.ntmps44
  go_wp2
  repeat (go_quiet (fail);try go_wp2)
  go_loopg [13] k (fun kq v13 w'=>∃ (x13_1:Int),v13 = .int .i64 x13_1∧Aside0 (Z5.l0 kq l0 l1 (l0.length:Int) x13_1 = some r)∧Aside0 (kq≤k)∧Drawn0 w w')
  case atStart=>exact ⟨(0),qc_,H',⟨nA_ _⟩,by repeat (first | exact Drawn0.refl _ | apply Drawn0.step)⟩
  case round =>
   clear H'
   obtain ⟨x13_1,rfl,HA,HK1,⟨m1,rfl⟩⟩:=hrel
   cases gk with
   | zero=>exact absurd HA.out (by simp [Z5.l0])
   | succ k1 =>
    have H:=HA.out
    clear HA
    simp only [Z5.l0] at H
    by_cases c4:x13_1 < (l0.length:Int)
    ·rw [if_pos c4] at H
     have c4b0:=oC_ c4
     clear c4
     have c5:=cp_ H
     replace H:=ca_ H
     have c5b0:=oC_ c5
     clear c5
     have c6:=cp_ H
     replace H:=ca_ H
     have c6b0:=oC_ c6
     clear c6
     have c7:=cp_ H
     replace H:=ca_ H
     have c7b0:=oC_ c7
     clear c7
     by_cases c8:(rd l0 x13_1) = (rd l1 x13_1)
     ·rw [if_pos c8] at H
      have c8b0:((rd l0 x13_1) == (rd l1 x13_1)) = true:=beq_iff_eq.mpr c8
      have c8b1:((rd l0 x13_1) != (rd l1 x13_1)) = false:=bne_eq_false_iff_eq.mpr c8
      clear c8
      have H':=A_ H
      clear H
      have p563:0≤(x13_1:Int):=oB_ qe_
      have q563:x13_1 < (l0.length:Int):=oB_ qe_
      obtain ⟨ad563,e563,hx563_0⟩:=Kd.at_int HR0.out x13_1 p563 q563
      cases e563
      replace p563:=eq_true p563
      replace q563:=eq_true q563
      have p564:0≤(x13_1:Int):=oB_ qe_
      have q564:x13_1 < (l1.length:Int):=oB_ qe_
      obtain ⟨ad564,e564,hx564_0⟩:=Kd.at_int HR1.out x13_1 p564 q564
      cases e564
      replace p564:=eq_true p564
      replace q564:=eq_true q564
      go_wp2
      repeat (go_quiet (fail);try go_wp2)
      go_roundg k1
      case measure=>have:=HK1.out;omega
      case rel=>exact ⟨(wrap64 (x13_1 + 1)),qc_,H',⟨by have:=HK1.out;omega⟩,by repeat (first | exact Drawn0.refl _ | apply Drawn0.step)⟩
     ·rw [if_neg c8] at H
      have c8b0:((rd l0 x13_1) == (rd l1 x13_1)) = false:=beq_eq_false_iff_ne.mpr c8
      have c8b1:((rd l0 x13_1) != (rd l1 x13_1)) = true:=bne_iff_ne.mpr c8
      obtain rfl:=Option.some.inj H
      have p563:0≤(x13_1:Int):=oB_ qe_
      have q563:x13_1 < (l0.length:Int):=oB_ qe_
      obtain ⟨ad563,e563,hx563_0⟩:=Kd.at_int HR0.out x13_1 p563 q563
      cases e563
      replace p563:=eq_true p563
      replace q563:=eq_true q563
      have p564:0≤(x13_1:Int):=oB_ qe_
      have q564:x13_1 < (l1.length:Int):=oB_ qe_
      obtain ⟨ad564,e564,hx564_0⟩:=Kd.at_int HR1.out x13_1 p564 q564
      cases e564
      replace p564:=eq_true p564
      replace q564:=eq_true q564
      go_wp2
      repeat (go_quiet (fail);try go_wp2)
      go_ret
      exact ⟨qc_,by repeat (first | exact Drawn0.refl _ | apply Drawn0.step)⟩
    ·rw [if_neg c4] at H
     have c4b0:=oD_ c4
     clear c4
     obtain rfl:=Option.some.inj H
     go_wp2
     repeat (go_quiet (fail);try go_wp2)
     go_ret
     exact ⟨qc_,by repeat (first | exact Drawn0.refl _ | apply Drawn0.step)⟩
 ·rw [if_neg c3] at H
  have c3b0:((l0.length:Int) == (l1.length:Int)) = false:=beq_eq_false_iff_ne.mpr c3
  have c3b1:((l0.length:Int) != (l1.length:Int)) = true:=bne_iff_ne.mpr c3
  have c3b2:(l0.length == l1.length) = false:=by first | simpa using c3 | (simp at c3 ⊢;omega)
  obtain rfl:=Option.some.inj H
  go_enter Tryz.func44,Tryz.ntmps44
  go_wp2
  repeat (go_quiet (fail);try go_wp2)
  go_ret
  exact ⟨qc_,by repeat (first | exact Drawn0.refl _ | apply Drawn0.step)⟩
def Z42.f (k:Nat) (l0:List Int) (l1:List Int):Option (Bool):=(Z5.f k l0 l1).bind fun t565=>(some t565)
theorem Z42.mono:∀ a0 a1 k,LeO (Z42.f k a0 a1) (Z42.f (k + 1) a0 a1):=by
 intro a0 a1 k
 unfold Z42.f
 repeat' first|exact Z5.mono _ _ _|exact lo_|refine LeO.ite ?_ ?_|refine LeO.bind ?_ (fun _=>?_)
set_option maxHeartbeats 8000000 in
set_option maxRecDepth 100000 in
theorem Z42.calls (k:Nat) (A0:Option Addr) (c0:Nat) (l0:List Int) (A1:Option Addr) (c1:Nat) (l1:List Int) (r:Bool) (w:World) (hr0:Kd.C (Kd.int .i64) w A0 l0.length l0) (hc0:l0.length≤c0) (hr1:Kd.C (Kd.int .i64) w A1 l1.length l1) (hc1:l1.length≤c1) (h:Z42.f k l0 l1 = some r) :
  Calls Tryz.prog 28 #[.slice A0 l0.length c0,.slice A1 l1.length c1] w fun e w'=>e = .returned (.bool r)∧Drawn0 w w':=by
 have HR0:=A_ hr0
 have HC0:=A_ hc0
 clear hr0 hc0
 have HR1:=A_ hr1
 have HC1:=A_ hc1
 clear hr1 hc1
 have H:=h
 unfold Z42.f at H
 clear h
 obtain ⟨t565,A3,H⟩:=bi_ H
 obtain rfl:=Option.some.inj H
 go_enter Tryz.func28,Tryz.ntmps28
 go_wp2_with (first | ((with_reducible refine gA_ (f:=44) rfl ?_);refine gL_ (some 7) Tryz.func44 #[.slice A0 l0.length c0,.slice A1 l1.length c1] rfl qa_ ?_;(with_reducible refine (Z5.calls k _ _ l0 _ _ l1 t565 _ (cc_ HR0) HC0.out (cc_ HR1) HC1.out A3.out).mono ?_);rintro e w' ⟨rfl,⟨nd,rfl⟩⟩;refine ⟨_,rfl,?_⟩))
 go_ret
 exact ⟨qc_,by repeat (first | exact Drawn0.refl _ | apply Drawn0.step)⟩
end Go.Proofs.YtoijcallajegfaaGreat.A
end
section
/- The canonical form: the program and the reference find the same one. No conditions. -/
namespace Go.Proofs.YtoijcallajegfaaGreat.M
set_option linter.unusedVariables false
set_option linter.unusedSimpArgs false
open Go.RowKit Go.Proofs.YtoijcallajegfaaGreatW.PrintWords Go.Proofs.YtoijcallajegfaaGreatW.PrintLast Go.Proofs.YtoijcallajegfaaGreatW.PrintMore Go.Proofs.YtoijcallajegfaaGreat.A
def lexC:List Nat→List Nat→Int
 | [],[]=>0
 | [],_ :: _=>-1
 | _ :: _,[]=>1
 | a :: l,b :: m=>if a < b then -1 else if b < a then 1 else lexC l m
theorem cmp_ev (a b:Nat):Z16.f (a:Int) (b:Int) = some (if a < b then -1 else if b < a then 1 else 0):=by
 unfold Z16.f Z38.f
 simp only [bne_self_eq_false,Option.bind_some,Bool.false_eq_true,if_false]
 by_cases h1:a < b
 ·have:(a:Int) < (b:Int):=by omega
  simp only [h1,this,if_true]
 ·have n1:¬ (a:Int) < (b:Int):=by omega
  by_cases h2:b < a
  ·have:(a:Int) > (b:Int):=by omega
   simp only [h1,n1,h2,this,if_true,if_false]
  ·have n2:¬ (a:Int) > (b:Int):=by omega
   simp only [h1,n1,h2,n2,if_false]
theorem lexC_eq:∀ (a b:List Nat),lexC a b = 0 ↔ a = b:=by
 intro a
 induction a with
 | nil=>intro b;cases b <;> simp [lexC]
 | cons x a ih =>
  intro b
  cases b with
  | nil=>simp [lexC]
  | cons y b =>
   unfold lexC
   by_cases h1:x < y
   ·simp [h1];omega
   ·by_cases h2:y < x
    ·simp [h1,h2];omega
    ·have e:x = y:=by omega
     subst e
     simp [h1,ih]
theorem compare_ev (a b:List Nat) (hl:a.length≤1000000):Ev (fun k=>Z3.f k (I a) (I b)) (lexC a b):=by
 unfold Z3.f
 have H:∀ d i:Nat,i + d = a.length→i≤b.length→Ev (fun k=>Z3.l0 k (I a) (I b) (I a) (a.length:Int) (i:Int)) (lexC (a.drop i) (b.drop i)):=by
  intro d
  induction d with
  | zero =>
   intro i hi hb
   refine ev_succ ?_
   have c1:¬ ((i:Int) < (a.length:Int)):=by omega
   rw [List.drop_of_length_le (l:=a) (by omega)]
   simp only [Z3.l0,c1,I_len',if_false]
   by_cases h:(a.length:Int) < (b.length:Int)
   ·have:lexC [] (b.drop i) = -1:=by
     rw [List.drop_eq_getElem_cons (by omega)]
     rfl
    simp only [h,if_true,this]
    exact Ev.now _
   ·have:lexC [] (b.drop i) = 0:=by
     rw [List.drop_of_length_le (by omega)]
     rfl
    simp only [h,if_false,this]
    exact Ev.now _
  | succ d ih =>
   intro i hi hb
   have hia:i < a.length:=by omega
   rw [List.drop_eq_getElem_cons hia,← g_get hia]
   have c1:(i:Int) < (a.length:Int):=by omega
   have c2:(0:Int)≤(i:Int):=by omega
   have c3:=w64s i (by omega)
   refine ev_succ ?_
   by_cases h:i < b.length
   ·rw [List.drop_eq_getElem_cons h,← g_get h]
    have n1:¬ ((i:Int) ≥ (b.length:Int)):=by omega
    have n2:(i:Int) < (b.length:Int):=by omega
    simp only [Z3.l0,c1,c2,c3,n1,n2,I_len',rdI,cmp_ev,Option.bind_some,if_true,if_false]
    unfold lexC
    by_cases h1:g a i < g b i
    ·have z:¬ ((-1:Int) = 0):=by omega
     simp only [h1,z,if_true,if_false]
     exact Ev.now _
    ·by_cases h2:g b i < g a i
     ·have z:¬ ((1:Int) = 0):=by omega
      simp only [h1,h2,z,if_true,if_false]
      exact Ev.now _
     ·simp only [h1,h2,if_true,if_false]
      exact ih (i + 1) (by omega) (by omega)
   ·have n1:(i:Int) ≥ (b.length:Int):=by omega
    rw [List.drop_of_length_le (l:=b) (by omega)]
    simp only [Z3.l0,c1,c2,n1,I_len',if_true]
    exact Ev.now _
 have key:=H a.length 0 (Nat.zero_add _) (Nat.zero_le _)
 rw [List.drop_zero,List.drop_zero] at key
 simp only [I_len']
 exact key
theorem less_ev (a b:List Nat) (hl:a.length≤1000000) (he:b.length = a.length):Ev (fun k=>Z58.f k (I a) (I b)) (decide (lexC a b < 0)):=by
 unfold Z58.f
 have H:∀ d i:Nat,i + d = a.length→Ev (fun k=>Z58.l0 k (I b) (I a) (a.length:Int) (i:Int)) (decide (lexC (a.drop i) (b.drop i) < 0)):=by
  intro d
  induction d with
  | zero =>
   intro i hi
   refine ev_succ ?_
   have c1:¬ ((i:Int) < (a.length:Int)):=by omega
   rw [List.drop_of_length_le (l:=a) (by omega),List.drop_of_length_le (l:=b) (by omega)]
   simp only [Z58.l0,c1,if_false]
   exact Ev.now _
  | succ d ih =>
   intro i hi
   have hia:i < a.length:=by omega
   have hib:i < b.length:=by omega
   rw [List.drop_eq_getElem_cons hia,← g_get hia,List.drop_eq_getElem_cons hib,← g_get hib]
   have c1:(i:Int) < (a.length:Int):=by omega
   have c2:(0:Int)≤(i:Int):=by omega
   have n2:(i:Int) < (b.length:Int):=by omega
   have c3:=w64s i (by omega)
   refine ev_succ ?_
   simp only [Z58.l0,c1,c2,c3,n2,I_len',rdI,if_true]
   unfold lexC
   by_cases h1:g a i < g b i
   ·have z1:¬ (((g a i:Nat):Int) = ((g b i:Nat):Int)):=by omega
    have z2:decide (((g a i:Nat):Int) < ((g b i:Nat):Int)) = true:=by rw [decide_eq_true_iff];omega
    have z3:decide ((-1:Int) < 0) = true:=by decide
    simp only [h1,z1,z2,z3,if_true,if_false]
    exact Ev.now _
   ·by_cases h2:g b i < g a i
    ·have z1:¬ (((g a i:Nat):Int) = ((g b i:Nat):Int)):=by omega
     have z2:decide (((g a i:Nat):Int) < ((g b i:Nat):Int)) = false:=by rw [decide_eq_false_iff_not];omega
     have z3:decide ((1:Int) < 0) = false:=by decide
     simp only [h1,h2,z1,z2,z3,if_true,if_false]
     exact Ev.now _
    ·have z1:((g a i:Nat):Int) = ((g b i:Nat):Int):=by omega
     simp only [h1,h2,z1,if_true,if_false]
     exact ih (i + 1) (by omega)
 have key:=H a.length 0 (Nat.zero_add _)
 rw [List.drop_zero,List.drop_zero] at key
 simp only [I_len']
 exact key
def cmpS (a b:List Nat × List Nat):Int:=if lexC a.1 b.1 = 0 then lexC a.2 b.2 else lexC a.1 b.1
theorem impl_cmpS (a b:List Nat × List Nat) (h1:a.1.length≤1000000) (h2:a.2.length≤1000000):Ev (fun k=>Z4.f k (I a.1) (I a.2) (I b.1) (I b.2)) (cmpS a b):=by
 unfold Z4.f cmpS
 refine Ev.bind (compare_ev a.1 b.1 h1) ?_
 by_cases h:lexC a.1 b.1 = 0
 ·simp only [h,if_true]
  exact Ev.bind (compare_ev a.2 b.2 h2) (Ev.now _)
 ·simp only [h,if_false]
  exact Ev.now _
theorem sameList_nat (a b:List Nat) (h:a.length≤1000000000):Ev (fun k=>Z50.f k (I a) (I b)) (decide (a = b)):=by
 unfold Z50.f
 by_cases hl:(a.length:Int) = (b.length:Int)
 ·have hl':a.length = b.length:=by omega
  simp only [I_len',hl,ne_eq,not_true_eq_false,if_false,if_true]
  have H:∀ d i:Nat,i + d = a.length→Ev (fun k=>Z50.l0 k (I b) (I a) (b.length:Int) (i:Int)) (decide (a.drop i = b.drop i)):=by
   intro d
   induction d with
   | zero =>
    intro i hi
    refine ev_succ ?_
    have c1:¬ ((i:Int) < (b.length:Int)):=by omega
    have e:decide (a.drop i = b.drop i) = true:=by rw [List.drop_of_length_le (by omega),List.drop_of_length_le (by omega)];simp
    simp only [Z50.l0,c1,if_false,e]
    exact Ev.now _
   | succ d ih =>
    intro i hi
    have hia:i < a.length:=by omega
    have hib:i < b.length:=by omega
    rw [List.drop_eq_getElem_cons hia,← g_get hia,List.drop_eq_getElem_cons hib,← g_get hib]
    have c1:(i:Int) < (b.length:Int):=by omega
    have c2:(0:Int)≤(i:Int):=by omega
    have c4:(i:Int) < (a.length:Int):=by omega
    have c3:=w64s i (by omega)
    refine ev_succ ?_
    by_cases he:g a i = g b i
    ·have z:((g a i:Nat):Int) = ((g b i:Nat):Int):=by omega
     have e:decide (g a i :: a.drop (i + 1) = g b i :: b.drop (i + 1)) = decide (a.drop (i + 1) = b.drop (i + 1)):=by simp [he]
     rw [e]
     simp only [Z50.l0,c1,c2,c3,c4,I_len',rdI,z,if_true]
     exact ih (i + 1) (by omega)
    ·have z:¬ (((g a i:Nat):Int) = ((g b i:Nat):Int)):=by omega
     have e:decide (g a i :: a.drop (i + 1) = g b i :: b.drop (i + 1)) = false:=by simp [he]
     rw [e]
     simp only [Z50.l0,c1,c2,c4,I_len',rdI,z,if_true,if_false]
     exact Ev.now _
  have key:=H a.length 0 (Nat.zero_add _)
  rw [List.drop_zero,List.drop_zero] at key
  exact key
 ·have e:decide (a = b) = false:=by
   rw [decide_eq_false_iff_not]
   intro e
   rw [e] at hl
   exact hl rfl
  simp only [I_len',hl,ne_eq,not_false_eq_true,if_true,if_false,e]
  exact Ev.now _
theorem spec_before (a b:List Nat × List Nat) (h1:a.1.length≤1000000) (h2:a.2.length≤1000000) (e1:b.1.length = a.1.length) (e2:b.2.length = a.2.length):Ev (fun k=>Z34.f k (I a.1) (I a.2) (I b.1) (I b.2)) (decide (cmpS a b < 0)):=by
 unfold Z34.f cmpS
 refine Ev.bind (sameList_nat a.1 b.1 (by omega)) ?_
 by_cases h:a.1 = b.1
 ·have z:=(lexC_eq a.1 b.1).mpr h
  rw [z]
  simp only [h,decide_true,if_true]
  exact Ev.bind (less_ev a.2 b.2 h2 e2) (Ev.now _)
 ·have z:¬ lexC a.1 b.1 = 0:=fun k=>h ((lexC_eq _ _).mp k)
  simp only [h,z,decide_false,Bool.false_eq_true,if_false]
  exact Ev.bind (less_ev a.1 b.1 h1 e1) (Ev.now _)
def rS (r u:List Nat) (s:Nat):List Nat × List Nat:=rnS r u (nm r u s)
theorem rS_len {r u:List Nat} (s:Nat):(rS r u s).1.length = r.length∧(rS r u s).2.length = u.length:=⟨ren_len _ _,ren_len _ _⟩
def canK (r u:List Nat):Nat→List Nat × List Nat
 | 0=>rS r u 0
 | k + 1=>if cmpS (rS r u (k + 1)) (canK r u k) < 0 then rS r u (k + 1) else canK r u k
theorem canK_len {r u:List Nat} (k:Nat):(canK r u k).1.length = r.length∧(canK r u k).2.length = u.length:=by
 induction k with
 | zero=>exact rS_len 0
 | succ k ih =>
  unfold canK
  split
  ·exact rS_len _
  ·exact ih
def canS (r u:List Nat):List Nat × List Nat:=canK r u (r.length - 1)
theorem spec_canon {r u:List Nat} (hs:Sf r u):Ev (fun k=>Z52.f k (I r) (I u)) (I (canS r u).1,I (canS r u).2):=by
 have hle:=hs.le
 have heq:=hs.eq
 have hpos:=hs.pos
 unfold Z52.f
 have e0:=spec_names hs hpos
 have q0:=isP_nm hs hpos
 refine Ev.bind e0 (Ev.bind (spec_renS hs q0.1 q0.2) ?_)
 have H:∀ d i:Nat,i + 1 + d = r.length→Ev (fun k=>Z52.l0 k ((i + 1:Nat):Int) (I r) (I u) (I (canK r u i).1) (I (canK r u i).2)) (I (canS r u).1,I (canS r u).2):=by
  intro d
  induction d with
  | zero =>
   intro i hi
   refine ev_succ ?_
   have c1:¬ (((i + 1:Nat):Int) < (r.length:Int)):=by omega
   have e:canS r u = canK r u i:=by
    unfold canS
    congr 1
    omega
   rw [e]
   simp only [Z52.l0,c1,I_len',if_false]
   exact Ev.now _
  | succ d ih =>
   intro i hi
   have hi1:i + 1 < r.length:=by omega
   have q1:=isP_nm hs hi1
   have c1:((i + 1:Nat):Int) < (r.length:Int):=by omega
   have c3:=w64s (i + 1) (by omega)
   have lk:=canK_len (r:=r) (u:=u) i
   have lr:=rS_len (r:=r) (u:=u) (i + 1)
   refine ev_succ ?_
   simp only [Z52.l0,c1,c3,I_len',if_true]
   refine Ev.bind (spec_names hs hi1) (Ev.bind (spec_renS hs q1.1 q1.2) ?_)
   refine Ev.bind (spec_before (rS r u (i + 1)) (canK r u i) (by rw [lr.1];omega) (by rw [lr.2];omega) (by rw [lr.1,lk.1]) (by rw [lr.2,lk.2])) ?_
   have key:=ih (i + 1) (by omega)
   unfold canK at key
   by_cases h:cmpS (rS r u (i + 1)) (canK r u i) < 0
   ·rw [if_pos h] at key
    simp only [h,decide_true,if_true]
    exact key
   ·rw [if_neg h] at key
    simp only [h,decide_false,Bool.false_eq_true,if_false]
    exact key
 have key:=H (r.length - 1) 0 (by omega)
 exact key
def namedL (r u:List Nat) (n:Nat):List S38:=(List.range n).map (fun s=>(⟨I (rS r u s).1,I (rS r u s).2⟩:S38))
theorem namedL_len (r u:List Nat) (n:Nat):(namedL r u n).length = n:=by simp [namedL]
theorem rd_named {r u:List Nat} {n i:Nat} (h:i < n):rd_T38 (namedL r u n) (i:Int) = ⟨I (rS r u i).1,I (rS r u i).2⟩:=by
 unfold rd_T38 namedL
 simp [List.getD_eq_getElem?_getD,h]
theorem count_sq {r u:List Nat} (hs:Sf r u):Ev (fun k=>Z8.f k (I r) (I u)) (r.length:Int):=by
 unfold Z8.f
 refine Ev.bind (impl_surf _ _) ?_
 have h0:=surfB_I.mpr hs
 simp only [h0,I_len',if_true]
 exact Ev.now _
theorem impl_named {r u:List Nat} (hs:Sf r u):Ev (fun k=>Z27.f k (I r) (I u)) (namedL r u r.length):=by
 have hle:=hs.le
 unfold Z27.f
 have H:∀ d i:Nat,i + d = r.length→Ev (fun k=>Z27.l0 k (namedL r u i) (i:Int) (I r) (I u)) (namedL r u r.length):=by
  intro d
  induction d with
  | zero =>
   intro i hi
   obtain rfl:i = r.length:=by omega
   refine ev_succ ?_
   simp only [Z27.l0]
   refine Ev.bind (count_sq hs) ?_
   have c1:¬ ((r.length:Int) < (r.length:Int)):=by omega
   simp only [c1,if_false]
   exact Ev.now _
  | succ d ih =>
   intro i hi
   have hil:i < r.length:=by omega
   have q1:=isP_nm hs hil
   refine ev_succ ?_
   simp only [Z27.l0]
   refine Ev.bind (count_sq hs) ?_
   have c1:(i:Int) < (r.length:Int):=by omega
   have c2:(namedL r u i).length < 2932031007402:=by rw [namedL_len];omega
   have c3:=w64s i (by omega)
   simp only [c1,if_true]
   refine Ev.bind (impl_names hs hil) (Ev.bind (impl_renS hs q1.1 q1.2) ?_)
   have e:namedL r u i ++ [(⟨I (rnS r u (nm r u i)).1,I (rnS r u (nm r u i)).2⟩:S38)] = namedL r u (i + 1):=by
    unfold namedL
    rw [List.range_succ,List.map_append]
    rfl
   simp only [c2,c3,e,if_true]
   exact ih (i + 1) (by omega)
 exact H r.length 0 (Nat.zero_add _)
theorem impl_canon {r u:List Nat} (hs:Sf r u):Ev (fun k=>Z55.f k (I r) (I u)) (I (canS r u).1,I (canS r u).2,true):=by
 have hle:=hs.le
 have heq:=hs.eq
 have hpos:=hs.pos
 unfold Z55.f
 refine Ev.bind (impl_named hs) ?_
 have c0:¬ ((r.length:Int) = 0):=by omega
 simp only [namedL_len,c0,if_false]
 refine Ev.bind (a:=(I (canS r u).1,I (canS r u).2)) ?_ (Ev.now _)
 unfold Z19.f
 have c1:¬ ((r.length:Int) < 1):=by omega
 have c2:(0:Int) < (r.length:Int):=by omega
 have e0:rd_T38 (namedL r u r.length) 0 = ⟨I (canK r u 0).1,I (canK r u 0).2⟩:=rd_named hpos
 simp only [namedL_len,c1,c2,e0,if_true,if_false]
 have H:∀ d i:Nat,i + 1 + d = r.length→Ev (fun k=>Z19.l0 k (namedL r u r.length) ((i + 1:Nat):Int) (I (canK r u i).1) (I (canK r u i).2)) (I (canS r u).1,I (canS r u).2):=by
  intro d
  induction d with
  | zero =>
   intro i hi
   refine ev_succ ?_
   have c1:¬ (((i + 1:Nat):Int) < (r.length:Int)):=by omega
   have e:canS r u = canK r u i:=by
    unfold canS
    congr 1
    omega
   rw [e]
   simp only [Z19.l0,c1,namedL_len,if_false]
   exact Ev.now _
  | succ d ih =>
   intro i hi
   have hi1:i + 1 < r.length:=by omega
   have c1:((i + 1:Nat):Int) < (r.length:Int):=by omega
   have c2:(0:Int)≤((i + 1:Nat):Int):=by omega
   have c4:rd_T38 (namedL r u r.length) ((i + 1:Nat):Int) = ⟨I (rS r u (i + 1)).1,I (rS r u (i + 1)).2⟩:=rd_named hi1
   have c3:=w64s (i + 1) (by omega)
   have lr:=rS_len (r:=r) (u:=u) (i + 1)
   refine ev_succ ?_
   simp only [Z19.l0,c1,c2,c3,c4,namedL_len,if_true]
   refine Ev.bind (impl_cmpS (rS r u (i + 1)) (canK r u i) (by rw [lr.1];omega) (by rw [lr.2];omega)) ?_
   have key:=ih (i + 1) (by omega)
   unfold canK at key
   by_cases h:cmpS (rS r u (i + 1)) (canK r u i) < 0
   ·rw [if_pos h] at key
    simp only [h,if_true]
    exact key
   ·rw [if_neg h] at key
    simp only [h,if_false]
    exact key
 exact H (r.length - 1) 0 (by omega)
theorem impl_canon_no {r u:List Int} (h:¬ surfB r u = true):Ev (fun k=>Z55.f k r u) ([],[],false):=by
 have h':=Bool.eq_false_iff.mpr h
 unfold Z55.f
 refine Ev.bind (a:=([]:List S38)) ?_ ?_
 ·unfold Z27.f
  refine ev_succ ?_
  simp only [Z27.l0]
  refine Ev.bind (a:=(0:Int)) ?_ ?_
  ·unfold Z8.f
   refine Ev.bind (impl_surf _ _) ?_
   simp only [h',Bool.false_eq_true,if_false]
   exact Ev.now _
  ·have c1:¬ ((0:Int) < 0):=by omega
   simp only [c1,if_false]
   exact Ev.now _
 ·simp only [List.length_nil]
  exact Ev.now _
theorem equal_ev (a b:List Nat) (h:a.length≤1000000000):Ev (fun k=>Z42.f k (I a) (I b)) (decide (a = b)):=by
 unfold Z42.f Z5.f
 refine Ev.bind (a:=decide (a = b)) ?_ (Ev.now _)
 by_cases hl:(a.length:Int) = (b.length:Int)
 ·have hl':a.length = b.length:=by omega
  simp only [I_len',hl,if_true]
  have H:∀ d i:Nat,i + d = a.length→Ev (fun k=>Z5.l0 k (I a) (I b) (b.length:Int) (i:Int)) (decide (a.drop i = b.drop i)):=by
   intro d
   induction d with
   | zero =>
    intro i hi
    refine ev_succ ?_
    have c1:¬ ((i:Int) < (b.length:Int)):=by omega
    have e:decide (a.drop i = b.drop i) = true:=by rw [List.drop_of_length_le (by omega),List.drop_of_length_le (by omega)];simp
    simp only [Z5.l0,c1,if_false,e]
    exact Ev.now _
   | succ d ih =>
    intro i hi
    have hia:i < a.length:=by omega
    have hib:i < b.length:=by omega
    rw [List.drop_eq_getElem_cons hia,← g_get hia,List.drop_eq_getElem_cons hib,← g_get hib]
    have c1:(i:Int) < (b.length:Int):=by omega
    have c2:(0:Int)≤(i:Int):=by omega
    have c4:(i:Int) < (a.length:Int):=by omega
    have c3:=w64s i (by omega)
    refine ev_succ ?_
    by_cases he:g a i = g b i
    ·have z:((g a i:Nat):Int) = ((g b i:Nat):Int):=by omega
     have e:decide (g a i :: a.drop (i + 1) = g b i :: b.drop (i + 1)) = decide (a.drop (i + 1) = b.drop (i + 1)):=by simp [he]
     rw [e]
     simp only [Z5.l0,c1,c2,c3,c4,I_len',rdI,z,if_true]
     exact ih (i + 1) (by omega)
    ·have z:¬ (((g a i:Nat):Int) = ((g b i:Nat):Int)):=by omega
     have e:decide (g a i :: a.drop (i + 1) = g b i :: b.drop (i + 1)) = false:=by simp [he]
     rw [e]
     simp only [Z5.l0,c1,c2,c4,I_len',rdI,z,if_true,if_false]
     exact Ev.now _
  have key:=H a.length 0 (Nat.zero_add _)
  rw [List.drop_zero,List.drop_zero] at key
  exact key
 ·have e:decide (a = b) = false:=by
   rw [decide_eq_false_iff_not]
   intro e
   rw [e] at hl
   exact hl rfl
  simp only [I_len',hl,if_false,e]
  exact Ev.now _
end Go.Proofs.YtoijcallajegfaaGreat.M
end
section
/- The order of surfaces. No conditions. -/
namespace Go.Proofs.YtoijcallajegfaaGreat.M
set_option linter.unusedVariables false
set_option linter.unusedSimpArgs false
open Go.RowKit Go.Proofs.YtoijcallajegfaaGreatW.PrintWords Go.Proofs.YtoijcallajegfaaGreatW.PrintLast Go.Proofs.YtoijcallajegfaaGreatW.PrintMore Go.Proofs.YtoijcallajegfaaGreat.A
theorem lexC_neg:∀ (a b:List Nat),lexC b a = - lexC a b:=by
 intro a
 induction a with
 | nil=>intro b;cases b <;> simp [lexC]
 | cons x a ih =>
  intro b
  cases b with
  | nil=>simp [lexC]
  | cons y b =>
   unfold lexC
   by_cases h1:x < y
   ·have h2:¬ y < x:=by omega
    simp [h1,h2]
   ·by_cases h2:y < x
    ·simp [h1,h2]
    ·simp [h1,h2,ih]
theorem lexC_tr:∀ (a b c:List Nat),lexC a b < 0→lexC b c < 0→lexC a c < 0:=by
 intro a
 induction a with
 | nil =>
  intro b c h1 h2
  cases c with
  | nil=>cases b <;> simp [lexC] at h1 h2
  | cons z c=>simp [lexC]
 | cons x a ih =>
  intro b c h1 h2
  cases b with
  | nil=>simp [lexC] at h1
  | cons y b =>
   cases c with
   | nil=>simp [lexC] at h2
   | cons z c =>
    unfold lexC at h1 h2 ⊢
    by_cases p1:x < y
    ·by_cases p2:y < z
     ·have:x < z:=by omega
      simp [this]
     ·by_cases p3:z < y
      ·simp [p2,p3] at h2
      ·have:x < z:=by omega
       simp [this]
    ·by_cases q1:y < x
     ·simp [p1,q1] at h1
     ·have e:x = y:=by omega
      subst e
      by_cases p2:x < z
      ·simp [p2]
      ·by_cases p3:z < x
       ·simp [p2,p3] at h2
       ·simp only [p2,p3,if_false] at h2 ⊢
        simp only [p1,q1,if_false] at h1
        exact ih b c h1 h2
theorem cmpS_eq (a b:List Nat × List Nat):cmpS a b = 0 ↔ a = b:=by
 unfold cmpS
 by_cases h:lexC a.1 b.1 = 0
 ·rw [if_pos h]
  have e:=(lexC_eq _ _).1 h
  constructor
  ·intro h2
   exact Prod.ext e ((lexC_eq _ _).1 h2)
  ·intro h2
   rw [h2]
   exact (lexC_eq _ _).2 rfl
 ·rw [if_neg h]
  constructor
  ·intro h2;exact absurd h2 h
  ·intro h2
   rw [h2] at h
   exact absurd ((lexC_eq _ _).2 rfl) h
theorem cmpS_neg (a b:List Nat × List Nat):cmpS b a = - cmpS a b:=by
 unfold cmpS
 have h1:=lexC_neg a.1 b.1
 have h2:=lexC_neg a.2 b.2
 by_cases h:lexC a.1 b.1 = 0
 ·have h':lexC b.1 a.1 = 0:=by omega
  rw [if_pos h,if_pos h',h2]
 ·have h':¬ lexC b.1 a.1 = 0:=by omega
  rw [if_neg h,if_neg h',h1]
theorem cmpS_tr (a b c:List Nat × List Nat) (h1:cmpS a b < 0) (h2:cmpS b c < 0):cmpS a c < 0:=by
 unfold cmpS at *
 by_cases p:lexC a.1 b.1 = 0
 ·rw [if_pos p] at h1
  have e:=(lexC_eq _ _).1 p
  rw [e]
  by_cases q:lexC b.1 c.1 = 0
  ·rw [if_pos q] at h2 ⊢
   exact lexC_tr _ _ _ h1 h2
  ·rw [if_neg q] at h2 ⊢
   exact h2
 ·rw [if_neg p] at h1
  by_cases q:lexC b.1 c.1 = 0
  ·rw [if_pos q] at h2
   have e:=(lexC_eq _ _).1 q
   rw [← e,if_neg p]
   exact h1
  ·rw [if_neg q] at h2
   have:=lexC_tr _ _ _ h1 h2
   rw [if_neg (by omega)]
   exact this
theorem cmpS_le_tr (a b c:List Nat × List Nat) (h1:¬ cmpS a b < 0) (h2:¬ cmpS b c < 0):¬ cmpS a c < 0:=by
 intro h3
 have n1:=cmpS_neg a b
 have n2:=cmpS_neg b c
 have n3:=cmpS_neg a c
 by_cases e1:cmpS a b = 0
 ·rw [(cmpS_eq _ _).1 e1] at h3;exact h2 h3
 ·by_cases e2:cmpS b c = 0
  ·rw [← (cmpS_eq _ _).1 e2] at h3;exact h1 h3
  ·have:=cmpS_tr c b a (by omega) (by omega)
   omega
theorem lexC_le_tr (a b c:List Nat) (h1:¬ lexC a b < 0) (h2:¬ lexC b c < 0):¬ lexC a c < 0:=by
 intro h3
 have n1:=lexC_neg a b
 have n2:=lexC_neg b c
 have n3:=lexC_neg a c
 by_cases e1:lexC a b = 0
 ·rw [(lexC_eq _ _).1 e1] at h3;exact h2 h3
 ·by_cases e2:lexC b c = 0
  ·rw [← (lexC_eq _ _).1 e2] at h3;exact h1 h3
  ·have:=lexC_tr c b a (by omega) (by omega)
   omega
end Go.Proofs.YtoijcallajegfaaGreat.M
end
