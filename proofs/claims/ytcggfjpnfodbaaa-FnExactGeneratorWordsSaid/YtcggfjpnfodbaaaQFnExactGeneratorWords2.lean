/- Lemmas for the row FnExactGeneratorWords: the program's functions told as plain functions, and plain mathematics. No conditions. -/
import Derived.MapKept
import Derived.Test.YtcggfjpnfodbaaaQFnExactGeneratorWords1
section
namespace Go.Proofs.Ytcggfjpnfodbaaa.A
open Go.RowKit Go.Proofs.YtcggfjpnfodbaaaW.PrintWords Go.Proofs.YtcggfjpnfodbaaaW.PrintLast Go.Proofs.YtcggfjpnfodbaaaW.PrintMore
attribute [local go_sem] max2_int min2_int max_two min_two max_three min_three max_four min_four
set_option linter.unusedVariables false
set_option linter.unusedSimpArgs false
def Z41.f (k:Nat) (l0_0:List Int) (l0_1:List Int) (a1:Int):Option (List Int × List Int):=if a1 = 84 then ((Z53.f k l0_0 l0_1).bind fun bt845=>(some (bt845.1,bt845.2))) else (if a1 = 116 then ((Z29.f k l0_0 l0_1).bind fun bt851=>(some (bt851.1,bt851.2))) else (if a1 = 83 then ((Z58.f k l0_0 l0_1).bind fun bt857=>(some (bt857.1,bt857.2))) else ((Z42.f k l0_0 l0_1).bind fun bt863=>(some (bt863.1,bt863.2)))))
theorem Z41.mono:∀ a0 a1 a2 k,LeO (Z41.f k a0 a1 a2) (Z41.f (k + 1) a0 a1 a2):=by
 intro a0 a1 a2 k
 unfold Z41.f
 repeat' first|exact Z53.mono _ _ _|exact Z58.mono _ _ _|exact Z29.mono _ _ _|exact Z42.mono _ _ _|exact lo_|refine LeO.ite ?_ ?_|refine LeO.bind ?_ (fun _=>?_)
set_option maxHeartbeats 8000000 in
set_option maxRecDepth 100000 in
theorem Z41.calls (k:Nat) (A0_0:Option Addr) (c0_0:Nat) (l0_0:List Int) (A0_1:Option Addr) (c0_1:Nat) (l0_1:List Int) (a1:Int) (r1:List Int) (r2:List Int) (w:World) (hr0_0:Kd.C (Kd.int .i64) w A0_0 l0_0.length l0_0) (hc0_0:l0_0.length≤c0_0) (hr0_1:Kd.C (Kd.int .i64) w A0_1 l0_1.length l0_1) (hc0_1:l0_1.length≤c0_1) (h:Z41.f k l0_0 l0_1 a1 = some (r1,r2)) :
  Calls Try.prog 87 #[.agg #[.slice A0_0 l0_0.length c0_0,.slice A0_1 l0_1.length c0_1],.int .u8 a1] w fun e w'=>∃ v0_ v1_:Value,e = .returned (.agg #[v0_,v1_])∧Kd.R (Kd.int .i64) 3 w' w.heap.size (fun k_=>some k_≠(v1_:Value).ownBlock) v0_ r1∧Kd.R (Kd.int .i64) 3 w' w.heap.size (fun k_=>some k_≠(v0_:Value).ownBlock) v1_ r2∧Below w.heap.size w w':=by
 have hu25:=Try.underlying25
 have HR0_0:=A_ hr0_0
 have HC0_0:=A_ hc0_0
 clear hr0_0 hc0_0
 have HR0_1:=A_ hr0_1
 have HC0_1:=A_ hc0_1
 clear hr0_1 hc0_1
 have HB:=A_ (Below.refl w.heap.size w)
 have H:=h
 unfold Z41.f at H
 clear h
 by_cases c3:a1 = 84
 ·rw [if_pos c3] at H
  have c3b0:(a1 == 84) = true:=beq_iff_eq.mpr c3
  have c3b1:(a1 != 84) = false:=bne_eq_false_iff_eq.mpr c3
  clear c3
  obtain ⟨⟨t845,t848⟩,A4,H⟩:=bi_ H
  try dsimp only at H
  simp only [Option.some.injEq,Prod.mk.injEq] at H
  obtain ⟨rfl,rfl⟩:=H
  go_enter Try.func87,Try.ntmps87
  go_wp2_with (first | ((with_reducible refine gB_ (N:=2) rfl ?_);refine bx_ 2 #[.slice A0_0 l0_0.length c0_0,.slice A0_1 l0_1.length c0_1] 25 ?_;intro gb843 hg w5 hbox hb;have BK843:=A_ hbox;have GW843:=gw_ w hg;have GE843:=GW843;replace HB:=b1_ hb;clear hb hbox hg) | ((with_reducible refine gB_ (N:=4) rfl ?_);refine bx_ 4 #[.slice none 0 0,.slice none 0 0] 25 ?_;intro gb844 hg w6 hbox hb;have BK844:=A_ hbox;have GW844:=gw_ w hg;have GE844:=GW844;replace HB:=b1_ hb;have NB843_844:=gN_ BK843 hg;have NB844_843:=gP_ BK843 hg;replace BK843:=bb_ BK843 hb;clear hb hbox hg;have hnb7:=NB843_844.out;have hnc7:=NB844_843.out;obtain ⟨hcz8_0,hcz8_1,hfz8_0,hfz8_1⟩:=c2_ BK843) | ((with_reducible refine gA_ (f:=124) rfl ?_);refine gL_ (some 9) Try.func124 #[.agg #[.slice A0_0 l0_0.length c0_0,.slice A0_1 l0_1.length c0_1]] rfl qa_ ?_;(with_reducible refine (Z53.calls k _ _ l0_0 _ _ l0_1 t845 t848 _ (cb_ HR0_0) HC0_0.out (cb_ HR0_1) HC0_1.out A4.out).mono ?_);rintro e w9 ⟨v846,v849,rfl,ho0,ho1,hb⟩;refine ⟨_,rfl,?_⟩;have HO847:=rl_ w ho0;have HO850:=rl_ w ho1;replace BK843:=bb_ BK843 hb;replace BK844:=bb_ BK844 hb;replace HB:=b1_ hb;clear hb ho0 ho1;obtain ⟨Ao10,co10,eo10⟩:=Kd.R_slice HO847.out;subst eo10;obtain ⟨hcz11_0,hcz11_1,hfz11_0,hfz11_1⟩:=c2_ BK844;obtain ⟨Ao12,co12,eo12⟩:=Kd.R_slice HO850.out;subst eo12))
  refine bodyPost_ret (results_cell_row rfl _ _ gb844 25 #[.slice Ao10 t845.length co10,.slice Ao12 t848.length co12] (0,0) _ rfl qp_ Try.underlying25 rfl (by kernel_rfl)) rfl ?_
  exact ⟨_,_,qb_,(rw_ (fa_ HO847 BK844)),(rw_ (fa_ HO850 BK844)),hB_⟩
 ·rw [if_neg c3] at H
  have c3b0:(a1 == 84) = false:=beq_eq_false_iff_ne.mpr c3
  have c3b1:(a1 != 84) = true:=bne_iff_ne.mpr c3
  by_cases c13:a1 = 116
  ·rw [if_pos c13] at H
   have c13b0:(a1 == 116) = true:=beq_iff_eq.mpr c13
   have c13b1:(a1 != 116) = false:=bne_eq_false_iff_eq.mpr c13
   clear c13
   obtain ⟨⟨t851,t854⟩,A14,H⟩:=bi_ H
   try dsimp only at H
   simp only [Option.some.injEq,Prod.mk.injEq] at H
   obtain ⟨rfl,rfl⟩:=H
   go_enter Try.func87,Try.ntmps87
   go_wp2_with (first | ((with_reducible refine gB_ (N:=2) rfl ?_);refine bx_ 2 #[.slice A0_0 l0_0.length c0_0,.slice A0_1 l0_1.length c0_1] 25 ?_;intro gb843 hg w15 hbox hb;have BK843:=A_ hbox;have GW843:=gw_ w hg;have GE843:=GW843;replace HB:=b1_ hb;clear hb hbox hg) | ((with_reducible refine gB_ (N:=4) rfl ?_);refine bx_ 4 #[.slice none 0 0,.slice none 0 0] 25 ?_;intro gb844 hg w16 hbox hb;have BK844:=A_ hbox;have GW844:=gw_ w hg;have GE844:=GW844;replace HB:=b1_ hb;have NB843_844:=gN_ BK843 hg;have NB844_843:=gP_ BK843 hg;replace BK843:=bb_ BK843 hb;clear hb hbox hg;have hnb17:=NB843_844.out;have hnc17:=NB844_843.out;obtain ⟨hcz18_0,hcz18_1,hfz18_0,hfz18_1⟩:=c2_ BK843) | ((with_reducible refine gA_ (f:=125) rfl ?_);refine gL_ (some 13) Try.func125 #[.agg #[.slice A0_0 l0_0.length c0_0,.slice A0_1 l0_1.length c0_1]] rfl qa_ ?_;(with_reducible refine (Z29.calls k _ _ l0_0 _ _ l0_1 t851 t854 _ (cb_ HR0_0) HC0_0.out (cb_ HR0_1) HC0_1.out A14.out).mono ?_);rintro e w19 ⟨v852,v855,rfl,ho0,ho1,hb⟩;refine ⟨_,rfl,?_⟩;have HO853:=rl_ w ho0;have HO856:=rl_ w ho1;replace BK843:=bb_ BK843 hb;replace BK844:=bb_ BK844 hb;replace HB:=b1_ hb;clear hb ho0 ho1;obtain ⟨Ao20,co20,eo20⟩:=Kd.R_slice HO853.out;subst eo20;obtain ⟨hcz21_0,hcz21_1,hfz21_0,hfz21_1⟩:=c2_ BK844;obtain ⟨Ao22,co22,eo22⟩:=Kd.R_slice HO856.out;subst eo22))
   refine bodyPost_ret (results_cell_row rfl _ _ gb844 25 #[.slice Ao20 t851.length co20,.slice Ao22 t854.length co22] (0,0) _ rfl qp_ Try.underlying25 rfl (by kernel_rfl)) rfl ?_
   exact ⟨_,_,qb_,(rw_ (fa_ HO853 BK844)),(rw_ (fa_ HO856 BK844)),hB_⟩
  ·rw [if_neg c13] at H
   have c13b0:(a1 == 116) = false:=beq_eq_false_iff_ne.mpr c13
   have c13b1:(a1 != 116) = true:=bne_iff_ne.mpr c13
   by_cases c23:a1 = 83
   ·rw [if_pos c23] at H
    have c23b0:(a1 == 83) = true:=beq_iff_eq.mpr c23
    have c23b1:(a1 != 83) = false:=bne_eq_false_iff_eq.mpr c23
    clear c23
    obtain ⟨⟨t857,t860⟩,A24,H⟩:=bi_ H
    try dsimp only at H
    simp only [Option.some.injEq,Prod.mk.injEq] at H
    obtain ⟨rfl,rfl⟩:=H
    go_enter Try.func87,Try.ntmps87
    go_wp2_with (first | ((with_reducible refine gB_ (N:=2) rfl ?_);refine bx_ 2 #[.slice A0_0 l0_0.length c0_0,.slice A0_1 l0_1.length c0_1] 25 ?_;intro gb843 hg w25 hbox hb;have BK843:=A_ hbox;have GW843:=gw_ w hg;have GE843:=GW843;replace HB:=b1_ hb;clear hb hbox hg) | ((with_reducible refine gB_ (N:=4) rfl ?_);refine bx_ 4 #[.slice none 0 0,.slice none 0 0] 25 ?_;intro gb844 hg w26 hbox hb;have BK844:=A_ hbox;have GW844:=gw_ w hg;have GE844:=GW844;replace HB:=b1_ hb;have NB843_844:=gN_ BK843 hg;have NB844_843:=gP_ BK843 hg;replace BK843:=bb_ BK843 hb;clear hb hbox hg;have hnb27:=NB843_844.out;have hnc27:=NB844_843.out;obtain ⟨hcz28_0,hcz28_1,hfz28_0,hfz28_1⟩:=c2_ BK843) | ((with_reducible refine gA_ (f:=126) rfl ?_);refine gL_ (some 17) Try.func126 #[.agg #[.slice A0_0 l0_0.length c0_0,.slice A0_1 l0_1.length c0_1]] rfl qa_ ?_;(with_reducible refine (Z58.calls k _ _ l0_0 _ _ l0_1 t857 t860 _ (cb_ HR0_0) HC0_0.out (cb_ HR0_1) HC0_1.out A24.out).mono ?_);rintro e w29 ⟨v858,v861,rfl,ho0,ho1,hb⟩;refine ⟨_,rfl,?_⟩;have HO859:=rl_ w ho0;have HO862:=rl_ w ho1;replace BK843:=bb_ BK843 hb;replace BK844:=bb_ BK844 hb;replace HB:=b1_ hb;clear hb ho0 ho1;obtain ⟨Ao30,co30,eo30⟩:=Kd.R_slice HO859.out;subst eo30;obtain ⟨hcz31_0,hcz31_1,hfz31_0,hfz31_1⟩:=c2_ BK844;obtain ⟨Ao32,co32,eo32⟩:=Kd.R_slice HO862.out;subst eo32))
    refine bodyPost_ret (results_cell_row rfl _ _ gb844 25 #[.slice Ao30 t857.length co30,.slice Ao32 t860.length co32] (0,0) _ rfl qp_ Try.underlying25 rfl (by kernel_rfl)) rfl ?_
    exact ⟨_,_,qb_,(rw_ (fa_ HO859 BK844)),(rw_ (fa_ HO862 BK844)),hB_⟩
   ·rw [if_neg c23] at H
    have c23b0:(a1 == 83) = false:=beq_eq_false_iff_ne.mpr c23
    have c23b1:(a1 != 83) = true:=bne_iff_ne.mpr c23
    obtain ⟨⟨t863,t866⟩,A33,H⟩:=bi_ H
    try dsimp only at H
    simp only [Option.some.injEq,Prod.mk.injEq] at H
    obtain ⟨rfl,rfl⟩:=H
    go_enter Try.func87,Try.ntmps87
    go_wp2_with (first | ((with_reducible refine gB_ (N:=2) rfl ?_);refine bx_ 2 #[.slice A0_0 l0_0.length c0_0,.slice A0_1 l0_1.length c0_1] 25 ?_;intro gb843 hg w34 hbox hb;have BK843:=A_ hbox;have GW843:=gw_ w hg;have GE843:=GW843;replace HB:=b1_ hb;clear hb hbox hg) | ((with_reducible refine gB_ (N:=4) rfl ?_);refine bx_ 4 #[.slice none 0 0,.slice none 0 0] 25 ?_;intro gb844 hg w35 hbox hb;have BK844:=A_ hbox;have GW844:=gw_ w hg;have GE844:=GW844;replace HB:=b1_ hb;have NB843_844:=gN_ BK843 hg;have NB844_843:=gP_ BK843 hg;replace BK843:=bb_ BK843 hb;clear hb hbox hg;have hnb36:=NB843_844.out;have hnc36:=NB844_843.out;obtain ⟨hcz37_0,hcz37_1,hfz37_0,hfz37_1⟩:=c2_ BK843) | ((with_reducible refine gA_ (f:=127) rfl ?_);refine gL_ (some 19) Try.func127 #[.agg #[.slice A0_0 l0_0.length c0_0,.slice A0_1 l0_1.length c0_1]] rfl qa_ ?_;(with_reducible refine (Z42.calls k _ _ l0_0 _ _ l0_1 t863 t866 _ (cb_ HR0_0) HC0_0.out (cb_ HR0_1) HC0_1.out A33.out).mono ?_);rintro e w38 ⟨v864,v867,rfl,ho0,ho1,hb⟩;refine ⟨_,rfl,?_⟩;have HO865:=rl_ w ho0;have HO868:=rl_ w ho1;replace BK843:=bb_ BK843 hb;replace BK844:=bb_ BK844 hb;replace HB:=b1_ hb;clear hb ho0 ho1;obtain ⟨Ao39,co39,eo39⟩:=Kd.R_slice HO865.out;subst eo39;obtain ⟨hcz40_0,hcz40_1,hfz40_0,hfz40_1⟩:=c2_ BK844;obtain ⟨Ao41,co41,eo41⟩:=Kd.R_slice HO868.out;subst eo41))
    refine bodyPost_ret (results_cell_row rfl _ _ gb844 25 #[.slice Ao39 t863.length co39,.slice Ao41 t866.length co41] (0,0) _ rfl qp_ Try.underlying25 rfl (by kernel_rfl)) rfl ?_
    exact ⟨_,_,qb_,(rw_ (fa_ HO865 BK844)),(rw_ (fa_ HO868 BK844)),hB_⟩
end Go.Proofs.Ytcggfjpnfodbaaa.A
end
section
namespace Go.Proofs.Ytcggfjpnfodbaaa.A
open Go.RowKit Go.Proofs.YtcggfjpnfodbaaaW.PrintWords Go.Proofs.YtcggfjpnfodbaaaW.PrintLast Go.Proofs.YtcggfjpnfodbaaaW.PrintMore
attribute [local go_sem] max2_int min2_int max_two min_two max_three min_three max_four min_four
set_option linter.unusedVariables false
set_option linter.unusedSimpArgs false
mutual
def Z54.l0:Nat→List (S25)→List ByteArray→Int→Option ((List (S25)) × List ByteArray × Bool)
 | 0,_,_,_=>none
 | k + 1,x5,x6,x7=>if x7 < (x5.length:Int) then ((some (([84,83]:List Int):List Int)).bind fun y882=>(Z54.l1 k x5 x6 x7 y882 (y882.length:Int) 0)) else (some (x5,x6,true))
def Z54.l1:Nat→List (S25)→List ByteArray→Int→List Int→Int→Int→Option ((List (S25)) × List ByteArray × Bool)
 | 0,_,_,_,_,_,_=>none
 | k + 1,x5,x6,x7,x21,x22,x23=>if x23 < x22 then (if 0≤x23 then (if x23 < (x21.length:Int) then (if 0≤x7 then (if x7 < (x5.length:Int) then ((Z41.f k ((rd_T25 x5 x7).f0) ((rd_T25 x5 x7).f1) (rd x21 x23)).bind fun bt887=>((Z51.f k bt887.1 bt887.2).bind fun bt893=>((Z59.f k x5 bt893.1 bt893.2).bind fun t900=>(if t900 < 0 then (if x5.length < 2932031007402 then (if x7 < (x6.length:Int) then ((some (([rd x21 x23]:List Int):List Int)).bind fun y905=>(if (rdOf ByteArray.empty x6 x7).size + (strOfNums y905).size≤9223372036854775807 then (if x6.length < 8796093022208 then (Z54.l1 k (x5 ++ [(⟨bt893.1,bt893.2⟩:S25)]) (x6 ++ [(rdOf ByteArray.empty x6 x7) ++ (strOfNums y905)]) x7 x21 x22 (wrap64 (x23 + 1))) else (none)) else (none))) else (none)) else (none)) else (Z54.l1 k x5 x6 x7 x21 x22 (wrap64 (x23 + 1))))))) else (none)) else (none)) else (none)) else (none)) else (if (x5.length:Int) > 120 then (some (([]:List (S25)),([]:List ByteArray),false)) else (Z54.l0 k x5 x6 (wrap64 (x7 + 1))))
end
def Z54.f (k:Nat) (l0_0:List Int) (l0_1:List Int):Option ((List (S25)) × List ByteArray × Bool):=(Z51.f k l0_0 l0_1).bind fun bt870=>(Z54.l0 k (([(⟨bt870.1,bt870.2⟩:S25)]:List (S25))) (([(⟨#[]⟩:ByteArray)]:List ByteArray)) 0)
theorem Z54.mono_l:∀ k,(∀ y0 y1 y2,LeO (Z54.l0 k y0 y1 y2) (Z54.l0 (k + 1) y0 y1 y2))∧(∀ y0 y1 y2 y3 y4 y5,LeO (Z54.l1 k y0 y1 y2 y3 y4 y5) (Z54.l1 (k + 1) y0 y1 y2 y3 y4 y5))
 | 0=>⟨fun _ _ _ r h=>by simp [Z54.l0] at h,fun _ _ _ _ _ _ r h=>by simp [Z54.l1] at h⟩
 | k + 1=>by
  obtain ⟨ih0,ih1⟩:=Z54.mono_l k
  refine ⟨?_,?_⟩
  ·intro y0 y1 y2
   unfold Z54.l0
   repeat' first|exact ih0 _ _ _|exact ih1 _ _ _ _ _ _|exact Z51.mono _ _ _|exact Z41.mono _ _ _ _|exact Z59.mono _ _ _ _|exact lo_|refine LeO.ite ?_ ?_|refine LeO.bind ?_ (fun _=>?_)
  ·intro y0 y1 y2 y3 y4 y5
   unfold Z54.l1
   repeat' first|exact ih0 _ _ _|exact ih1 _ _ _ _ _ _|exact Z51.mono _ _ _|exact Z41.mono _ _ _ _|exact Z59.mono _ _ _ _|exact lo_|refine LeO.ite ?_ ?_|refine LeO.bind ?_ (fun _=>?_)
theorem Z54.mono:∀ a0 a1 k,LeO (Z54.f k a0 a1) (Z54.f (k + 1) a0 a1):=by
 intro a0 a1 k
 obtain ⟨ih0,ih1⟩:=Z54.mono_l k
 unfold Z54.f
 repeat' first|exact ih0 _ _ _|exact ih1 _ _ _ _ _ _|exact Z51.mono _ _ _|exact Z41.mono _ _ _ _|exact Z59.mono _ _ _ _|exact lo_|refine LeO.ite ?_ ?_|refine LeO.bind ?_ (fun _=>?_)
def Z54.T12:Bool × List (List Nat × List Nat):=(true,[([],[]),([],[]),([],[]),([1,2],[1,2]),([3],[3]),([],[]),([5],[5]),([6],[6]),([4,7],[4,7]),([8],[8]),([0,9],[0,9]),([10,10,0,1,2,3,4,5,6,7,8,9,10],[0,1,10])])
def Z54.B12:List Nat:=[0,0,0,6,14,0,32,96,254,510,1023,2047]
theorem Z54.tab12:rtab .any (opsOf Try.f84 12) = Z54.T12:=by kernel_rfl
theorem Z54.bits12:waitsOk Z54.T12.2 Z54.B12 = true:=by kernel_rfl
set_option maxHeartbeats 8000000 in
set_option maxRecDepth 100000 in
theorem Z54.calls (k:Nat) (A0_0:Option Addr) (c0_0:Nat) (l0_0:List Int) (A0_1:Option Addr) (c0_1:Nat) (l0_1:List Int) (r1:List (S25)) (r2:List ByteArray) (r3:Bool) (w:World) (hr0_0:Kd.C (Kd.int .i64) w A0_0 l0_0.length l0_0) (hc0_0:l0_0.length≤c0_0) (hr0_1:Kd.C (Kd.int .i64) w A0_1 l0_1.length l0_1) (hc0_1:l0_1.length≤c0_1) (h:Z54.f k l0_0 l0_1 = some (r1,r2,r3)) :
  Calls Try.prog 84 #[.agg #[.slice A0_0 l0_0.length c0_0,.slice A0_1 l0_1.length c0_1]] w fun e w'=>∃ v0_ v1_:Value,e = .returned (.tuple #[v0_,v1_,.bool r3])∧Kd.N k25 25 w' w.heap.size (fun k_=>(w.heap.size≤k_)∧some k_≠(v1_:Value).ownBlock) v0_ r1∧Kd.R Kd.string 9 w' w.heap.size (fun k_=>(w.heap.size≤k_)) v1_ r2∧Below w.heap.size w w':=by
 have hu25:=Try.underlying25
 have HR0_0:=A_ hr0_0
 have HC0_0:=A_ hc0_0
 clear hr0_0 hc0_0
 have HR0_1:=A_ hr0_1
 have HC0_1:=A_ hc0_1
 clear hr0_1 hc0_1
 have HB:=A_ (Below.refl w.heap.size w)
 have H:=h
 unfold Z54.f at H
 clear h
 obtain ⟨⟨t870,t873⟩,A2,H⟩:=bi_ H
 try dsimp only at H
 obtain ⟨y876,hy876⟩:∃ y_:List (S25),y_ = (([(⟨t870,t873⟩:S25)]:List (S25))):=⟨_,rfl⟩
 replace H:(Z54.l0 k y876 (([(⟨#[]⟩:ByteArray)]:List ByteArray)) 0) = some (r1,r2,r3):=by first | (rw [hy876];exact H) | exact H
 have Ny876:=A_ hy876
 clear hy876
 obtain ⟨y879,hy879⟩:∃ y_:List ByteArray,y_ = (([(⟨#[]⟩:ByteArray)]:List ByteArray)):=⟨_,rfl⟩
 replace H:(Z54.l0 k y876 y879 0) = some (r1,r2,r3):=by first | (rw [hy879];exact H) | exact H
 have Ny879:=A_ hy879
 clear hy879
 have H':=A_ H
 clear H
 go_enter Try.func84,Try.ntmps84
 go_wp2_with (first | ((with_reducible refine gB_ (N:=1) rfl ?_);refine bx_ 1 #[.slice A0_0 l0_0.length c0_0,.slice A0_1 l0_1.length c0_1] 25 ?_;intro gb869 hg w3 hbox hb;have BK869:=A_ hbox;have GW869:=gw_ w hg;have GE869:=GW869;replace HB:=b1_ hb;clear hb hbox hg;obtain ⟨hcz4_0,hcz4_1,hfz4_0,hfz4_1⟩:=c2_ BK869) | ((with_reducible refine gA_ (f:=82) rfl ?_);refine gL_ (some 12) Try.func82 #[.agg #[.slice A0_0 l0_0.length c0_0,.slice A0_1 l0_1.length c0_1]] rfl qa_ ?_;(with_reducible refine (Z51.calls k _ _ l0_0 _ _ l0_1 t870 t873 _ (cb_ HR0_0) HC0_0.out (cb_ HR0_1) HC0_1.out A2.out).mono ?_);rintro e w5 ⟨v871,v874,rfl,ho0,ho1,hb⟩;refine ⟨_,rfl,?_⟩;have HO872:=A_ (rE_ (Kd.R_newM (M:=fun k_=>(w.heap.size≤k_)) ho0 (bF_ hB_) (fun k_ h_=>h_)) (bF_ hB_));have HO875:=A_ (rE_ (Kd.R_newM (M:=fun k_=>(w.heap.size≤k_)) ho1 (bF_ hB_) (fun k_ h_=>h_)) (bF_ hB_));replace BK869:=bb_ BK869 hb;replace HB:=b1_ hb;clear hb ho0 ho1;obtain ⟨Ao6,co6,eo6⟩:=Kd.R_slice HO872.out;subst eo6;obtain ⟨Ao7,co7,eo7⟩:=Kd.R_slice HO875.out;subst eo7) | ((with_reducible refine gB_ (N:=13) rfl ?_);refine Kd.N_lit k25 _ 25 ?hg (N':=13) ?hd (xs:=([(⟨t870,t873⟩:S25)]:List (S25))) (inner:=[.slice Ao6 t870.length co6,.slice Ao7 t873.length co7]) (ok:=(fun k_=>(w.heap.size≤k_)∧k_≠gb869)) (okp:=(fun k_=>(w.heap.size≤k_)∧k_≠gb869)) ?hr ?hp (fun _ hk=>hk) ((show ∀ k_,w5.heap.size≤k_→(fun k_=>(w.heap.size≤k_)∧k_≠gb869) k_ from fun k_ hk=>⟨(Nat.le_trans (bF_ hB_) hk),Kd.freshB (kk_ BK869) k_ hk⟩) _ (nA_ _)) (Below.refl _ _) (nA_ _) (by simp) ?_;(case hd=>rfl);(case hg=>rfl);(case hr=>first | (go_simp;done) | (go_simp;rfl));(case hp=>exact (Reps.c2 (show Kd.FK k25 _ _ (⟨t870,t873⟩:S25) [.slice Ao6 t870.length co6,.slice Ao7 t873.length co7] from (k25_mkF _ _ (⟨t870,t873⟩:S25) (Kd.R_reads' (Kd.R_mono (ok':=(fun k_=>(w.heap.size≤k_)∧k_≠gb869)) (Kd.R_types (HO872.out) BK869.out (by decide)) (fun k_ hk=>⟨hk.1.1,hk.2⟩))).2.1 (Kd.R_F (Kd.R_mono (ok':=(fun k_=>(w.heap.size≤k_)∧k_≠gb869)) (Kd.R_types (HO872.out) BK869.out (by decide)) (fun k_ hk=>⟨hk.1.1,hk.2⟩))) (Kd.R_reads' (Kd.R_mono (ok':=(fun k_=>(w.heap.size≤k_)∧k_≠gb869)) (Kd.R_types (HO875.out) BK869.out (by decide)) (fun k_ hk=>⟨hk.1.1,hk.2⟩))).2.1 (Kd.R_F (Kd.R_mono (ok':=(fun k_=>(w.heap.size≤k_)∧k_≠gb869)) (Kd.R_types (HO875.out) BK869.out (by decide)) (fun k_ hk=>⟨hk.1.1,hk.2⟩))))) (Reps.none _ _)));intro v877 w8 ho9 hb hg_ hnew_;clear hg_ hnew_;(first | rw [← Ny876.out] at ho9 | (simp only [Int.reduceToNat] at ho9;rw [← Ny876.out] at ho9));have HO878:=A_ (Kd.N_lower ho9 (bF_ hB_));replace BK869:=bb_ BK869 hb;replace HB:=b1_ hb;clear HO872 HO875;clear hb ho9) | ((with_reducible refine gB_ (N:=14) rfl ?_);refine Kd.R_lit Kd.string _ 9 ?hg (N:=14) ?hd (xs:=([(⟨#[]⟩:ByteArray)]:List ByteArray)) (inner:=[.string (⟨#[]⟩:ByteArray)]) (ok:=fun _=>True) (okp:=fun _=>True) ?hr ?hp (fun _ hk=>hk) trivial (Below.refl _ _) (nA_ _) (by simp) ?_;(case hd=>rfl);(case hg=>rfl);(case hr=>first | (go_simp;done) | (go_simp;rfl));(case hp=>exact (Reps.one (show Kd.M Kd.string _ _ _ (⟨#[]⟩:ByteArray) [.string (⟨#[]⟩:ByteArray)] from rfl) (Reps.none _ _)));intro v880 w10 ho11 hb hg_ hnew_;clear hg_ hnew_;(first | rw [← Ny879.out] at ho11 | (simp only [Int.reduceToNat] at ho11;rw [← Ny879.out] at ho11));replace HO878:=A_ (Kd.N_elder' (by (with_reducible repeat (first | apply Kd.N_alloc | apply Kd.N_drewN | apply Kd.N_drew));exact HO878.out) (Kd.R_base ho11) hb);have HO881:=A_ (rE_ (Kd.R_newM (M:=fun k_=>(w.heap.size≤k_)) ho11 (bF_ hB_) (fun k_ h_=>h_)) (bF_ hB_));replace BK869:=bb_ BK869 hb;replace HB:=b1_ hb;clear hb ho11))
 go_loopg [5,6,7] k (fun kq v5 v6 v7 w'=>∃ (x5_1:List (S25)) (x6_1:List ByteArray) (x7_1:Int),v7 = .int .i64 x7_1∧Aside0 (Z54.l0 kq x5_1 x6_1 x7_1 = some (r1,r2,r3))∧Aside0 (kq≤k)∧Aside0 (Kd.N k25 25 w' w.heap.size (fun k_=>(w.heap.size≤k_)∧some k_≠(v6:Value).ownBlock∧k_≠gb869) v5 x5_1)∧Aside0 (Kd.R Kd.string 9 w' w.heap.size (fun k_=>(w.heap.size≤k_)) v6 x6_1)∧Aside0 (w'.heap[gb869]? = some (.cells #[(.slice A0_0 l0_0.length c0_0),(.slice A0_1 l0_1.length c0_1)] 25 (0,0)))∧Aside0 (Below w.heap.size w w'))
 case atStart=>exact ⟨(y876),(y879),(0),qc_,H',⟨nA_ _⟩,⟨by (with_reducible repeat (first | apply Kd.N_alloc | apply Kd.N_drewN | apply Kd.N_drew));exact Kd.N_mono HO878.out (fun _ hk=>⟨hk.1.1,⟨hk.2,hk.1.2⟩⟩)⟩,⟨(rw_ (Kd.R_mono HO881.out (fun _ hk=>hk.1)))⟩,⟨(kk_ BK869)⟩,⟨hB_⟩⟩
 case round =>
  clear H'
  obtain ⟨x5_1,x6_1,x7_1,rfl,HA,HK1,HO_5,HO_6,BK869,HB⟩:=hrel
  cases gk with
  | zero=>exact absurd HA.out (by simp [Z54.l0])
  | succ k1 =>
   have H:=HA.out
   clear HA
   simp only [Z54.l0] at H
   by_cases c12:x7_1 < (x5_1.length:Int)
   ·rw [if_pos c12] at H
    have c12b0:=oC_ c12
    clear c12
    obtain ⟨y882,hy882⟩:∃ y_:List Int,y_ = (([84,83]:List Int)):=⟨_,rfl⟩
    replace H:(Z54.l1 k1 x5_1 x6_1 x7_1 y882 (y882.length:Int) 0) = some (r1,r2,r3):=by first | (rw [hy882];exact H) | exact H
    have Ny882:=A_ hy882
    clear hy882
    have H':=A_ H
    clear H
    obtain ⟨Ao13,co13,eo13⟩:=Kd.N_slice HO_5.out
    subst eo13
    go_wp2_with (first | ((with_reducible refine gB_ (N:=21) rfl ?_);refine Kd.R_lit (Kd.int .u8) _ 5 ?hg (N:=21) ?hd (xs:=([84,83]:List Int)) (inner:=[.int .u8 84,.int .u8 83]) (ok:=fun _=>True) (okp:=fun _=>True) ?hr ?hp (fun _ hk=>hk) trivial (Below.refl _ _) (nA_ _) (by simp) ?_;(case hd=>rfl);(case hg=>rfl);(case hr=>first | (go_simp;done) | (go_simp;rfl));(case hp=>exact (Reps.one (show Kd.M (Kd.int .u8) _ _ _ 84 [.int .u8 84] from rfl) (Reps.one (show Kd.M (Kd.int .u8) _ _ _ 83 [.int .u8 83] from rfl) (Reps.none _ _))));intro v883 w14 ho15 hb hg_ hnew_;clear hg_ hnew_;(first | rw [← Ny882.out] at ho15 | (simp only [Int.reduceToNat] at ho15;rw [← Ny882.out] at ho15));replace HO_5:=A_ (Kd.N_elder' (by (with_reducible repeat (first | apply Kd.N_alloc | apply Kd.N_drewN | apply Kd.N_drew));exact HO_5.out) (Kd.R_base ho15) hb);replace HO_6:=rb_ HO_6 hb;have HO884:=A_ (rE_ (Kd.R_newM (M:=fun k_=>(w.heap.size≤k_)) ho15 (bF_ hB_) (fun k_ h_=>h_)) (bF_ hB_));replace BK869:=bb_ BK869 hb;replace HB:=b1_ hb;clear hb ho15;obtain ⟨Ao16,co16,eo16⟩:=Kd.R_slice HO884.out;subst eo16))
    go_loopg [5,6,23] k1 (fun kq v5 v6 v23 w'=>∃ (x5_2:List (S25)) (x6_2:List ByteArray) (x23_2:Int),v23 = .int .i64 x23_2∧Aside0 (Z54.l1 kq x5_2 x6_2 x7_1 y882 (y882.length:Int) x23_2 = some (r1,r2,r3))∧Aside0 (kq≤k1)∧Aside0 (Kd.N k25 25 w' w.heap.size (fun k_=>(w.heap.size≤k_)∧some k_≠(v6:Value).ownBlock∧some k_≠((.slice Ao16 y882.length co16):Value).ownBlock∧k_≠gb869) v5 x5_2)∧Aside0 (Kd.R Kd.string 9 w' w.heap.size (fun k_=>(w.heap.size≤k_)) v6 x6_2)∧Aside0 (Kd.R (Kd.int .u8) 5 w' w.heap.size (fun k_=>(w.heap.size≤k_)) (.slice Ao16 y882.length co16) y882)∧Aside0 (w'.heap[gb869]? = some (.cells #[(.slice A0_0 l0_0.length c0_0),(.slice A0_1 l0_1.length c0_1)] 25 (0,0)))∧Aside0 (Below w.heap.size w w'))
    case atStart=>exact ⟨(x5_1),(x6_1),(0),qc_,H',⟨nA_ _⟩,⟨by (with_reducible repeat (first | apply Kd.N_alloc | apply Kd.N_drewN | apply Kd.N_drew));exact Kd.N_mono HO_5.out (fun _ hk=>⟨hk.1.1,⟨hk.1.2.1,⟨hk.2,hk.1.2.2⟩⟩⟩)⟩,⟨(rr_ HO_6)⟩,⟨(rw_ (Kd.R_mono HO884.out (fun _ hk=>hk.1)))⟩,⟨(kk_ BK869)⟩,⟨hB_⟩⟩
    case round =>
     clear H'
     obtain ⟨x5_2,x6_2,x23_2,rfl,HA,HK2,HO_5,HO_6,HO_21,BK869,HB⟩:=hrel
     cases gk with
     | zero=>exact absurd HA.out (by simp [Z54.l1])
     | succ k2 =>
      have H:=HA.out
      clear HA
      simp only [Z54.l1] at H
      by_cases c17:x23_2 < (y882.length:Int)
      ·rw [if_pos c17] at H
       have c17b0:=oC_ c17
       clear c17
       replace H:=cx_ H;obtain ⟨c18b0,H⟩:=H
       replace H:=cx_ H;obtain ⟨c19b0,H⟩:=H
       replace H:=cx_ H;obtain ⟨c20b0,H⟩:=H
       replace H:=cx_ H;obtain ⟨c21b0,H⟩:=H
       obtain ⟨⟨t887,t890⟩,A22,H⟩:=bi_ H
       try dsimp only at H
       obtain ⟨⟨t893,t896⟩,A23,H⟩:=bi_ H
       try dsimp only at H
       obtain ⟨t900,A24,H⟩:=bi_ H
       by_cases c25:t900 < 0
       ·rw [if_pos c25] at H
        have c25b0:=oC_ c25
        clear c25
        have c26:=cp_ H
        replace H:=ca_ H
        have LMc26:=A_ c26
        clear c26
        obtain ⟨y901,hy901⟩:∃ y_:List (S25),y_ = (x5_2 ++ [(⟨t893,t896⟩:S25)]):=⟨_,rfl⟩
        replace H:(if x7_1 < (x6_2.length:Int) then ((some (([rd y882 x23_2]:List Int):List Int)).bind fun y905=>(if (rdOf ByteArray.empty x6_2 x7_1).size + (strOfNums y905).size≤9223372036854775807 then (if x6_2.length < 8796093022208 then (Z54.l1 k2 y901 (x6_2 ++ [(rdOf ByteArray.empty x6_2 x7_1) ++ (strOfNums y905)]) x7_1 y882 (y882.length:Int) (wrap64 (x23_2 + 1))) else (none)) else (none))) else (none)) = some (r1,r2,r3):=by first | (rw [hy901];exact H) | exact H
        have Ny901:=A_ hy901
        clear hy901
        replace H:=cx_ H;obtain ⟨c27b0,H⟩:=H
        obtain ⟨y905,hy905⟩:∃ y_:List Int,y_ = (([rd y882 x23_2]:List Int)):=⟨_,rfl⟩
        replace H:(if (rdOf ByteArray.empty x6_2 x7_1).size + (strOfNums y905).size≤9223372036854775807 then (if x6_2.length < 8796093022208 then (Z54.l1 k2 y901 (x6_2 ++ [(rdOf ByteArray.empty x6_2 x7_1) ++ (strOfNums y905)]) x7_1 y882 (y882.length:Int) (wrap64 (x23_2 + 1))) else (none)) else (none)) = some (r1,r2,r3):=by first | (rw [hy905];exact H) | exact H
        have Ny905:=A_ hy905
        clear hy905
        have c28:=cp_ H
        replace H:=ca_ H
        have c28b0:=eq_true c28
        have c28b1:=oC_ c28
        try have c28b2:(9223372036854775807 < (rdOf ByteArray.empty x6_2 x7_1).size + (strOfNums y905).size) = False:=eq_false (Nat.not_lt.2 c28)
        have c29:=cp_ H
        replace H:=ca_ H
        have LMc29:=A_ c29
        clear c29
        obtain ⟨y908,hy908⟩:∃ y_:List ByteArray,y_ = (x6_2 ++ [(rdOf ByteArray.empty x6_2 x7_1) ++ (strOfNums y905)]):=⟨_,rfl⟩
        replace H:(Z54.l1 k2 y901 y908 x7_1 y882 (y882.length:Int) (wrap64 (x23_2 + 1))) = some (r1,r2,r3):=by first | (rw [hy908];exact H) | exact H
        have Ny908:=A_ hy908
        clear hy908
        have H':=A_ H
        clear H
        have p885:0≤(x23_2:Int):=oB_ qe_
        have q885:x23_2 < (y882.length:Int):=oB_ qe_
        obtain ⟨ad885,e885,hx885_0⟩:=Kd.at_int (Kd.R_reads' HO_21.out).2.2 x23_2 p885 q885
        cases e885
        replace p885:=eq_true p885
        replace q885:=eq_true q885
        obtain ⟨Ao30,co30,eo30⟩:=Kd.N_slice HO_5.out
        subst eo30
        have p886:0≤(x7_1:Int):=oB_ qe_
        have q886:x7_1 < (x5_2.length:Int):=oB_ qe_
        obtain ⟨ad886,A886_0,c886_0,A886_1,c886_1,e886,hx886_0,hx886_1,hl886_0,hi886_0,hl886_1,hi886_1⟩:=at_T25 (Kd.N_reads' HO_5.out).2.2 x7_1 p886 q886
        cases e886
        obtain ⟨ce886,hce886,hMe886,hcc886⟩:=Kd.N_get HO_5.out z25 x7_1 p886 (by first | exact q886 | exact oB_ qe_ | (have e_:=(Kd.N_reads' HO_5.out).1;omega))
        obtain ⟨ua886_0,uc886_0,ua886_1,uc886_1,rfl,ul886_0,ge886_0,ul886_1,ge886_1⟩:=k25_openF hMe886
        have hv886_0:=hcc886 0 _ rfl
        rw [Nat.add_zero] at hv886_0
        replace hv886_0:=Option.some.inj (hv886_0.symm.trans hx886_0)
        injection hv886_0 with hva_ hvn_ hvc_
        rw [hva_] at ge886_0
        rw [hvc_] at ul886_0
        have HL886_0:=A_ (show Kd.V (Kd.int .i64) 3 _ w.heap.size _ _ ((rd_T25 x5_2 x7_1).f0) from Kd.V_mk ul886_0 ge886_0)
        clear hva_ hvn_ hvc_ ge886_0 ul886_0
        have hv886_1:=hcc886 1 _ rfl
        rw [add_field _ _ 1 (by omega)] at hv886_1
        replace hv886_1:=Option.some.inj (hv886_1.symm.trans hx886_1)
        injection hv886_1 with hva_ hvn_ hvc_
        rw [hva_] at ge886_1
        rw [hvc_] at ul886_1
        have HL886_1:=A_ (show Kd.V (Kd.int .i64) 3 _ w.heap.size _ _ ((rd_T25 x5_2 x7_1).f1) from Kd.V_mk ul886_1 ge886_1)
        clear hva_ hvn_ hvc_ ge886_1 ul886_1
        clear hcc886 hce886
        have HR886_0:=A_ hi886_0
        have HC886_0:=A_ hl886_0
        clear hi886_0 hl886_0
        have HR886_1:=A_ hi886_1
        have HC886_1:=A_ hl886_1
        clear hi886_1 hl886_1
        replace p886:=eq_true p886
        replace q886:=eq_true q886
        try go_wp2_with (first | ((with_reducible refine gA_ (f:=87) rfl ?_);refine gL_ (some 32) Try.func87 #[.agg #[.slice A886_0 ((rd_T25 x5_2 x7_1).f0).length c886_0,.slice A886_1 ((rd_T25 x5_2 x7_1).f1).length c886_1],.int .u8 (rd y882 x23_2)] rfl qa_ ?_;(with_reducible refine (Z41.calls k2 _ _ ((rd_T25 x5_2 x7_1).f0) _ _ ((rd_T25 x5_2 x7_1).f1) (rd y882 x23_2) t887 t890 _ ?side1 ?side2 ?side3 ?side4 A22.out).mono ?_);(case side1=>repeat (first | exact (by repeat (first | (with_reducible exact HR886_0.out) | (with_reducible refine cA_ ?_ _) | (with_reducible refine cB_ ?_ _) | (with_reducible refine cC_ ?_) | exact HR886_0.out)) | (with_reducible first | refine cA_ ?_ _ | refine cB_ ?_ _ | refine cC_ ?_)));(case side2=>exact HC886_0.out);(case side3=>repeat (first | exact (by repeat (first | (with_reducible exact HR886_1.out) | (with_reducible refine cA_ ?_ _) | (with_reducible refine cB_ ?_ _) | (with_reducible refine cC_ ?_) | exact HR886_1.out)) | (with_reducible first | refine cA_ ?_ _ | refine cB_ ?_ _ | refine cC_ ?_)));(case side4=>exact HC886_1.out);rintro e w31 ⟨v888,v891,rfl,ho0,ho1,hb⟩;refine ⟨_,rfl,?_⟩;replace HO_5:=A_ (Kd.N_mono (Kd.N_told (Kd.N_told (Kd.N_old (by (with_reducible repeat (first | apply Kd.N_alloc | apply Kd.N_drewN | apply Kd.N_drew));exact HO_5.out) hb) (Kd.R_base ho0)) (Kd.R_base ho1)) (fun _ h_=>h_.1));replace HO_6:=rb_ HO_6 hb;replace HO_21:=rb_ HO_21 hb;replace HL886_0:=A_ (Kd.V_mono (Kd.V_told (Kd.V_told (Kd.V_old (by (with_reducible repeat (first | apply Kd.V_alloc | apply Kd.V_drewN | apply Kd.V_drew));exact HL886_0.out) hb) (Kd.R_base ho0)) (Kd.R_base ho1)) (fun _ h_=>h_.1));replace HL886_1:=A_ (Kd.V_mono (Kd.V_told (Kd.V_told (Kd.V_old (by (with_reducible repeat (first | apply Kd.V_alloc | apply Kd.V_drewN | apply Kd.V_drew));exact HL886_1.out) hb) (Kd.R_base ho0)) (Kd.R_base ho1)) (fun _ h_=>h_.1));have HO889:=A_ (rE_ (Kd.R_newM (M:=fun k_=>(w.heap.size≤k_)) ho0 (bF_ hB_) (fun k_ h_=>h_)) (bF_ hB_));have HO892:=A_ (rE_ (Kd.R_newM (M:=fun k_=>(w.heap.size≤k_)) ho1 (bF_ hB_) (fun k_ h_=>h_)) (bF_ hB_));replace BK869:=bb_ BK869 hb;replace HR886_0:=A_ (cD_ (by repeat (first | (with_reducible exact HR886_0.out) | (with_reducible refine cA_ ?_ _) | (with_reducible refine cB_ ?_ _) | (with_reducible refine cC_ ?_) | exact HR886_0.out)) hb);replace HR886_1:=A_ (cD_ (by repeat (first | (with_reducible exact HR886_1.out) | (with_reducible refine cA_ ?_ _) | (with_reducible refine cB_ ?_ _) | (with_reducible refine cC_ ?_) | exact HR886_1.out)) hb);replace HB:=b1_ hb;clear hb ho0 ho1;obtain ⟨Ao32,co32,eo32⟩:=Kd.R_slice HO889.out;subst eo32;obtain ⟨Ao33,co33,eo33⟩:=Kd.R_slice HO892.out;subst eo33) | ((with_reducible refine gA_ (f:=82) rfl ?_);refine gL_ (some 33) Try.func82 #[.agg #[.slice Ao32 t887.length co32,.slice Ao33 t890.length co33]] rfl qa_ ?_;(with_reducible refine (Z51.calls k2 _ _ t887 _ _ t890 t893 t896 _ (cr_ HO889) ((Kd.R_reads' HO889.out).2.1) (cr_ HO892) ((Kd.R_reads' HO892.out).2.1) A23.out).mono ?_);rintro e w34 ⟨v894,v897,rfl,ho0,ho1,hb⟩;refine ⟨_,rfl,?_⟩;replace HO_5:=A_ (Kd.N_mono (Kd.N_told (Kd.N_told (Kd.N_old (by (with_reducible repeat (first | apply Kd.N_alloc | apply Kd.N_drewN | apply Kd.N_drew));exact HO_5.out) hb) (Kd.R_base ho0)) (Kd.R_base ho1)) (fun _ h_=>h_.1));replace HO_6:=rb_ HO_6 hb;replace HO_21:=rb_ HO_21 hb;replace HL886_0:=A_ (Kd.V_mono (Kd.V_told (Kd.V_told (Kd.V_old (by (with_reducible repeat (first | apply Kd.V_alloc | apply Kd.V_drewN | apply Kd.V_drew));exact HL886_0.out) hb) (Kd.R_base ho0)) (Kd.R_base ho1)) (fun _ h_=>h_.1));replace HL886_1:=A_ (Kd.V_mono (Kd.V_told (Kd.V_told (Kd.V_old (by (with_reducible repeat (first | apply Kd.V_alloc | apply Kd.V_drewN | apply Kd.V_drew));exact HL886_1.out) hb) (Kd.R_base ho0)) (Kd.R_base ho1)) (fun _ h_=>h_.1));have HO895:=A_ (rE_ (Kd.R_new' (Kd.R_new' (Kd.R_newM (M:=fun k_=>(w.heap.size≤k_)) ho0 (bF_ hB_) (fun k_ h_=>h_)) (Kd.R_lt (rr_ HO889))) (Kd.R_lt (rr_ HO892))) (bF_ hB_));have HO898:=A_ (rE_ (Kd.R_new' (Kd.R_new' (Kd.R_newM (M:=fun k_=>(w.heap.size≤k_)) ho1 (bF_ hB_) (fun k_ h_=>h_)) (Kd.R_lt (rr_ HO889))) (Kd.R_lt (rr_ HO892))) (bF_ hB_));replace HO889:=A_ (Kd.R_mono (Kd.R_told (Kd.R_told (Kd.R_old (rr_ HO889) hb) (Kd.R_base ho0)) (Kd.R_base ho1)) (fun _ h_=>h_.1));replace HO892:=A_ (Kd.R_mono (Kd.R_told (Kd.R_told (Kd.R_old (rr_ HO892) hb) (Kd.R_base ho0)) (Kd.R_base ho1)) (fun _ h_=>h_.1));replace BK869:=bb_ BK869 hb;replace HR886_0:=A_ (cD_ (by repeat (first | (with_reducible exact HR886_0.out) | (with_reducible refine cA_ ?_ _) | (with_reducible refine cB_ ?_ _) | (with_reducible refine cC_ ?_) | exact HR886_0.out)) hb);replace HR886_1:=A_ (cD_ (by repeat (first | (with_reducible exact HR886_1.out) | (with_reducible refine cA_ ?_ _) | (with_reducible refine cB_ ?_ _) | (with_reducible refine cC_ ?_) | exact HR886_1.out)) hb);replace HB:=b1_ hb;clear hb ho0 ho1) | ((with_reducible refine gB_ (N:=10) rfl ?_);refine bx_ 10 #[.slice none 0 0,.slice none 0 0] 25 ?_;intro gb899 hg w35 hbox hb;replace HO_5:=A_ (Kd.N_below (Kd.N_elderB (by (with_reducible repeat (first | apply Kd.N_alloc | apply Kd.N_drewN | apply Kd.N_drew));exact HO_5.out) gb899 (Nat.le_of_eq hg.symm)) hb);replace HO_6:=rb_ HO_6 hb;replace HO_21:=rb_ HO_21 hb;replace HL886_0:=A_ (Kd.V_below (Kd.V_elderB (by (with_reducible repeat (first | apply Kd.V_alloc | apply Kd.V_drewN | apply Kd.V_drew));exact HL886_0.out) gb899 (Nat.le_of_eq hg.symm)) hb);replace HL886_1:=A_ (Kd.V_below (Kd.V_elderB (by (with_reducible repeat (first | apply Kd.V_alloc | apply Kd.V_drewN | apply Kd.V_drew));exact HL886_1.out) gb899 (Nat.le_of_eq hg.symm)) hb);replace HO889:=rb_ HO889 hb;replace HO892:=rb_ HO892 hb;replace HO895:=rb_ HO895 hb;replace HO898:=rb_ HO898 hb;replace HR886_0:=A_ (cD_ (by repeat (first | (with_reducible exact HR886_0.out) | (with_reducible refine cA_ ?_ _) | (with_reducible refine cB_ ?_ _) | (with_reducible refine cC_ ?_) | exact HR886_0.out)) hb);replace HR886_1:=A_ (cD_ (by repeat (first | (with_reducible exact HR886_1.out) | (with_reducible refine cA_ ?_ _) | (with_reducible refine cB_ ?_ _) | (with_reducible refine cC_ ?_) | exact HR886_1.out)) hb);have BK899:=A_ hbox;have GW899:=gw_ w hg;have GE899:=GW899;replace HB:=b1_ hb;have NB869_899:=gN_ BK869 hg;have NB899_869:=gP_ BK869 hg;replace BK869:=bb_ BK869 hb;clear hb hbox hg;obtain ⟨Ao36,co36,eo36⟩:=Kd.R_slice HO895.out;subst eo36;have hnb37:=NB899_869.out;have hnc37:=NB869_899.out;obtain ⟨hcz38_0,hcz38_1,hfz38_0,hfz38_1⟩:=c2_ BK899;obtain ⟨Ao39,co39,eo39⟩:=Kd.R_slice HO898.out;subst eo39) | ((with_reducible refine gA_ (f:=81) rfl ?_);refine gL_ (some 36) Try.func81 #[.slice (some ad886) x5_2.length co30,.agg #[.slice Ao36 t893.length co36,.slice Ao39 t896.length co39]] rfl qa_ ?_;(with_reducible refine (Z59.calls k2 _ _ x5_2 _ _ t893 _ _ t896 t900 _ ?side1 ?side2 ?side3 ?side4 ?side5 ?side6 A24.out).mono ?_);(case side1=>refine (Kd.N_reads' (e:=25) (base:=w.heap.size) (ok:=fun k_=>(((((((w.heap.size≤k_)∧(some k_≠(u6:Value).ownBlock∧(some k_≠(.slice (some ad885) y882.length co16:Value).ownBlock∧k_≠gb869)))∧some k_≠(.slice Ao32 t887.length co32:Value).ownBlock)∧some k_≠(.slice Ao33 t890.length co33:Value).ownBlock)∧some k_≠(.slice Ao36 t893.length co36:Value).ownBlock)∧some k_≠(.slice Ao39 t896.length co39:Value).ownBlock)∧k_≠gb899)) (n:=x5_2.length) (c:=co30) ?_).2.2;exact (by (with_reducible repeat (first | apply Kd.N_alloc | apply Kd.N_drewN | apply Kd.N_drew));exact (Kd.N_mono (Kd.N_far (p:=⟨gb899,1,none⟩) (Kd.N_far (p:=⟨gb899,0,none⟩) (Kd.N_mono HO_5.out (fun k_ hk=>(⟨hk,hk.2⟩:_∧k_≠gb899))) (fun _ hk=>hk.2) (.slice Ao36 t893.length co36)) (fun _ hk=>hk.2) (.slice Ao39 t896.length co39)) (fun _ h_=>h_.1))));(case side2=>exact (Kd.N_reads' HO_5.out).2.1);(case side3=>refine (Kd.R_reads' (e:=3) (base:=w.heap.size) (ok:=fun k_=>((((w.heap.size≤k_)∧some k_≠(.slice Ao39 t896.length co39:Value).ownBlock)∧some k_≠(.slice Ao32 t887.length co32:Value).ownBlock)∧some k_≠(.slice Ao33 t890.length co33:Value).ownBlock)) (n:=t893.length) (c:=co36) ?_).2.2;exact (rw_ (fa_ HO895 BK899)));(case side4=>exact (Kd.R_reads' HO895.out).2.1);(case side5=>refine (Kd.R_reads' (e:=3) (base:=w.heap.size) (ok:=fun k_=>((((w.heap.size≤k_)∧some k_≠(.slice Ao36 t893.length co36:Value).ownBlock)∧some k_≠(.slice Ao32 t887.length co32:Value).ownBlock)∧some k_≠(.slice Ao33 t890.length co33:Value).ownBlock)) (n:=t896.length) (c:=co39) ?_).2.2;exact (rw_ (fa_ HO898 BK899)));(case side6=>exact (Kd.R_reads' HO898.out).2.1);rintro e w40 ⟨rfl,hb⟩;refine ⟨_,rfl,?_⟩;replace HO_5:=A_ (Kd.N_below (by (with_reducible repeat (first | apply Kd.N_alloc | apply Kd.N_drewN | apply Kd.N_drew));exact (Kd.N_mono (Kd.N_far (p:=⟨gb899,1,none⟩) (Kd.N_far (p:=⟨gb899,0,none⟩) (Kd.N_mono HO_5.out (fun k_ hk=>(⟨hk,hk.2⟩:_∧k_≠gb899))) (fun _ hk=>hk.2) (.slice Ao36 t893.length co36)) (fun _ hk=>hk.2) (.slice Ao39 t896.length co39)) (fun _ h_=>h_.1))) hb);replace HO_6:=A_ (rD_ (rw_ (fa_ HO_6 BK899)) hb);replace HO_21:=A_ (rD_ (rw_ (fa_ HO_21 BK899)) hb);replace HO889:=A_ (rD_ (rw_ (fa_ HO889 BK899)) hb);replace HO892:=A_ (rD_ (rw_ (fa_ HO892 BK899)) hb);replace HO895:=A_ (rD_ (rw_ (fa_ HO895 BK899)) hb);replace HO898:=A_ (rD_ (rw_ (fa_ HO898 BK899)) hb);replace BK869:=A_ (kE_ (g:=gb869) (o:=.cells #[.slice A0_0 l0_0.length c0_0,.slice A0_1 l0_1.length c0_1] 25 (0,0)) (by (with_reducible repeat (first | refine kA_ ?_ _ | refine kB_ ?_ | refine kC_ ?_ _));refine blk_far ?_ NB869_899.out _;(with_reducible repeat (first | refine kA_ ?_ _ | refine kB_ ?_ | refine kC_ ?_ _));refine blk_far ?_ NB869_899.out _;(with_reducible repeat (first | refine kA_ ?_ _ | refine kB_ ?_ | refine kC_ ?_ _));exact BK869.out) hb);replace HR886_0:=A_ (cD_ ((Kd.V_reads' (by (with_reducible repeat (first | apply Kd.V_alloc | apply Kd.V_drewN | apply Kd.V_drew));exact (Kd.V_mono (Kd.V_far (p:=⟨gb899,1,none⟩) (Kd.V_far (p:=⟨gb899,0,none⟩) (Kd.V_mono HL886_0.out (fun k_ hk=>(⟨hk,hk.2⟩:_∧k_≠gb899))) (fun _ hk=>hk.2) (.slice Ao36 t893.length co36)) (fun _ hk=>hk.2) (.slice Ao39 t896.length co39)) (fun _ h_=>h_.1)))).2.2) hb);replace HL886_0:=A_ (Kd.V_below (by (with_reducible repeat (first | apply Kd.V_alloc | apply Kd.V_drewN | apply Kd.V_drew));exact (Kd.V_mono (Kd.V_far (p:=⟨gb899,1,none⟩) (Kd.V_far (p:=⟨gb899,0,none⟩) (Kd.V_mono HL886_0.out (fun k_ hk=>(⟨hk,hk.2⟩:_∧k_≠gb899))) (fun _ hk=>hk.2) (.slice Ao36 t893.length co36)) (fun _ hk=>hk.2) (.slice Ao39 t896.length co39)) (fun _ h_=>h_.1))) hb);replace HR886_1:=A_ (cD_ ((Kd.V_reads' (by (with_reducible repeat (first | apply Kd.V_alloc | apply Kd.V_drewN | apply Kd.V_drew));exact (Kd.V_mono (Kd.V_far (p:=⟨gb899,1,none⟩) (Kd.V_far (p:=⟨gb899,0,none⟩) (Kd.V_mono HL886_1.out (fun k_ hk=>(⟨hk,hk.2⟩:_∧k_≠gb899))) (fun _ hk=>hk.2) (.slice Ao36 t893.length co36)) (fun _ hk=>hk.2) (.slice Ao39 t896.length co39)) (fun _ h_=>h_.1)))).2.2) hb);replace HL886_1:=A_ (Kd.V_below (by (with_reducible repeat (first | apply Kd.V_alloc | apply Kd.V_drewN | apply Kd.V_drew));exact (Kd.V_mono (Kd.V_far (p:=⟨gb899,1,none⟩) (Kd.V_far (p:=⟨gb899,0,none⟩) (Kd.V_mono HL886_1.out (fun k_ hk=>(⟨hk,hk.2⟩:_∧k_≠gb899))) (fun _ hk=>hk.2) (.slice Ao36 t893.length co36)) (fun _ hk=>hk.2) (.slice Ao39 t896.length co39)) (fun _ h_=>h_.1))) hb);replace BK899:=A_ (kE_ (g:=gb899) (o:=.cells #[.slice Ao36 t893.length co36,.slice Ao39 t896.length co39] 25 (0,0)) qp_ hb);replace HB:=b1_ hb;clear hb;obtain ⟨hcz41_0,hcz41_1,hfz41_0,hfz41_1⟩:=c2_ BK899) | ((with_reducible refine gate_builtin (b:=.append) (xs:=#[.tmp 38,.tmp 40]) rfl ?_);at_builtin;refine Kd.N_append k25 (w0:=w) w.heap.size rfl (.tmp 38) (.tmp 40) 36 25 (.agg #[(.slice none 0 0),(.slice none 0 0)]) 48 rfl Try.underlying36 info25 rfl (by decide) (by omega) (.slice (some ad886) x5_2.length co30) x5_2 (⟨t893,t896⟩:S25) [.slice Ao36 t893.length co36,.slice Ao39 t896.length co39] (fun k_=>(w.heap.size≤k_)∧some k_≠(u6:Value).ownBlock∧some k_≠(.slice (some ad885) y882.length co16:Value).ownBlock∧some k_≠(.slice Ao32 t887.length co32:Value).ownBlock∧some k_≠(.slice Ao33 t890.length co33:Value).ownBlock∧k_≠gb869∧k_≠gb899) (fun k_=>((fun k_=>(w.heap.size≤k_)∧some k_≠(u6:Value).ownBlock∧some k_≠(.slice (some ad885) y882.length co16:Value).ownBlock∧some k_≠(.slice Ao32 t887.length co32:Value).ownBlock∧some k_≠(.slice Ao33 t890.length co33:Value).ownBlock∧k_≠gb869∧k_≠gb899)) k_∧some k_≠(.slice (some ad886) x5_2.length co30:Value).ownBlock) rfl rfl ?aP (fun _ hk=>hk) ?aF ?aO ?aB ?aS ?aL ?_;(case aP=>exact (k25_mkF _ _ (⟨t893,t896⟩:S25) (Kd.R_reads' (Kd.R_mono (ok':=(fun k_=>((fun k_=>(w.heap.size≤k_)∧some k_≠(u6:Value).ownBlock∧some k_≠(.slice (some ad885) y882.length co16:Value).ownBlock∧some k_≠(.slice Ao32 t887.length co32:Value).ownBlock∧some k_≠(.slice Ao33 t890.length co33:Value).ownBlock∧k_≠gb869∧k_≠gb899)) k_∧some k_≠(.slice (some ad886) x5_2.length co30:Value).ownBlock)) (Kd.R_types (Kd.R_types (Kd.R_apart' (Kd.R_apart' (Kd.R_apart' (HO895.out) (Kd.R_typed HO_6.out) (by decide)) (Kd.R_typed HO_21.out) (by decide)) (Kd.N_typed HO_5.out) (by decide)) BK869.out (by decide)) BK899.out (by decide)) (fun k_ hk=>⟨⟨hk.1.1.1.1.1.1.1.1,⟨hk.1.1.1.1.2,⟨hk.1.1.1.2,⟨hk.1.1.1.1.1.1.2,⟨hk.1.1.1.1.1.2,⟨hk.1.2,hk.2⟩⟩⟩⟩⟩⟩,hk.1.1.2⟩))).2.1 (Kd.R_F (Kd.R_mono (ok':=(fun k_=>((fun k_=>(w.heap.size≤k_)∧some k_≠(u6:Value).ownBlock∧some k_≠(.slice (some ad885) y882.length co16:Value).ownBlock∧some k_≠(.slice Ao32 t887.length co32:Value).ownBlock∧some k_≠(.slice Ao33 t890.length co33:Value).ownBlock∧k_≠gb869∧k_≠gb899)) k_∧some k_≠(.slice (some ad886) x5_2.length co30:Value).ownBlock)) (Kd.R_types (Kd.R_types (Kd.R_apart' (Kd.R_apart' (Kd.R_apart' (HO895.out) (Kd.R_typed HO_6.out) (by decide)) (Kd.R_typed HO_21.out) (by decide)) (Kd.N_typed HO_5.out) (by decide)) BK869.out (by decide)) BK899.out (by decide)) (fun k_ hk=>⟨⟨hk.1.1.1.1.1.1.1.1,⟨hk.1.1.1.1.2,⟨hk.1.1.1.2,⟨hk.1.1.1.1.1.1.2,⟨hk.1.1.1.1.1.2,⟨hk.1.2,hk.2⟩⟩⟩⟩⟩⟩,hk.1.1.2⟩))) (Kd.R_reads' (Kd.R_mono (ok':=(fun k_=>((fun k_=>(w.heap.size≤k_)∧some k_≠(u6:Value).ownBlock∧some k_≠(.slice (some ad885) y882.length co16:Value).ownBlock∧some k_≠(.slice Ao32 t887.length co32:Value).ownBlock∧some k_≠(.slice Ao33 t890.length co33:Value).ownBlock∧k_≠gb869∧k_≠gb899)) k_∧some k_≠(.slice (some ad886) x5_2.length co30:Value).ownBlock)) (Kd.R_types (Kd.R_types (Kd.R_apart' (Kd.R_apart' (Kd.R_apart' (HO898.out) (Kd.R_typed HO_6.out) (by decide)) (Kd.R_typed HO_21.out) (by decide)) (Kd.N_typed HO_5.out) (by decide)) BK869.out (by decide)) BK899.out (by decide)) (fun k_ hk=>⟨⟨hk.1.1.1.1.1.1.1.1,⟨hk.1.1.1.1.2,⟨hk.1.1.1.2,⟨hk.1.1.1.1.1.1.2,⟨hk.1.1.1.1.1.2,⟨hk.1.2,hk.2⟩⟩⟩⟩⟩⟩,hk.1.1.2⟩))).2.1 (Kd.R_F (Kd.R_mono (ok':=(fun k_=>((fun k_=>(w.heap.size≤k_)∧some k_≠(u6:Value).ownBlock∧some k_≠(.slice (some ad885) y882.length co16:Value).ownBlock∧some k_≠(.slice Ao32 t887.length co32:Value).ownBlock∧some k_≠(.slice Ao33 t890.length co33:Value).ownBlock∧k_≠gb869∧k_≠gb899)) k_∧some k_≠(.slice (some ad886) x5_2.length co30:Value).ownBlock)) (Kd.R_types (Kd.R_types (Kd.R_apart' (Kd.R_apart' (Kd.R_apart' (HO898.out) (Kd.R_typed HO_6.out) (by decide)) (Kd.R_typed HO_21.out) (by decide)) (Kd.N_typed HO_5.out) (by decide)) BK869.out (by decide)) BK899.out (by decide)) (fun k_ hk=>⟨⟨hk.1.1.1.1.1.1.1.1,⟨hk.1.1.1.1.2,⟨hk.1.1.1.2,⟨hk.1.1.1.1.1.1.2,⟨hk.1.1.1.1.1.2,⟨hk.1.2,hk.2⟩⟩⟩⟩⟩⟩,hk.1.1.2⟩)))));(case aB=>exact hB_);(case aF=>exact (fun k_ hk=>⟨(Nat.le_trans (bF_ hB_) hk),Kd.fresh' (Kd.R_lt (rr_ HO_6)) k_ hk,Kd.fresh' (Kd.R_lt (rr_ HO_21)) k_ hk,Kd.fresh' (Kd.R_lt (rr_ HO889)) k_ hk,Kd.fresh' (Kd.R_lt (rr_ HO892)) k_ hk,Kd.freshB (kk_ BK869) k_ hk,Kd.freshB (kk_ BK899) k_ hk⟩));(case aO=>exact (by (with_reducible repeat (first | apply Kd.N_alloc | apply Kd.N_drewN | apply Kd.N_drew));exact Kd.N_mono HO_5.out (fun _ hk=>⟨hk.1.1.1.1.1.1,⟨hk.1.1.1.1.1.2.1,⟨hk.1.1.1.1.1.2.2.1,⟨hk.1.1.1.1.2,⟨hk.1.1.1.2,⟨hk.1.1.1.1.1.2.2.2,hk.2⟩⟩⟩⟩⟩⟩)));(case aS=>exact (bF_ hB_));(case aL=>have:=LMc26.out;omega);intro v902 w42 ho hb hg hat;rw [← Ny901.out] at ho;replace HO_6:=A_ (Kd.R_over' (rr_ HO_6) (Kd.N_typed (by (with_reducible repeat (first | apply Kd.N_alloc | apply Kd.N_drewN | apply Kd.N_drew));exact HO_5.out)) (by decide) hg);replace HO_21:=A_ (Kd.R_over' (rr_ HO_21) (Kd.N_typed (by (with_reducible repeat (first | apply Kd.N_alloc | apply Kd.N_drewN | apply Kd.N_drew));exact HO_5.out)) (by decide) hg);replace BK869:=A_ (blk_grown (kk_ BK869) hg (Kd.N_away HO_5.out (fun _ hk=>hk.1.1.1.1.1.2.2.2)));replace HL886_0:=A_ (Kd.V_afterv (ok:=(fun k_=>(w.heap.size≤k_)∧some k_≠(u6:Value).ownBlock∧some k_≠(.slice (some ad885) y882.length co16:Value).ownBlock∧some k_≠(.slice Ao32 t887.length co32:Value).ownBlock∧some k_≠(.slice Ao33 t890.length co33:Value).ownBlock∧some k_≠(.slice Ao36 t893.length co36:Value).ownBlock∧some k_≠(.slice Ao39 t896.length co39:Value).ownBlock∧k_≠gb869∧k_≠gb899)) (by (with_reducible repeat (first | apply Kd.V_alloc | apply Kd.V_drewN | apply Kd.V_drew));exact Kd.V_mono HL886_0.out (fun _ hk=>⟨⟨hk.1.1.1.1.1.1.1,⟨hk.1.1.1.1.1.1.2.1,⟨hk.1.1.1.1.1.1.2.2.1,⟨hk.1.1.1.1.2,⟨hk.1.1.1.2,⟨hk.1.1.2,⟨hk.1.2,⟨hk.1.1.1.1.1.1.2.2.2,hk.2⟩⟩⟩⟩⟩⟩⟩⟩,hk.1.1.1.1.1.2⟩)) hg hat);replace HL886_1:=A_ (Kd.V_afterv (ok:=(fun k_=>(w.heap.size≤k_)∧some k_≠(u6:Value).ownBlock∧some k_≠(.slice (some ad885) y882.length co16:Value).ownBlock∧some k_≠(.slice Ao32 t887.length co32:Value).ownBlock∧some k_≠(.slice Ao33 t890.length co33:Value).ownBlock∧some k_≠(.slice Ao36 t893.length co36:Value).ownBlock∧some k_≠(.slice Ao39 t896.length co39:Value).ownBlock∧k_≠gb869∧k_≠gb899)) (by (with_reducible repeat (first | apply Kd.V_alloc | apply Kd.V_drewN | apply Kd.V_drew));exact Kd.V_mono HL886_1.out (fun _ hk=>⟨⟨hk.1.1.1.1.1.1.1,⟨hk.1.1.1.1.1.1.2.1,⟨hk.1.1.1.1.1.1.2.2.1,⟨hk.1.1.1.1.2,⟨hk.1.1.1.2,⟨hk.1.1.2,⟨hk.1.2,⟨hk.1.1.1.1.1.1.2.2.2,hk.2⟩⟩⟩⟩⟩⟩⟩⟩,hk.1.1.1.1.1.2⟩)) hg hat);replace HO889:=A_ (Kd.R_over' (rr_ HO889) (Kd.N_typed (by (with_reducible repeat (first | apply Kd.N_alloc | apply Kd.N_drewN | apply Kd.N_drew));exact HO_5.out)) (by decide) hg);replace HO892:=A_ (Kd.R_over' (rr_ HO892) (Kd.N_typed (by (with_reducible repeat (first | apply Kd.N_alloc | apply Kd.N_drewN | apply Kd.N_drew));exact HO_5.out)) (by decide) hg);replace BK899:=A_ (blk_grown (kk_ BK899) hg (Kd.N_away HO_5.out (fun _ hk=>hk.2)));replace HB:=A_ hb;have HO903:=A_ ho;clear HO_5 HO895 HO898;clear ho hb hg hat;obtain ⟨Ao43,co43,eo43⟩:=Kd.R_slice HO_6.out;subst eo43;have p904:0≤(x7_1:Int):=oB_ qe_;have q904:x7_1 < (x6_2.length:Int):=oB_ qe_;obtain ⟨ad904,e904,hx904_0⟩:=Kd.at_string (Kd.R_reads' HO_6.out).2.2 x7_1 p904 q904;cases e904;replace p904:=eq_true p904;replace q904:=eq_true q904))
        replace HO_6:=A_ (rC_ HO_6.out)
        replace HO_21:=A_ (rC_ HO_21.out)
        replace HL886_0:=A_ (Kd.V_drew HL886_0.out)
        replace HL886_1:=A_ (Kd.V_drew HL886_1.out)
        replace HO889:=A_ (rC_ HO889.out)
        replace HO892:=A_ (rC_ HO892.out)
        replace HO903:=A_ (Kd.N_drew HO903.out)
        replace BK869:=A_ (kB_ BK869.out)
        replace BK899:=A_ (kB_ BK899.out)
        replace HB:=A_ (bC_ HB.out)
        have hx_:w42.drew.cell? (ad904.add (x7_1).toNat) = some (.string (rdOf ByteArray.empty x6_2 x7_1)):=hx904_0
        refine start_ (n:=12) (S:=fun w'=>w'.cell? (ad904.add (x7_1).toNat) = some (.string (rdOf ByteArray.empty x6_2 x7_1))) (ds:=[10]) (bl_ 12 0) (by kernel_rfl) rfl (by kernel_rfl) hx_ (fun hHeld=>?_);refine with_tabW Z54.tab12 Z54.bits12 (fun HT_ HW_=>?_)
        generalize w42.drew = w44 at HO_6 HO_21 HL886_0 HL886_1 HO889 HO892 HO903 BK869 BK899 HB hHeld ⊢
        refine pu_ 0 (some 42) (bl_ 12 1) HT_ ?_
        refine pu_ 1 (some 43) (bl_ 12 3) HT_ ?_
        refine pu_ 2 (some 44) (bl_ 12 7) HT_ ?_
        refine pu_ 3 (some 45) (bl_ 12 15) HT_ ?_
        refine ta_ 4 (some 46) (bl_ 12 31) HT_ HW_ hHeld ?_
        refine pu_ 5 (some 47) (bl_ 12 63) HT_ ?_
        refine on_ 6 (some 48) (bl_ 12 127) HT_ (fun K hK=>?_)
        refine Kd.R_lit_step (Kd.int .u8) _ 5 ?hg (N:=48) ?hd (xs:=([rd y882 x23_2]:List Int)) (inner:=[.int .u8 (rd y882 x23_2)]) (ok:=fun _=>True) (okp:=fun _=>True) ?hr ?hp (fun _ hk=>hk) trivial (Below.refl _ _) (nA_ _) (by simp) ?_;(case hd=>rfl);(case hg=>rfl);(case hr=>first | (go_simp;done) | (go_simp;rfl));(case hp=>exact (Reps.one (show Kd.M (Kd.int .u8) _ _ _ (rd y882 x23_2) [.int .u8 (rd y882 x23_2)] from rfl) (Reps.none _ _)))
        intro v906 w45 ho46 hb hg_ hnew_
        have hS1_:=(hb.cell (World.block_lt_of_cell? _ _ hHeld)).trans hHeld
        clear hg_ hnew_
        (first | rw [← Ny905.out] at ho46 | (simp only [Int.reduceToNat] at ho46;rw [← Ny905.out] at ho46))
        replace HO_6:=rb_ HO_6 hb
        replace HL886_0:=A_ (Kd.V_elder' (by (with_reducible repeat (first | apply Kd.V_alloc | apply Kd.V_drewN | apply Kd.V_drew));exact HL886_0.out) (Kd.R_base ho46) hb)
        replace HL886_1:=A_ (Kd.V_elder' (by (with_reducible repeat (first | apply Kd.V_alloc | apply Kd.V_drewN | apply Kd.V_drew));exact HL886_1.out) (Kd.R_base ho46) hb)
        replace HO889:=rb_ HO889 hb
        replace HO892:=rb_ HO892 hb
        replace HO903:=A_ (Kd.N_elder' (by (with_reducible repeat (first | apply Kd.N_alloc | apply Kd.N_drewN | apply Kd.N_drew));exact HO903.out) (Kd.R_base ho46) hb)
        have HO907:=A_ (rE_ (Kd.R_new' (Kd.R_newM (M:=fun k_=>(w.heap.size≤k_)) ho46 (bF_ hB_) (fun k_ h_=>h_)) (Kd.R_lt (rr_ HO_21))) (bF_ hB_))
        replace HO_21:=A_ (Kd.R_elder' (rr_ HO_21) (Kd.R_base ho46) hb)
        replace BK869:=bb_ BK869 hb
        replace BK899:=bb_ BK899 hb
        replace HB:=b1_ hb
        clear hb ho46
        refine hK.out _ _ hS1_ (fun hHeld=>?_)
        clear hK K
        refine no_ (some 48) ?_
        refine on_ 7 (some 49) (bl_ 12 255) HT_ (fun K hK=>?_)
        have hcv47:=own_string (P:=Try.prog) Try.underlying22 Try.underlying5 Try.underlying9 (Kd.own_of_R HO907.out)
        refine value_ (w1:=?_) (v:=?_) (by rfl) rfl ?_ ?_
        rotate_left 2
        ·go_simp
         constructor
         ·rfl
         ·rfl
        clear hcv47
        refine hK.out _ _ hHeld (fun hHeld=>?_)
        clear hK K
        refine no_ (some 49) ?_
        refine pu_ 8 (some 50) (bl_ 12 511) HT_ ?_
        refine on_ 9 (some 51) (bl_ 12 1023) HT_ (fun K hK=>?_)
        refine value_ (w1:=?_) (v:=?_) (by rfl) rfl ?_ ?_
        rotate_left 2
        ·go_simp
         constructor
         ·rfl
         ·rfl
        refine hK.out _ _ (by first | exact hHeld | exact ((bA_ (Below.refl _ _) _).cell (World.block_lt_of_cell? _ _ hHeld)).trans hHeld) (fun hHeld=>?_)
        clear hK K
        refine no_ (some 51) ?_
        refine last_ (i:=10) (N:=some 52) (bl_ 12 2047) rfl rfl (one_of HT_.out (by kernel_rfl)) (by decide) (fun K hK=>?_)
        refine Kd.R_append_step Kd.string (w0:=w) w.heap.size (by rfl) (.tmp 42) (.tmp 51) 53 9 (.string ⟨#[]⟩) 16 rfl Try.underlying53 info9 rfl (by decide) (by omega) (.slice (some ad904) x6_2.length co43) x6_2 ((rdOf ByteArray.empty x6_2 x7_1) ++ (strOfNums y905)) [.string ((rdOf ByteArray.empty x6_2 x7_1) ++ (strOfNums y905))] (fun k_=>(w.heap.size≤k_)) (fun _=>False) rfl rfl ?aP (fun _ hk=>hk.elim) ?aF ?aO ?aB ?aS ?aL ?_
        (case aP=>exact rfl)
        (case aB=>exact hB_)
        (case aF=>exact (fun k_ hk=>(Nat.le_trans (bF_ hB_) hk)))
        (case aO=>exact (rr_ HO_6))
        (case aS=>exact (bF_ hB_))
        (case aL=>have:=LMc29.out;omega)
        intro v909 w48 ho hb hg hat
        rw [← Ny908.out] at ho
        replace HO_21:=A_ (Kd.R_over' (rr_ HO_21) (Kd.R_typed (rr_ HO_6)) (by decide) hg)
        replace BK869:=A_ (blk_grown (kk_ BK869) hg (Kd.R_ne HO_6.out BK869.out (by decide)))
        replace HL886_0:=A_ (Kd.V_afterv (ok:=(fun k_=>(w.heap.size≤k_)∧some k_≠(.slice (some ad885) y882.length co16:Value).ownBlock∧some k_≠(.slice Ao32 t887.length co32:Value).ownBlock∧some k_≠(.slice Ao33 t890.length co33:Value).ownBlock∧some k_≠(v902:Value).ownBlock∧some k_≠(v906:Value).ownBlock∧k_≠gb869∧k_≠gb899)) (by (with_reducible repeat (first | apply Kd.V_alloc | apply Kd.V_drewN | apply Kd.V_drew));exact Kd.V_mono HL886_0.out (fun _ hk=>⟨⟨hk.1.1.1,⟨hk.1.1.2.2.1,⟨hk.1.1.2.2.2.1,⟨hk.1.1.2.2.2.2.1,⟨hk.1.2,⟨hk.2,⟨hk.1.1.2.2.2.2.2.2.2.1,hk.1.1.2.2.2.2.2.2.2.2⟩⟩⟩⟩⟩⟩⟩,hk.1.1.2.1⟩)) hg hat)
        replace HL886_1:=A_ (Kd.V_afterv (ok:=(fun k_=>(w.heap.size≤k_)∧some k_≠(.slice (some ad885) y882.length co16:Value).ownBlock∧some k_≠(.slice Ao32 t887.length co32:Value).ownBlock∧some k_≠(.slice Ao33 t890.length co33:Value).ownBlock∧some k_≠(v902:Value).ownBlock∧some k_≠(v906:Value).ownBlock∧k_≠gb869∧k_≠gb899)) (by (with_reducible repeat (first | apply Kd.V_alloc | apply Kd.V_drewN | apply Kd.V_drew));exact Kd.V_mono HL886_1.out (fun _ hk=>⟨⟨hk.1.1.1,⟨hk.1.1.2.2.1,⟨hk.1.1.2.2.2.1,⟨hk.1.1.2.2.2.2.1,⟨hk.1.2,⟨hk.2,⟨hk.1.1.2.2.2.2.2.2.2.1,hk.1.1.2.2.2.2.2.2.2.2⟩⟩⟩⟩⟩⟩⟩,hk.1.1.2.1⟩)) hg hat)
        replace HO889:=A_ (Kd.R_over' (rr_ HO889) (Kd.R_typed (rr_ HO_6)) (by decide) hg)
        replace HO892:=A_ (Kd.R_over' (rr_ HO892) (Kd.R_typed (rr_ HO_6)) (by decide) hg)
        replace BK899:=A_ (blk_grown (kk_ BK899) hg (Kd.R_ne HO_6.out BK899.out (by decide)))
        replace HO903:=A_ (Kd.N_afterv (ok:=(fun k_=>(w.heap.size≤k_)∧some k_≠(.slice (some ad885) y882.length co16:Value).ownBlock∧some k_≠(.slice Ao32 t887.length co32:Value).ownBlock∧some k_≠(.slice Ao33 t890.length co33:Value).ownBlock∧some k_≠(v906:Value).ownBlock∧k_≠gb869∧k_≠gb899)) (by (with_reducible repeat (first | apply Kd.N_alloc | apply Kd.N_drewN | apply Kd.N_drew));exact Kd.N_mono HO903.out (fun _ hk=>⟨⟨hk.1.1,⟨hk.1.2.2.1,⟨hk.1.2.2.2.1,⟨hk.1.2.2.2.2.1,⟨hk.2,⟨hk.1.2.2.2.2.2.1,hk.1.2.2.2.2.2.2⟩⟩⟩⟩⟩⟩,hk.1.2.1⟩)) hg hat)
        replace HO907:=A_ (Kd.R_over' (rr_ HO907) (Kd.R_typed (rr_ HO_6)) (by decide) hg)
        replace HB:=A_ hb
        have HO910:=A_ ho
        clear HO_6
        clear ho hb hg hat
        refine hK.out _ _ ?_
        clear hK K
        refine no_ (some 52) ?_
        refine pu_ 11 (some 6) (bl_ 12 4095) HT_ ?_
        refine done_ (done_of HT_.out (by kernel_rfl)) ?_
        try go_wp2
        go_roundg k2
        case measure=>have:=HK1.out;have:=HK2.out;omega
        case rel=>exact ⟨(y901),(y908),(wrap64 (x23_2 + 1)),qc_,H',⟨by have:=HK1.out;have:=HK2.out;omega⟩,⟨by (with_reducible repeat (first | apply Kd.N_alloc | apply Kd.N_drewN | apply Kd.N_drew));exact Kd.N_mono HO903.out (fun _ hk=>⟨hk.1.1,⟨hk.2,⟨hk.1.2.1,hk.1.2.2.2.2.2.1⟩⟩⟩)⟩,⟨(rr_ HO910)⟩,⟨(rw_ (Kd.R_mono HO_21.out (fun _ hk=>hk.1)))⟩,⟨(kk_ BK869)⟩,⟨hB_⟩⟩
       ·rw [if_neg c25] at H
        have c25b0:=oD_ c25
        clear c25
        have H':=A_ H
        clear H
        have p885:0≤(x23_2:Int):=oB_ qe_
        have q885:x23_2 < (y882.length:Int):=oB_ qe_
        obtain ⟨ad885,e885,hx885_0⟩:=Kd.at_int (Kd.R_reads' HO_21.out).2.2 x23_2 p885 q885
        cases e885
        replace p885:=eq_true p885
        replace q885:=eq_true q885
        obtain ⟨Ao49,co49,eo49⟩:=Kd.N_slice HO_5.out
        subst eo49
        have p886:0≤(x7_1:Int):=oB_ qe_
        have q886:x7_1 < (x5_2.length:Int):=oB_ qe_
        obtain ⟨ad886,A886_0,c886_0,A886_1,c886_1,e886,hx886_0,hx886_1,hl886_0,hi886_0,hl886_1,hi886_1⟩:=at_T25 (Kd.N_reads' HO_5.out).2.2 x7_1 p886 q886
        cases e886
        obtain ⟨ce886,hce886,hMe886,hcc886⟩:=Kd.N_get HO_5.out z25 x7_1 p886 (by first | exact q886 | exact oB_ qe_ | (have e_:=(Kd.N_reads' HO_5.out).1;omega))
        obtain ⟨ua886_0,uc886_0,ua886_1,uc886_1,rfl,ul886_0,ge886_0,ul886_1,ge886_1⟩:=k25_openF hMe886
        have hv886_0:=hcc886 0 _ rfl
        rw [Nat.add_zero] at hv886_0
        replace hv886_0:=Option.some.inj (hv886_0.symm.trans hx886_0)
        injection hv886_0 with hva_ hvn_ hvc_
        rw [hva_] at ge886_0
        rw [hvc_] at ul886_0
        have HL886_0:=A_ (show Kd.V (Kd.int .i64) 3 _ w.heap.size _ _ ((rd_T25 x5_2 x7_1).f0) from Kd.V_mk ul886_0 ge886_0)
        clear hva_ hvn_ hvc_ ge886_0 ul886_0
        have hv886_1:=hcc886 1 _ rfl
        rw [add_field _ _ 1 (by omega)] at hv886_1
        replace hv886_1:=Option.some.inj (hv886_1.symm.trans hx886_1)
        injection hv886_1 with hva_ hvn_ hvc_
        rw [hva_] at ge886_1
        rw [hvc_] at ul886_1
        have HL886_1:=A_ (show Kd.V (Kd.int .i64) 3 _ w.heap.size _ _ ((rd_T25 x5_2 x7_1).f1) from Kd.V_mk ul886_1 ge886_1)
        clear hva_ hvn_ hvc_ ge886_1 ul886_1
        clear hcc886 hce886
        have HR886_0:=A_ hi886_0
        have HC886_0:=A_ hl886_0
        clear hi886_0 hl886_0
        have HR886_1:=A_ hi886_1
        have HC886_1:=A_ hl886_1
        clear hi886_1 hl886_1
        replace p886:=eq_true p886
        replace q886:=eq_true q886
        go_wp2_with (first | ((with_reducible refine gA_ (f:=87) rfl ?_);refine gL_ (some 32) Try.func87 #[.agg #[.slice A886_0 ((rd_T25 x5_2 x7_1).f0).length c886_0,.slice A886_1 ((rd_T25 x5_2 x7_1).f1).length c886_1],.int .u8 (rd y882 x23_2)] rfl qa_ ?_;(with_reducible refine (Z41.calls k2 _ _ ((rd_T25 x5_2 x7_1).f0) _ _ ((rd_T25 x5_2 x7_1).f1) (rd y882 x23_2) t887 t890 _ ?side1 ?side2 ?side3 ?side4 A22.out).mono ?_);(case side1=>repeat (first | exact (by repeat (first | (with_reducible exact HR886_0.out) | (with_reducible refine cA_ ?_ _) | (with_reducible refine cB_ ?_ _) | (with_reducible refine cC_ ?_) | exact HR886_0.out)) | (with_reducible first | refine cA_ ?_ _ | refine cB_ ?_ _ | refine cC_ ?_)));(case side2=>exact HC886_0.out);(case side3=>repeat (first | exact (by repeat (first | (with_reducible exact HR886_1.out) | (with_reducible refine cA_ ?_ _) | (with_reducible refine cB_ ?_ _) | (with_reducible refine cC_ ?_) | exact HR886_1.out)) | (with_reducible first | refine cA_ ?_ _ | refine cB_ ?_ _ | refine cC_ ?_)));(case side4=>exact HC886_1.out);rintro e w50 ⟨v888,v891,rfl,ho0,ho1,hb⟩;refine ⟨_,rfl,?_⟩;replace HO_5:=A_ (Kd.N_mono (Kd.N_told (Kd.N_told (Kd.N_old (by (with_reducible repeat (first | apply Kd.N_alloc | apply Kd.N_drewN | apply Kd.N_drew));exact HO_5.out) hb) (Kd.R_base ho0)) (Kd.R_base ho1)) (fun _ h_=>h_.1));replace HO_6:=rb_ HO_6 hb;replace HO_21:=rb_ HO_21 hb;replace HL886_0:=A_ (Kd.V_mono (Kd.V_told (Kd.V_told (Kd.V_old (by (with_reducible repeat (first | apply Kd.V_alloc | apply Kd.V_drewN | apply Kd.V_drew));exact HL886_0.out) hb) (Kd.R_base ho0)) (Kd.R_base ho1)) (fun _ h_=>h_.1));replace HL886_1:=A_ (Kd.V_mono (Kd.V_told (Kd.V_told (Kd.V_old (by (with_reducible repeat (first | apply Kd.V_alloc | apply Kd.V_drewN | apply Kd.V_drew));exact HL886_1.out) hb) (Kd.R_base ho0)) (Kd.R_base ho1)) (fun _ h_=>h_.1));have HO889:=A_ (rE_ (Kd.R_newM (M:=fun k_=>(w.heap.size≤k_)) ho0 (bF_ hB_) (fun k_ h_=>h_)) (bF_ hB_));have HO892:=A_ (rE_ (Kd.R_newM (M:=fun k_=>(w.heap.size≤k_)) ho1 (bF_ hB_) (fun k_ h_=>h_)) (bF_ hB_));replace BK869:=bb_ BK869 hb;replace HR886_0:=A_ (cD_ (by repeat (first | (with_reducible exact HR886_0.out) | (with_reducible refine cA_ ?_ _) | (with_reducible refine cB_ ?_ _) | (with_reducible refine cC_ ?_) | exact HR886_0.out)) hb);replace HR886_1:=A_ (cD_ (by repeat (first | (with_reducible exact HR886_1.out) | (with_reducible refine cA_ ?_ _) | (with_reducible refine cB_ ?_ _) | (with_reducible refine cC_ ?_) | exact HR886_1.out)) hb);replace HB:=b1_ hb;clear hb ho0 ho1;obtain ⟨Ao51,co51,eo51⟩:=Kd.R_slice HO889.out;subst eo51;obtain ⟨Ao52,co52,eo52⟩:=Kd.R_slice HO892.out;subst eo52) | ((with_reducible refine gA_ (f:=82) rfl ?_);refine gL_ (some 33) Try.func82 #[.agg #[.slice Ao51 t887.length co51,.slice Ao52 t890.length co52]] rfl qa_ ?_;(with_reducible refine (Z51.calls k2 _ _ t887 _ _ t890 t893 t896 _ (cr_ HO889) ((Kd.R_reads' HO889.out).2.1) (cr_ HO892) ((Kd.R_reads' HO892.out).2.1) A23.out).mono ?_);rintro e w53 ⟨v894,v897,rfl,ho0,ho1,hb⟩;refine ⟨_,rfl,?_⟩;replace HO_5:=A_ (Kd.N_mono (Kd.N_told (Kd.N_told (Kd.N_old (by (with_reducible repeat (first | apply Kd.N_alloc | apply Kd.N_drewN | apply Kd.N_drew));exact HO_5.out) hb) (Kd.R_base ho0)) (Kd.R_base ho1)) (fun _ h_=>h_.1));replace HO_6:=rb_ HO_6 hb;replace HO_21:=rb_ HO_21 hb;replace HL886_0:=A_ (Kd.V_mono (Kd.V_told (Kd.V_told (Kd.V_old (by (with_reducible repeat (first | apply Kd.V_alloc | apply Kd.V_drewN | apply Kd.V_drew));exact HL886_0.out) hb) (Kd.R_base ho0)) (Kd.R_base ho1)) (fun _ h_=>h_.1));replace HL886_1:=A_ (Kd.V_mono (Kd.V_told (Kd.V_told (Kd.V_old (by (with_reducible repeat (first | apply Kd.V_alloc | apply Kd.V_drewN | apply Kd.V_drew));exact HL886_1.out) hb) (Kd.R_base ho0)) (Kd.R_base ho1)) (fun _ h_=>h_.1));have HO895:=A_ (rE_ (Kd.R_new' (Kd.R_new' (Kd.R_newM (M:=fun k_=>(w.heap.size≤k_)) ho0 (bF_ hB_) (fun k_ h_=>h_)) (Kd.R_lt (rr_ HO889))) (Kd.R_lt (rr_ HO892))) (bF_ hB_));have HO898:=A_ (rE_ (Kd.R_new' (Kd.R_new' (Kd.R_newM (M:=fun k_=>(w.heap.size≤k_)) ho1 (bF_ hB_) (fun k_ h_=>h_)) (Kd.R_lt (rr_ HO889))) (Kd.R_lt (rr_ HO892))) (bF_ hB_));replace HO889:=A_ (Kd.R_mono (Kd.R_told (Kd.R_told (Kd.R_old (rr_ HO889) hb) (Kd.R_base ho0)) (Kd.R_base ho1)) (fun _ h_=>h_.1));replace HO892:=A_ (Kd.R_mono (Kd.R_told (Kd.R_told (Kd.R_old (rr_ HO892) hb) (Kd.R_base ho0)) (Kd.R_base ho1)) (fun _ h_=>h_.1));replace BK869:=bb_ BK869 hb;replace HR886_0:=A_ (cD_ (by repeat (first | (with_reducible exact HR886_0.out) | (with_reducible refine cA_ ?_ _) | (with_reducible refine cB_ ?_ _) | (with_reducible refine cC_ ?_) | exact HR886_0.out)) hb);replace HR886_1:=A_ (cD_ (by repeat (first | (with_reducible exact HR886_1.out) | (with_reducible refine cA_ ?_ _) | (with_reducible refine cB_ ?_ _) | (with_reducible refine cC_ ?_) | exact HR886_1.out)) hb);replace HB:=b1_ hb;clear hb ho0 ho1) | ((with_reducible refine gB_ (N:=10) rfl ?_);refine bx_ 10 #[.slice none 0 0,.slice none 0 0] 25 ?_;intro gb899 hg w54 hbox hb;replace HO_5:=A_ (Kd.N_below (Kd.N_elderB (by (with_reducible repeat (first | apply Kd.N_alloc | apply Kd.N_drewN | apply Kd.N_drew));exact HO_5.out) gb899 (Nat.le_of_eq hg.symm)) hb);replace HO_6:=rb_ HO_6 hb;replace HO_21:=rb_ HO_21 hb;replace HL886_0:=A_ (Kd.V_below (Kd.V_elderB (by (with_reducible repeat (first | apply Kd.V_alloc | apply Kd.V_drewN | apply Kd.V_drew));exact HL886_0.out) gb899 (Nat.le_of_eq hg.symm)) hb);replace HL886_1:=A_ (Kd.V_below (Kd.V_elderB (by (with_reducible repeat (first | apply Kd.V_alloc | apply Kd.V_drewN | apply Kd.V_drew));exact HL886_1.out) gb899 (Nat.le_of_eq hg.symm)) hb);replace HO889:=rb_ HO889 hb;replace HO892:=rb_ HO892 hb;replace HO895:=rb_ HO895 hb;replace HO898:=rb_ HO898 hb;replace HR886_0:=A_ (cD_ (by repeat (first | (with_reducible exact HR886_0.out) | (with_reducible refine cA_ ?_ _) | (with_reducible refine cB_ ?_ _) | (with_reducible refine cC_ ?_) | exact HR886_0.out)) hb);replace HR886_1:=A_ (cD_ (by repeat (first | (with_reducible exact HR886_1.out) | (with_reducible refine cA_ ?_ _) | (with_reducible refine cB_ ?_ _) | (with_reducible refine cC_ ?_) | exact HR886_1.out)) hb);have BK899:=A_ hbox;have GW899:=gw_ w hg;have GE899:=GW899;replace HB:=b1_ hb;have NB869_899:=gN_ BK869 hg;have NB899_869:=gP_ BK869 hg;replace BK869:=bb_ BK869 hb;clear hb hbox hg;obtain ⟨Ao55,co55,eo55⟩:=Kd.R_slice HO895.out;subst eo55;have hnb56:=NB899_869.out;have hnc56:=NB869_899.out;obtain ⟨hcz57_0,hcz57_1,hfz57_0,hfz57_1⟩:=c2_ BK899;obtain ⟨Ao58,co58,eo58⟩:=Kd.R_slice HO898.out;subst eo58) | ((with_reducible refine gA_ (f:=81) rfl ?_);refine gL_ (some 36) Try.func81 #[.slice (some ad886) x5_2.length co49,.agg #[.slice Ao55 t893.length co55,.slice Ao58 t896.length co58]] rfl qa_ ?_;(with_reducible refine (Z59.calls k2 _ _ x5_2 _ _ t893 _ _ t896 t900 _ ?side1 ?side2 ?side3 ?side4 ?side5 ?side6 A24.out).mono ?_);(case side1=>refine (Kd.N_reads' (e:=25) (base:=w.heap.size) (ok:=fun k_=>(((((((w.heap.size≤k_)∧(some k_≠(u6:Value).ownBlock∧(some k_≠(.slice (some ad885) y882.length co16:Value).ownBlock∧k_≠gb869)))∧some k_≠(.slice Ao51 t887.length co51:Value).ownBlock)∧some k_≠(.slice Ao52 t890.length co52:Value).ownBlock)∧some k_≠(.slice Ao55 t893.length co55:Value).ownBlock)∧some k_≠(.slice Ao58 t896.length co58:Value).ownBlock)∧k_≠gb899)) (n:=x5_2.length) (c:=co49) ?_).2.2;exact (by (with_reducible repeat (first | apply Kd.N_alloc | apply Kd.N_drewN | apply Kd.N_drew));exact (Kd.N_mono (Kd.N_far (p:=⟨gb899,1,none⟩) (Kd.N_far (p:=⟨gb899,0,none⟩) (Kd.N_mono HO_5.out (fun k_ hk=>(⟨hk,hk.2⟩:_∧k_≠gb899))) (fun _ hk=>hk.2) (.slice Ao55 t893.length co55)) (fun _ hk=>hk.2) (.slice Ao58 t896.length co58)) (fun _ h_=>h_.1))));(case side2=>exact (Kd.N_reads' HO_5.out).2.1);(case side3=>refine (Kd.R_reads' (e:=3) (base:=w.heap.size) (ok:=fun k_=>((((w.heap.size≤k_)∧some k_≠(.slice Ao58 t896.length co58:Value).ownBlock)∧some k_≠(.slice Ao51 t887.length co51:Value).ownBlock)∧some k_≠(.slice Ao52 t890.length co52:Value).ownBlock)) (n:=t893.length) (c:=co55) ?_).2.2;exact (rw_ (fa_ HO895 BK899)));(case side4=>exact (Kd.R_reads' HO895.out).2.1);(case side5=>refine (Kd.R_reads' (e:=3) (base:=w.heap.size) (ok:=fun k_=>((((w.heap.size≤k_)∧some k_≠(.slice Ao55 t893.length co55:Value).ownBlock)∧some k_≠(.slice Ao51 t887.length co51:Value).ownBlock)∧some k_≠(.slice Ao52 t890.length co52:Value).ownBlock)) (n:=t896.length) (c:=co58) ?_).2.2;exact (rw_ (fa_ HO898 BK899)));(case side6=>exact (Kd.R_reads' HO898.out).2.1);rintro e w59 ⟨rfl,hb⟩;refine ⟨_,rfl,?_⟩;replace HO_5:=A_ (Kd.N_below (by (with_reducible repeat (first | apply Kd.N_alloc | apply Kd.N_drewN | apply Kd.N_drew));exact (Kd.N_mono (Kd.N_far (p:=⟨gb899,1,none⟩) (Kd.N_far (p:=⟨gb899,0,none⟩) (Kd.N_mono HO_5.out (fun k_ hk=>(⟨hk,hk.2⟩:_∧k_≠gb899))) (fun _ hk=>hk.2) (.slice Ao55 t893.length co55)) (fun _ hk=>hk.2) (.slice Ao58 t896.length co58)) (fun _ h_=>h_.1))) hb);replace HO_6:=A_ (rD_ (rw_ (fa_ HO_6 BK899)) hb);replace HO_21:=A_ (rD_ (rw_ (fa_ HO_21 BK899)) hb);replace HO889:=A_ (rD_ (rw_ (fa_ HO889 BK899)) hb);replace HO892:=A_ (rD_ (rw_ (fa_ HO892 BK899)) hb);replace HO895:=A_ (rD_ (rw_ (fa_ HO895 BK899)) hb);replace HO898:=A_ (rD_ (rw_ (fa_ HO898 BK899)) hb);replace BK869:=A_ (kE_ (g:=gb869) (o:=.cells #[.slice A0_0 l0_0.length c0_0,.slice A0_1 l0_1.length c0_1] 25 (0,0)) (by (with_reducible repeat (first | refine kA_ ?_ _ | refine kB_ ?_ | refine kC_ ?_ _));refine blk_far ?_ NB869_899.out _;(with_reducible repeat (first | refine kA_ ?_ _ | refine kB_ ?_ | refine kC_ ?_ _));refine blk_far ?_ NB869_899.out _;(with_reducible repeat (first | refine kA_ ?_ _ | refine kB_ ?_ | refine kC_ ?_ _));exact BK869.out) hb);replace HR886_0:=A_ (cD_ ((Kd.V_reads' (by (with_reducible repeat (first | apply Kd.V_alloc | apply Kd.V_drewN | apply Kd.V_drew));exact (Kd.V_mono (Kd.V_far (p:=⟨gb899,1,none⟩) (Kd.V_far (p:=⟨gb899,0,none⟩) (Kd.V_mono HL886_0.out (fun k_ hk=>(⟨hk,hk.2⟩:_∧k_≠gb899))) (fun _ hk=>hk.2) (.slice Ao55 t893.length co55)) (fun _ hk=>hk.2) (.slice Ao58 t896.length co58)) (fun _ h_=>h_.1)))).2.2) hb);replace HL886_0:=A_ (Kd.V_below (by (with_reducible repeat (first | apply Kd.V_alloc | apply Kd.V_drewN | apply Kd.V_drew));exact (Kd.V_mono (Kd.V_far (p:=⟨gb899,1,none⟩) (Kd.V_far (p:=⟨gb899,0,none⟩) (Kd.V_mono HL886_0.out (fun k_ hk=>(⟨hk,hk.2⟩:_∧k_≠gb899))) (fun _ hk=>hk.2) (.slice Ao55 t893.length co55)) (fun _ hk=>hk.2) (.slice Ao58 t896.length co58)) (fun _ h_=>h_.1))) hb);replace HR886_1:=A_ (cD_ ((Kd.V_reads' (by (with_reducible repeat (first | apply Kd.V_alloc | apply Kd.V_drewN | apply Kd.V_drew));exact (Kd.V_mono (Kd.V_far (p:=⟨gb899,1,none⟩) (Kd.V_far (p:=⟨gb899,0,none⟩) (Kd.V_mono HL886_1.out (fun k_ hk=>(⟨hk,hk.2⟩:_∧k_≠gb899))) (fun _ hk=>hk.2) (.slice Ao55 t893.length co55)) (fun _ hk=>hk.2) (.slice Ao58 t896.length co58)) (fun _ h_=>h_.1)))).2.2) hb);replace HL886_1:=A_ (Kd.V_below (by (with_reducible repeat (first | apply Kd.V_alloc | apply Kd.V_drewN | apply Kd.V_drew));exact (Kd.V_mono (Kd.V_far (p:=⟨gb899,1,none⟩) (Kd.V_far (p:=⟨gb899,0,none⟩) (Kd.V_mono HL886_1.out (fun k_ hk=>(⟨hk,hk.2⟩:_∧k_≠gb899))) (fun _ hk=>hk.2) (.slice Ao55 t893.length co55)) (fun _ hk=>hk.2) (.slice Ao58 t896.length co58)) (fun _ h_=>h_.1))) hb);replace BK899:=A_ (kE_ (g:=gb899) (o:=.cells #[.slice Ao55 t893.length co55,.slice Ao58 t896.length co58] 25 (0,0)) qp_ hb);replace HB:=b1_ hb;clear hb))
        go_roundg k2
        case measure=>have:=HK1.out;have:=HK2.out;omega
        case rel=>exact ⟨(x5_2),(x6_2),(wrap64 (x23_2 + 1)),qc_,H',⟨by have:=HK1.out;have:=HK2.out;omega⟩,⟨by (with_reducible repeat (first | apply Kd.N_alloc | apply Kd.N_drewN | apply Kd.N_drew));exact Kd.N_mono HO_5.out (fun _ hk=>⟨hk.1.1.1.1.1.1,⟨hk.1.1.1.1.1.2.1,⟨hk.1.1.1.1.1.2.2.1,hk.1.1.1.1.1.2.2.2⟩⟩⟩)⟩,⟨(rr_ HO_6)⟩,⟨(rr_ HO_21)⟩,⟨(kk_ BK869)⟩,⟨hB_⟩⟩
      ·rw [if_neg c17] at H
       have c17b0:=oD_ c17
       clear c17
       by_cases c60:(x5_2.length:Int) > 120
       ·rw [if_pos c60] at H
        have c60b0:decide (120 < (x5_2.length:Int)) = true:=oC_ c60
        have c60b1:decide (120 < x5_2.length) = true:=oC_ (by omega)
        clear c60
        simp only [Option.some.injEq,Prod.mk.injEq] at H
        obtain ⟨rfl,rfl,rfl⟩:=H
        obtain ⟨Ao61,co61,eo61⟩:=Kd.N_slice HO_5.out
        subst eo61
        go_wp2
        go_ret3
        exact ⟨_,_,qb_,by first | exact Kd.S_nil _ _ _ _ _ | exact Kd.N_nil _ _ _ _ _ | exact Kd.V_nil _ _ _ _ _ | exact Kd.Q_nil _ _ _ _ _ | exact Kd.R_nil _ _ _ _ _,by first | exact Kd.R_nil _ _ _ _ _ | exact Kd.N_nil _ _ _ _ _ | exact Kd.V_nil _ _ _ _ _ | exact Kd.Q_nil _ _ _ _ _ | exact Kd.S_nil _ _ _ _ _,hB_⟩
       ·rw [if_neg c60] at H
        have c60b0:decide (120 < (x5_2.length:Int)) = false:=oD_ c60
        have c60b1:decide (120 < x5_2.length) = false:=oD_ (by omega)
        clear c60
        have H':=A_ H
        clear H
        obtain ⟨Ao62,co62,eo62⟩:=Kd.N_slice HO_5.out
        subst eo62
        go_wp2
        go_roundg k2
        case measure=>have:=HK1.out;have:=HK2.out;omega
        case rel=>exact ⟨(x5_2),(x6_2),(wrap64 (x7_1 + 1)),qc_,H',⟨by have:=HK1.out;have:=HK2.out;omega⟩,⟨by (with_reducible repeat (first | apply Kd.N_alloc | apply Kd.N_drewN | apply Kd.N_drew));exact Kd.N_mono HO_5.out (fun _ hk=>⟨hk.1,⟨hk.2.1,hk.2.2.2⟩⟩)⟩,⟨(rr_ HO_6)⟩,⟨(kk_ BK869)⟩,⟨hB_⟩⟩
   ·rw [if_neg c12] at H
    have c12b0:=oD_ c12
    clear c12
    simp only [Option.some.injEq,Prod.mk.injEq] at H
    obtain ⟨rfl,rfl,rfl⟩:=H
    obtain ⟨Ao63,co63,eo63⟩:=Kd.N_slice HO_5.out
    subst eo63
    go_wp2
    go_ret3
    exact ⟨_,_,qb_,by (with_reducible repeat (first | apply Kd.N_alloc | apply Kd.N_drewN | apply Kd.N_drew));exact Kd.N_mono HO_5.out (fun _ hk=>⟨hk.1,hk.2.1⟩),(rr_ HO_6),hB_⟩
end Go.Proofs.Ytcggfjpnfodbaaa.A
end
section
namespace Go.Proofs.Ytcggfjpnfodbaaa.A
open Go.RowKit Go.Proofs.YtcggfjpnfodbaaaW.PrintWords Go.Proofs.YtcggfjpnfodbaaaW.PrintLast Go.Proofs.YtcggfjpnfodbaaaW.PrintMore
attribute [local go_sem] max2_int min2_int max_two min_two max_three min_three max_four min_four
set_option linter.unusedVariables false
set_option linter.unusedSimpArgs false
def Z66.l0:Nat→ByteArray→Int→Option (Bool)
 | 0,_,_=>none
 | k + 1,x0,x3=>if x3 < (x0.size:Int) then (if 0≤x3 then (if (bt x0 x3) = 84 then (Z66.l0 k x0 (wrap64 (x3 + 1))) else (if (bt x0 x3) = 116 then (Z66.l0 k x0 (wrap64 (x3 + 1))) else (if (bt x0 x3) = 83 then (Z66.l0 k x0 (wrap64 (x3 + 1))) else (if (bt x0 x3) = 115 then (Z66.l0 k x0 (wrap64 (x3 + 1))) else (some false))))) else (none)) else (some true)
def Z66.f (k:Nat) (a0:ByteArray):Option (Bool):=if (a0.size:Int) > 40 then (some false) else (Z66.l0 k a0 0)
theorem Z66.mono_l:∀ k,(∀ y0 y1,LeO (Z66.l0 k y0 y1) (Z66.l0 (k + 1) y0 y1))
 | 0=>fun _ _ r h=>by simp [Z66.l0] at h
 | k + 1=>by
  have ih0:=Z66.mono_l k
  ·intro y0 y1
   unfold Z66.l0
   repeat' first|exact ih0 _ _|exact lo_|refine LeO.ite ?_ ?_|refine LeO.bind ?_ (fun _=>?_)
theorem Z66.mono:∀ a0 k,LeO (Z66.f k a0) (Z66.f (k + 1) a0):=by
 intro a0 k
 have ih0:=Z66.mono_l k
 unfold Z66.f
 repeat' first|exact ih0 _ _|exact lo_|refine LeO.ite ?_ ?_|refine LeO.bind ?_ (fun _=>?_)
set_option maxHeartbeats 8000000 in
set_option maxRecDepth 100000 in
theorem Z66.calls (k:Nat) (a0:ByteArray) (r:Bool) (w:World) (h:Z66.f k a0 = some r) :
  Calls Try.prog 89 #[.string a0] w fun e w'=>e = .returned (.bool r)∧Drawn0 w w':=by
 have H:=h
 unfold Z66.f at H
 clear h
 by_cases c2:(a0.size:Int) > 40
 ·rw [if_pos c2] at H
  have c2b0:decide (40 < (a0.size:Int)) = true:=oC_ c2
  have c2b1:decide (40 < a0.size) = true:=oC_ (by omega)
  clear c2
  obtain rfl:=Option.some.inj H
  go_enter Try.func89,Try.ntmps89
  go_wp2
  go_ret
  exact ⟨qc_,by repeat (first | exact Drawn0.refl _ | apply Drawn0.step)⟩
 ·rw [if_neg c2] at H
  have c2b0:decide (40 < (a0.size:Int)) = false:=oD_ c2
  have c2b1:decide (40 < a0.size) = false:=oD_ (by omega)
  clear c2
  have H':=A_ H
  clear H
  go_enter Try.func89,Try.ntmps89
  go_wp2
  go_loopg [3] k (fun kq v3 w'=>∃ (x3_1:Int),v3 = .int .i64 x3_1∧Aside0 (Z66.l0 kq a0 x3_1 = some r)∧Aside0 (kq≤k)∧Drawn0 w w')
  case atStart=>exact ⟨(0),qc_,H',⟨nA_ _⟩,by repeat (first | exact Drawn0.refl _ | apply Drawn0.step)⟩
  case round =>
   clear H'
   obtain ⟨x3_1,rfl,HA,HK1,⟨m1,rfl⟩⟩:=hrel
   cases gk with
   | zero=>exact absurd HA.out (by simp [Z66.l0])
   | succ k1 =>
    have H:=HA.out
    clear HA
    simp only [Z66.l0] at H
    by_cases c3:x3_1 < (a0.size:Int)
    ·rw [if_pos c3] at H
     have c3b0:=oC_ c3
     clear c3
     replace H:=cx_ H;obtain ⟨c4b0,H⟩:=H
     by_cases c6:(bt a0 x3_1) = 84
     ·rw [if_pos c6] at H
      have c6b0:((bt a0 x3_1) == 84) = true:=beq_iff_eq.mpr c6
      have c6b1:((bt a0 x3_1) != 84) = false:=bne_eq_false_iff_eq.mpr c6
      clear c6
      have H':=A_ H
      clear H
      have p5:0≤(x3_1:Int):=oB_ qe_
      have q5:x3_1 < (a0.size:Int):=oB_ qe_
      have hx5:=bt_at a0 x3_1
      replace p5:=eq_true p5
      replace q5:=eq_true q5
      go_wp2
      go_roundg k1
      case measure=>have:=HK1.out;omega
      case rel=>exact ⟨(wrap64 (x3_1 + 1)),qc_,H',⟨by have:=HK1.out;omega⟩,by repeat (first | exact Drawn0.refl _ | apply Drawn0.step)⟩
     ·rw [if_neg c6] at H
      have c6b0:((bt a0 x3_1) == 84) = false:=beq_eq_false_iff_ne.mpr c6
      have c6b1:((bt a0 x3_1) != 84) = true:=bne_iff_ne.mpr c6
      by_cases c7:(bt a0 x3_1) = 116
      ·rw [if_pos c7] at H
       have c7b0:((bt a0 x3_1) == 116) = true:=beq_iff_eq.mpr c7
       have c7b1:((bt a0 x3_1) != 116) = false:=bne_eq_false_iff_eq.mpr c7
       clear c7
       have H':=A_ H
       clear H
       have p5:0≤(x3_1:Int):=oB_ qe_
       have q5:x3_1 < (a0.size:Int):=oB_ qe_
       have hx5:=bt_at a0 x3_1
       replace p5:=eq_true p5
       replace q5:=eq_true q5
       go_wp2
       go_roundg k1
       case measure=>have:=HK1.out;omega
       case rel=>exact ⟨(wrap64 (x3_1 + 1)),qc_,H',⟨by have:=HK1.out;omega⟩,by repeat (first | exact Drawn0.refl _ | apply Drawn0.step)⟩
      ·rw [if_neg c7] at H
       have c7b0:((bt a0 x3_1) == 116) = false:=beq_eq_false_iff_ne.mpr c7
       have c7b1:((bt a0 x3_1) != 116) = true:=bne_iff_ne.mpr c7
       by_cases c8:(bt a0 x3_1) = 83
       ·rw [if_pos c8] at H
        have c8b0:((bt a0 x3_1) == 83) = true:=beq_iff_eq.mpr c8
        have c8b1:((bt a0 x3_1) != 83) = false:=bne_eq_false_iff_eq.mpr c8
        clear c8
        have H':=A_ H
        clear H
        have p5:0≤(x3_1:Int):=oB_ qe_
        have q5:x3_1 < (a0.size:Int):=oB_ qe_
        have hx5:=bt_at a0 x3_1
        replace p5:=eq_true p5
        replace q5:=eq_true q5
        go_wp2
        go_roundg k1
        case measure=>have:=HK1.out;omega
        case rel=>exact ⟨(wrap64 (x3_1 + 1)),qc_,H',⟨by have:=HK1.out;omega⟩,by repeat (first | exact Drawn0.refl _ | apply Drawn0.step)⟩
       ·rw [if_neg c8] at H
        have c8b0:((bt a0 x3_1) == 83) = false:=beq_eq_false_iff_ne.mpr c8
        have c8b1:((bt a0 x3_1) != 83) = true:=bne_iff_ne.mpr c8
        by_cases c9:(bt a0 x3_1) = 115
        ·rw [if_pos c9] at H
         have c9b0:((bt a0 x3_1) == 115) = true:=beq_iff_eq.mpr c9
         have c9b1:((bt a0 x3_1) != 115) = false:=bne_eq_false_iff_eq.mpr c9
         clear c9
         have H':=A_ H
         clear H
         have p5:0≤(x3_1:Int):=oB_ qe_
         have q5:x3_1 < (a0.size:Int):=oB_ qe_
         have hx5:=bt_at a0 x3_1
         replace p5:=eq_true p5
         replace q5:=eq_true q5
         go_wp2
         go_roundg k1
         case measure=>have:=HK1.out;omega
         case rel=>exact ⟨(wrap64 (x3_1 + 1)),qc_,H',⟨by have:=HK1.out;omega⟩,by repeat (first | exact Drawn0.refl _ | apply Drawn0.step)⟩
        ·rw [if_neg c9] at H
         have c9b0:((bt a0 x3_1) == 115) = false:=beq_eq_false_iff_ne.mpr c9
         have c9b1:((bt a0 x3_1) != 115) = true:=bne_iff_ne.mpr c9
         obtain rfl:=Option.some.inj H
         have p5:0≤(x3_1:Int):=oB_ qe_
         have q5:x3_1 < (a0.size:Int):=oB_ qe_
         have hx5:=bt_at a0 x3_1
         replace p5:=eq_true p5
         replace q5:=eq_true q5
         go_wp2
         go_ret
         exact ⟨qc_,by repeat (first | exact Drawn0.refl _ | apply Drawn0.step)⟩
    ·rw [if_neg c3] at H
     have c3b0:=oD_ c3
     clear c3
     obtain rfl:=Option.some.inj H
     go_wp2
     go_ret
     exact ⟨qc_,by repeat (first | exact Drawn0.refl _ | apply Drawn0.step)⟩
def Z23.l0:Nat→ByteArray→ByteArray→Int→Option (ByteArray)
 | 0,_,_,_=>none
 | k + 1,x0,x3,x4=>if x4 ≥ 0 then (if 0≤x4 then (if x4 < (x0.size:Int) then (if (bt x0 x4) = 84 then (if x3.size + 1≤9223372036854775807 then (Z23.l0 k x0 (x3 ++ (⟨#[116]⟩:ByteArray)) (wrap64 (x4 - 1))) else (none)) else (if (bt x0 x4) = 116 then (if x3.size + 1≤9223372036854775807 then (Z23.l0 k x0 (x3 ++ (⟨#[84]⟩:ByteArray)) (wrap64 (x4 - 1))) else (none)) else (if (bt x0 x4) = 83 then (if x3.size + 1≤9223372036854775807 then (Z23.l0 k x0 (x3 ++ (⟨#[115]⟩:ByteArray)) (wrap64 (x4 - 1))) else (none)) else (if (bt x0 x4) = 115 then (if x3.size + 1≤9223372036854775807 then (Z23.l0 k x0 (x3 ++ (⟨#[83]⟩:ByteArray)) (wrap64 (x4 - 1))) else (none)) else (Z23.l0 k x0 x3 (wrap64 (x4 - 1))))))) else (none)) else (none)) else (some x3)
def Z23.f (k:Nat) (a0:ByteArray):Option (ByteArray):=(Z66.f k a0).bind fun t1321=>(if t1321 = true then (Z23.l0 k a0 (⟨#[]⟩:ByteArray) (wrap64 ((a0.size:Int) - 1))) else (some (⟨#[]⟩:ByteArray)))
theorem Z23.mono_l:∀ k,(∀ y0 y1 y2,LeO (Z23.l0 k y0 y1 y2) (Z23.l0 (k + 1) y0 y1 y2))
 | 0=>fun _ _ _ r h=>by simp [Z23.l0] at h
 | k + 1=>by
  have ih0:=Z23.mono_l k
  ·intro y0 y1 y2
   unfold Z23.l0
   repeat' first|exact ih0 _ _ _|exact Z66.mono _ _|exact lo_|refine LeO.ite ?_ ?_|refine LeO.bind ?_ (fun _=>?_)
theorem Z23.mono:∀ a0 k,LeO (Z23.f k a0) (Z23.f (k + 1) a0):=by
 intro a0 k
 have ih0:=Z23.mono_l k
 unfold Z23.f
 repeat' first|exact ih0 _ _ _|exact Z66.mono _ _|exact lo_|refine LeO.ite ?_ ?_|refine LeO.bind ?_ (fun _=>?_)
set_option maxHeartbeats 8000000 in
set_option maxRecDepth 100000 in
theorem Z23.calls (k:Nat) (a0:ByteArray) (r:ByteArray) (w:World) (h:Z23.f k a0 = some r) :
  Calls Try.prog 88 #[.string a0] w fun e w'=>e = .returned (.string r)∧Drawn0 w w':=by
 have H:=h
 unfold Z23.f at H
 clear h
 obtain ⟨t1321,A2,H⟩:=bi_ H
 by_cases c3:t1321 = true
 ·subst c3
  rw [if_pos rfl] at H
  have H':=A_ H
  clear H
  go_enter Try.func88,Try.ntmps88
  go_wp2_with (first | ((with_reducible refine gA_ (f:=89) rfl ?_);refine gL_ (some 6) Try.func89 #[.string a0] rfl qa_ ?_;(with_reducible refine (Z66.calls k a0 true _ A2.out).mono ?_);rintro e w' ⟨rfl,⟨nd,rfl⟩⟩;refine ⟨_,rfl,?_⟩))
  go_loopg [3,4] k (fun kq v3 v4 w'=>∃ (x3_1:ByteArray) (x4_1:Int),v3 = .string x3_1∧v4 = .int .i64 x4_1∧Aside0 (Z23.l0 kq a0 x3_1 x4_1 = some r)∧Aside0 (kq≤k)∧Drawn0 w w')
  case atStart=>exact ⟨((⟨#[]⟩:ByteArray)),(wrap64 ((a0.size:Int) - 1)),qc_,qc_,H',⟨nA_ _⟩,by repeat (first | exact Drawn0.refl _ | apply Drawn0.step)⟩
  case round =>
   clear H'
   obtain ⟨x3_1,x4_1,rfl,rfl,HA,HK1,⟨m1,rfl⟩⟩:=hrel
   cases gk with
   | zero=>exact absurd HA.out (by simp [Z23.l0])
   | succ k1 =>
    have H:=HA.out
    clear HA
    simp only [Z23.l0] at H
    by_cases c4:x4_1 ≥ 0
    ·rw [if_pos c4] at H
     have c4b0:decide (0≤x4_1) = true:=oC_ c4
     clear c4
     replace H:=cx_ H;obtain ⟨c5b0,H⟩:=H
     replace H:=cx_ H;obtain ⟨c6b0,H⟩:=H
     by_cases c8:(bt a0 x4_1) = 84
     ·rw [if_pos c8] at H
      have c8b0:((bt a0 x4_1) == 84) = true:=beq_iff_eq.mpr c8
      have c8b1:((bt a0 x4_1) != 84) = false:=bne_eq_false_iff_eq.mpr c8
      clear c8
      have c9:=cp_ H
      replace H:=ca_ H
      have c9b0:=eq_true c9
      have c9b1:=oC_ c9
      try have c9b2:(9223372036854775807 < x3_1.size + 1) = False:=eq_false (Nat.not_lt.2 c9)
      have H':=A_ H
      clear H
      have p7:0≤(x4_1:Int):=oB_ qe_
      have q7:x4_1 < (a0.size:Int):=oB_ qe_
      have hx7:=bt_at a0 x4_1
      replace p7:=eq_true p7
      replace q7:=eq_true q7
      go_wp2
      go_roundg k1
      case measure=>have:=HK1.out;omega
      case rel=>exact ⟨(x3_1 ++ (⟨#[116]⟩:ByteArray)),(wrap64 (x4_1 - 1)),qc_,qc_,H',⟨by have:=HK1.out;omega⟩,by repeat (first | exact Drawn0.refl _ | apply Drawn0.step)⟩
     ·rw [if_neg c8] at H
      have c8b0:((bt a0 x4_1) == 84) = false:=beq_eq_false_iff_ne.mpr c8
      have c8b1:((bt a0 x4_1) != 84) = true:=bne_iff_ne.mpr c8
      by_cases c10:(bt a0 x4_1) = 116
      ·rw [if_pos c10] at H
       have c10b0:((bt a0 x4_1) == 116) = true:=beq_iff_eq.mpr c10
       have c10b1:((bt a0 x4_1) != 116) = false:=bne_eq_false_iff_eq.mpr c10
       clear c10
       have c11:=cp_ H
       replace H:=ca_ H
       have c11b0:=eq_true c11
       have c11b1:=oC_ c11
       try have c11b2:(9223372036854775807 < x3_1.size + 1) = False:=eq_false (Nat.not_lt.2 c11)
       have H':=A_ H
       clear H
       have p7:0≤(x4_1:Int):=oB_ qe_
       have q7:x4_1 < (a0.size:Int):=oB_ qe_
       have hx7:=bt_at a0 x4_1
       replace p7:=eq_true p7
       replace q7:=eq_true q7
       go_wp2
       go_roundg k1
       case measure=>have:=HK1.out;omega
       case rel=>exact ⟨(x3_1 ++ (⟨#[84]⟩:ByteArray)),(wrap64 (x4_1 - 1)),qc_,qc_,H',⟨by have:=HK1.out;omega⟩,by repeat (first | exact Drawn0.refl _ | apply Drawn0.step)⟩
      ·rw [if_neg c10] at H
       have c10b0:((bt a0 x4_1) == 116) = false:=beq_eq_false_iff_ne.mpr c10
       have c10b1:((bt a0 x4_1) != 116) = true:=bne_iff_ne.mpr c10
       by_cases c12:(bt a0 x4_1) = 83
       ·rw [if_pos c12] at H
        have c12b0:((bt a0 x4_1) == 83) = true:=beq_iff_eq.mpr c12
        have c12b1:((bt a0 x4_1) != 83) = false:=bne_eq_false_iff_eq.mpr c12
        clear c12
        have c13:=cp_ H
        replace H:=ca_ H
        have c13b0:=eq_true c13
        have c13b1:=oC_ c13
        try have c13b2:(9223372036854775807 < x3_1.size + 1) = False:=eq_false (Nat.not_lt.2 c13)
        have H':=A_ H
        clear H
        have p7:0≤(x4_1:Int):=oB_ qe_
        have q7:x4_1 < (a0.size:Int):=oB_ qe_
        have hx7:=bt_at a0 x4_1
        replace p7:=eq_true p7
        replace q7:=eq_true q7
        go_wp2
        go_roundg k1
        case measure=>have:=HK1.out;omega
        case rel=>exact ⟨(x3_1 ++ (⟨#[115]⟩:ByteArray)),(wrap64 (x4_1 - 1)),qc_,qc_,H',⟨by have:=HK1.out;omega⟩,by repeat (first | exact Drawn0.refl _ | apply Drawn0.step)⟩
       ·rw [if_neg c12] at H
        have c12b0:((bt a0 x4_1) == 83) = false:=beq_eq_false_iff_ne.mpr c12
        have c12b1:((bt a0 x4_1) != 83) = true:=bne_iff_ne.mpr c12
        by_cases c14:(bt a0 x4_1) = 115
        ·rw [if_pos c14] at H
         have c14b0:((bt a0 x4_1) == 115) = true:=beq_iff_eq.mpr c14
         have c14b1:((bt a0 x4_1) != 115) = false:=bne_eq_false_iff_eq.mpr c14
         clear c14
         have c15:=cp_ H
         replace H:=ca_ H
         have c15b0:=eq_true c15
         have c15b1:=oC_ c15
         try have c15b2:(9223372036854775807 < x3_1.size + 1) = False:=eq_false (Nat.not_lt.2 c15)
         have H':=A_ H
         clear H
         have p7:0≤(x4_1:Int):=oB_ qe_
         have q7:x4_1 < (a0.size:Int):=oB_ qe_
         have hx7:=bt_at a0 x4_1
         replace p7:=eq_true p7
         replace q7:=eq_true q7
         go_wp2
         go_roundg k1
         case measure=>have:=HK1.out;omega
         case rel=>exact ⟨(x3_1 ++ (⟨#[83]⟩:ByteArray)),(wrap64 (x4_1 - 1)),qc_,qc_,H',⟨by have:=HK1.out;omega⟩,by repeat (first | exact Drawn0.refl _ | apply Drawn0.step)⟩
        ·rw [if_neg c14] at H
         have c14b0:((bt a0 x4_1) == 115) = false:=beq_eq_false_iff_ne.mpr c14
         have c14b1:((bt a0 x4_1) != 115) = true:=bne_iff_ne.mpr c14
         have H':=A_ H
         clear H
         have p7:0≤(x4_1:Int):=oB_ qe_
         have q7:x4_1 < (a0.size:Int):=oB_ qe_
         have hx7:=bt_at a0 x4_1
         replace p7:=eq_true p7
         replace q7:=eq_true q7
         go_wp2
         go_roundg k1
         case measure=>have:=HK1.out;omega
         case rel=>exact ⟨(x3_1),(wrap64 (x4_1 - 1)),qc_,qc_,H',⟨by have:=HK1.out;omega⟩,by repeat (first | exact Drawn0.refl _ | apply Drawn0.step)⟩
    ·rw [if_neg c4] at H
     have c4b0:decide (0≤x4_1) = false:=oD_ c4
     clear c4
     obtain rfl:=Option.some.inj H
     go_wp2
     go_ret
     exact ⟨qc_,by repeat (first | exact Drawn0.refl _ | apply Drawn0.step)⟩
 ·replace c3:=Bool.eq_false_iff.mpr c3
  subst c3
  have H1:(some (⟨#[]⟩:ByteArray)) = some r:=by rw [if_neg (show ¬ (false = true) by decide)] at H;exact H
  clear H
  have H:=H1
  clear H1
  obtain rfl:=Option.some.inj H
  go_enter Try.func88,Try.ntmps88
  go_wp2_with (first | ((with_reducible refine gA_ (f:=89) rfl ?_);refine gL_ (some 6) Try.func89 #[.string a0] rfl qa_ ?_;(with_reducible refine (Z66.calls k a0 false _ A2.out).mono ?_);rintro e w' ⟨rfl,⟨nd,rfl⟩⟩;refine ⟨_,rfl,?_⟩))
  go_ret
  exact ⟨qc_,by repeat (first | exact Drawn0.refl _ | apply Drawn0.step)⟩
end Go.Proofs.Ytcggfjpnfodbaaa.A
end
section
namespace Go.Proofs.Ytcggfjpnfodbaaa.A
open Go.RowKit Go.Proofs.YtcggfjpnfodbaaaW.PrintWords Go.Proofs.YtcggfjpnfodbaaaW.PrintLast Go.Proofs.YtcggfjpnfodbaaaW.PrintMore
attribute [local go_sem] max2_int min2_int max_two min_two max_three min_three max_four min_four
set_option linter.unusedVariables false
set_option linter.unusedSimpArgs false
mutual
def Z7.l0:Nat→List (S25)→List ByteArray→List ByteArray→List (S25)→Int→Int→Option (List ByteArray × Bool)
 | 0,_,_,_,_,_,_=>none
 | k + 1,x4,x5,x7,x26,x27,x28=>if x28 < x27 then (if 0≤x28 then (if x28 < (x26.length:Int) then ((some (([84,83]:List Int):List Int)).bind fun y1336=>(Z7.l1 k x4 x5 x7 x28 x26 x27 x28 y1336 (y1336.length:Int) 0 ((rd_T25 x26 x28).f0) ((rd_T25 x26 x28).f1))) else (none)) else (none)) else (some (x7,true))
def Z7.l1:Nat→List (S25)→List ByteArray→List ByteArray→Int→List (S25)→Int→Int→List Int→Int→Int→List Int→List Int→Option (List ByteArray × Bool)
 | 0,_,_,_,_,_,_,_,_,_,_,_,_=>none
 | k + 1,x4,x5,x7,x8,x26,x27,x28,x33,x34,x35,x1336000,x1336001=>if x35 < x34 then (if 0≤x35 then (if x35 < (x33.length:Int) then ((Z41.f k x1336000 x1336001 (rd x33 x35)).bind fun bt1340=>((Z51.f k bt1340.1 bt1340.2).bind fun bt1346=>((Z59.f k x4 bt1346.1 bt1346.2).bind fun t1352=>(if 0≤x8 then (if x8 < (x5.length:Int) then ((some (([rd x33 x35]:List Int):List Int)).bind fun y1354=>(if (rdOf ByteArray.empty x5 x8).size + (strOfNums y1354).size≤9223372036854775807 then (if 0≤t1352 then (if t1352 < (x5.length:Int) then (if ((rdOf ByteArray.empty x5 x8) ++ (strOfNums y1354)).toList = (rdOf ByteArray.empty x5 t1352).toList then (Z7.l1 k x4 x5 x7 x8 x26 x27 x28 x33 x34 (wrap64 (x35 + 1)) x1336000 x1336001) else ((Z23.f k (rdOf ByteArray.empty x5 t1352)).bind fun t1359=>(if ((rdOf ByteArray.empty x5 x8) ++ (strOfNums y1354)).size + t1359.size≤9223372036854775807 then ((Z66.f k (((rdOf ByteArray.empty x5 x8) ++ (strOfNums y1354)) ++ t1359)).bind fun t1360=>(if t1360 = true then (if x7.length < 8796093022208 then (Z7.l1 k x4 x5 (x7 ++ [((rdOf ByteArray.empty x5 x8) ++ (strOfNums y1354)) ++ t1359]) x8 x26 x27 x28 x33 x34 (wrap64 (x35 + 1)) x1336000 x1336001) else (none)) else (some (([]:List ByteArray),false)))) else (none)))) else (none)) else (none)) else (none))) else (none)) else (none))))) else (none)) else (none)) else (Z7.l0 k x4 x5 x7 x26 x27 (wrap64 (x28 + 1)))
end
def Z7.f (k:Nat) (l0_0:List Int) (l0_1:List Int):Option (List ByteArray × Bool):=(Z37.f k l0_0 l0_1).bind fun t1323=>(if t1323 = true then ((Z54.f k l0_0 l0_1).bind fun bt1324=>(if bt1324.2.2 = true then (Z7.l0 k bt1324.1 bt1324.2.1 (([]:List ByteArray)) bt1324.1 (bt1324.1.length:Int) 0) else (some (([]:List ByteArray),false)))) else (some (([]:List ByteArray),false)))
theorem Z7.mono_l:∀ k,(∀ y0 y1 y2 y3 y4 y5,LeO (Z7.l0 k y0 y1 y2 y3 y4 y5) (Z7.l0 (k + 1) y0 y1 y2 y3 y4 y5))∧(∀ y0 y1 y2 y3 y4 y5 y6 y7 y8 y9 y10 y11,LeO (Z7.l1 k y0 y1 y2 y3 y4 y5 y6 y7 y8 y9 y10 y11) (Z7.l1 (k + 1) y0 y1 y2 y3 y4 y5 y6 y7 y8 y9 y10 y11))
 | 0=>⟨fun _ _ _ _ _ _ r h=>by simp [Z7.l0] at h,fun _ _ _ _ _ _ _ _ _ _ _ _ r h=>by simp [Z7.l1] at h⟩
 | k + 1=>by
  obtain ⟨ih0,ih1⟩:=Z7.mono_l k
  refine ⟨?_,?_⟩
  ·intro y0 y1 y2 y3 y4 y5
   unfold Z7.l0
   repeat' first|exact ih0 _ _ _ _ _ _|exact ih1 _ _ _ _ _ _ _ _ _ _ _ _|exact Z23.mono _ _|exact Z37.mono _ _ _|exact Z66.mono _ _|exact Z51.mono _ _ _|exact Z41.mono _ _ _ _|exact Z59.mono _ _ _ _|exact Z54.mono _ _ _|exact lo_|refine LeO.ite ?_ ?_|refine LeO.bind ?_ (fun _=>?_)
  ·intro y0 y1 y2 y3 y4 y5 y6 y7 y8 y9 y10 y11
   unfold Z7.l1
   repeat' first|exact ih0 _ _ _ _ _ _|exact ih1 _ _ _ _ _ _ _ _ _ _ _ _|exact Z23.mono _ _|exact Z37.mono _ _ _|exact Z66.mono _ _|exact Z51.mono _ _ _|exact Z41.mono _ _ _ _|exact Z59.mono _ _ _ _|exact Z54.mono _ _ _|exact lo_|refine LeO.ite ?_ ?_|refine LeO.bind ?_ (fun _=>?_)
theorem Z7.mono:∀ a0 a1 k,LeO (Z7.f k a0 a1) (Z7.f (k + 1) a0 a1):=by
 intro a0 a1 k
 obtain ⟨ih0,ih1⟩:=Z7.mono_l k
 unfold Z7.f
 repeat' first|exact ih0 _ _ _ _ _ _|exact ih1 _ _ _ _ _ _ _ _ _ _ _ _|exact Z23.mono _ _|exact Z37.mono _ _ _|exact Z66.mono _ _|exact Z51.mono _ _ _|exact Z41.mono _ _ _ _|exact Z59.mono _ _ _ _|exact Z54.mono _ _ _|exact lo_|refine LeO.ite ?_ ?_|refine LeO.bind ?_ (fun _=>?_)
set_option maxHeartbeats 8000000 in
set_option maxRecDepth 100000 in
theorem Z7.calls (k:Nat) (A0_0:Option Addr) (c0_0:Nat) (l0_0:List Int) (A0_1:Option Addr) (c0_1:Nat) (l0_1:List Int) (r1:List ByteArray) (r2:Bool) (w:World) (hr0_0:Kd.C (Kd.int .i64) w A0_0 l0_0.length l0_0) (hc0_0:l0_0.length≤c0_0) (hr0_1:Kd.C (Kd.int .i64) w A0_1 l0_1.length l0_1) (hc0_1:l0_1.length≤c0_1) (h:Z7.f k l0_0 l0_1 = some (r1,r2)) :
  Calls Try.prog 48 #[.agg #[.slice A0_0 l0_0.length c0_0,.slice A0_1 l0_1.length c0_1]] w fun e w'=>∃ v0_:Value,e = .returned (.tuple #[v0_,.bool r2])∧Kd.R Kd.string 9 w' w.heap.size (fun _=>True) v0_ r1∧Below w.heap.size w w':=by
 have hu25:=Try.underlying25
 have HR0_0:=A_ hr0_0
 have HC0_0:=A_ hc0_0
 clear hr0_0 hc0_0
 have HR0_1:=A_ hr0_1
 have HC0_1:=A_ hc0_1
 clear hr0_1 hc0_1
 have HB:=A_ (Below.refl w.heap.size w)
 have H:=h
 unfold Z7.f at H
 clear h
 obtain ⟨t1323,A2,H⟩:=bi_ H
 by_cases c3:t1323 = true
 ·subst c3
  rw [if_pos rfl] at H
  obtain ⟨⟨t1324,t1327,t1330⟩,A4,H⟩:=bi_ H
  try dsimp only at H
  by_cases c5:t1330 = true
  ·subst c5
   rw [if_pos rfl] at H
   obtain ⟨y1331,hy1331⟩:∃ y_:List ByteArray,y_ = (([]:List ByteArray)):=⟨_,rfl⟩
   replace H:(Z7.l0 k t1324 t1327 y1331 t1324 (t1324.length:Int) 0) = some (r1,r2):=by first | (rw [hy1331];exact H) | exact H
   have Ny1331:=A_ hy1331
   clear hy1331
   have H':=A_ H
   clear H
   go_enter Try.func48,Try.ntmps48
   go_wp2_with (first | ((with_reducible refine gB_ (N:=1) rfl ?_);refine bx_ 1 #[.slice A0_0 l0_0.length c0_0,.slice A0_1 l0_1.length c0_1] 25 ?_;intro gb1322 hg w6 hbox hb;have BK1322:=A_ hbox;have GW1322:=gw_ w hg;have GE1322:=GW1322;replace HB:=b1_ hb;clear hb hbox hg;obtain ⟨hcz7_0,hcz7_1,hfz7_0,hfz7_1⟩:=c2_ BK1322) | ((with_reducible refine gA_ (f:=80) rfl ?_);refine gL_ (some 15) Try.func80 #[.agg #[.slice A0_0 l0_0.length c0_0,.slice A0_1 l0_1.length c0_1]] rfl qa_ ?_;(with_reducible refine (Z37.calls k _ _ l0_0 _ _ l0_1 true _ (cb_ HR0_0) HC0_0.out (cb_ HR0_1) HC0_1.out A2.out).mono ?_);rintro e w8 ⟨rfl,hb⟩;refine ⟨_,rfl,?_⟩;replace BK1322:=bb_ BK1322 hb;replace HB:=b1_ hb;clear hb;obtain ⟨hcz9_0,hcz9_1,hfz9_0,hfz9_1⟩:=c2_ BK1322) | ((with_reducible refine gA_ (f:=84) rfl ?_);refine gL_ (some 19) Try.func84 #[.agg #[.slice A0_0 l0_0.length c0_0,.slice A0_1 l0_1.length c0_1]] rfl qa_ ?_;(with_reducible refine (Z54.calls k _ _ l0_0 _ _ l0_1 t1324 t1327 true _ (cb_ HR0_0) HC0_0.out (cb_ HR0_1) HC0_1.out A4.out).mono ?_);rintro e w10 ⟨v1325,v1328,rfl,ho0,ho1,hb⟩;refine ⟨_,rfl,?_⟩;have HO1326:=A_ (Kd.N_lower (Kd.N_mono (ok':=fun k_=>some k_≠(v1328:Value).ownBlock∧k_≠gb1322) ho0 (fun k_ hk_=>⟨hk_.2,(Kd.freshB (kk_ BK1322) k_ hk_.1)⟩)) (bF_ hB_));have HO1329:=A_ (rE_ (Kd.R_mono (ok':=fun k_=>True) ho1 (fun _ hk_=>trivial)) (bF_ hB_));replace BK1322:=bb_ BK1322 hb;replace HB:=b1_ hb;clear hb ho0 ho1) | ((with_reducible refine gB_ (N:=25) rfl ?_);refine Kd.R_lit Kd.string _ 9 ?hg (N:=25) ?hd (xs:=([]:List ByteArray)) (inner:=[]) (ok:=fun _=>True) (okp:=fun _=>True) ?hr ?hp (fun _ hk=>hk) trivial (Below.refl _ _) (nA_ _) (by simp) ?_;(case hd=>rfl);(case hg=>rfl);(case hr=>first | (go_simp;done) | (go_simp;rfl));(case hp=>exact (Reps.none _ _));intro v1332 w11 ho12 hb hg_ hnew_;clear hg_ hnew_;(first | rw [← Ny1331.out] at ho12 | (simp only [Int.reduceToNat] at ho12;rw [← Ny1331.out] at ho12));replace HO1326:=A_ (Kd.N_elder' (by (with_reducible repeat (first | apply Kd.N_alloc | apply Kd.N_drewN | apply Kd.N_drew));exact HO1326.out) (Kd.R_base ho12) hb);have HO1333:=A_ (rE_ (Kd.R_new' ho12 (Kd.R_lt (rr_ HO1329))) (bF_ hB_));replace HO1329:=A_ (Kd.R_elder' (rr_ HO1329) (Kd.R_base ho12) hb);replace BK1322:=bb_ BK1322 hb;replace HB:=b1_ hb;clear hb ho12;obtain ⟨Ao13,co13,eo13⟩:=Kd.N_slice HO1326.out;subst eo13))
   go_loopg [7,28] k (fun kq v7 v28 w'=>∃ (x7_1:List ByteArray) (x28_1:Int),v28 = .int .i64 x28_1∧Aside0 (Z7.l0 kq t1324 t1327 x7_1 t1324 (t1324.length:Int) x28_1 = some (r1,r2))∧Aside0 (kq≤k)∧Aside0 (Kd.N k25 25 w' w.heap.size (fun k_=>some k_≠(v1328:Value).ownBlock∧some k_≠(v7:Value).ownBlock∧k_≠gb1322) (.slice Ao13 t1324.length co13) t1324)∧Aside0 (Kd.R Kd.string 9 w' w.heap.size (fun k_=>some k_≠(v7:Value).ownBlock) v1328 t1327)∧Aside0 (Kd.R Kd.string 9 w' w.heap.size (fun k_=>some k_≠(v1328:Value).ownBlock) v7 x7_1)∧Aside0 (Kd.N k25 25 w' w.heap.size (fun k_=>some k_≠(v1328:Value).ownBlock∧some k_≠(v7:Value).ownBlock∧k_≠gb1322) (.slice Ao13 t1324.length co13) t1324)∧Aside0 (w'.heap[gb1322]? = some (.cells #[(.slice A0_0 l0_0.length c0_0),(.slice A0_1 l0_1.length c0_1)] 25 (0,0)))∧Aside0 (Below w.heap.size w w'))
   case atStart=>exact ⟨(y1331),(0),qc_,H',⟨nA_ _⟩,⟨by (with_reducible repeat (first | apply Kd.N_alloc | apply Kd.N_drewN | apply Kd.N_drew));exact Kd.N_mono HO1326.out (fun _ hk=>⟨hk.1.1,⟨hk.2,hk.1.2⟩⟩)⟩,⟨(rw_ (Kd.R_mono HO1329.out (fun _ hk=>hk.2)))⟩,⟨(rw_ (Kd.R_mono HO1333.out (fun _ hk=>hk.2)))⟩,⟨by (with_reducible repeat (first | apply Kd.N_alloc | apply Kd.N_drewN | apply Kd.N_drew));exact Kd.N_mono HO1326.out (fun _ hk=>⟨hk.1.1,⟨hk.2,hk.1.2⟩⟩)⟩,⟨(kk_ BK1322)⟩,⟨hB_⟩⟩
   case round =>
    clear H'
    obtain ⟨x7_1,x28_1,rfl,HA,HK1,HO_4,HO_5,HO_7,HO_26,BK1322,HB⟩:=hrel
    cases gk with
    | zero=>exact absurd HA.out (by simp [Z7.l0])
    | succ k1 =>
     have H:=HA.out
     clear HA
     simp only [Z7.l0] at H
     by_cases c14:x28_1 < (t1324.length:Int)
     ·rw [if_pos c14] at H
      have c14b0:=oC_ c14
      clear c14
      replace H:=cx_ H;obtain ⟨c15b0,H⟩:=H
      replace H:=cx_ H;obtain ⟨c16b0,H⟩:=H
      obtain ⟨y1336,hy1336⟩:∃ y_:List Int,y_ = (([84,83]:List Int)):=⟨_,rfl⟩
      replace H:(Z7.l1 k1 t1324 t1327 x7_1 x28_1 t1324 (t1324.length:Int) x28_1 y1336 (y1336.length:Int) 0 ((rd_T25 t1324 x28_1).f0) ((rd_T25 t1324 x28_1).f1)) = some (r1,r2):=by first | (rw [hy1336];exact H) | exact H
      have Ny1336:=A_ hy1336
      clear hy1336
      have H':=A_ H
      clear H
      have p1334:0≤(x28_1:Int):=oB_ qe_
      have q1334:x28_1 < (t1324.length:Int):=oB_ qe_
      obtain ⟨ad1334,A1334_0,c1334_0,A1334_1,c1334_1,e1334,hx1334_0,hx1334_1,hl1334_0,hi1334_0,hl1334_1,hi1334_1⟩:=at_T25 (Kd.N_reads' HO_26.out).2.2 x28_1 p1334 q1334
      cases e1334
      obtain ⟨ce1334,hce1334,hMe1334,hcc1334⟩:=Kd.N_get HO_26.out z25 x28_1 p1334 (by first | exact q1334 | exact oB_ qe_ | (have e_:=(Kd.N_reads' HO_26.out).1;omega))
      obtain ⟨ua1334_0,uc1334_0,ua1334_1,uc1334_1,rfl,ul1334_0,ge1334_0,ul1334_1,ge1334_1⟩:=k25_openF hMe1334
      have hv1334_0:=hcc1334 0 _ rfl
      rw [Nat.add_zero] at hv1334_0
      replace hv1334_0:=Option.some.inj (hv1334_0.symm.trans hx1334_0)
      injection hv1334_0 with hva_ hvn_ hvc_
      rw [hva_] at ge1334_0
      rw [hvc_] at ul1334_0
      have HL1334_0:=A_ (show Kd.V (Kd.int .i64) 3 _ w.heap.size _ _ ((rd_T25 t1324 x28_1).f0) from Kd.V_mk ul1334_0 ge1334_0)
      clear hva_ hvn_ hvc_ ge1334_0 ul1334_0
      have hv1334_1:=hcc1334 1 _ rfl
      rw [add_field _ _ 1 (by omega)] at hv1334_1
      replace hv1334_1:=Option.some.inj (hv1334_1.symm.trans hx1334_1)
      injection hv1334_1 with hva_ hvn_ hvc_
      rw [hva_] at ge1334_1
      rw [hvc_] at ul1334_1
      have HL1334_1:=A_ (show Kd.V (Kd.int .i64) 3 _ w.heap.size _ _ ((rd_T25 t1324 x28_1).f1) from Kd.V_mk ul1334_1 ge1334_1)
      clear hva_ hvn_ hvc_ ge1334_1 ul1334_1
      clear hcc1334 hce1334
      have HR1334_0:=A_ hi1334_0
      have HC1334_0:=A_ hl1334_0
      clear hi1334_0 hl1334_0
      have HR1334_1:=A_ hi1334_1
      have HC1334_1:=A_ hl1334_1
      clear hi1334_1 hl1334_1
      replace p1334:=eq_true p1334
      replace q1334:=eq_true q1334
      go_wp2_with (first | ((with_reducible refine gB_ (N:=9) rfl ?_);refine bx_ 9 #[.slice none 0 0,.slice none 0 0] 25 ?_;intro gb1335 hg w17 hbox hb;replace HO_4:=A_ (Kd.N_below (Kd.N_elderB (by (with_reducible repeat (first | apply Kd.N_alloc | apply Kd.N_drewN | apply Kd.N_drew));exact HO_4.out) gb1335 (Nat.le_of_eq hg.symm)) hb);replace HO_5:=rb_ HO_5 hb;replace HO_7:=rb_ HO_7 hb;replace HO_26:=A_ (Kd.N_below (Kd.N_elderB (by (with_reducible repeat (first | apply Kd.N_alloc | apply Kd.N_drewN | apply Kd.N_drew));exact HO_26.out) gb1335 (Nat.le_of_eq hg.symm)) hb);replace HL1334_0:=A_ (Kd.V_below (Kd.V_elderB (by (with_reducible repeat (first | apply Kd.V_alloc | apply Kd.V_drewN | apply Kd.V_drew));exact HL1334_0.out) gb1335 (Nat.le_of_eq hg.symm)) hb);replace HL1334_1:=A_ (Kd.V_below (Kd.V_elderB (by (with_reducible repeat (first | apply Kd.V_alloc | apply Kd.V_drewN | apply Kd.V_drew));exact HL1334_1.out) gb1335 (Nat.le_of_eq hg.symm)) hb);replace HR1334_0:=A_ (cD_ (by repeat (first | (with_reducible exact HR1334_0.out) | (with_reducible refine cA_ ?_ _) | (with_reducible refine cB_ ?_ _) | (with_reducible refine cC_ ?_) | exact HR1334_0.out)) hb);replace HR1334_1:=A_ (cD_ (by repeat (first | (with_reducible exact HR1334_1.out) | (with_reducible refine cA_ ?_ _) | (with_reducible refine cB_ ?_ _) | (with_reducible refine cC_ ?_) | exact HR1334_1.out)) hb);have BK1335:=A_ hbox;have GW1335:=gw_ w hg;have GE1335:=GW1335;replace HB:=b1_ hb;have NB1322_1335:=gN_ BK1322 hg;have NB1335_1322:=gP_ BK1322 hg;replace BK1322:=bb_ BK1322 hb;clear hb hbox hg;have hnb18:=NB1335_1322.out;have hnc18:=NB1322_1335.out;obtain ⟨hcz19_0,hcz19_1,hfz19_0,hfz19_1⟩:=c2_ BK1335) | ((with_reducible refine gB_ (N:=33) rfl ?_);refine Kd.R_lit (Kd.int .u8) _ 5 ?hg (N:=33) ?hd (xs:=([84,83]:List Int)) (inner:=[.int .u8 84,.int .u8 83]) (ok:=fun _=>True) (okp:=fun _=>True) ?hr ?hp (fun _ hk=>hk) trivial (Below.refl _ _) (nA_ _) (by simp) ?_;(case hd=>rfl);(case hg=>rfl);(case hr=>first | (go_simp;done) | (go_simp;rfl));(case hp=>exact (Reps.one (show Kd.M (Kd.int .u8) _ _ _ 84 [.int .u8 84] from rfl) (Reps.one (show Kd.M (Kd.int .u8) _ _ _ 83 [.int .u8 83] from rfl) (Reps.none _ _))));intro v1337 w20 ho21 hb hg_ hnew_;clear hg_ hnew_;(first | rw [← Ny1336.out] at ho21 | (simp only [Int.reduceToNat] at ho21;rw [← Ny1336.out] at ho21));replace HO_4:=A_ (Kd.N_elder' (by (with_reducible repeat (first | apply Kd.N_alloc | apply Kd.N_drewN | apply Kd.N_drew));exact (Kd.N_mono (Kd.N_far (p:=⟨gb1335,1,none⟩) (Kd.N_far (p:=⟨gb1335,0,none⟩) (Kd.N_mono HO_4.out (fun k_ hk=>(⟨hk,hk.2⟩:_∧k_≠gb1335))) (fun _ hk=>hk.2) (.slice A1334_0 ((rd_T25 t1324 x28_1).f0).length c1334_0)) (fun _ hk=>hk.2) (.slice A1334_1 ((rd_T25 t1324 x28_1).f1).length c1334_1)) (fun _ h_=>h_.1))) (Kd.R_base ho21) hb);replace HO_5:=A_ (rD_ (rw_ (Kd.R_mono (Kd.R_far (p:=⟨gb1335,1,none⟩) (Kd.R_far (p:=⟨gb1335,0,none⟩) (Kd.R_types HO_5.out BK1335.out (by decide)) (fun _ hk=>hk.2) (.slice A1334_0 ((rd_T25 t1324 x28_1).f0).length c1334_0)) (fun _ hk=>hk.2) (.slice A1334_1 ((rd_T25 t1324 x28_1).f1).length c1334_1)) (fun _ h_=>h_.1))) hb);replace HO_7:=A_ (rD_ (rw_ (Kd.R_mono (Kd.R_far (p:=⟨gb1335,1,none⟩) (Kd.R_far (p:=⟨gb1335,0,none⟩) (Kd.R_types HO_7.out BK1335.out (by decide)) (fun _ hk=>hk.2) (.slice A1334_0 ((rd_T25 t1324 x28_1).f0).length c1334_0)) (fun _ hk=>hk.2) (.slice A1334_1 ((rd_T25 t1324 x28_1).f1).length c1334_1)) (fun _ h_=>h_.1))) hb);replace HO_26:=A_ (Kd.N_elder' (by (with_reducible repeat (first | apply Kd.N_alloc | apply Kd.N_drewN | apply Kd.N_drew));exact (Kd.N_mono (Kd.N_far (p:=⟨gb1335,1,none⟩) (Kd.N_far (p:=⟨gb1335,0,none⟩) (Kd.N_mono HO_26.out (fun k_ hk=>(⟨hk,hk.2⟩:_∧k_≠gb1335))) (fun _ hk=>hk.2) (.slice A1334_0 ((rd_T25 t1324 x28_1).f0).length c1334_0)) (fun _ hk=>hk.2) (.slice A1334_1 ((rd_T25 t1324 x28_1).f1).length c1334_1)) (fun _ h_=>h_.1))) (Kd.R_base ho21) hb);have HO1338:=rl_ w ho21;replace BK1322:=A_ (kE_ (g:=gb1322) (o:=.cells #[.slice A0_0 l0_0.length c0_0,.slice A0_1 l0_1.length c0_1] 25 (0,0)) (by (with_reducible repeat (first | refine kA_ ?_ _ | refine kB_ ?_ | refine kC_ ?_ _));refine blk_far ?_ NB1322_1335.out _;(with_reducible repeat (first | refine kA_ ?_ _ | refine kB_ ?_ | refine kC_ ?_ _));refine blk_far ?_ NB1322_1335.out _;(with_reducible repeat (first | refine kA_ ?_ _ | refine kB_ ?_ | refine kC_ ?_ _));exact BK1322.out) hb);replace HR1334_0:=A_ (cD_ ((Kd.V_reads' (by (with_reducible repeat (first | apply Kd.V_alloc | apply Kd.V_drewN | apply Kd.V_drew));exact (Kd.V_mono (Kd.V_far (p:=⟨gb1335,1,none⟩) (Kd.V_far (p:=⟨gb1335,0,none⟩) (Kd.V_mono HL1334_0.out (fun k_ hk=>(⟨hk,hk.2⟩:_∧k_≠gb1335))) (fun _ hk=>hk.2) (.slice A1334_0 ((rd_T25 t1324 x28_1).f0).length c1334_0)) (fun _ hk=>hk.2) (.slice A1334_1 ((rd_T25 t1324 x28_1).f1).length c1334_1)) (fun _ h_=>h_.1)))).2.2) hb);replace HL1334_0:=A_ (Kd.V_elder' (by (with_reducible repeat (first | apply Kd.V_alloc | apply Kd.V_drewN | apply Kd.V_drew));exact (Kd.V_mono (Kd.V_far (p:=⟨gb1335,1,none⟩) (Kd.V_far (p:=⟨gb1335,0,none⟩) (Kd.V_mono HL1334_0.out (fun k_ hk=>(⟨hk,hk.2⟩:_∧k_≠gb1335))) (fun _ hk=>hk.2) (.slice A1334_0 ((rd_T25 t1324 x28_1).f0).length c1334_0)) (fun _ hk=>hk.2) (.slice A1334_1 ((rd_T25 t1324 x28_1).f1).length c1334_1)) (fun _ h_=>h_.1))) (Kd.R_base ho21) hb);replace HR1334_1:=A_ (cD_ ((Kd.V_reads' (by (with_reducible repeat (first | apply Kd.V_alloc | apply Kd.V_drewN | apply Kd.V_drew));exact (Kd.V_mono (Kd.V_far (p:=⟨gb1335,1,none⟩) (Kd.V_far (p:=⟨gb1335,0,none⟩) (Kd.V_mono HL1334_1.out (fun k_ hk=>(⟨hk,hk.2⟩:_∧k_≠gb1335))) (fun _ hk=>hk.2) (.slice A1334_0 ((rd_T25 t1324 x28_1).f0).length c1334_0)) (fun _ hk=>hk.2) (.slice A1334_1 ((rd_T25 t1324 x28_1).f1).length c1334_1)) (fun _ h_=>h_.1)))).2.2) hb);replace HL1334_1:=A_ (Kd.V_elder' (by (with_reducible repeat (first | apply Kd.V_alloc | apply Kd.V_drewN | apply Kd.V_drew));exact (Kd.V_mono (Kd.V_far (p:=⟨gb1335,1,none⟩) (Kd.V_far (p:=⟨gb1335,0,none⟩) (Kd.V_mono HL1334_1.out (fun k_ hk=>(⟨hk,hk.2⟩:_∧k_≠gb1335))) (fun _ hk=>hk.2) (.slice A1334_0 ((rd_T25 t1324 x28_1).f0).length c1334_0)) (fun _ hk=>hk.2) (.slice A1334_1 ((rd_T25 t1324 x28_1).f1).length c1334_1)) (fun _ h_=>h_.1))) (Kd.R_base ho21) hb);replace BK1335:=A_ (kE_ (g:=gb1335) (o:=.cells #[.slice A1334_0 ((rd_T25 t1324 x28_1).f0).length c1334_0,.slice A1334_1 ((rd_T25 t1324 x28_1).f1).length c1334_1] 25 (0,0)) qp_ hb);replace HB:=b1_ hb;clear hb ho21;obtain ⟨Ao22,co22,eo22⟩:=Kd.R_slice HO1338.out;subst eo22))
      go_loopg [7,35] k1 (fun kq v7 v35 w'=>∃ (x7_2:List ByteArray) (x35_2:Int),v35 = .int .i64 x35_2∧Aside0 (Z7.l1 kq t1324 t1327 x7_2 x28_1 t1324 (t1324.length:Int) x28_1 y1336 (y1336.length:Int) x35_2 ((rd_T25 t1324 x28_1).f0) ((rd_T25 t1324 x28_1).f1) = some (r1,r2))∧Aside0 (kq≤k1)∧Aside0 (Kd.N k25 25 w' w.heap.size (fun k_=>some k_≠(v1328:Value).ownBlock∧some k_≠(v7:Value).ownBlock∧some k_≠((.slice Ao22 y1336.length co22):Value).ownBlock∧k_≠gb1322∧k_≠gb1335) (.slice (some ad1334) t1324.length co13) t1324)∧Aside0 (Kd.R Kd.string 9 w' w.heap.size (fun k_=>some k_≠(v7:Value).ownBlock) v1328 t1327)∧Aside0 (Kd.R Kd.string 9 w' w.heap.size (fun k_=>some k_≠(v1328:Value).ownBlock) v7 x7_2)∧Aside0 (Kd.N k25 25 w' w.heap.size (fun k_=>some k_≠(v1328:Value).ownBlock∧some k_≠(v7:Value).ownBlock∧some k_≠((.slice Ao22 y1336.length co22):Value).ownBlock∧k_≠gb1322∧k_≠gb1335) (.slice (some ad1334) t1324.length co13) t1324)∧Aside0 (Kd.R (Kd.int .u8) 5 w' w.heap.size (fun _=>True) (.slice Ao22 y1336.length co22) y1336)∧Aside0 (Kd.V (Kd.int .i64) 3 w' w.heap.size (fun k_=>some k_≠(v1328:Value).ownBlock∧some k_≠(v7:Value).ownBlock∧some k_≠((.slice (some ad1334) t1324.length co13):Value).ownBlock∧some k_≠((.slice Ao22 y1336.length co22):Value).ownBlock∧k_≠gb1322∧k_≠gb1335) (.slice A1334_0 ((rd_T25 t1324 x28_1).f0).length c1334_0) ((rd_T25 t1324 x28_1).f0))∧Aside0 (Kd.V (Kd.int .i64) 3 w' w.heap.size (fun k_=>some k_≠(v1328:Value).ownBlock∧some k_≠(v7:Value).ownBlock∧some k_≠((.slice (some ad1334) t1324.length co13):Value).ownBlock∧some k_≠((.slice Ao22 y1336.length co22):Value).ownBlock∧k_≠gb1322∧k_≠gb1335) (.slice A1334_1 ((rd_T25 t1324 x28_1).f1).length c1334_1) ((rd_T25 t1324 x28_1).f1))∧Aside0 (w'.heap[gb1322]? = some (.cells #[(.slice A0_0 l0_0.length c0_0),(.slice A0_1 l0_1.length c0_1)] 25 (0,0)))∧Aside0 (w'.heap[gb1335]? = some (.cells #[(.slice A1334_0 ((rd_T25 t1324 x28_1).f0).length c1334_0),(.slice A1334_1 ((rd_T25 t1324 x28_1).f1).length c1334_1)] 25 (0,0)))∧Aside0 (Below w.heap.size w w'))
      case atStart=>exact ⟨(x7_1),(0),qc_,H',⟨nA_ _⟩,⟨by (with_reducible repeat (first | apply Kd.N_alloc | apply Kd.N_drewN | apply Kd.N_drew));exact Kd.N_mono HO_4.out (fun _ hk=>⟨hk.1.1.1,⟨hk.1.1.2.1,⟨hk.2,⟨hk.1.1.2.2,hk.1.2⟩⟩⟩⟩)⟩,⟨(rr_ HO_5)⟩,⟨(rr_ HO_7)⟩,⟨by (with_reducible repeat (first | apply Kd.N_alloc | apply Kd.N_drewN | apply Kd.N_drew));exact Kd.N_mono HO_26.out (fun _ hk=>⟨hk.1.1.1,⟨hk.1.1.2.1,⟨hk.2,⟨hk.1.1.2.2,hk.1.2⟩⟩⟩⟩)⟩,⟨(rr_ HO1338)⟩,⟨by (with_reducible repeat (first | apply Kd.V_alloc | apply Kd.V_drewN | apply Kd.V_drew));exact Kd.V_mono HL1334_0.out (fun _ hk=>⟨hk.1.1.1.1,⟨hk.1.1.1.2.1,⟨hk.1.1.2,⟨hk.2,⟨hk.1.1.1.2.2,hk.1.2⟩⟩⟩⟩⟩)⟩,⟨by (with_reducible repeat (first | apply Kd.V_alloc | apply Kd.V_drewN | apply Kd.V_drew));exact Kd.V_mono HL1334_1.out (fun _ hk=>⟨hk.1.1.1.1,⟨hk.1.1.1.2.1,⟨hk.1.1.2,⟨hk.2,⟨hk.1.1.1.2.2,hk.1.2⟩⟩⟩⟩⟩)⟩,⟨(kk_ BK1322)⟩,⟨(kk_ BK1335)⟩,⟨hB_⟩⟩
      case round =>
       clear H'
       obtain ⟨x7_2,x35_2,rfl,HA,HK2,HO_4,HO_5,HO_7,HO_26,HO_33,HO_1336000,HO_1336001,BK1322,BK1335,HB⟩:=hrel
       cases gk with
       | zero=>exact absurd HA.out (by simp [Z7.l1])
       | succ k2 =>
        have H:=HA.out
        clear HA
        simp only [Z7.l1] at H
        by_cases c23:x35_2 < (y1336.length:Int)
        ·rw [if_pos c23] at H
         have c23b0:=oC_ c23
         clear c23
         replace H:=cx_ H;obtain ⟨c24b0,H⟩:=H
         replace H:=cx_ H;obtain ⟨c25b0,H⟩:=H
         obtain ⟨⟨t1340,t1343⟩,A26,H⟩:=bi_ H
         try dsimp only at H
         obtain ⟨⟨t1346,t1349⟩,A27,H⟩:=bi_ H
         try dsimp only at H
         obtain ⟨t1352,A28,H⟩:=bi_ H
         replace H:=cx_ H;obtain ⟨c29b0,H⟩:=H
         replace H:=cx_ H;obtain ⟨c30b0,H⟩:=H
         obtain ⟨y1354,hy1354⟩:∃ y_:List Int,y_ = (([rd y1336 x35_2]:List Int)):=⟨_,rfl⟩
         replace H:(if (rdOf ByteArray.empty t1327 x28_1).size + (strOfNums y1354).size≤9223372036854775807 then (if 0≤t1352 then (if t1352 < (t1327.length:Int) then (if ((rdOf ByteArray.empty t1327 x28_1) ++ (strOfNums y1354)).toList = (rdOf ByteArray.empty t1327 t1352).toList then (Z7.l1 k2 t1324 t1327 x7_2 x28_1 t1324 (t1324.length:Int) x28_1 y1336 (y1336.length:Int) (wrap64 (x35_2 + 1)) ((rd_T25 t1324 x28_1).f0) ((rd_T25 t1324 x28_1).f1)) else ((Z23.f k2 (rdOf ByteArray.empty t1327 t1352)).bind fun t1359=>(if ((rdOf ByteArray.empty t1327 x28_1) ++ (strOfNums y1354)).size + t1359.size≤9223372036854775807 then ((Z66.f k2 (((rdOf ByteArray.empty t1327 x28_1) ++ (strOfNums y1354)) ++ t1359)).bind fun t1360=>(if t1360 = true then (if x7_2.length < 8796093022208 then (Z7.l1 k2 t1324 t1327 (x7_2 ++ [((rdOf ByteArray.empty t1327 x28_1) ++ (strOfNums y1354)) ++ t1359]) x28_1 t1324 (t1324.length:Int) x28_1 y1336 (y1336.length:Int) (wrap64 (x35_2 + 1)) ((rd_T25 t1324 x28_1).f0) ((rd_T25 t1324 x28_1).f1)) else (none)) else (some (([]:List ByteArray),false)))) else (none)))) else (none)) else (none)) else (none)) = some (r1,r2):=by first | (rw [hy1354];exact H) | exact H
         have Ny1354:=A_ hy1354
         clear hy1354
         have c31:=cp_ H
         replace H:=ca_ H
         have c31b0:=eq_true c31
         have c31b1:=oC_ c31
         try have c31b2:(9223372036854775807 < (rdOf ByteArray.empty t1327 x28_1).size + (strOfNums y1354).size) = False:=eq_false (Nat.not_lt.2 c31)
         replace H:=cx_ H;obtain ⟨c32b0,H⟩:=H
         replace H:=cx_ H;obtain ⟨c33b0,H⟩:=H
         by_cases c34:((rdOf ByteArray.empty t1327 x28_1) ++ (strOfNums y1354)).toList = (rdOf ByteArray.empty t1327 t1352).toList
         ·rw [if_pos c34] at H
          have c34b0:(((rdOf ByteArray.empty t1327 x28_1) ++ (strOfNums y1354)).toList == (rdOf ByteArray.empty t1327 t1352).toList) = true:=beq_iff_eq.mpr c34
          have c34b1:(((rdOf ByteArray.empty t1327 x28_1) ++ (strOfNums y1354)).toList != (rdOf ByteArray.empty t1327 t1352).toList) = false:=bne_eq_false_iff_eq.mpr c34
          clear c34
          have H':=A_ H
          clear H
          have p1339:0≤(x35_2:Int):=oB_ qe_
          have q1339:x35_2 < (y1336.length:Int):=oB_ qe_
          obtain ⟨ad1339,e1339,hx1339_0⟩:=Kd.at_int (Kd.R_reads' HO_33.out).2.2 x35_2 p1339 q1339
          cases e1339
          replace p1339:=eq_true p1339
          replace q1339:=eq_true q1339
          have hnb35:=NB1335_1322.out
          have hnc35:=NB1322_1335.out
          have hcz36_0:wr.cell? ⟨gb1335,0,none⟩ = some (.slice A1334_0 ((rd_T25 t1324 x28_1).f0).length c1334_0):=cz0_ BK1335
          have hcz36_1:wr.cell? ⟨gb1335,1,none⟩ = some (.slice A1334_1 ((rd_T25 t1324 x28_1).f1).length c1334_1):=cz1_ BK1335
          have hfz36_0:=kD_ BK1335.out 0
          have hfz36_1:=kD_ BK1335.out 1
          try go_wp2_with (first | ((with_reducible refine gA_ (f:=87) rfl ?_);refine gL_ (some 42) Try.func87 #[.agg #[.slice A1334_0 ((rd_T25 t1324 x28_1).f0).length c1334_0,.slice A1334_1 ((rd_T25 t1324 x28_1).f1).length c1334_1],.int .u8 (rd y1336 x35_2)] rfl qa_ ?_;(with_reducible refine (Z41.calls k2 _ _ ((rd_T25 t1324 x28_1).f0) _ _ ((rd_T25 t1324 x28_1).f1) (rd y1336 x35_2) t1340 t1343 _ (cw_ ((Kd.V_reads' HO_1336000.out).2.2)) ((Kd.V_reads' HO_1336000.out).2.1) (cw_ ((Kd.V_reads' HO_1336001.out).2.2)) ((Kd.V_reads' HO_1336001.out).2.1) A26.out).mono ?_);rintro e w37 ⟨v1341,v1344,rfl,ho0,ho1,hb⟩;refine ⟨_,rfl,?_⟩;replace HO_4:=A_ (Kd.N_mono (Kd.N_told (Kd.N_told (Kd.N_old (by (with_reducible repeat (first | apply Kd.N_alloc | apply Kd.N_drewN | apply Kd.N_drew));exact HO_4.out) hb) (Kd.R_base ho0)) (Kd.R_base ho1)) (fun _ h_=>h_.1));replace HO_5:=rb_ HO_5 hb;replace HO_7:=rb_ HO_7 hb;replace HO_26:=A_ (Kd.N_mono (Kd.N_told (Kd.N_told (Kd.N_old (by (with_reducible repeat (first | apply Kd.N_alloc | apply Kd.N_drewN | apply Kd.N_drew));exact HO_26.out) hb) (Kd.R_base ho0)) (Kd.R_base ho1)) (fun _ h_=>h_.1));replace HO_33:=rb_ HO_33 hb;replace HO_1336000:=A_ (Kd.V_mono (Kd.V_told (Kd.V_told (Kd.V_old (by (with_reducible repeat (first | apply Kd.V_alloc | apply Kd.V_drewN | apply Kd.V_drew));exact HO_1336000.out) hb) (Kd.R_base ho0)) (Kd.R_base ho1)) (fun _ h_=>h_.1));replace HO_1336001:=A_ (Kd.V_mono (Kd.V_told (Kd.V_told (Kd.V_old (by (with_reducible repeat (first | apply Kd.V_alloc | apply Kd.V_drewN | apply Kd.V_drew));exact HO_1336001.out) hb) (Kd.R_base ho0)) (Kd.R_base ho1)) (fun _ h_=>h_.1));have HO1342:=rl_ w ho0;have HO1345:=rl_ w ho1;replace BK1322:=bb_ BK1322 hb;replace BK1335:=bb_ BK1335 hb;replace HB:=b1_ hb;clear hb ho0 ho1;obtain ⟨Ao38,co38,eo38⟩:=Kd.R_slice HO1342.out;subst eo38;obtain ⟨Ao39,co39,eo39⟩:=Kd.R_slice HO1345.out;subst eo39) | ((with_reducible refine gA_ (f:=82) rfl ?_);refine gL_ (some 43) Try.func82 #[.agg #[.slice Ao38 t1340.length co38,.slice Ao39 t1343.length co39]] rfl qa_ ?_;(with_reducible refine (Z51.calls k2 _ _ t1340 _ _ t1343 t1346 t1349 _ (cr_ HO1342) ((Kd.R_reads' HO1342.out).2.1) (cr_ HO1345) ((Kd.R_reads' HO1345.out).2.1) A27.out).mono ?_);rintro e w40 ⟨v1347,v1350,rfl,ho0,ho1,hb⟩;refine ⟨_,rfl,?_⟩;replace HO_4:=A_ (Kd.N_mono (Kd.N_told (Kd.N_told (Kd.N_old (by (with_reducible repeat (first | apply Kd.N_alloc | apply Kd.N_drewN | apply Kd.N_drew));exact HO_4.out) hb) (Kd.R_base ho0)) (Kd.R_base ho1)) (fun _ h_=>h_.1));replace HO_5:=rb_ HO_5 hb;replace HO_7:=rb_ HO_7 hb;replace HO_26:=A_ (Kd.N_mono (Kd.N_told (Kd.N_told (Kd.N_old (by (with_reducible repeat (first | apply Kd.N_alloc | apply Kd.N_drewN | apply Kd.N_drew));exact HO_26.out) hb) (Kd.R_base ho0)) (Kd.R_base ho1)) (fun _ h_=>h_.1));replace HO_33:=rb_ HO_33 hb;replace HO_1336000:=A_ (Kd.V_mono (Kd.V_told (Kd.V_told (Kd.V_old (by (with_reducible repeat (first | apply Kd.V_alloc | apply Kd.V_drewN | apply Kd.V_drew));exact HO_1336000.out) hb) (Kd.R_base ho0)) (Kd.R_base ho1)) (fun _ h_=>h_.1));replace HO_1336001:=A_ (Kd.V_mono (Kd.V_told (Kd.V_told (Kd.V_old (by (with_reducible repeat (first | apply Kd.V_alloc | apply Kd.V_drewN | apply Kd.V_drew));exact HO_1336001.out) hb) (Kd.R_base ho0)) (Kd.R_base ho1)) (fun _ h_=>h_.1));have HO1348:=A_ (rE_ (Kd.R_new' (Kd.R_new' ho0 (Kd.R_lt (rr_ HO1342))) (Kd.R_lt (rr_ HO1345))) (bF_ hB_));have HO1351:=A_ (rE_ (Kd.R_new' (Kd.R_new' ho1 (Kd.R_lt (rr_ HO1342))) (Kd.R_lt (rr_ HO1345))) (bF_ hB_));replace HO1342:=A_ (Kd.R_mono (Kd.R_told (Kd.R_told (Kd.R_old (rr_ HO1342) hb) (Kd.R_base ho0)) (Kd.R_base ho1)) (fun _ h_=>h_.1));replace HO1345:=A_ (Kd.R_mono (Kd.R_told (Kd.R_told (Kd.R_old (rr_ HO1345) hb) (Kd.R_base ho0)) (Kd.R_base ho1)) (fun _ h_=>h_.1));replace BK1322:=bb_ BK1322 hb;replace BK1335:=bb_ BK1335 hb;replace HB:=b1_ hb;clear hb ho0 ho1;obtain ⟨Ao41,co41,eo41⟩:=Kd.R_slice HO1348.out;subst eo41;obtain ⟨Ao42,co42,eo42⟩:=Kd.R_slice HO1351.out;subst eo42) | ((with_reducible refine gA_ (f:=81) rfl ?_);refine gL_ (some 44) Try.func81 #[.slice (some ad1334) t1324.length co13,.agg #[.slice Ao41 t1346.length co41,.slice Ao42 t1349.length co42]] rfl qa_ ?_;(with_reducible refine (Z59.calls k2 _ _ t1324 _ _ t1346 _ _ t1349 t1352 _ (cw_ ((Kd.N_reads' HO_4.out).2.2)) ((Kd.N_reads' HO_4.out).2.1) (cr_ HO1348) ((Kd.R_reads' HO1348.out).2.1) (cr_ HO1351) ((Kd.R_reads' HO1351.out).2.1) A28.out).mono ?_);rintro e w43 ⟨rfl,hb⟩;refine ⟨_,rfl,?_⟩;replace HO_4:=A_ (Kd.N_below (by (with_reducible repeat (first | apply Kd.N_alloc | apply Kd.N_drewN | apply Kd.N_drew));exact HO_4.out) hb);replace HO_5:=rb_ HO_5 hb;replace HO_7:=rb_ HO_7 hb;replace HO_26:=A_ (Kd.N_below (by (with_reducible repeat (first | apply Kd.N_alloc | apply Kd.N_drewN | apply Kd.N_drew));exact HO_26.out) hb);replace HO_33:=rb_ HO_33 hb;replace HO_1336000:=A_ (Kd.V_below (by (with_reducible repeat (first | apply Kd.V_alloc | apply Kd.V_drewN | apply Kd.V_drew));exact HO_1336000.out) hb);replace HO_1336001:=A_ (Kd.V_below (by (with_reducible repeat (first | apply Kd.V_alloc | apply Kd.V_drewN | apply Kd.V_drew));exact HO_1336001.out) hb);replace HO1342:=rb_ HO1342 hb;replace HO1345:=rb_ HO1345 hb;replace HO1348:=rb_ HO1348 hb;replace HO1351:=rb_ HO1351 hb;replace BK1322:=bb_ BK1322 hb;replace BK1335:=bb_ BK1335 hb;replace HB:=b1_ hb;clear hb;obtain ⟨Ao44,co44,eo44⟩:=Kd.R_slice HO_5.out;subst eo44;have p1353:0≤(x28_1:Int):=oB_ qe_;have q1353:x28_1 < (t1327.length:Int):=oB_ qe_;obtain ⟨ad1353,e1353,hx1353_0⟩:=Kd.at_string (Kd.R_reads' HO_5.out).2.2 x28_1 p1353 q1353;cases e1353;replace p1353:=eq_true p1353;replace q1353:=eq_true q1353))
          replace HO_4:=A_ (Kd.N_drew HO_4.out)
          replace HO_5:=A_ (rC_ HO_5.out)
          replace HO_7:=A_ (rC_ HO_7.out)
          replace HO_26:=A_ (Kd.N_drew HO_26.out)
          replace HO_33:=A_ (rC_ HO_33.out)
          replace HO_1336000:=A_ (Kd.V_drew HO_1336000.out)
          replace HO_1336001:=A_ (Kd.V_drew HO_1336001.out)
          replace HO1342:=A_ (rC_ HO1342.out)
          replace HO1345:=A_ (rC_ HO1345.out)
          replace HO1348:=A_ (rC_ HO1348.out)
          replace HO1351:=A_ (rC_ HO1351.out)
          replace BK1322:=A_ (kB_ BK1322.out)
          replace BK1335:=A_ (kB_ BK1335.out)
          replace HB:=A_ (bC_ HB.out)
          have hx_:w43.drew.cell? (ad1353.add (x28_1).toNat) = some (.string (rdOf ByteArray.empty t1327 x28_1)):=hx1353_0
          refine start_ (n:=9) (S:=fun w'=>w'.cell? (ad1353.add (x28_1).toNat) = some (.string (rdOf ByteArray.empty t1327 x28_1))) (ds:=[]) (bl_ 9 0) (by kernel_rfl) rfl (by kernel_rfl) hx_ (fun hHeld=>?_)
          generalize w43.drew = w45 at HO_4 HO_5 HO_7 HO_26 HO_33 HO_1336000 HO_1336001 HO1342 HO1345 HO1348 HO1351 BK1322 BK1335 HB hHeld ⊢
          refine pure_ (i:=0) (N:=some 45) (v:=?_) (a':=?_) (bl_ 9 1) rfl rfl (by kernel_rfl) (fun _ _ _ h=>h) (Or.inl ⟨by rfl,?_⟩) ?_ ?_
          rotate_left
          ·intro w'
           go_simp
           with_reducible rfl
          rotate_left
          ·simp only [Act.put,sA_,sB_,sC_,i64_w,i32_w]
           rfl
          refine pure_ (i:=1) (N:=some 46) (v:=?_) (a':=?_) (bl_ 9 3) rfl rfl (by kernel_rfl) (fun _ _ _ h=>h) (Or.inl ⟨by rfl,?_⟩) ?_ ?_
          rotate_left
          ·intro w'
           go_simp
           with_reducible rfl
          rotate_left
          ·simp only [Act.put,sA_,sB_,sC_,i64_w,i32_w]
           rfl
          refine pure_ (i:=2) (N:=some 47) (v:=?_) (a':=?_) (bl_ 9 7) rfl rfl (by kernel_rfl) (fun _ _ _ h=>h) (Or.inl ⟨by rfl,?_⟩) ?_ ?_
          rotate_left
          ·intro w'
           go_simp
           with_reducible rfl
          rotate_left
          ·simp only [Act.put,sA_,sB_,sC_,i64_w,i32_w]
           rfl
          refine take_ (i:=3) (N:=some 48) (v:=?_) (a':=?_) (bl_ 9 15) rfl rfl (by kernel_rfl) (fun _ _ _ h=>h) (Or.inl ⟨by rfl,?_⟩) hHeld ?_ ?_
          rotate_left
          ·intro w' hs_
           go_simp
           with_reducible rfl
          rotate_left
          ·simp only [Act.put,sA_,sB_,sC_,i64_w,i32_w]
           rfl
          refine pure_ (i:=4) (N:=some 49) (v:=?_) (a':=?_) (bl_ 9 31) rfl rfl (by kernel_rfl) (fun _ _ _ h=>h) (Or.inl ⟨by rfl,?_⟩) ?_ ?_
          rotate_left
          ·intro w'
           go_simp
           with_reducible rfl
          rotate_left
          ·simp only [Act.put,sA_,sB_,sC_,i64_w,i32_w]
           rfl
          refine one_ (i:=5) (N:=some 50) (bl_ 9 63) rfl rfl (by kernel_rfl) (by decide) (fun K hK=>?_)
          refine Kd.R_lit_step (Kd.int .u8) _ 5 ?hg (N:=50) ?hd (xs:=([rd y1336 x35_2]:List Int)) (inner:=[.int .u8 (rd y1336 x35_2)]) (ok:=fun _=>True) (okp:=fun _=>True) ?hr ?hp (fun _ hk=>hk) trivial (Below.refl _ _) (nA_ _) (by simp) ?_;(case hd=>rfl);(case hg=>rfl);(case hr=>first | (go_simp;done) | (go_simp;rfl));(case hp=>exact (Reps.one (show Kd.M (Kd.int .u8) _ _ _ (rd y1336 x35_2) [.int .u8 (rd y1336 x35_2)] from rfl) (Reps.none _ _)))
          intro v1355 w46 ho47 hb hg_ hnew_
          have hS1_:=(hb.cell (World.block_lt_of_cell? _ _ hHeld)).trans hHeld
          clear hg_ hnew_
          (first | rw [← Ny1354.out] at ho47 | (simp only [Int.reduceToNat] at ho47;rw [← Ny1354.out] at ho47))
          replace HO_4:=A_ (Kd.N_elder' (by (with_reducible repeat (first | apply Kd.N_alloc | apply Kd.N_drewN | apply Kd.N_drew));exact HO_4.out) (Kd.R_base ho47) hb)
          replace HO_5:=rb_ HO_5 hb
          replace HO_7:=rb_ HO_7 hb
          replace HO_26:=A_ (Kd.N_elder' (by (with_reducible repeat (first | apply Kd.N_alloc | apply Kd.N_drewN | apply Kd.N_drew));exact HO_26.out) (Kd.R_base ho47) hb)
          replace HO_1336000:=A_ (Kd.V_elder' (by (with_reducible repeat (first | apply Kd.V_alloc | apply Kd.V_drewN | apply Kd.V_drew));exact HO_1336000.out) (Kd.R_base ho47) hb)
          replace HO_1336001:=A_ (Kd.V_elder' (by (with_reducible repeat (first | apply Kd.V_alloc | apply Kd.V_drewN | apply Kd.V_drew));exact HO_1336001.out) (Kd.R_base ho47) hb)
          replace HO1342:=rb_ HO1342 hb
          replace HO1345:=rb_ HO1345 hb
          replace HO1348:=rb_ HO1348 hb
          replace HO1351:=rb_ HO1351 hb
          have HO1356:=A_ (rE_ (Kd.R_new' ho47 (Kd.R_lt (rr_ HO_33))) (bF_ hB_))
          replace HO_33:=A_ (Kd.R_elder' (rr_ HO_33) (Kd.R_base ho47) hb)
          replace BK1322:=bb_ BK1322 hb
          replace BK1335:=bb_ BK1335 hb
          replace HB:=b1_ hb
          clear hb ho47
          refine hK.out _ _ hS1_ (fun hHeld=>?_)
          clear hK K
          refine no_ (some 50) ?_
          refine one_ (i:=6) (N:=some 51) (bl_ 9 127) rfl rfl (by kernel_rfl) (by decide) (fun K hK=>?_)
          have hcv48:=own_string (P:=Try.prog) Try.underlying22 Try.underlying5 Try.underlying9 (Kd.own_of_R HO1356.out)
          refine value_ (w1:=?_) (v:=?_) (by rfl) rfl ?_ ?_
          rotate_left 2
          ·go_simp
           constructor
           ·rfl
           ·rfl
          clear hcv48
          refine hK.out _ _ hHeld (fun hHeld=>?_)
          clear hK K
          refine no_ (some 51) ?_
          refine pure_ (i:=7) (N:=some 52) (v:=?_) (a':=?_) (bl_ 9 255) rfl rfl (by kernel_rfl) (fun _ _ _ h=>h) (Or.inl ⟨by rfl,?_⟩) ?_ ?_
          rotate_left
          ·intro w'
           go_simp
           with_reducible rfl
          rotate_left
          ·simp only [Act.put,sA_,sB_,sC_,i64_w,i32_w]
           rfl
          refine pure_ (i:=8) (N:=some 13) (v:=?_) (a':=?_) (bl_ 9 511) rfl rfl (by kernel_rfl) (fun _ _ _ h=>h) (Or.inl ⟨by rfl,?_⟩) ?_ ?_
          rotate_left
          ·intro w'
           go_simp
           with_reducible rfl
          rotate_left
          ·simp only [Act.put,sA_,sB_,sC_,i64_w,i32_w]
           rfl
          refine done_ (by kernel_rfl) ?_
          have p1357:0≤(t1352:Int):=oB_ qe_
          have q1357:t1352 < (t1327.length:Int):=oB_ qe_
          obtain ⟨ad1357,e1357,hx1357_0⟩:=Kd.at_string (Kd.R_reads' HO_5.out).2.2 t1352 p1357 q1357
          obtain rfl:ad1353 = ad1357:=(by injection e1357)
          replace p1357:=eq_true p1357
          replace q1357:=eq_true q1357
          try go_wp2
          go_roundg k2
          case measure=>have:=HK1.out;have:=HK2.out;omega
          case rel=>exact ⟨(x7_2),(wrap64 (x35_2 + 1)),qc_,H',⟨by have:=HK1.out;have:=HK2.out;omega⟩,⟨by (with_reducible repeat (first | apply Kd.N_alloc | apply Kd.N_drewN | apply Kd.N_drew));exact Kd.N_mono HO_4.out (fun _ hk=>⟨hk.1.1.1.1.1.1,⟨hk.1.1.1.1.1.2.1,⟨hk.1.1.1.1.1.2.2.1,⟨hk.1.1.1.1.1.2.2.2.1,hk.1.1.1.1.1.2.2.2.2⟩⟩⟩⟩)⟩,⟨(rr_ HO_5)⟩,⟨(rr_ HO_7)⟩,⟨by (with_reducible repeat (first | apply Kd.N_alloc | apply Kd.N_drewN | apply Kd.N_drew));exact Kd.N_mono HO_26.out (fun _ hk=>⟨hk.1.1.1.1.1.1,⟨hk.1.1.1.1.1.2.1,⟨hk.1.1.1.1.1.2.2.1,⟨hk.1.1.1.1.1.2.2.2.1,hk.1.1.1.1.1.2.2.2.2⟩⟩⟩⟩)⟩,⟨(rw_ (Kd.R_mono HO_33.out (fun _ hk=>trivial)))⟩,⟨by (with_reducible repeat (first | apply Kd.V_alloc | apply Kd.V_drewN | apply Kd.V_drew));exact Kd.V_mono HO_1336000.out (fun _ hk=>⟨hk.1.1.1.1.1.1,⟨hk.1.1.1.1.1.2.1,⟨hk.1.1.1.1.1.2.2.1,⟨hk.1.1.1.1.1.2.2.2.1,⟨hk.1.1.1.1.1.2.2.2.2.1,hk.1.1.1.1.1.2.2.2.2.2⟩⟩⟩⟩⟩)⟩,⟨by (with_reducible repeat (first | apply Kd.V_alloc | apply Kd.V_drewN | apply Kd.V_drew));exact Kd.V_mono HO_1336001.out (fun _ hk=>⟨hk.1.1.1.1.1.1,⟨hk.1.1.1.1.1.2.1,⟨hk.1.1.1.1.1.2.2.1,⟨hk.1.1.1.1.1.2.2.2.1,⟨hk.1.1.1.1.1.2.2.2.2.1,hk.1.1.1.1.1.2.2.2.2.2⟩⟩⟩⟩⟩)⟩,⟨(kk_ BK1322)⟩,⟨(kk_ BK1335)⟩,⟨hB_⟩⟩
         ·rw [if_neg c34] at H
          have c34b0:(((rdOf ByteArray.empty t1327 x28_1) ++ (strOfNums y1354)).toList == (rdOf ByteArray.empty t1327 t1352).toList) = false:=beq_eq_false_iff_ne.mpr c34
          have c34b1:(((rdOf ByteArray.empty t1327 x28_1) ++ (strOfNums y1354)).toList != (rdOf ByteArray.empty t1327 t1352).toList) = true:=bne_iff_ne.mpr c34
          obtain ⟨t1359,A49,H⟩:=bi_ H
          have c50:=cp_ H
          replace H:=ca_ H
          have c50b0:=eq_true c50
          have c50b1:=oC_ c50
          try have c50b2:(9223372036854775807 < ((rdOf ByteArray.empty t1327 x28_1) ++ (strOfNums y1354)).size + t1359.size) = False:=eq_false (Nat.not_lt.2 c50)
          have c50b3:(9223372036854775807 < (rdOf ByteArray.empty t1327 x28_1).size + (strOfNums y1354).size + t1359.size) = False:=by rw [← ByteArray.size_append];exact c50b2
          obtain ⟨t1360,A51,H⟩:=bi_ H
          by_cases c52:t1360 = true
          ·subst c52
           rw [if_pos rfl] at H
           have c53:=cp_ H
           replace H:=ca_ H
           have LMc53:=A_ c53
           clear c53
           obtain ⟨y1361,hy1361⟩:∃ y_:List ByteArray,y_ = (x7_2 ++ [((rdOf ByteArray.empty t1327 x28_1) ++ (strOfNums y1354)) ++ t1359]):=⟨_,rfl⟩
           replace H:(Z7.l1 k2 t1324 t1327 y1361 x28_1 t1324 (t1324.length:Int) x28_1 y1336 (y1336.length:Int) (wrap64 (x35_2 + 1)) ((rd_T25 t1324 x28_1).f0) ((rd_T25 t1324 x28_1).f1)) = some (r1,r2):=by first | (rw [hy1361];exact H) | exact H
           have Ny1361:=A_ hy1361
           clear hy1361
           have H':=A_ H
           clear H
           have p1339:0≤(x35_2:Int):=oB_ qe_
           have q1339:x35_2 < (y1336.length:Int):=oB_ qe_
           obtain ⟨ad1339,e1339,hx1339_0⟩:=Kd.at_int (Kd.R_reads' HO_33.out).2.2 x35_2 p1339 q1339
           cases e1339
           replace p1339:=eq_true p1339
           replace q1339:=eq_true q1339
           have hnb54:=NB1335_1322.out
           have hnc54:=NB1322_1335.out
           have hcz55_0:wr.cell? ⟨gb1335,0,none⟩ = some (.slice A1334_0 ((rd_T25 t1324 x28_1).f0).length c1334_0):=cz0_ BK1335
           have hcz55_1:wr.cell? ⟨gb1335,1,none⟩ = some (.slice A1334_1 ((rd_T25 t1324 x28_1).f1).length c1334_1):=cz1_ BK1335
           have hfz55_0:=kD_ BK1335.out 0
           have hfz55_1:=kD_ BK1335.out 1
           try go_wp2_with (first | ((with_reducible refine gA_ (f:=87) rfl ?_);refine gL_ (some 42) Try.func87 #[.agg #[.slice A1334_0 ((rd_T25 t1324 x28_1).f0).length c1334_0,.slice A1334_1 ((rd_T25 t1324 x28_1).f1).length c1334_1],.int .u8 (rd y1336 x35_2)] rfl qa_ ?_;(with_reducible refine (Z41.calls k2 _ _ ((rd_T25 t1324 x28_1).f0) _ _ ((rd_T25 t1324 x28_1).f1) (rd y1336 x35_2) t1340 t1343 _ (cw_ ((Kd.V_reads' HO_1336000.out).2.2)) ((Kd.V_reads' HO_1336000.out).2.1) (cw_ ((Kd.V_reads' HO_1336001.out).2.2)) ((Kd.V_reads' HO_1336001.out).2.1) A26.out).mono ?_);rintro e w56 ⟨v1341,v1344,rfl,ho0,ho1,hb⟩;refine ⟨_,rfl,?_⟩;replace HO_4:=A_ (Kd.N_mono (Kd.N_told (Kd.N_told (Kd.N_old (by (with_reducible repeat (first | apply Kd.N_alloc | apply Kd.N_drewN | apply Kd.N_drew));exact HO_4.out) hb) (Kd.R_base ho0)) (Kd.R_base ho1)) (fun _ h_=>h_.1));replace HO_5:=rb_ HO_5 hb;replace HO_7:=rb_ HO_7 hb;replace HO_26:=A_ (Kd.N_mono (Kd.N_told (Kd.N_told (Kd.N_old (by (with_reducible repeat (first | apply Kd.N_alloc | apply Kd.N_drewN | apply Kd.N_drew));exact HO_26.out) hb) (Kd.R_base ho0)) (Kd.R_base ho1)) (fun _ h_=>h_.1));replace HO_33:=rb_ HO_33 hb;replace HO_1336000:=A_ (Kd.V_mono (Kd.V_told (Kd.V_told (Kd.V_old (by (with_reducible repeat (first | apply Kd.V_alloc | apply Kd.V_drewN | apply Kd.V_drew));exact HO_1336000.out) hb) (Kd.R_base ho0)) (Kd.R_base ho1)) (fun _ h_=>h_.1));replace HO_1336001:=A_ (Kd.V_mono (Kd.V_told (Kd.V_told (Kd.V_old (by (with_reducible repeat (first | apply Kd.V_alloc | apply Kd.V_drewN | apply Kd.V_drew));exact HO_1336001.out) hb) (Kd.R_base ho0)) (Kd.R_base ho1)) (fun _ h_=>h_.1));have HO1342:=rl_ w ho0;have HO1345:=rl_ w ho1;replace BK1322:=bb_ BK1322 hb;replace BK1335:=bb_ BK1335 hb;replace HB:=b1_ hb;clear hb ho0 ho1;obtain ⟨Ao57,co57,eo57⟩:=Kd.R_slice HO1342.out;subst eo57;obtain ⟨Ao58,co58,eo58⟩:=Kd.R_slice HO1345.out;subst eo58) | ((with_reducible refine gA_ (f:=82) rfl ?_);refine gL_ (some 43) Try.func82 #[.agg #[.slice Ao57 t1340.length co57,.slice Ao58 t1343.length co58]] rfl qa_ ?_;(with_reducible refine (Z51.calls k2 _ _ t1340 _ _ t1343 t1346 t1349 _ (cr_ HO1342) ((Kd.R_reads' HO1342.out).2.1) (cr_ HO1345) ((Kd.R_reads' HO1345.out).2.1) A27.out).mono ?_);rintro e w59 ⟨v1347,v1350,rfl,ho0,ho1,hb⟩;refine ⟨_,rfl,?_⟩;replace HO_4:=A_ (Kd.N_mono (Kd.N_told (Kd.N_told (Kd.N_old (by (with_reducible repeat (first | apply Kd.N_alloc | apply Kd.N_drewN | apply Kd.N_drew));exact HO_4.out) hb) (Kd.R_base ho0)) (Kd.R_base ho1)) (fun _ h_=>h_.1));replace HO_5:=rb_ HO_5 hb;replace HO_7:=rb_ HO_7 hb;replace HO_26:=A_ (Kd.N_mono (Kd.N_told (Kd.N_told (Kd.N_old (by (with_reducible repeat (first | apply Kd.N_alloc | apply Kd.N_drewN | apply Kd.N_drew));exact HO_26.out) hb) (Kd.R_base ho0)) (Kd.R_base ho1)) (fun _ h_=>h_.1));replace HO_33:=rb_ HO_33 hb;replace HO_1336000:=A_ (Kd.V_mono (Kd.V_told (Kd.V_told (Kd.V_old (by (with_reducible repeat (first | apply Kd.V_alloc | apply Kd.V_drewN | apply Kd.V_drew));exact HO_1336000.out) hb) (Kd.R_base ho0)) (Kd.R_base ho1)) (fun _ h_=>h_.1));replace HO_1336001:=A_ (Kd.V_mono (Kd.V_told (Kd.V_told (Kd.V_old (by (with_reducible repeat (first | apply Kd.V_alloc | apply Kd.V_drewN | apply Kd.V_drew));exact HO_1336001.out) hb) (Kd.R_base ho0)) (Kd.R_base ho1)) (fun _ h_=>h_.1));have HO1348:=A_ (rE_ (Kd.R_new' (Kd.R_new' ho0 (Kd.R_lt (rr_ HO1342))) (Kd.R_lt (rr_ HO1345))) (bF_ hB_));have HO1351:=A_ (rE_ (Kd.R_new' (Kd.R_new' ho1 (Kd.R_lt (rr_ HO1342))) (Kd.R_lt (rr_ HO1345))) (bF_ hB_));replace HO1342:=A_ (Kd.R_mono (Kd.R_told (Kd.R_told (Kd.R_old (rr_ HO1342) hb) (Kd.R_base ho0)) (Kd.R_base ho1)) (fun _ h_=>h_.1));replace HO1345:=A_ (Kd.R_mono (Kd.R_told (Kd.R_told (Kd.R_old (rr_ HO1345) hb) (Kd.R_base ho0)) (Kd.R_base ho1)) (fun _ h_=>h_.1));replace BK1322:=bb_ BK1322 hb;replace BK1335:=bb_ BK1335 hb;replace HB:=b1_ hb;clear hb ho0 ho1;obtain ⟨Ao60,co60,eo60⟩:=Kd.R_slice HO1348.out;subst eo60;obtain ⟨Ao61,co61,eo61⟩:=Kd.R_slice HO1351.out;subst eo61) | ((with_reducible refine gA_ (f:=81) rfl ?_);refine gL_ (some 44) Try.func81 #[.slice (some ad1334) t1324.length co13,.agg #[.slice Ao60 t1346.length co60,.slice Ao61 t1349.length co61]] rfl qa_ ?_;(with_reducible refine (Z59.calls k2 _ _ t1324 _ _ t1346 _ _ t1349 t1352 _ (cw_ ((Kd.N_reads' HO_4.out).2.2)) ((Kd.N_reads' HO_4.out).2.1) (cr_ HO1348) ((Kd.R_reads' HO1348.out).2.1) (cr_ HO1351) ((Kd.R_reads' HO1351.out).2.1) A28.out).mono ?_);rintro e w62 ⟨rfl,hb⟩;refine ⟨_,rfl,?_⟩;replace HO_4:=A_ (Kd.N_below (by (with_reducible repeat (first | apply Kd.N_alloc | apply Kd.N_drewN | apply Kd.N_drew));exact HO_4.out) hb);replace HO_5:=rb_ HO_5 hb;replace HO_7:=rb_ HO_7 hb;replace HO_26:=A_ (Kd.N_below (by (with_reducible repeat (first | apply Kd.N_alloc | apply Kd.N_drewN | apply Kd.N_drew));exact HO_26.out) hb);replace HO_33:=rb_ HO_33 hb;replace HO_1336000:=A_ (Kd.V_below (by (with_reducible repeat (first | apply Kd.V_alloc | apply Kd.V_drewN | apply Kd.V_drew));exact HO_1336000.out) hb);replace HO_1336001:=A_ (Kd.V_below (by (with_reducible repeat (first | apply Kd.V_alloc | apply Kd.V_drewN | apply Kd.V_drew));exact HO_1336001.out) hb);replace HO1342:=rb_ HO1342 hb;replace HO1345:=rb_ HO1345 hb;replace HO1348:=rb_ HO1348 hb;replace HO1351:=rb_ HO1351 hb;replace BK1322:=bb_ BK1322 hb;replace BK1335:=bb_ BK1335 hb;replace HB:=b1_ hb;clear hb;obtain ⟨Ao63,co63,eo63⟩:=Kd.R_slice HO_5.out;subst eo63;have p1353:0≤(x28_1:Int):=oB_ qe_;have q1353:x28_1 < (t1327.length:Int):=oB_ qe_;obtain ⟨ad1353,e1353,hx1353_0⟩:=Kd.at_string (Kd.R_reads' HO_5.out).2.2 x28_1 p1353 q1353;cases e1353;replace p1353:=eq_true p1353;replace q1353:=eq_true q1353))
           replace HO_4:=A_ (Kd.N_drew HO_4.out)
           replace HO_5:=A_ (rC_ HO_5.out)
           replace HO_7:=A_ (rC_ HO_7.out)
           replace HO_26:=A_ (Kd.N_drew HO_26.out)
           replace HO_33:=A_ (rC_ HO_33.out)
           replace HO_1336000:=A_ (Kd.V_drew HO_1336000.out)
           replace HO_1336001:=A_ (Kd.V_drew HO_1336001.out)
           replace HO1342:=A_ (rC_ HO1342.out)
           replace HO1345:=A_ (rC_ HO1345.out)
           replace HO1348:=A_ (rC_ HO1348.out)
           replace HO1351:=A_ (rC_ HO1351.out)
           replace BK1322:=A_ (kB_ BK1322.out)
           replace BK1335:=A_ (kB_ BK1335.out)
           replace HB:=A_ (bC_ HB.out)
           have hx_:w62.drew.cell? (ad1353.add (x28_1).toNat) = some (.string (rdOf ByteArray.empty t1327 x28_1)):=hx1353_0
           refine start_ (n:=9) (S:=fun w'=>w'.cell? (ad1353.add (x28_1).toNat) = some (.string (rdOf ByteArray.empty t1327 x28_1))) (ds:=[]) (bl_ 9 0) (by kernel_rfl) rfl (by kernel_rfl) hx_ (fun hHeld=>?_)
           generalize w62.drew = w64 at HO_4 HO_5 HO_7 HO_26 HO_33 HO_1336000 HO_1336001 HO1342 HO1345 HO1348 HO1351 BK1322 BK1335 HB hHeld ⊢
           refine pure_ (i:=0) (N:=some 45) (v:=?_) (a':=?_) (bl_ 9 1) rfl rfl (by kernel_rfl) (fun _ _ _ h=>h) (Or.inl ⟨by rfl,?_⟩) ?_ ?_
           rotate_left
           ·intro w'
            go_simp
            with_reducible rfl
           rotate_left
           ·simp only [Act.put,sA_,sB_,sC_,i64_w,i32_w]
            rfl
           refine pure_ (i:=1) (N:=some 46) (v:=?_) (a':=?_) (bl_ 9 3) rfl rfl (by kernel_rfl) (fun _ _ _ h=>h) (Or.inl ⟨by rfl,?_⟩) ?_ ?_
           rotate_left
           ·intro w'
            go_simp
            with_reducible rfl
           rotate_left
           ·simp only [Act.put,sA_,sB_,sC_,i64_w,i32_w]
            rfl
           refine pure_ (i:=2) (N:=some 47) (v:=?_) (a':=?_) (bl_ 9 7) rfl rfl (by kernel_rfl) (fun _ _ _ h=>h) (Or.inl ⟨by rfl,?_⟩) ?_ ?_
           rotate_left
           ·intro w'
            go_simp
            with_reducible rfl
           rotate_left
           ·simp only [Act.put,sA_,sB_,sC_,i64_w,i32_w]
            rfl
           refine take_ (i:=3) (N:=some 48) (v:=?_) (a':=?_) (bl_ 9 15) rfl rfl (by kernel_rfl) (fun _ _ _ h=>h) (Or.inl ⟨by rfl,?_⟩) hHeld ?_ ?_
           rotate_left
           ·intro w' hs_
            go_simp
            with_reducible rfl
           rotate_left
           ·simp only [Act.put,sA_,sB_,sC_,i64_w,i32_w]
            rfl
           refine pure_ (i:=4) (N:=some 49) (v:=?_) (a':=?_) (bl_ 9 31) rfl rfl (by kernel_rfl) (fun _ _ _ h=>h) (Or.inl ⟨by rfl,?_⟩) ?_ ?_
           rotate_left
           ·intro w'
            go_simp
            with_reducible rfl
           rotate_left
           ·simp only [Act.put,sA_,sB_,sC_,i64_w,i32_w]
            rfl
           refine one_ (i:=5) (N:=some 50) (bl_ 9 63) rfl rfl (by kernel_rfl) (by decide) (fun K hK=>?_)
           refine Kd.R_lit_step (Kd.int .u8) _ 5 ?hg (N:=50) ?hd (xs:=([rd y1336 x35_2]:List Int)) (inner:=[.int .u8 (rd y1336 x35_2)]) (ok:=fun _=>True) (okp:=fun _=>True) ?hr ?hp (fun _ hk=>hk) trivial (Below.refl _ _) (nA_ _) (by simp) ?_;(case hd=>rfl);(case hg=>rfl);(case hr=>first | (go_simp;done) | (go_simp;rfl));(case hp=>exact (Reps.one (show Kd.M (Kd.int .u8) _ _ _ (rd y1336 x35_2) [.int .u8 (rd y1336 x35_2)] from rfl) (Reps.none _ _)))
           intro v1355 w65 ho66 hb hg_ hnew_
           have hS1_:=(hb.cell (World.block_lt_of_cell? _ _ hHeld)).trans hHeld
           clear hg_ hnew_
           (first | rw [← Ny1354.out] at ho66 | (simp only [Int.reduceToNat] at ho66;rw [← Ny1354.out] at ho66))
           replace HO_4:=A_ (Kd.N_elder' (by (with_reducible repeat (first | apply Kd.N_alloc | apply Kd.N_drewN | apply Kd.N_drew));exact HO_4.out) (Kd.R_base ho66) hb)
           replace HO_5:=rb_ HO_5 hb
           replace HO_7:=rb_ HO_7 hb
           replace HO_26:=A_ (Kd.N_elder' (by (with_reducible repeat (first | apply Kd.N_alloc | apply Kd.N_drewN | apply Kd.N_drew));exact HO_26.out) (Kd.R_base ho66) hb)
           replace HO_1336000:=A_ (Kd.V_elder' (by (with_reducible repeat (first | apply Kd.V_alloc | apply Kd.V_drewN | apply Kd.V_drew));exact HO_1336000.out) (Kd.R_base ho66) hb)
           replace HO_1336001:=A_ (Kd.V_elder' (by (with_reducible repeat (first | apply Kd.V_alloc | apply Kd.V_drewN | apply Kd.V_drew));exact HO_1336001.out) (Kd.R_base ho66) hb)
           replace HO1342:=rb_ HO1342 hb
           replace HO1345:=rb_ HO1345 hb
           replace HO1348:=rb_ HO1348 hb
           replace HO1351:=rb_ HO1351 hb
           have HO1356:=A_ (rE_ (Kd.R_new' ho66 (Kd.R_lt (rr_ HO_33))) (bF_ hB_))
           replace HO_33:=A_ (Kd.R_elder' (rr_ HO_33) (Kd.R_base ho66) hb)
           replace BK1322:=bb_ BK1322 hb
           replace BK1335:=bb_ BK1335 hb
           replace HB:=b1_ hb
           clear hb ho66
           refine hK.out _ _ hS1_ (fun hHeld=>?_)
           clear hK K
           refine no_ (some 50) ?_
           refine one_ (i:=6) (N:=some 51) (bl_ 9 127) rfl rfl (by kernel_rfl) (by decide) (fun K hK=>?_)
           have hcv67:=own_string (P:=Try.prog) Try.underlying22 Try.underlying5 Try.underlying9 (Kd.own_of_R HO1356.out)
           refine value_ (w1:=?_) (v:=?_) (by rfl) rfl ?_ ?_
           rotate_left 2
           ·go_simp
            constructor
            ·rfl
            ·rfl
           clear hcv67
           refine hK.out _ _ hHeld (fun hHeld=>?_)
           clear hK K
           refine no_ (some 51) ?_
           refine pure_ (i:=7) (N:=some 52) (v:=?_) (a':=?_) (bl_ 9 255) rfl rfl (by kernel_rfl) (fun _ _ _ h=>h) (Or.inl ⟨by rfl,?_⟩) ?_ ?_
           rotate_left
           ·intro w'
            go_simp
            with_reducible rfl
           rotate_left
           ·simp only [Act.put,sA_,sB_,sC_,i64_w,i32_w]
            rfl
           refine pure_ (i:=8) (N:=some 13) (v:=?_) (a':=?_) (bl_ 9 511) rfl rfl (by kernel_rfl) (fun _ _ _ h=>h) (Or.inl ⟨by rfl,?_⟩) ?_ ?_
           rotate_left
           ·intro w'
            go_simp
            with_reducible rfl
           rotate_left
           ·simp only [Act.put,sA_,sB_,sC_,i64_w,i32_w]
            rfl
           refine done_ (by kernel_rfl) ?_
           have p1357:0≤(t1352:Int):=oB_ qe_
           have q1357:t1352 < (t1327.length:Int):=oB_ qe_
           obtain ⟨ad1357,e1357,hx1357_0⟩:=Kd.at_string (Kd.R_reads' HO_5.out).2.2 t1352 p1357 q1357
           obtain rfl:ad1353 = ad1357:=(by injection e1357)
           replace p1357:=eq_true p1357
           replace q1357:=eq_true q1357
           have p1358:0≤(t1352:Int):=oB_ qe_
           have q1358:t1352 < (t1327.length:Int):=oB_ qe_
           obtain ⟨ad1358,e1358,hx1358_0⟩:=Kd.at_string (Kd.R_reads' HO_5.out).2.2 t1352 p1358 q1358
           obtain rfl:ad1353 = ad1358:=(by injection e1358)
           replace p1358:=eq_true p1358
           replace q1358:=eq_true q1358
           try go_wp2_with (first | ((with_reducible refine gA_ (f:=88) rfl ?_);refine gL_ (some 64) Try.func88 #[.string (rdOf ByteArray.empty t1327 t1352)] rfl qa_ ?_;(with_reducible refine (Z23.calls k2 (rdOf ByteArray.empty t1327 t1352) t1359 _ A49.out).mono ?_);rintro e w' ⟨rfl,⟨nd,rfl⟩⟩;refine ⟨_,rfl,?_⟩) | ((with_reducible refine gA_ (f:=89) rfl ?_);refine gL_ (some 67) Try.func89 #[.string (((rdOf ByteArray.empty t1327 x28_1) ++ (strOfNums y1354)) ++ t1359)] rfl qa_ ?_;(with_reducible refine (Z66.calls k2 (((rdOf ByteArray.empty t1327 x28_1) ++ (strOfNums y1354)) ++ t1359) true _ A51.out).mono ?_);rintro e w' ⟨rfl,⟨nd,rfl⟩⟩;refine ⟨_,rfl,?_⟩) | ((with_reducible refine gate_builtin (b:=.append) (xs:=#[.tmp 69,.tmp 71]) rfl ?_);at_builtin;refine Kd.R_append Kd.string (w0:=w) w.heap.size rfl (.tmp 69) (.tmp 71) 53 9 (.string ⟨#[]⟩) 16 rfl Try.underlying53 info9 rfl (by decide) (by omega) u7 x7_2 (((rdOf ByteArray.empty t1327 x28_1) ++ (strOfNums y1354)) ++ t1359) [.string (((rdOf ByteArray.empty t1327 x28_1) ++ (strOfNums y1354)) ++ t1359)] (fun k_=>some k_≠(.slice (some ad1353) t1327.length co63:Value).ownBlock) (fun _=>False) rfl rfl ?aP (fun _ hk=>hk.elim) ?aF ?aO ?aB ?aS ?aL ?_;(case aP=>exact rfl);(case aB=>exact hB_);(case aF=>exact (fun k_ hk=>Kd.fresh' (Kd.R_lt (rr_ HO_5)) k_ hk));(case aO=>exact (rr_ HO_7));(case aS=>exact (bF_ hB_));(case aL=>have:=LMc53.out;omega);intro v1362 w68 ho hb hg hat;rw [← Ny1361.out] at ho;replace HO_4:=A_ (Kd.N_afterv (ok:=(fun k_=>some k_≠(.slice (some ad1353) t1327.length co63:Value).ownBlock∧some k_≠(.slice (some ad1339) y1336.length co22:Value).ownBlock∧some k_≠(.slice Ao57 t1340.length co57:Value).ownBlock∧some k_≠(.slice Ao58 t1343.length co58:Value).ownBlock∧some k_≠(.slice Ao60 t1346.length co60:Value).ownBlock∧some k_≠(.slice Ao61 t1349.length co61:Value).ownBlock∧some k_≠(v1355:Value).ownBlock∧k_≠gb1322∧k_≠gb1335)) (by (with_reducible repeat (first | apply Kd.N_alloc | apply Kd.N_drewN | apply Kd.N_drew));exact Kd.N_mono HO_4.out (fun _ hk=>⟨⟨hk.1.1.1.1.1.1,⟨hk.1.1.1.1.1.2.2.1,⟨hk.1.1.1.1.2,⟨hk.1.1.1.2,⟨hk.1.1.2,⟨hk.1.2,⟨hk.2,⟨hk.1.1.1.1.1.2.2.2.1,hk.1.1.1.1.1.2.2.2.2⟩⟩⟩⟩⟩⟩⟩⟩,hk.1.1.1.1.1.2.1⟩)) hg hat);replace HO_5:=A_ (Kd.R_after (ok:=(fun _=>True)) (rw_ (Kd.R_mono HO_5.out (fun _ hk=>⟨trivial,hk⟩))) hg hat);replace HO_26:=A_ (Kd.N_afterv (ok:=(fun k_=>some k_≠(.slice (some ad1353) t1327.length co63:Value).ownBlock∧some k_≠(.slice (some ad1339) y1336.length co22:Value).ownBlock∧some k_≠(.slice Ao57 t1340.length co57:Value).ownBlock∧some k_≠(.slice Ao58 t1343.length co58:Value).ownBlock∧some k_≠(.slice Ao60 t1346.length co60:Value).ownBlock∧some k_≠(.slice Ao61 t1349.length co61:Value).ownBlock∧some k_≠(v1355:Value).ownBlock∧k_≠gb1322∧k_≠gb1335)) (by (with_reducible repeat (first | apply Kd.N_alloc | apply Kd.N_drewN | apply Kd.N_drew));exact Kd.N_mono HO_26.out (fun _ hk=>⟨⟨hk.1.1.1.1.1.1,⟨hk.1.1.1.1.1.2.2.1,⟨hk.1.1.1.1.2,⟨hk.1.1.1.2,⟨hk.1.1.2,⟨hk.1.2,⟨hk.2,⟨hk.1.1.1.1.1.2.2.2.1,hk.1.1.1.1.1.2.2.2.2⟩⟩⟩⟩⟩⟩⟩⟩,hk.1.1.1.1.1.2.1⟩)) hg hat);replace HO_33:=A_ (Kd.R_over' (rr_ HO_33) (Kd.R_typed (rr_ HO_7)) (by decide) hg);replace HO_1336000:=A_ (Kd.V_afterv (ok:=(fun k_=>some k_≠(.slice (some ad1353) t1327.length co63:Value).ownBlock∧some k_≠(.slice (some ad1334) t1324.length co13:Value).ownBlock∧some k_≠(.slice (some ad1339) y1336.length co22:Value).ownBlock∧some k_≠(.slice Ao57 t1340.length co57:Value).ownBlock∧some k_≠(.slice Ao58 t1343.length co58:Value).ownBlock∧some k_≠(.slice Ao60 t1346.length co60:Value).ownBlock∧some k_≠(.slice Ao61 t1349.length co61:Value).ownBlock∧some k_≠(v1355:Value).ownBlock∧k_≠gb1322∧k_≠gb1335)) (by (with_reducible repeat (first | apply Kd.V_alloc | apply Kd.V_drewN | apply Kd.V_drew));exact Kd.V_mono HO_1336000.out (fun _ hk=>⟨⟨hk.1.1.1.1.1.1,⟨hk.1.1.1.1.1.2.2.1,⟨hk.1.1.1.1.1.2.2.2.1,⟨hk.1.1.1.1.2,⟨hk.1.1.1.2,⟨hk.1.1.2,⟨hk.1.2,⟨hk.2,⟨hk.1.1.1.1.1.2.2.2.2.1,hk.1.1.1.1.1.2.2.2.2.2⟩⟩⟩⟩⟩⟩⟩⟩⟩,hk.1.1.1.1.1.2.1⟩)) hg hat);replace HO_1336001:=A_ (Kd.V_afterv (ok:=(fun k_=>some k_≠(.slice (some ad1353) t1327.length co63:Value).ownBlock∧some k_≠(.slice (some ad1334) t1324.length co13:Value).ownBlock∧some k_≠(.slice (some ad1339) y1336.length co22:Value).ownBlock∧some k_≠(.slice Ao57 t1340.length co57:Value).ownBlock∧some k_≠(.slice Ao58 t1343.length co58:Value).ownBlock∧some k_≠(.slice Ao60 t1346.length co60:Value).ownBlock∧some k_≠(.slice Ao61 t1349.length co61:Value).ownBlock∧some k_≠(v1355:Value).ownBlock∧k_≠gb1322∧k_≠gb1335)) (by (with_reducible repeat (first | apply Kd.V_alloc | apply Kd.V_drewN | apply Kd.V_drew));exact Kd.V_mono HO_1336001.out (fun _ hk=>⟨⟨hk.1.1.1.1.1.1,⟨hk.1.1.1.1.1.2.2.1,⟨hk.1.1.1.1.1.2.2.2.1,⟨hk.1.1.1.1.2,⟨hk.1.1.1.2,⟨hk.1.1.2,⟨hk.1.2,⟨hk.2,⟨hk.1.1.1.1.1.2.2.2.2.1,hk.1.1.1.1.1.2.2.2.2.2⟩⟩⟩⟩⟩⟩⟩⟩⟩,hk.1.1.1.1.1.2.1⟩)) hg hat);replace BK1322:=A_ (blk_grown (kk_ BK1322) hg (Kd.R_ne HO_7.out BK1322.out (by decide)));replace BK1335:=A_ (blk_grown (kk_ BK1335) hg (Kd.R_ne HO_7.out BK1335.out (by decide)));replace HO1342:=A_ (Kd.R_over' (rr_ HO1342) (Kd.R_typed (rr_ HO_7)) (by decide) hg);replace HO1345:=A_ (Kd.R_over' (rr_ HO1345) (Kd.R_typed (rr_ HO_7)) (by decide) hg);replace HO1348:=A_ (Kd.R_over' (rr_ HO1348) (Kd.R_typed (rr_ HO_7)) (by decide) hg);replace HO1351:=A_ (Kd.R_over' (rr_ HO1351) (Kd.R_typed (rr_ HO_7)) (by decide) hg);replace HO1356:=A_ (Kd.R_over' (rr_ HO1356) (Kd.R_typed (rr_ HO_7)) (by decide) hg);replace HB:=A_ hb;have HO1363:=A_ ho;clear HO_7;clear ho hb hg hat))
           go_roundg k2
           case measure=>have:=HK1.out;have:=HK2.out;omega
           case rel=>exact ⟨(y1361),(wrap64 (x35_2 + 1)),qc_,H',⟨by have:=HK1.out;have:=HK2.out;omega⟩,⟨by (with_reducible repeat (first | apply Kd.N_alloc | apply Kd.N_drewN | apply Kd.N_drew));exact Kd.N_mono HO_4.out (fun _ hk=>⟨hk.1.1,⟨hk.2,⟨hk.1.2.1,⟨hk.1.2.2.2.2.2.2.2.1,hk.1.2.2.2.2.2.2.2.2⟩⟩⟩⟩)⟩,⟨(rw_ (Kd.R_mono HO_5.out (fun _ hk=>hk.2)))⟩,⟨(rr_ HO1363)⟩,⟨by (with_reducible repeat (first | apply Kd.N_alloc | apply Kd.N_drewN | apply Kd.N_drew));exact Kd.N_mono HO_26.out (fun _ hk=>⟨hk.1.1,⟨hk.2,⟨hk.1.2.1,⟨hk.1.2.2.2.2.2.2.2.1,hk.1.2.2.2.2.2.2.2.2⟩⟩⟩⟩)⟩,⟨(rw_ (Kd.R_mono HO_33.out (fun _ hk=>trivial)))⟩,⟨by (with_reducible repeat (first | apply Kd.V_alloc | apply Kd.V_drewN | apply Kd.V_drew));exact Kd.V_mono HO_1336000.out (fun _ hk=>⟨hk.1.1,⟨hk.2,⟨hk.1.2.1,⟨hk.1.2.2.1,⟨hk.1.2.2.2.2.2.2.2.2.1,hk.1.2.2.2.2.2.2.2.2.2⟩⟩⟩⟩⟩)⟩,⟨by (with_reducible repeat (first | apply Kd.V_alloc | apply Kd.V_drewN | apply Kd.V_drew));exact Kd.V_mono HO_1336001.out (fun _ hk=>⟨hk.1.1,⟨hk.2,⟨hk.1.2.1,⟨hk.1.2.2.1,⟨hk.1.2.2.2.2.2.2.2.2.1,hk.1.2.2.2.2.2.2.2.2.2⟩⟩⟩⟩⟩)⟩,⟨(kk_ BK1322)⟩,⟨(kk_ BK1335)⟩,⟨hB_⟩⟩
          ·replace c52:=Bool.eq_false_iff.mpr c52
           subst c52
           have H1:(some (([]:List ByteArray),false)) = some (r1,r2):=by rw [if_neg (show ¬ (false = true) by decide)] at H;exact H
           clear H
           have H:=H1
           clear H1
           simp only [Option.some.injEq,Prod.mk.injEq] at H
           obtain ⟨rfl,rfl⟩:=H
           have p1339:0≤(x35_2:Int):=oB_ qe_
           have q1339:x35_2 < (y1336.length:Int):=oB_ qe_
           obtain ⟨ad1339,e1339,hx1339_0⟩:=Kd.at_int (Kd.R_reads' HO_33.out).2.2 x35_2 p1339 q1339
           cases e1339
           replace p1339:=eq_true p1339
           replace q1339:=eq_true q1339
           have hnb69:=NB1335_1322.out
           have hnc69:=NB1322_1335.out
           have hcz70_0:wr.cell? ⟨gb1335,0,none⟩ = some (.slice A1334_0 ((rd_T25 t1324 x28_1).f0).length c1334_0):=cz0_ BK1335
           have hcz70_1:wr.cell? ⟨gb1335,1,none⟩ = some (.slice A1334_1 ((rd_T25 t1324 x28_1).f1).length c1334_1):=cz1_ BK1335
           have hfz70_0:=kD_ BK1335.out 0
           have hfz70_1:=kD_ BK1335.out 1
           try go_wp2_with (first | ((with_reducible refine gA_ (f:=87) rfl ?_);refine gL_ (some 42) Try.func87 #[.agg #[.slice A1334_0 ((rd_T25 t1324 x28_1).f0).length c1334_0,.slice A1334_1 ((rd_T25 t1324 x28_1).f1).length c1334_1],.int .u8 (rd y1336 x35_2)] rfl qa_ ?_;(with_reducible refine (Z41.calls k2 _ _ ((rd_T25 t1324 x28_1).f0) _ _ ((rd_T25 t1324 x28_1).f1) (rd y1336 x35_2) t1340 t1343 _ (cw_ ((Kd.V_reads' HO_1336000.out).2.2)) ((Kd.V_reads' HO_1336000.out).2.1) (cw_ ((Kd.V_reads' HO_1336001.out).2.2)) ((Kd.V_reads' HO_1336001.out).2.1) A26.out).mono ?_);rintro e w71 ⟨v1341,v1344,rfl,ho0,ho1,hb⟩;refine ⟨_,rfl,?_⟩;replace HO_4:=A_ (Kd.N_mono (Kd.N_told (Kd.N_told (Kd.N_old (by (with_reducible repeat (first | apply Kd.N_alloc | apply Kd.N_drewN | apply Kd.N_drew));exact HO_4.out) hb) (Kd.R_base ho0)) (Kd.R_base ho1)) (fun _ h_=>h_.1));replace HO_5:=rb_ HO_5 hb;replace HO_7:=rb_ HO_7 hb;replace HO_26:=A_ (Kd.N_mono (Kd.N_told (Kd.N_told (Kd.N_old (by (with_reducible repeat (first | apply Kd.N_alloc | apply Kd.N_drewN | apply Kd.N_drew));exact HO_26.out) hb) (Kd.R_base ho0)) (Kd.R_base ho1)) (fun _ h_=>h_.1));replace HO_33:=rb_ HO_33 hb;replace HO_1336000:=A_ (Kd.V_mono (Kd.V_told (Kd.V_told (Kd.V_old (by (with_reducible repeat (first | apply Kd.V_alloc | apply Kd.V_drewN | apply Kd.V_drew));exact HO_1336000.out) hb) (Kd.R_base ho0)) (Kd.R_base ho1)) (fun _ h_=>h_.1));replace HO_1336001:=A_ (Kd.V_mono (Kd.V_told (Kd.V_told (Kd.V_old (by (with_reducible repeat (first | apply Kd.V_alloc | apply Kd.V_drewN | apply Kd.V_drew));exact HO_1336001.out) hb) (Kd.R_base ho0)) (Kd.R_base ho1)) (fun _ h_=>h_.1));have HO1342:=rl_ w ho0;have HO1345:=rl_ w ho1;replace BK1322:=bb_ BK1322 hb;replace BK1335:=bb_ BK1335 hb;replace HB:=b1_ hb;clear hb ho0 ho1;obtain ⟨Ao72,co72,eo72⟩:=Kd.R_slice HO1342.out;subst eo72;obtain ⟨Ao73,co73,eo73⟩:=Kd.R_slice HO1345.out;subst eo73) | ((with_reducible refine gA_ (f:=82) rfl ?_);refine gL_ (some 43) Try.func82 #[.agg #[.slice Ao72 t1340.length co72,.slice Ao73 t1343.length co73]] rfl qa_ ?_;(with_reducible refine (Z51.calls k2 _ _ t1340 _ _ t1343 t1346 t1349 _ (cr_ HO1342) ((Kd.R_reads' HO1342.out).2.1) (cr_ HO1345) ((Kd.R_reads' HO1345.out).2.1) A27.out).mono ?_);rintro e w74 ⟨v1347,v1350,rfl,ho0,ho1,hb⟩;refine ⟨_,rfl,?_⟩;replace HO_4:=A_ (Kd.N_mono (Kd.N_told (Kd.N_told (Kd.N_old (by (with_reducible repeat (first | apply Kd.N_alloc | apply Kd.N_drewN | apply Kd.N_drew));exact HO_4.out) hb) (Kd.R_base ho0)) (Kd.R_base ho1)) (fun _ h_=>h_.1));replace HO_5:=rb_ HO_5 hb;replace HO_7:=rb_ HO_7 hb;replace HO_26:=A_ (Kd.N_mono (Kd.N_told (Kd.N_told (Kd.N_old (by (with_reducible repeat (first | apply Kd.N_alloc | apply Kd.N_drewN | apply Kd.N_drew));exact HO_26.out) hb) (Kd.R_base ho0)) (Kd.R_base ho1)) (fun _ h_=>h_.1));replace HO_33:=rb_ HO_33 hb;replace HO_1336000:=A_ (Kd.V_mono (Kd.V_told (Kd.V_told (Kd.V_old (by (with_reducible repeat (first | apply Kd.V_alloc | apply Kd.V_drewN | apply Kd.V_drew));exact HO_1336000.out) hb) (Kd.R_base ho0)) (Kd.R_base ho1)) (fun _ h_=>h_.1));replace HO_1336001:=A_ (Kd.V_mono (Kd.V_told (Kd.V_told (Kd.V_old (by (with_reducible repeat (first | apply Kd.V_alloc | apply Kd.V_drewN | apply Kd.V_drew));exact HO_1336001.out) hb) (Kd.R_base ho0)) (Kd.R_base ho1)) (fun _ h_=>h_.1));have HO1348:=A_ (rE_ (Kd.R_new' (Kd.R_new' ho0 (Kd.R_lt (rr_ HO1342))) (Kd.R_lt (rr_ HO1345))) (bF_ hB_));have HO1351:=A_ (rE_ (Kd.R_new' (Kd.R_new' ho1 (Kd.R_lt (rr_ HO1342))) (Kd.R_lt (rr_ HO1345))) (bF_ hB_));replace HO1342:=A_ (Kd.R_mono (Kd.R_told (Kd.R_told (Kd.R_old (rr_ HO1342) hb) (Kd.R_base ho0)) (Kd.R_base ho1)) (fun _ h_=>h_.1));replace HO1345:=A_ (Kd.R_mono (Kd.R_told (Kd.R_told (Kd.R_old (rr_ HO1345) hb) (Kd.R_base ho0)) (Kd.R_base ho1)) (fun _ h_=>h_.1));replace BK1322:=bb_ BK1322 hb;replace BK1335:=bb_ BK1335 hb;replace HB:=b1_ hb;clear hb ho0 ho1;obtain ⟨Ao75,co75,eo75⟩:=Kd.R_slice HO1348.out;subst eo75;obtain ⟨Ao76,co76,eo76⟩:=Kd.R_slice HO1351.out;subst eo76) | ((with_reducible refine gA_ (f:=81) rfl ?_);refine gL_ (some 44) Try.func81 #[.slice (some ad1334) t1324.length co13,.agg #[.slice Ao75 t1346.length co75,.slice Ao76 t1349.length co76]] rfl qa_ ?_;(with_reducible refine (Z59.calls k2 _ _ t1324 _ _ t1346 _ _ t1349 t1352 _ (cw_ ((Kd.N_reads' HO_4.out).2.2)) ((Kd.N_reads' HO_4.out).2.1) (cr_ HO1348) ((Kd.R_reads' HO1348.out).2.1) (cr_ HO1351) ((Kd.R_reads' HO1351.out).2.1) A28.out).mono ?_);rintro e w77 ⟨rfl,hb⟩;refine ⟨_,rfl,?_⟩;replace HO_4:=A_ (Kd.N_below (by (with_reducible repeat (first | apply Kd.N_alloc | apply Kd.N_drewN | apply Kd.N_drew));exact HO_4.out) hb);replace HO_5:=rb_ HO_5 hb;replace HO_7:=rb_ HO_7 hb;replace HO_26:=A_ (Kd.N_below (by (with_reducible repeat (first | apply Kd.N_alloc | apply Kd.N_drewN | apply Kd.N_drew));exact HO_26.out) hb);replace HO_33:=rb_ HO_33 hb;replace HO_1336000:=A_ (Kd.V_below (by (with_reducible repeat (first | apply Kd.V_alloc | apply Kd.V_drewN | apply Kd.V_drew));exact HO_1336000.out) hb);replace HO_1336001:=A_ (Kd.V_below (by (with_reducible repeat (first | apply Kd.V_alloc | apply Kd.V_drewN | apply Kd.V_drew));exact HO_1336001.out) hb);replace HO1342:=rb_ HO1342 hb;replace HO1345:=rb_ HO1345 hb;replace HO1348:=rb_ HO1348 hb;replace HO1351:=rb_ HO1351 hb;replace BK1322:=bb_ BK1322 hb;replace BK1335:=bb_ BK1335 hb;replace HB:=b1_ hb;clear hb;obtain ⟨Ao78,co78,eo78⟩:=Kd.R_slice HO_5.out;subst eo78;have p1353:0≤(x28_1:Int):=oB_ qe_;have q1353:x28_1 < (t1327.length:Int):=oB_ qe_;obtain ⟨ad1353,e1353,hx1353_0⟩:=Kd.at_string (Kd.R_reads' HO_5.out).2.2 x28_1 p1353 q1353;cases e1353;replace p1353:=eq_true p1353;replace q1353:=eq_true q1353))
           replace HO_4:=A_ (Kd.N_drew HO_4.out)
           replace HO_5:=A_ (rC_ HO_5.out)
           replace HO_7:=A_ (rC_ HO_7.out)
           replace HO_26:=A_ (Kd.N_drew HO_26.out)
           replace HO_33:=A_ (rC_ HO_33.out)
           replace HO_1336000:=A_ (Kd.V_drew HO_1336000.out)
           replace HO_1336001:=A_ (Kd.V_drew HO_1336001.out)
           replace HO1342:=A_ (rC_ HO1342.out)
           replace HO1345:=A_ (rC_ HO1345.out)
           replace HO1348:=A_ (rC_ HO1348.out)
           replace HO1351:=A_ (rC_ HO1351.out)
           replace BK1322:=A_ (kB_ BK1322.out)
           replace BK1335:=A_ (kB_ BK1335.out)
           replace HB:=A_ (bC_ HB.out)
           have hx_:w77.drew.cell? (ad1353.add (x28_1).toNat) = some (.string (rdOf ByteArray.empty t1327 x28_1)):=hx1353_0
           refine start_ (n:=9) (S:=fun w'=>w'.cell? (ad1353.add (x28_1).toNat) = some (.string (rdOf ByteArray.empty t1327 x28_1))) (ds:=[]) (bl_ 9 0) (by kernel_rfl) rfl (by kernel_rfl) hx_ (fun hHeld=>?_)
           generalize w77.drew = w79 at HO_4 HO_5 HO_7 HO_26 HO_33 HO_1336000 HO_1336001 HO1342 HO1345 HO1348 HO1351 BK1322 BK1335 HB hHeld ⊢
           refine pure_ (i:=0) (N:=some 45) (v:=?_) (a':=?_) (bl_ 9 1) rfl rfl (by kernel_rfl) (fun _ _ _ h=>h) (Or.inl ⟨by rfl,?_⟩) ?_ ?_
           rotate_left
           ·intro w'
            go_simp
            with_reducible rfl
           rotate_left
           ·simp only [Act.put,sA_,sB_,sC_,i64_w,i32_w]
            rfl
           refine pure_ (i:=1) (N:=some 46) (v:=?_) (a':=?_) (bl_ 9 3) rfl rfl (by kernel_rfl) (fun _ _ _ h=>h) (Or.inl ⟨by rfl,?_⟩) ?_ ?_
           rotate_left
           ·intro w'
            go_simp
            with_reducible rfl
           rotate_left
           ·simp only [Act.put,sA_,sB_,sC_,i64_w,i32_w]
            rfl
           refine pure_ (i:=2) (N:=some 47) (v:=?_) (a':=?_) (bl_ 9 7) rfl rfl (by kernel_rfl) (fun _ _ _ h=>h) (Or.inl ⟨by rfl,?_⟩) ?_ ?_
           rotate_left
           ·intro w'
            go_simp
            with_reducible rfl
           rotate_left
           ·simp only [Act.put,sA_,sB_,sC_,i64_w,i32_w]
            rfl
           refine take_ (i:=3) (N:=some 48) (v:=?_) (a':=?_) (bl_ 9 15) rfl rfl (by kernel_rfl) (fun _ _ _ h=>h) (Or.inl ⟨by rfl,?_⟩) hHeld ?_ ?_
           rotate_left
           ·intro w' hs_
            go_simp
            with_reducible rfl
           rotate_left
           ·simp only [Act.put,sA_,sB_,sC_,i64_w,i32_w]
            rfl
           refine pure_ (i:=4) (N:=some 49) (v:=?_) (a':=?_) (bl_ 9 31) rfl rfl (by kernel_rfl) (fun _ _ _ h=>h) (Or.inl ⟨by rfl,?_⟩) ?_ ?_
           rotate_left
           ·intro w'
            go_simp
            with_reducible rfl
           rotate_left
           ·simp only [Act.put,sA_,sB_,sC_,i64_w,i32_w]
            rfl
           refine one_ (i:=5) (N:=some 50) (bl_ 9 63) rfl rfl (by kernel_rfl) (by decide) (fun K hK=>?_)
           refine Kd.R_lit_step (Kd.int .u8) _ 5 ?hg (N:=50) ?hd (xs:=([rd y1336 x35_2]:List Int)) (inner:=[.int .u8 (rd y1336 x35_2)]) (ok:=fun _=>True) (okp:=fun _=>True) ?hr ?hp (fun _ hk=>hk) trivial (Below.refl _ _) (nA_ _) (by simp) ?_;(case hd=>rfl);(case hg=>rfl);(case hr=>first | (go_simp;done) | (go_simp;rfl));(case hp=>exact (Reps.one (show Kd.M (Kd.int .u8) _ _ _ (rd y1336 x35_2) [.int .u8 (rd y1336 x35_2)] from rfl) (Reps.none _ _)))
           intro v1355 w80 ho81 hb hg_ hnew_
           have hS1_:=(hb.cell (World.block_lt_of_cell? _ _ hHeld)).trans hHeld
           clear hg_ hnew_
           (first | rw [← Ny1354.out] at ho81 | (simp only [Int.reduceToNat] at ho81;rw [← Ny1354.out] at ho81))
           replace HO_4:=A_ (Kd.N_elder' (by (with_reducible repeat (first | apply Kd.N_alloc | apply Kd.N_drewN | apply Kd.N_drew));exact HO_4.out) (Kd.R_base ho81) hb)
           replace HO_5:=rb_ HO_5 hb
           replace HO_7:=rb_ HO_7 hb
           replace HO_26:=A_ (Kd.N_elder' (by (with_reducible repeat (first | apply Kd.N_alloc | apply Kd.N_drewN | apply Kd.N_drew));exact HO_26.out) (Kd.R_base ho81) hb)
           replace HO_1336000:=A_ (Kd.V_elder' (by (with_reducible repeat (first | apply Kd.V_alloc | apply Kd.V_drewN | apply Kd.V_drew));exact HO_1336000.out) (Kd.R_base ho81) hb)
           replace HO_1336001:=A_ (Kd.V_elder' (by (with_reducible repeat (first | apply Kd.V_alloc | apply Kd.V_drewN | apply Kd.V_drew));exact HO_1336001.out) (Kd.R_base ho81) hb)
           replace HO1342:=rb_ HO1342 hb
           replace HO1345:=rb_ HO1345 hb
           replace HO1348:=rb_ HO1348 hb
           replace HO1351:=rb_ HO1351 hb
           have HO1356:=A_ (rE_ (Kd.R_new' ho81 (Kd.R_lt (rr_ HO_33))) (bF_ hB_))
           replace HO_33:=A_ (Kd.R_elder' (rr_ HO_33) (Kd.R_base ho81) hb)
           replace BK1322:=bb_ BK1322 hb
           replace BK1335:=bb_ BK1335 hb
           replace HB:=b1_ hb
           clear hb ho81
           refine hK.out _ _ hS1_ (fun hHeld=>?_)
           clear hK K
           refine no_ (some 50) ?_
           refine one_ (i:=6) (N:=some 51) (bl_ 9 127) rfl rfl (by kernel_rfl) (by decide) (fun K hK=>?_)
           have hcv82:=own_string (P:=Try.prog) Try.underlying22 Try.underlying5 Try.underlying9 (Kd.own_of_R HO1356.out)
           refine value_ (w1:=?_) (v:=?_) (by rfl) rfl ?_ ?_
           rotate_left 2
           ·go_simp
            constructor
            ·rfl
            ·rfl
           clear hcv82
           refine hK.out _ _ hHeld (fun hHeld=>?_)
           clear hK K
           refine no_ (some 51) ?_
           refine pure_ (i:=7) (N:=some 52) (v:=?_) (a':=?_) (bl_ 9 255) rfl rfl (by kernel_rfl) (fun _ _ _ h=>h) (Or.inl ⟨by rfl,?_⟩) ?_ ?_
           rotate_left
           ·intro w'
            go_simp
            with_reducible rfl
           rotate_left
           ·simp only [Act.put,sA_,sB_,sC_,i64_w,i32_w]
            rfl
           refine pure_ (i:=8) (N:=some 13) (v:=?_) (a':=?_) (bl_ 9 511) rfl rfl (by kernel_rfl) (fun _ _ _ h=>h) (Or.inl ⟨by rfl,?_⟩) ?_ ?_
           rotate_left
           ·intro w'
            go_simp
            with_reducible rfl
           rotate_left
           ·simp only [Act.put,sA_,sB_,sC_,i64_w,i32_w]
            rfl
           refine done_ (by kernel_rfl) ?_
           have p1357:0≤(t1352:Int):=oB_ qe_
           have q1357:t1352 < (t1327.length:Int):=oB_ qe_
           obtain ⟨ad1357,e1357,hx1357_0⟩:=Kd.at_string (Kd.R_reads' HO_5.out).2.2 t1352 p1357 q1357
           obtain rfl:ad1353 = ad1357:=(by injection e1357)
           replace p1357:=eq_true p1357
           replace q1357:=eq_true q1357
           have p1358:0≤(t1352:Int):=oB_ qe_
           have q1358:t1352 < (t1327.length:Int):=oB_ qe_
           obtain ⟨ad1358,e1358,hx1358_0⟩:=Kd.at_string (Kd.R_reads' HO_5.out).2.2 t1352 p1358 q1358
           obtain rfl:ad1353 = ad1358:=(by injection e1358)
           replace p1358:=eq_true p1358
           replace q1358:=eq_true q1358
           try go_wp2_with (first | ((with_reducible refine gA_ (f:=88) rfl ?_);refine gL_ (some 64) Try.func88 #[.string (rdOf ByteArray.empty t1327 t1352)] rfl qa_ ?_;(with_reducible refine (Z23.calls k2 (rdOf ByteArray.empty t1327 t1352) t1359 _ A49.out).mono ?_);rintro e w' ⟨rfl,⟨nd,rfl⟩⟩;refine ⟨_,rfl,?_⟩) | ((with_reducible refine gA_ (f:=89) rfl ?_);refine gL_ (some 67) Try.func89 #[.string (((rdOf ByteArray.empty t1327 x28_1) ++ (strOfNums y1354)) ++ t1359)] rfl qa_ ?_;(with_reducible refine (Z66.calls k2 (((rdOf ByteArray.empty t1327 x28_1) ++ (strOfNums y1354)) ++ t1359) false _ A51.out).mono ?_);rintro e w' ⟨rfl,⟨nd,rfl⟩⟩;refine ⟨_,rfl,?_⟩))
           go_ret2
           exact ⟨_,qb_,by first | exact Kd.R_nil _ _ _ _ _ | exact Kd.N_nil _ _ _ _ _ | exact Kd.V_nil _ _ _ _ _ | exact Kd.Q_nil _ _ _ _ _ | exact Kd.S_nil _ _ _ _ _,hB_⟩
        ·rw [if_neg c23] at H
         have c23b0:=oD_ c23
         clear c23
         have H':=A_ H
         clear H
         go_wp2
         go_roundg k2
         case measure=>have:=HK1.out;have:=HK2.out;omega
         case rel=>exact ⟨(x7_2),(wrap64 (x28_1 + 1)),qc_,H',⟨by have:=HK1.out;have:=HK2.out;omega⟩,⟨by (with_reducible repeat (first | apply Kd.N_alloc | apply Kd.N_drewN | apply Kd.N_drew));exact Kd.N_mono HO_4.out (fun _ hk=>⟨hk.1,⟨hk.2.1,hk.2.2.2.1⟩⟩)⟩,⟨(rr_ HO_5)⟩,⟨(rr_ HO_7)⟩,⟨by (with_reducible repeat (first | apply Kd.N_alloc | apply Kd.N_drewN | apply Kd.N_drew));exact Kd.N_mono HO_26.out (fun _ hk=>⟨hk.1,⟨hk.2.1,hk.2.2.2.1⟩⟩)⟩,⟨(kk_ BK1322)⟩,⟨hB_⟩⟩
     ·rw [if_neg c14] at H
      have c14b0:=oD_ c14
      clear c14
      simp only [Option.some.injEq,Prod.mk.injEq] at H
      obtain ⟨rfl,rfl⟩:=H
      go_wp2
      go_ret2
      exact ⟨_,qb_,(rw_ (Kd.R_mono HO_7.out (fun _ hk=>trivial))),hB_⟩
  ·replace c5:=Bool.eq_false_iff.mpr c5
   subst c5
   have H1:(some (([]:List ByteArray),false)) = some (r1,r2):=by rw [if_neg (show ¬ (false = true) by decide)] at H;exact H
   clear H
   have H:=H1
   clear H1
   simp only [Option.some.injEq,Prod.mk.injEq] at H
   obtain ⟨rfl,rfl⟩:=H
   go_enter Try.func48,Try.ntmps48
   go_wp2_with (first | ((with_reducible refine gB_ (N:=1) rfl ?_);refine bx_ 1 #[.slice A0_0 l0_0.length c0_0,.slice A0_1 l0_1.length c0_1] 25 ?_;intro gb1322 hg w83 hbox hb;have BK1322:=A_ hbox;have GW1322:=gw_ w hg;have GE1322:=GW1322;replace HB:=b1_ hb;clear hb hbox hg;obtain ⟨hcz84_0,hcz84_1,hfz84_0,hfz84_1⟩:=c2_ BK1322) | ((with_reducible refine gA_ (f:=80) rfl ?_);refine gL_ (some 15) Try.func80 #[.agg #[.slice A0_0 l0_0.length c0_0,.slice A0_1 l0_1.length c0_1]] rfl qa_ ?_;(with_reducible refine (Z37.calls k _ _ l0_0 _ _ l0_1 true _ (cb_ HR0_0) HC0_0.out (cb_ HR0_1) HC0_1.out A2.out).mono ?_);rintro e w85 ⟨rfl,hb⟩;refine ⟨_,rfl,?_⟩;replace BK1322:=bb_ BK1322 hb;replace HB:=b1_ hb;clear hb;obtain ⟨hcz86_0,hcz86_1,hfz86_0,hfz86_1⟩:=c2_ BK1322) | ((with_reducible refine gA_ (f:=84) rfl ?_);refine gL_ (some 19) Try.func84 #[.agg #[.slice A0_0 l0_0.length c0_0,.slice A0_1 l0_1.length c0_1]] rfl qa_ ?_;(with_reducible refine (Z54.calls k _ _ l0_0 _ _ l0_1 t1324 t1327 false _ (cb_ HR0_0) HC0_0.out (cb_ HR0_1) HC0_1.out A4.out).mono ?_);rintro e w87 ⟨v1325,v1328,rfl,ho0,ho1,hb⟩;refine ⟨_,rfl,?_⟩;have HO1326:=A_ (Kd.N_lower (Kd.N_mono (ok':=fun k_=>some k_≠(v1328:Value).ownBlock∧k_≠gb1322) ho0 (fun k_ hk_=>⟨hk_.2,(Kd.freshB (kk_ BK1322) k_ hk_.1)⟩)) (bF_ hB_));have HO1329:=A_ (rE_ (Kd.R_mono (ok':=fun k_=>True) ho1 (fun _ hk_=>trivial)) (bF_ hB_));replace BK1322:=bb_ BK1322 hb;replace HB:=b1_ hb;clear hb ho0 ho1))
   go_ret2
   exact ⟨_,qb_,by first | exact Kd.R_nil _ _ _ _ _ | exact Kd.N_nil _ _ _ _ _ | exact Kd.V_nil _ _ _ _ _ | exact Kd.Q_nil _ _ _ _ _ | exact Kd.S_nil _ _ _ _ _,hB_⟩
 ·replace c3:=Bool.eq_false_iff.mpr c3
  subst c3
  have H1:(some (([]:List ByteArray),false)) = some (r1,r2):=by rw [if_neg (show ¬ (false = true) by decide)] at H;exact H
  clear H
  have H:=H1
  clear H1
  simp only [Option.some.injEq,Prod.mk.injEq] at H
  obtain ⟨rfl,rfl⟩:=H
  go_enter Try.func48,Try.ntmps48
  go_wp2_with (first | ((with_reducible refine gB_ (N:=1) rfl ?_);refine bx_ 1 #[.slice A0_0 l0_0.length c0_0,.slice A0_1 l0_1.length c0_1] 25 ?_;intro gb1322 hg w88 hbox hb;have BK1322:=A_ hbox;have GW1322:=gw_ w hg;have GE1322:=GW1322;replace HB:=b1_ hb;clear hb hbox hg;obtain ⟨hcz89_0,hcz89_1,hfz89_0,hfz89_1⟩:=c2_ BK1322) | ((with_reducible refine gA_ (f:=80) rfl ?_);refine gL_ (some 15) Try.func80 #[.agg #[.slice A0_0 l0_0.length c0_0,.slice A0_1 l0_1.length c0_1]] rfl qa_ ?_;(with_reducible refine (Z37.calls k _ _ l0_0 _ _ l0_1 false _ (cb_ HR0_0) HC0_0.out (cb_ HR0_1) HC0_1.out A2.out).mono ?_);rintro e w90 ⟨rfl,hb⟩;refine ⟨_,rfl,?_⟩;replace BK1322:=bb_ BK1322 hb;replace HB:=b1_ hb;clear hb))
  go_ret2
  exact ⟨_,qb_,by first | exact Kd.R_nil _ _ _ _ _ | exact Kd.N_nil _ _ _ _ _ | exact Kd.V_nil _ _ _ _ _ | exact Kd.Q_nil _ _ _ _ _ | exact Kd.S_nil _ _ _ _ _,hB_⟩
end Go.Proofs.Ytcggfjpnfodbaaa.A
end
section
/- A map of two keys, as it is filled: look-ups and stores. No conditions. -/
namespace Go.Proofs.Ytcggfjpnfodbaaa.M
set_option linter.unusedVariables false
set_option linter.unusedSimpArgs false
open Go Go.RowKit Go.Proofs.YtcggfjpnfodbaaaW.PrintWords Go.Proofs.YtcggfjpnfodbaaaW.PrintLast Go.Proofs.YtcggfjpnfodbaaaW.PrintMore Go.Proofs.Ytcggfjpnfodbaaa.A Go.MapKept
def mapO (n:Nat) (vT vS:Value):Obj:=.map ((#[⟨.int .u8 84,vT,0⟩,⟨.int .u8 83,vS,1⟩]:Array MapEntry).extract 0 n) n
def mapV (n c:Nat) (vT vS:Value):Value:=if c = 84 then (if 1≤n then vT else .slice none 0 0) else if 2≤n then vS else .slice none 0 0
theorem key_u8 (c:Int):IsKey (.int .u8) (.int .u8 c):=rfl
theorem map_look {w:World} {b:Nat} {es:Array MapEntry} {c:Nat} (hb:w.heap[b]? = some (.map es c)) (kk:Int) (r:Option (Nat × Value)) (hf:Instr.findNow (.int .u8) (.int .u8 kk) es.toList 0 = some r) :
  (Instr.lookup 67 (.map (some b)) (.int .u8 kk) false).run Try.prog w = .ok (match r with | some x=>x.2 | none=>.slice none 0 0) w:=by
 have ht:=Try.underlying67
 have hk:Try.prog.underlying 5 = some (.int .u8):=Try.underlying5
 have h1:=Go.MapKept.run_findKey (P:=Try.prog) (w:=w) hk hf
 have hz:(zeroValue 23).run Try.prog w = .ok (.slice none 0 0) w:=by kernel_rfl
 cases r with
 | none=>simp [Instr.lookup,run_underlying ht,Go.MapKept.run_getObj_map hb,Go.MapKept.run_checkKey hk (key_u8 kk),h1,hz,Result.andThen]
 | some x=>simp [Instr.lookup,run_underlying ht,Go.MapKept.run_getObj_map hb,Go.MapKept.run_checkKey hk (key_u8 kk),h1,hz,Result.andThen]
theorem map_push {w:World} {b:Nat} {es:Array MapEntry} {c:Nat} (hb:w.heap[b]? = some (.map es c)) (kk:Int) (hf:Instr.findNow (.int .u8) (.int .u8 kk) es.toList 0 = some none) (v:Value) :
  (Instr.mapUpdate 67 (.map (some b)) (.int .u8 kk) v).run Try.prog w = .ok () { w with heap:=w.heap.setIfInBounds b (.map (es.push ⟨.int .u8 kk,v,c⟩) (c + 1)) }:=by
 have ht:=Try.underlying67
 have hk:Try.prog.underlying 5 = some (.int .u8):=Try.underlying5
 have h1:=Go.MapKept.run_findKey (P:=Try.prog) (w:=w) hk hf
 simp [Instr.mapUpdate,run_underlying ht,Go.MapKept.run_getObj_map hb,Go.MapKept.run_checkKey hk (key_u8 kk),h1,Go.MapKept.run_setObj_map _ hb,Result.andThen]
theorem map_turn {w:World} {b:Nat} {es:Array MapEntry} {c:Nat} (hb:w.heap[b]? = some (.map es c)) (kk:Int) (i:Nat) (u v:Value) (hf:Instr.findNow (.int .u8) (.int .u8 kk) es.toList 0 = some (some (i,u))) (hi:(es[i]?.map (·.key)) = some (.int .u8 kk)) :
  (Instr.mapUpdate 67 (.map (some b)) (.int .u8 kk) v).run Try.prog w = .ok () { w with heap:=w.heap.setIfInBounds b (.map (es.modify i fun e=>{ e with key:=.int .u8 kk,val:=v }) c) }:=by
 have ht:=Try.underlying67
 have hk:Try.prog.underlying 5 = some (.int .u8):=Try.underlying5
 have h1:=Go.MapKept.run_findKey (P:=Try.prog) (w:=w) hk hf
 have h2:=Go.MapKept.run_keyThatStays (P:=Try.prog) (w:=w) (key_u8 kk)
 simp [Instr.mapUpdate,run_underlying ht,Go.MapKept.run_getObj_map hb,Go.MapKept.run_checkKey hk (key_u8 kk),h1,hi,h2,Go.MapKept.run_setObj_map _ hb,Result.andThen]
def setMap (w:World) (b n:Nat) (vT vS:Value):World:={ w with heap:=w.heap.setIfInBounds b (mapO n vT vS) }
theorem look_T {w:World} {b n:Nat} {vT vS:Value} (hb:w.heap[b]? = some (mapO n vT vS)) (hn:n = 0 ∨ n = 1 ∨ n = 2):(Instr.lookup 67 (.map (some b)) (.int .u8 84) false).run Try.prog w = .ok (mapV n 84 vT vS) w:=by
 rcases hn with rfl | rfl | rfl
 ·exact map_look hb 84 none rfl
 ·exact map_look hb 84 (some (0,vT)) rfl
 ·exact map_look hb 84 (some (0,vT)) rfl
theorem look_S {w:World} {b n:Nat} {vT vS:Value} (hb:w.heap[b]? = some (mapO n vT vS)) (hn:n = 0 ∨ n = 1 ∨ n = 2):(Instr.lookup 67 (.map (some b)) (.int .u8 83) false).run Try.prog w = .ok (mapV n 83 vT vS) w:=by
 rcases hn with rfl | rfl | rfl
 ·exact map_look hb 83 none rfl
 ·exact map_look hb 83 none rfl
 ·exact map_look hb 83 (some (1,vS)) rfl
theorem put_T {w:World} {b n:Nat} {vT vS:Value} (hb:w.heap[b]? = some (mapO n vT vS)) (hn:n = 0 ∨ n = 2) (v:Value):(Instr.mapUpdate 67 (.map (some b)) (.int .u8 84) v).run Try.prog w = .ok () (setMap w b (max n 1) v vS):=by
 rcases hn with rfl | rfl
 ·exact map_push hb 84 rfl v
 ·exact map_turn hb 84 0 vT v rfl rfl
theorem put_S {w:World} {b n:Nat} {vT vS:Value} (hb:w.heap[b]? = some (mapO n vT vS)) (hn:n = 1 ∨ n = 2) (v:Value):(Instr.mapUpdate 67 (.map (some b)) (.int .u8 83) v).run Try.prog w = .ok () (setMap w b 2 vT v):=by
 rcases hn with rfl | rfl
 ·exact map_push hb 83 rfl v
 ·exact map_turn hb 83 1 vS v rfl rfl
theorem setMap_at {w:World} {b n:Nat} {o:Obj} (hb:w.heap[b]? = some o) (vT vS:Value):(setMap w b n vT vS).heap[b]? = some (mapO n vT vS):=by
 have:=(Array.getElem?_eq_some_iff.1 hb).1
 simp [setMap,this]
theorem setMap_far {w:World} {b n:Nat} (vT vS:Value) {g:Nat} (h:g≠b):(setMap w b n vT vS).heap[g]? = w.heap[g]?:=by
 simp only [setMap,Array.getElem?_setIfInBounds]
 rw [if_neg (fun e=>h e.symm)]
theorem setMap_grown {w:World} {b n:Nat} (vT vS:Value):w.grownBy (setMap w b n vT vS) (some b) :=
 ⟨rfl,rfl,rfl,by simp [setMap],fun i _ hi=>setMap_far vT vS (fun e=>hi (by rw [e]))⟩
theorem setMap_below {w0 w:World} {b n:Nat} (vT vS:Value) (hB:Below w0.heap.size w0 w) (hb:w0.heap.size≤b):Below w0.heap.size w0 (setMap w b n vT vS) :=
 hB.grown (setMap_grown vT vS) hB.size (fun k e=>by injection e with e;omega)
end Go.Proofs.Ytcggfjpnfodbaaa.M
end
section
namespace Go.Proofs.Ytcggfjpnfodbaaa.A
open Go.RowKit Go.Proofs.YtcggfjpnfodbaaaW.PrintWords Go.Proofs.YtcggfjpnfodbaaaW.PrintLast Go.Proofs.YtcggfjpnfodbaaaW.PrintMore
attribute [local go_sem] max2_int min2_int max_two min_two max_three min_three max_four min_four
set_option linter.unusedVariables false
set_option linter.unusedSimpArgs false
def Z4.l0:Nat→List Int→List Int→Int→Int→Option (Bool)
 | 0,_,_,_,_=>none
 | k + 1,x0,x1,x12,x13=>if x13 < x12 then (if 0≤x13 then (if x13 < (x0.length:Int) then (if x13 < (x1.length:Int) then (if (rd x0 x13) = (rd x1 x13) then (Z4.l0 k x0 x1 x12 (wrap64 (x13 + 1))) else (some false)) else (none)) else (none)) else (none)) else (some true)
def Z4.f (k:Nat) (l0:List Int) (l1:List Int):Option (Bool):=if (l0.length:Int) = (l1.length:Int) then (Z4.l0 k l0 l1 (l0.length:Int) 0) else (some false)
theorem Z4.mono_l:∀ k,(∀ y0 y1 y2 y3,LeO (Z4.l0 k y0 y1 y2 y3) (Z4.l0 (k + 1) y0 y1 y2 y3))
 | 0=>fun _ _ _ _ r h=>by simp [Z4.l0] at h
 | k + 1=>by
  have ih0:=Z4.mono_l k
  ·intro y0 y1 y2 y3
   unfold Z4.l0
   repeat' first|exact ih0 _ _ _ _|exact lo_|refine LeO.ite ?_ ?_|refine LeO.bind ?_ (fun _=>?_)
theorem Z4.mono:∀ a0 a1 k,LeO (Z4.f k a0 a1) (Z4.f (k + 1) a0 a1):=by
 intro a0 a1 k
 have ih0:=Z4.mono_l k
 unfold Z4.f
 repeat' first|exact ih0 _ _ _ _|exact lo_|refine LeO.ite ?_ ?_|refine LeO.bind ?_ (fun _=>?_)
set_option maxHeartbeats 8000000 in
set_option maxRecDepth 100000 in
theorem Z4.calls (k:Nat) (A0:Option Addr) (c0:Nat) (l0:List Int) (A1:Option Addr) (c1:Nat) (l1:List Int) (r:Bool) (w:World) (hr0:Kd.C (Kd.int .i64) w A0 l0.length l0) (hc0:l0.length≤c0) (hr1:Kd.C (Kd.int .i64) w A1 l1.length l1) (hc1:l1.length≤c1) (h:Z4.f k l0 l1 = some r) :
  Calls Try.prog 116 #[.slice A0 l0.length c0,.slice A1 l1.length c1] w fun e w'=>e = .returned (.bool r)∧Drawn0 w w':=by
 have HR0:=A_ hr0
 have HC0:=A_ hc0
 clear hr0 hc0
 have HR1:=A_ hr1
 have HC1:=A_ hc1
 clear hr1 hc1
 have H:=h
 unfold Z4.f at H
 clear h
 by_cases c3:(l0.length:Int) = (l1.length:Int)
 ·rw [if_pos c3] at H
  have c3b0:((l0.length:Int) == (l1.length:Int)) = true:=beq_iff_eq.mpr c3
  have c3b1:((l0.length:Int) != (l1.length:Int)) = false:=bne_eq_false_iff_eq.mpr c3
  have c3b2:(l0.length == l1.length) = true:=by first | simpa using c3 | (simp at c3 ⊢;omega)
  clear c3
  have H':=A_ H
  clear H
  go_enter Try.func116,Try.ntmps116
  go_wp2
  repeat (go_quiet (fail);try go_wp2)
  go_loopg [13] k (fun kq v13 w'=>∃ (x13_1:Int),v13 = .int .i64 x13_1∧Aside0 (Z4.l0 kq l0 l1 (l0.length:Int) x13_1 = some r)∧Aside0 (kq≤k)∧Drawn0 w w')
  case atStart=>exact ⟨(0),qc_,H',⟨nA_ _⟩,by repeat (first | exact Drawn0.refl _ | apply Drawn0.step)⟩
  case round =>
   clear H'
   obtain ⟨x13_1,rfl,HA,HK1,⟨m1,rfl⟩⟩:=hrel
   cases gk with
   | zero=>exact absurd HA.out (by simp [Z4.l0])
   | succ k1 =>
    have H:=HA.out
    clear HA
    simp only [Z4.l0] at H
    by_cases c4:x13_1 < (l0.length:Int)
    ·rw [if_pos c4] at H
     have c4b0:=oC_ c4
     clear c4
     replace H:=cx_ H;obtain ⟨c5b0,H⟩:=H
     replace H:=cx_ H;obtain ⟨c6b0,H⟩:=H
     replace H:=cx_ H;obtain ⟨c7b0,H⟩:=H
     by_cases c8:(rd l0 x13_1) = (rd l1 x13_1)
     ·rw [if_pos c8] at H
      have c8b0:((rd l0 x13_1) == (rd l1 x13_1)) = true:=beq_iff_eq.mpr c8
      have c8b1:((rd l0 x13_1) != (rd l1 x13_1)) = false:=bne_eq_false_iff_eq.mpr c8
      clear c8
      have H':=A_ H
      clear H
      have p420:0≤(x13_1:Int):=oB_ qe_
      have q420:x13_1 < (l0.length:Int):=oB_ qe_
      obtain ⟨ad420,e420,hx420_0⟩:=Kd.at_int HR0.out x13_1 p420 q420
      cases e420
      replace p420:=eq_true p420
      replace q420:=eq_true q420
      have p421:0≤(x13_1:Int):=oB_ qe_
      have q421:x13_1 < (l1.length:Int):=oB_ qe_
      obtain ⟨ad421,e421,hx421_0⟩:=Kd.at_int HR1.out x13_1 p421 q421
      cases e421
      replace p421:=eq_true p421
      replace q421:=eq_true q421
      go_wp2
      repeat (go_quiet (fail);try go_wp2)
      go_roundg k1
      case measure=>have:=HK1.out;omega
      case rel=>exact ⟨(wrap64 (x13_1 + 1)),qc_,H',⟨by have:=HK1.out;omega⟩,by repeat (first | exact Drawn0.refl _ | apply Drawn0.step)⟩
     ·rw [if_neg c8] at H
      have c8b0:((rd l0 x13_1) == (rd l1 x13_1)) = false:=beq_eq_false_iff_ne.mpr c8
      have c8b1:((rd l0 x13_1) != (rd l1 x13_1)) = true:=bne_iff_ne.mpr c8
      obtain rfl:=Option.some.inj H
      have p420:0≤(x13_1:Int):=oB_ qe_
      have q420:x13_1 < (l0.length:Int):=oB_ qe_
      obtain ⟨ad420,e420,hx420_0⟩:=Kd.at_int HR0.out x13_1 p420 q420
      cases e420
      replace p420:=eq_true p420
      replace q420:=eq_true q420
      have p421:0≤(x13_1:Int):=oB_ qe_
      have q421:x13_1 < (l1.length:Int):=oB_ qe_
      obtain ⟨ad421,e421,hx421_0⟩:=Kd.at_int HR1.out x13_1 p421 q421
      cases e421
      replace p421:=eq_true p421
      replace q421:=eq_true q421
      go_wp2
      repeat (go_quiet (fail);try go_wp2)
      go_ret
      exact ⟨qc_,by repeat (first | exact Drawn0.refl _ | apply Drawn0.step)⟩
    ·rw [if_neg c4] at H
     have c4b0:=oD_ c4
     clear c4
     obtain rfl:=Option.some.inj H
     go_wp2
     repeat (go_quiet (fail);try go_wp2)
     go_ret
     exact ⟨qc_,by repeat (first | exact Drawn0.refl _ | apply Drawn0.step)⟩
 ·rw [if_neg c3] at H
  have c3b0:((l0.length:Int) == (l1.length:Int)) = false:=beq_eq_false_iff_ne.mpr c3
  have c3b1:((l0.length:Int) != (l1.length:Int)) = true:=bne_iff_ne.mpr c3
  have c3b2:(l0.length == l1.length) = false:=by first | simpa using c3 | (simp at c3 ⊢;omega)
  obtain rfl:=Option.some.inj H
  go_enter Try.func116,Try.ntmps116
  go_wp2
  repeat (go_quiet (fail);try go_wp2)
  go_ret
  exact ⟨qc_,by repeat (first | exact Drawn0.refl _ | apply Drawn0.step)⟩
def Z44.f (k:Nat) (l0:List Int) (l1:List Int):Option (Bool):=(Z4.f k l0 l1).bind fun t422=>(some t422)
theorem Z44.mono:∀ a0 a1 k,LeO (Z44.f k a0 a1) (Z44.f (k + 1) a0 a1):=by
 intro a0 a1 k
 unfold Z44.f
 repeat' first|exact Z4.mono _ _ _|exact lo_|refine LeO.ite ?_ ?_|refine LeO.bind ?_ (fun _=>?_)
set_option maxHeartbeats 8000000 in
set_option maxRecDepth 100000 in
theorem Z44.calls (k:Nat) (A0:Option Addr) (c0:Nat) (l0:List Int) (A1:Option Addr) (c1:Nat) (l1:List Int) (r:Bool) (w:World) (hr0:Kd.C (Kd.int .i64) w A0 l0.length l0) (hc0:l0.length≤c0) (hr1:Kd.C (Kd.int .i64) w A1 l1.length l1) (hc1:l1.length≤c1) (h:Z44.f k l0 l1 = some r) :
  Calls Try.prog 78 #[.slice A0 l0.length c0,.slice A1 l1.length c1] w fun e w'=>e = .returned (.bool r)∧Drawn0 w w':=by
 have HR0:=A_ hr0
 have HC0:=A_ hc0
 clear hr0 hc0
 have HR1:=A_ hr1
 have HC1:=A_ hc1
 clear hr1 hc1
 have H:=h
 unfold Z44.f at H
 clear h
 obtain ⟨t422,A3,H⟩:=bi_ H
 obtain rfl:=Option.some.inj H
 go_enter Try.func78,Try.ntmps78
 go_wp2_with (first | ((with_reducible refine gA_ (f:=116) rfl ?_);refine gL_ (some 7) Try.func116 #[.slice A0 l0.length c0,.slice A1 l1.length c1] rfl qa_ ?_;(with_reducible refine (Z4.calls k _ _ l0 _ _ l1 t422 _ (cc_ HR0) HC0.out (cc_ HR1) HC1.out A3.out).mono ?_);rintro e w' ⟨rfl,⟨nd,rfl⟩⟩;refine ⟨_,rfl,?_⟩))
 go_ret
 exact ⟨qc_,by repeat (first | exact Drawn0.refl _ | apply Drawn0.step)⟩
def Z18.f (k:Nat) (l0_0:List Int) (l0_1:List Int) (l1_0:List Int) (l1_1:List Int):Option (Bool):=(Z44.f k l0_0 l1_0).bind fun t425=>(if t425 = true then ((Z44.f k l0_1 l1_1).bind fun t426=>(some t426)) else (some false))
theorem Z18.mono:∀ a0 a1 a2 a3 k,LeO (Z18.f k a0 a1 a2 a3) (Z18.f (k + 1) a0 a1 a2 a3):=by
 intro a0 a1 a2 a3 k
 unfold Z18.f
 repeat' first|exact Z44.mono _ _ _|exact lo_|refine LeO.ite ?_ ?_|refine LeO.bind ?_ (fun _=>?_)
set_option maxHeartbeats 8000000 in
set_option maxRecDepth 100000 in
theorem Z18.calls (k:Nat) (A0_0:Option Addr) (c0_0:Nat) (l0_0:List Int) (A0_1:Option Addr) (c0_1:Nat) (l0_1:List Int) (A1_0:Option Addr) (c1_0:Nat) (l1_0:List Int) (A1_1:Option Addr) (c1_1:Nat) (l1_1:List Int) (r:Bool) (w:World) (hr0_0:Kd.C (Kd.int .i64) w A0_0 l0_0.length l0_0) (hc0_0:l0_0.length≤c0_0) (hr0_1:Kd.C (Kd.int .i64) w A0_1 l0_1.length l0_1) (hc0_1:l0_1.length≤c0_1) (hr1_0:Kd.C (Kd.int .i64) w A1_0 l1_0.length l1_0) (hc1_0:l1_0.length≤c1_0) (hr1_1:Kd.C (Kd.int .i64) w A1_1 l1_1.length l1_1) (hc1_1:l1_1.length≤c1_1) (h:Z18.f k l0_0 l0_1 l1_0 l1_1 = some r) :
  Calls Try.prog 29 #[.agg #[.slice A0_0 l0_0.length c0_0,.slice A0_1 l0_1.length c0_1],.agg #[.slice A1_0 l1_0.length c1_0,.slice A1_1 l1_1.length c1_1]] w fun e w'=>e = .returned (.bool r)∧Below w.heap.size w w':=by
 have hu25:=Try.underlying25
 have HR0_0:=A_ hr0_0
 have HC0_0:=A_ hc0_0
 clear hr0_0 hc0_0
 have HR0_1:=A_ hr0_1
 have HC0_1:=A_ hc0_1
 clear hr0_1 hc0_1
 have HR1_0:=A_ hr1_0
 have HC1_0:=A_ hc1_0
 clear hr1_0 hc1_0
 have HR1_1:=A_ hr1_1
 have HC1_1:=A_ hc1_1
 clear hr1_1 hc1_1
 have HB:=A_ (Below.refl w.heap.size w)
 have H:=h
 unfold Z18.f at H
 clear h
 obtain ⟨t425,A3,H⟩:=bi_ H
 by_cases c4:t425 = true
 ·subst c4
  rw [if_pos rfl] at H
  obtain ⟨t426,A5,H⟩:=bi_ H
  obtain rfl:=Option.some.inj H
  go_enter Try.func29,Try.ntmps29
  go_wp2_with (first | ((with_reducible refine gB_ (N:=2) rfl ?_);refine bx_ 2 #[.slice A0_0 l0_0.length c0_0,.slice A0_1 l0_1.length c0_1] 25 ?_;intro gb423 hg w6 hbox hb;have BK423:=A_ hbox;have GW423:=gw_ w hg;have GE423:=GW423;replace HB:=b1_ hb;clear hb hbox hg) | ((with_reducible refine gB_ (N:=3) rfl ?_);refine bx_ 3 #[.slice A1_0 l1_0.length c1_0,.slice A1_1 l1_1.length c1_1] 25 ?_;intro gb424 hg w7 hbox hb;have BK424:=A_ hbox;have GW424:=gw_ w hg;have GE424:=GW424;replace HB:=b1_ hb;have NB423_424:=gN_ BK423 hg;have NB424_423:=gP_ BK423 hg;replace BK423:=bb_ BK423 hb;clear hb hbox hg;have hnb8:=NB423_424.out;have hnc8:=NB424_423.out;obtain ⟨hcz9_0,hcz9_1,hfz9_0,hfz9_1⟩:=c2_ BK423;obtain ⟨hcz10_0,hcz10_1,hfz10_0,hfz10_1⟩:=c2_ BK424) | ((with_reducible refine gA_ (f:=78) rfl ?_);refine gL_ (some 9) Try.func78 #[.slice A0_0 l0_0.length c0_0,.slice A1_0 l1_0.length c1_0] rfl qa_ ?_;(with_reducible refine (Z44.calls k _ _ l0_0 _ _ l1_0 true _ (cb_ HR0_0) HC0_0.out (cb_ HR1_0) HC1_0.out A3.out).mono ?_);rintro e w' ⟨rfl,⟨nd,rfl⟩⟩;refine ⟨_,rfl,?_⟩) | (go_at_call 78;(with_reducible refine (Z44.calls k _ _ l0_1 _ _ l1_1 t426 _ (cw_ (cD_ HR0_1.out hB_)) HC0_1.out (cw_ (cD_ HR1_1.out hB_)) HC1_1.out A5.out).mono ?_);rintro e w' ⟨rfl,⟨nd,rfl⟩⟩))
  go_ret
  exact ⟨qb_,hB_⟩
 ·replace c4:=Bool.eq_false_iff.mpr c4
  subst c4
  have H1:(some false) = some r:=by rw [if_neg (show ¬ (false = true) by decide)] at H;exact H
  clear H
  have H:=H1
  clear H1
  obtain rfl:=Option.some.inj H
  go_enter Try.func29,Try.ntmps29
  go_wp2_with (first | ((with_reducible refine gB_ (N:=2) rfl ?_);refine bx_ 2 #[.slice A0_0 l0_0.length c0_0,.slice A0_1 l0_1.length c0_1] 25 ?_;intro gb423 hg w11 hbox hb;have BK423:=A_ hbox;have GW423:=gw_ w hg;have GE423:=GW423;replace HB:=b1_ hb;clear hb hbox hg) | ((with_reducible refine gB_ (N:=3) rfl ?_);refine bx_ 3 #[.slice A1_0 l1_0.length c1_0,.slice A1_1 l1_1.length c1_1] 25 ?_;intro gb424 hg w12 hbox hb;have BK424:=A_ hbox;have GW424:=gw_ w hg;have GE424:=GW424;replace HB:=b1_ hb;have NB423_424:=gN_ BK423 hg;have NB424_423:=gP_ BK423 hg;replace BK423:=bb_ BK423 hb;clear hb hbox hg;have hnb13:=NB423_424.out;have hnc13:=NB424_423.out;obtain ⟨hcz14_0,hcz14_1,hfz14_0,hfz14_1⟩:=c2_ BK423;obtain ⟨hcz15_0,hcz15_1,hfz15_0,hfz15_1⟩:=c2_ BK424) | ((with_reducible refine gA_ (f:=78) rfl ?_);refine gL_ (some 9) Try.func78 #[.slice A0_0 l0_0.length c0_0,.slice A1_0 l1_0.length c1_0] rfl qa_ ?_;(with_reducible refine (Z44.calls k _ _ l0_0 _ _ l1_0 false _ (cb_ HR0_0) HC0_0.out (cb_ HR1_0) HC1_0.out A3.out).mono ?_);rintro e w' ⟨rfl,⟨nd,rfl⟩⟩;refine ⟨_,rfl,?_⟩))
  go_ret
  exact ⟨qb_,hB_⟩
end Go.Proofs.Ytcggfjpnfodbaaa.A
end
section
/- The place of a surface in a list: the walk of the program's look-up. No conditions. -/
namespace Go.Proofs.Ytcggfjpnfodbaaa.M
set_option linter.unusedVariables false
set_option linter.unusedSimpArgs false
open Go Go.RowKit Go.Proofs.YtcggfjpnfodbaaaW.PrintWords Go.Proofs.YtcggfjpnfodbaaaW.PrintLast Go.Proofs.YtcggfjpnfodbaaaW.PrintMore Go.Proofs.Ytcggfjpnfodbaaa.A
def idxS (k:Nat) (r u:List Int):List S25→Nat→Option Int
 | [],_=>some (-1)
 | x :: xs,i=>(Z18.f k x.f0 x.f1 r u).bind fun b=>if b = true then some (i:Int) else idxS k r u xs (i + 1)
def indexO (k:Nat) (l:List S25) (r u:List Int):Option Int:=if l.length < 4611686018427387904 then idxS k r u l 0 else none
set_option maxHeartbeats 8000000 in
set_option maxRecDepth 100000 in
theorem index_closure (k:Nat) (gs:Nat) (A0:Option Addr) (c0:Nat) (l0:List Int) (A1:Option Addr) (c1:Nat) (l1:List Int) (B0:Option Addr) (d0:Nat) (r:List Int) (B1:Option Addr) (d1:Nat) (u:List Int) (b:Bool) (w:World)
  (h0:Kd.C (Kd.int .i64) w A0 l0.length l0) (g0:l0.length≤c0) (h1:Kd.C (Kd.int .i64) w A1 l1.length l1) (g1:l1.length≤c1) (h2:Kd.C (Kd.int .i64) w B0 r.length r) (g2:r.length≤d0) (h3:Kd.C (Kd.int .i64) w B1 u.length u) (g3:u.length≤d1)
  (hs:w.heap[gs]? = some (.cells #[.slice B0 r.length d0,.slice B1 u.length d1] 25 (0,0))) (h:Z18.f k l0 l1 r u = some b) :
  Calls Try.prog 109 #[.agg #[.slice A0 l0.length c0,.slice A1 l1.length c1],.pointer (some ⟨gs,0,none⟩)] w fun e w'=>e = .returned (.bool b)∧Below w.heap.size w w':=by
 have hu:=Try.underlying25
 have H0:=Aside0.mk h0;have H1:=Aside0.mk h1;have H2:=Aside0.mk h2;have H3:=Aside0.mk h3
 have G0:=Aside0.mk g0;have G1:=Aside0.mk g1;have G2:=Aside0.mk g2;have G3:=Aside0.mk g3
 have BS:=Aside0.mk hs;have HA:=Aside0.mk h
 clear h0 h1 h2 h3 g0 g1 g2 g3 hs h
 have HB:=Aside0.mk (Below.refl w.heap.size w)
 go_enter Try.func109,Try.ntmps109
 go_wp2_with (first | ((with_reducible refine gate_dst (N:=2) rfl ?_);refine bx_ 2 #[.slice A0 l0.length c0,.slice A1 l1.length c1] 25 ?_;intro gb hg w2 hbox hb;have BK:=Aside0.mk hbox;have BT:=bb_ BS hb;replace HB:=b1_ hb;clear hb hbox hg;obtain ⟨hcz0,hcz1,hfz0,hfz1⟩:=c2_ BK;obtain ⟨hcy0,hcy1,hfy0,hfy1⟩:=c2_ BT) | ((with_reducible refine gate_callee (f:=29) rfl ?_);refine gL_ (some 6) Try.func29 #[.agg #[.slice A0 l0.length c0,.slice A1 l1.length c1],.agg #[.slice B0 r.length d0,.slice B1 u.length d1]] rfl qa_ ?_;(with_reducible refine (Z18.calls k _ _ l0 _ _ l1 _ _ r _ _ u b _ (cb_ H0) G0.out (cb_ H1) G1.out (cb_ H2) G2.out (cb_ H3) G3.out HA.out).mono ?_);rintro e w3 ⟨rfl,hb⟩;refine ⟨_,rfl,?_⟩;replace HB:=b1_ hb;clear hb))
 go_ret
 exact ⟨qb_,hB_⟩
set_option maxHeartbeats 8000000 in
set_option maxRecDepth 100000 in
theorem index_main (k:Nat) (gf:Nat) (lb:Array Value) (eg:∀ args w,(callFunc gf args).run Try.prog w = .ok (.enter gf args) w) (A0:Option Addr) (c0:Nat) (l0:List S25) (r u:List Int) (j:Int) (w:World) (hr0:Kd.C k25 w A0 l0.length l0) (hc0:l0.length≤c0) (h:indexO k l0 r u = some j)
  (hcl:∀ (A0:Option Addr) (c0:Nat) (l0:List Int) (A1:Option Addr) (c1:Nat) (l1:List Int) (b:Bool) (w1:World),Below w.heap.size w w1→Kd.C (Kd.int .i64) w1 A0 l0.length l0→l0.length≤c0→Kd.C (Kd.int .i64) w1 A1 l1.length l1→l1.length≤c1→Z18.f k l0 l1 r u = some b→Calls Try.prog gf (#[.agg #[.slice A0 l0.length c0,.slice A1 l1.length c1]] ++ lb) w1 fun e w'=>e = .returned (.bool b)∧Below w1.heap.size w1 w') :
  Calls Try.prog 108 #[.slice A0 l0.length c0,.func (.func gf) #[] lb] w fun e w'=>e = .returned (.int .i64 j)∧Below w.heap.size w w':=by
 have hu:=Try.underlying25
 have HR0:=Aside0.mk hr0
 have HC0:=Aside0.mk hc0
 have HB:=Aside0.mk (Below.refl w.heap.size w)
 have hsm:l0.length < 4611686018427387904:=by
  unfold indexO at h
  split at h
  ·assumption
  ·cases h
 have H':Aside0 (idxS k r u (l0.drop 0) 0 = some j):=⟨by
  unfold indexO at h
  rw [if_pos hsm] at h
  exact h⟩
 clear hr0 hc0 h
 replace hcl:=Aside0.mk hcl
 go_enter Try.func108,Try.ntmps108
 go_wp2
 go_loopg [5,8] l0.length (fun gg _ s8 wr=>∃ kk:Nat,s8 = .int .i64 kk∧Aside0 (kk≤l0.length)∧Aside0 (l0.length - kk≤gg)∧Aside0 (idxS k r u (l0.drop kk) kk = some j)∧Aside0 (Below w.heap.size w wr))
 case atStart=>exact ⟨0,rfl,⟨Nat.zero_le _⟩,⟨by omega⟩,H',⟨by repeat (first | (with_reducible first | exact HB.out | apply below_alloc | apply pw_below_drewN | apply below_drew1) | exact HB.out)⟩⟩
 case round =>
  clear H' HB
  obtain ⟨kk,rfl,HK,HG,HA,HB⟩:=hrel
  by_cases hlt:kk < l0.length
  ·have hltz:(kk:Int) < (l0.length:Int):=by omega
   have h0z:(0:Int)≤(kk:Int):=Int.natCast_nonneg kk
   have H:=HA.out
   have hdr:l0.drop kk = rd_T25 l0 (kk:Int) :: l0.drop (kk + 1):=by
    rw [List.drop_eq_getElem_cons hlt]
    congr 1
    simp [rd_T25,hlt]
   rw [hdr] at H
   simp only [idxS] at H
   obtain ⟨b,Hb,H⟩:=bi_ H
   obtain ⟨ad1,A1,c1,A2,c2,e1,hx1,hx2,hl1,hi1,hl2,hi2⟩:=at_T25 (Kd.C_below HR0.out HB.out) (kk:Int) h0z hltz
   cases e1
   rw [show ((kk:Int)).toNat = kk from rfl] at hx1 hx2
   have HI1:=Aside0.mk hi1
   have HI2:=Aside0.mk hi2
   have HL1:=Aside0.mk hl1
   have HL2:=Aside0.mk hl2
   clear hi1 hi2 hl1 hl2
   cases b with
   | true =>
    rw [if_pos rfl] at H
    obtain rfl:=Option.some.inj H
    clear H
    go_wp2_with (fail)
    refine (hcl.out _ _ (rd_T25 l0 (kk:Int)).f0 _ _ (rd_T25 l0 (kk:Int)).f1 true wr HB.out HI1.out HL1.out HI2.out HL2.out Hb.out).mono ?_
    rintro e w2 ⟨rfl,hb⟩
    have HB2:=Aside0.mk (below_step HB.out hb)
    clear hb
    go_wp2
    go_ret
    exact ⟨rfl,by repeat (first | (with_reducible first | exact HB2.out | apply below_alloc | apply pw_below_drewN | apply below_drew1) | exact HB2.out)⟩
   | false =>
    rw [if_neg (by decide)] at H
    have H2:=Aside0.mk H
    clear H
    go_wp2_with (fail)
    refine (hcl.out _ _ (rd_T25 l0 (kk:Int)).f0 _ _ (rd_T25 l0 (kk:Int)).f1 false wr HB.out HI1.out HL1.out HI2.out HL2.out Hb.out).mono ?_
    rintro e w2 ⟨rfl,hb⟩
    have HB2:=Aside0.mk (below_step HB.out hb)
    clear hb
    go_wp2
    go_roundg (l0.length - (kk + 1))
    case measure=>have:=HG.out;omega
    case rel=>exact ⟨kk + 1,by congr 1,⟨by omega⟩,⟨by omega⟩,H2,⟨by repeat (first | (with_reducible first | exact HB2.out | apply below_alloc | apply pw_below_drewN | apply below_drew1) | exact HB2.out)⟩⟩
  ·have hltz:¬ (kk:Int) < (l0.length:Int):=by omega
   have H:=HA.out
   rw [List.drop_eq_nil_of_le (by omega)] at H
   simp only [idxS] at H
   obtain rfl:=Option.some.inj H
   clear H
   go_wp2
   go_ret
   exact ⟨rfl,by repeat (first | (with_reducible first | exact HB.out | apply below_alloc | apply pw_below_drewN | apply below_drew1) | exact HB.out)⟩
set_option maxHeartbeats 8000000 in
set_option maxRecDepth 100000 in
theorem index_calls (k:Nat) (gO:Nat) (A0:Option Addr) (c0:Nat) (l0:List S25) (v1 v2 v3 v4:Value) (B0:Option Addr) (d0:Nat) (r:List Int) (B1:Option Addr) (d1:Nat) (u:List Int) (j:Int) (w:World) (hr0:Kd.C k25 w A0 l0.length l0) (hc0:l0.length≤c0) (h2:Kd.C (Kd.int .i64) w B0 r.length r) (g2:r.length≤d0) (h3:Kd.C (Kd.int .i64) w B1 u.length u) (g3:u.length≤d1)
  (hO:w.heap[gO]? = some (.cells #[.slice A0 l0.length c0,v1,v2,v3,v4] 69 (0,0))) (h:indexO k l0 r u = some j) :
  Calls Try.prog 72 #[.pointer (some ⟨gO,0,none⟩),.agg #[.slice B0 r.length d0,.slice B1 u.length d1]] w fun e w'=>e = .returned (.int .i64 j)∧Below w.heap.size w w':=by
 have hu:=Try.underlying25
 have H0:=Aside0.mk hr0;have H2:=Aside0.mk h2;have H3:=Aside0.mk h3
 have G0:=Aside0.mk hc0;have G2:=Aside0.mk g2;have G3:=Aside0.mk g3
 have BO:=Aside0.mk hO;have HA:=Aside0.mk h
 clear hr0 h2 h3 hc0 g2 g3 hO h
 have HB:=Aside0.mk (Below.refl w.heap.size w)
 go_enter Try.func72,Try.ntmps72
 go_wp2_with (first | ((with_reducible refine gate_dst (N:=3) rfl ?_);refine bx_ 3 #[.slice B0 r.length d0,.slice B1 u.length d1] 25 ?_;intro gb hg w2 hbox hb;have BK:=Aside0.mk hbox;have BP:=bb_ BO hb;replace HB:=b1_ hb;clear hb hbox hg;have hco0:w2.cell? ⟨gO,0,none⟩ = some (.slice A0 l0.length c0):=(blk_cell BP.out 0).trans rfl;have hfo0:=blk_frozen BP.out 0) | ((with_reducible refine gate_callee (f:=108) rfl ?_);refine gL_ (some 10) Try.func108 #[.slice A0 l0.length c0,.func (.func 109) #[] #[.pointer (some ⟨gb,0,none⟩)]] rfl qa_ ?_;refine (index_main k 109 #[.pointer (some ⟨gb,0,none⟩)] (fun args w=>enters_ Try.func109 (by kernel_rfl) rfl args w) _ _ l0 r u j _ (cb_ H0) G0.out HA.out (fun A0_ c0_ l0_ A1_ c1_ l1_ b_ w1_ hw_ q0_ q1_ q2_ q3_ q4_=>index_closure k gb A0_ c0_ l0_ A1_ c1_ l1_ B0 d0 r B1 d1 u b_ w1_ q0_ q1_ q2_ q3_ (Kd.C_below (cb_ H2) hw_) G2.out (Kd.C_below (cb_ H3) hw_) G3.out (blk_below BK.out hw_) q4_)).mono ?_;rintro e w3 ⟨rfl,hb⟩;refine ⟨_,rfl,?_⟩;replace HB:=b1_ hb;clear hb))
 go_ret
 exact ⟨qb_,hB_⟩
end Go.Proofs.Ytcggfjpnfodbaaa.M
end
section
namespace Go.Proofs.Ytcggfjpnfodbaaa.A
open Go.RowKit Go.Proofs.YtcggfjpnfodbaaaW.PrintWords Go.Proofs.YtcggfjpnfodbaaaW.PrintLast Go.Proofs.YtcggfjpnfodbaaaW.PrintMore
attribute [local go_sem] max2_int min2_int max_two min_two max_three min_three max_four min_four
set_option linter.unusedVariables false
set_option linter.unusedSimpArgs false
def Z60.l0:Nat→List Int→List Bool→Int→Option Bool
 | 0,_,_,_=>none
 | k + 1,l,s,i=>if i < (l.length:Int) then (if 0≤i then (if rd l i < 0 then some false else (if rd l i ≥ (l.length:Int) then some false else (if rdOf false s (rd l i) = true then some false else Z60.l0 k l (s.set (rd l i).toNat true) (wrap64 (i + 1))))) else none) else some true
def Z60.f (k:Nat) (l0:List Int):Option Bool:=if (l0.length:Int) > 24 then some false else Z60.l0 k l0 (List.replicate 24 false) 0
theorem Z60.mono_l:∀ k,(∀ y0 y1 y2,LeO (Z60.l0 k y0 y1 y2) (Z60.l0 (k + 1) y0 y1 y2))
 | 0=>fun _ _ _ r h=>by simp [Z60.l0] at h
 | k + 1=>by
  have ih0:=Z60.mono_l k
  ·intro y0 y1 y2
   unfold Z60.l0
   repeat' first|exact ih0 _ _ _|exact lo_|refine LeO.ite ?_ ?_|refine LeO.bind ?_ (fun _=>?_)
theorem Z60.mono:∀ a0 k,LeO (Z60.f k a0) (Z60.f (k + 1) a0):=by
 intro a0 k
 unfold Z60.f
 exact LeO.ite (LeO.refl _) (Z60.mono_l k _ _ _)
def Z24:Array Value:=#[Value.bool false,Value.bool false,Value.bool false,Value.bool false,Value.bool false,Value.bool false,Value.bool false,Value.bool false,Value.bool false,Value.bool false,Value.bool false,Value.bool false,Value.bool false,Value.bool false,Value.bool false,Value.bool false,Value.bool false,Value.bool false,Value.bool false,Value.bool false,Value.bool false,Value.bool false,Value.bool false,Value.bool false]
theorem row_same (w:World) (g:Nat) (t:TypeId) (cur:Array Value) (hg:w.heap[g]? = some (.cells cur t (0,0))):w.setRow g cur = w:=by
 have hv:∀ h,w.heap[g]'h = .cells cur t (0,0):=fun h=>(Array.getElem?_eq_some_iff.1 hg).2
 unfold World.setRow
 cases w with
 | mk heap tape drawn os output =>
  congr 1
  apply Array.ext
  ·simp
  ·intro k h1 h2
   simp only [Array.getElem_modify]
   split
   ·rename_i hk;subst hk;simp at hv;simp [hv h2]
   ·rfl
theorem wpList_val {P:Program} {ops:Array Oper} {rest:List Oper} {o:Oper} {a:Act} {Q:Exit→Act→World→Prop} {w:World} (hg:o.guard = none) (v:Value) (w1:World) (hrun:(execOp a.eval o).run P w = .ok (.value v) w1) (h:wpList P ops Q rest (a.put o.dst v) w1):wpList P ops Q (o :: rest) a w :=
 wpList_plain hg fun K hK=>by unfold Oper.wp;rw [hrun];exact hK _ _ h
theorem perm_start (w:World):Kd.R Kd.bool 130 (w.alloc (.cells Z24 130)) w.heap.size (fun _=>True) (.slice (some ⟨w.heap.size,0,none⟩) 24 24) (List.replicate 24 false):=by
 have h:=World.ownsRow_lit (base:=w.heap.size) (e:=130) (size:=1) w Z24 24 (nA_ _) (by unfold maxLen;omega) rfl
 exact Kd.R_of_own (xs:=List.replicate 24 false) h (fun _ _=>trivial)
set_option maxHeartbeats 8000000 in
set_option maxRecDepth 100000 in
theorem Z60.calls (k:Nat) (A0:Option Addr) (c0:Nat) (l0:List Int) (r:Bool) (w:World) (hr0:Kd.C (Kd.int .i64) w A0 l0.length l0) (hc0:l0.length≤c0) (h:Z60.f k l0 = some r) :
  Calls Try.prog 107 #[.slice A0 l0.length c0] w fun e w'=>e = .returned (.bool r)∧Below w.heap.size w w':=by
 have HR0:=A_ hr0
 have HC0:=A_ hc0
 clear hr0 hc0
 have hst:=perm_start w
 have HST:=A_ hst
 clear hst
 have hb0:Below w.heap.size w (w.alloc (.cells Z24 130)):=(Below.refl _ _).alloc (nA_ _) _
 have HB0:=A_ hb0
 clear hb0
 unfold Z60.f at h
 by_cases c2:(l0.length:Int) > 24
 ·rw [if_pos c2] at h
  have c2b0:decide (24 < (l0.length:Int)) = true:=oC_ c2
  have c2b1:decide (24 < l0.length) = true:=oC_ (by omega)
  clear c2
  obtain rfl:=Option.some.inj h
  go_enter Try.func107,Try.ntmps107
  go_upto_region 1 with (fail)
  refine wp_region_lit ?_
  refine wpList_val rfl (.agg Z24) w (by as_aux_lemma=>kernel_rfl) ?_
  refine wpList_val rfl (.pointer (some ⟨w.heap.size,0,none⟩)) (w.alloc (.cells Z24 130)) (by as_aux_lemma=>kernel_rfl) ?_
  refine wpList_store_row rfl 130 (.tmp 3) (.tmp 6) rfl w.heap.size Z24 rfl rfl 130 Z24 (heap_alloc_new _ _) (by as_aux_lemma=>kernel_rfl) rfl (by as_aux_lemma=>kernel_rfl) ?_
  rw [row_same _ _ _ _ (heap_alloc_new _ _)]
  generalize w.alloc (.cells Z24 130) = wq at HB0 ⊢
  generalize Value.agg Z24 = ag
  go_wp2
  go_ret
  exact ⟨rfl,HB0.out⟩
 ·rw [if_neg c2] at h
  have hn:l0.length≤24:=by omega
  have HN:=A_ hn
  clear hn
  have c2b0:decide (24 < (l0.length:Int)) = false:=oD_ c2
  have c2b1:decide (24 < l0.length) = false:=oD_ (by omega)
  clear c2
  have H':=A_ h
  clear h
  go_enter Try.func107,Try.ntmps107
  go_upto_region 1 with (fail)
  refine wp_region_lit ?_
  refine wpList_val rfl (.agg Z24) w (by as_aux_lemma=>kernel_rfl) ?_
  refine wpList_val rfl (.pointer (some ⟨w.heap.size,0,none⟩)) (w.alloc (.cells Z24 130)) (by as_aux_lemma=>kernel_rfl) ?_
  refine wpList_store_row rfl 130 (.tmp 3) (.tmp 6) rfl w.heap.size Z24 rfl rfl 130 Z24 (heap_alloc_new _ _) (by as_aux_lemma=>kernel_rfl) rfl (by as_aux_lemma=>kernel_rfl) ?_
  rw [row_same _ _ _ _ (heap_alloc_new _ _)]
  generalize w.alloc (.cells Z24 130) = wq at HB0 HST ⊢
  generalize Value.agg Z24 = ag
  go_wp2
  go_loopg [12] k (fun kq v12 w'=>∃ (s:List Bool) (i:Int),v12 = .int .i64 i∧Aside0 (Z60.l0 kq l0 s i = some r)∧Aside0 (kq≤k)∧Aside0 (s.length = 24)∧Aside0 (Kd.R Kd.bool 130 w' w.heap.size (fun _=>True) (.slice (some ⟨w.heap.size,0,none⟩) 24 24) s)∧Aside0 (Below w.heap.size w w'))
  case atStart=>exact ⟨List.replicate 24 false,0,rfl,H',⟨nA_ _⟩,⟨rfl⟩,HST,HB0⟩
  case round =>
   clear H' HST HB0
   obtain ⟨s,i,rfl,HA,HK1,HS,HO,HB⟩:=hrel
   cases gk with
   | zero=>exact absurd HA.out (by simp [Z60.l0])
   | succ k1 =>
    have H:=HA.out
    clear HA
    simp only [Z60.l0] at H
    by_cases c3:i < (l0.length:Int)
    ·rw [if_pos c3] at H
     have c4:=cp_ H
     replace H:=ca_ H
     have c3b0:=oC_ c3
     have c4b0:=oC_ c4
     obtain ⟨ad,e0,hx⟩:=Kd.at_int HR0.out i c4 c3
     cases e0
     replace hx:=(HB.out.cell (World.block_lt_of_cell? w _ hx)).trans hx
     replace c3:=eq_true c3
     replace c4:=eq_true c4
     by_cases c5:rd l0 i < 0
     ·rw [if_pos c5] at H
      have c5b0:=oC_ c5
      clear c5
      obtain rfl:=Option.some.inj H
      go_wp2
      go_ret
      exact ⟨rfl,HB.out⟩
     ·rw [if_neg c5] at H
      have c5b0:=oD_ c5
      by_cases c6:rd l0 i ≥ (l0.length:Int)
      ·rw [if_pos c6] at H
       have c6b0:decide ((l0.length:Int)≤rd l0 i) = true:=oC_ c6
       clear c5 c6
       obtain rfl:=Option.some.inj H
       go_wp2
       go_ret
       exact ⟨rfl,HB.out⟩
      ·rw [if_neg c6] at H
       have c6b0:decide ((l0.length:Int)≤rd l0 i) = false:=oD_ c6
       have p1:0≤rd l0 i:=by omega
       have p2:rd l0 i < ((24:Nat):Int):=by have:=HN.out;omega
       have p2':rd l0 i < 24:=p2
       obtain ⟨hy,hz⟩:=Kd.R_celln false HO.out (rd l0 i) p1 p2
       have p1b:decide (0≤rd l0 i) = true:=oC_ p1
       have p2b:decide (rd l0 i < 24) = true:=oC_ p2'
       clear c5 c6
       by_cases c7:rdOf false s (rd l0 i) = true
       ·rw [if_pos c7] at H
        rw [c7] at hy
        clear c7
        obtain rfl:=Option.some.inj H
        go_wp2
        go_ret
        exact ⟨rfl,HB.out⟩
       ·rw [if_neg c7] at H
        replace c7:=Bool.eq_false_iff.mpr c7
        rw [c7] at hy
        clear c7
        have H':=A_ H
        clear H
        have HP:=Kd.R_putg HO.out (rd l0 i) true
        have HP':=A_ HP
        clear HP
        go_wp2
        go_roundg k1
        case measure=>have:=HK1.out;omega
        case rel=>exact ⟨s.set (rd l0 i).toNat true,wrap64 (i + 1),rfl,H',⟨by have:=HK1.out;omega⟩,⟨by rw [List.length_set];exact HS.out⟩,⟨HP'.out.1⟩,⟨bD_ HB.out (nA_ _)⟩⟩
    ·rw [if_neg c3] at H
     have c3b0:=oD_ c3
     clear c3
     obtain rfl:=Option.some.inj H
     go_wp2
     go_ret
     exact ⟨rfl,HB.out⟩
end Go.Proofs.Ytcggfjpnfodbaaa.A
end
section
namespace Go.Proofs.Ytcggfjpnfodbaaa.A
open Go.RowKit Go.Proofs.YtcggfjpnfodbaaaW.PrintWords Go.Proofs.YtcggfjpnfodbaaaW.PrintLast Go.Proofs.YtcggfjpnfodbaaaW.PrintMore
attribute [local go_sem] max2_int min2_int max_two min_two max_three min_three max_four min_four
set_option linter.unusedVariables false
set_option linter.unusedSimpArgs false
mutual
def Z12.j0:Nat→List Int→List Int→Bool→Option (Bool)
 | 0,_,_,_=>none
 | k + 1,x0,x1,x29=>if x29 = true then (some false) else (if 0≤(x0.length:Int) then (if ((x0.length:Int):Int).toNat≤281474976710656 then ((some (List.replicate ((x0.length:Int):Int).toNat false:List Bool)).bind fun y217=>(if 0 < (y217.length:Int) then (Z12.l0 k x0 x1 (y217.set (0:Int).toNat true) (([0]:List Int)) 0) else (none))) else (none)) else (none))
def Z12.l0:Nat→List Int→List Int→List Bool→List Int→Int→Option (Bool)
 | 0,_,_,_,_,_=>none
 | k + 1,x0,x1,x5,x6,x7=>if x7 < (x6.length:Int) then (if 0≤x7 then (if 0≤(rd x6 x7) then (if (rd x6 x7) < (x0.length:Int) then (if (rd x6 x7) < (x1.length:Int) then ((some (([rd x0 (rd x6 x7),rd x1 (rd x6 x7)]:List Int):List Int)).bind fun y228=>(Z12.l1 k x0 x1 x5 x6 x7 y228 (y228.length:Int) 0)) else (none)) else (none)) else (none)) else (none)) else (some ((x6.length:Int) == (x0.length:Int)))
def Z12.l1:Nat→List Int→List Int→List Bool→List Int→Int→List Int→Int→Int→Option (Bool)
 | 0,_,_,_,_,_,_,_,_=>none
 | k + 1,x0,x1,x5,x6,x7,x56,x57,x58=>if x58 < x57 then (if 0≤x58 then (if x58 < (x56.length:Int) then (if 0≤(rd x56 x58) then (if (rd x56 x58) < (x5.length:Int) then (if (rdOf false x5 (rd x56 x58) = true) then (Z12.l1 k x0 x1 x5 x6 x7 x56 x57 (wrap64 (x58 + 1))) else (if x6.length < 17592186044416 then (Z12.l1 k x0 x1 (x5.set ((rd x56 x58):Int).toNat true) (x6 ++ [rd x56 x58]) x7 x56 x57 (wrap64 (x58 + 1))) else (none))) else (none)) else (none)) else (none)) else (none)) else (Z12.l0 k x0 x1 x5 x6 (wrap64 (x7 + 1)))
end
def Z12.f (k:Nat) (l0:List Int) (l1:List Int):Option (Bool):=(Z60.f k l0).bind fun t215=>(if t215 = true then ((Z60.f k l1).bind fun t216=>(if t216 = true then (if (l0.length:Int) = (l1.length:Int) then (Z12.j0 k l0 l1 ((l0.length:Int) == 0)) else (Z12.j0 k l0 l1 true)) else (Z12.j0 k l0 l1 true))) else (Z12.j0 k l0 l1 true))
theorem Z12.mono_l:∀ k,(∀ y0 y1 y2,LeO (Z12.j0 k y0 y1 y2) (Z12.j0 (k + 1) y0 y1 y2))∧(∀ y0 y1 y2 y3 y4,LeO (Z12.l0 k y0 y1 y2 y3 y4) (Z12.l0 (k + 1) y0 y1 y2 y3 y4))∧(∀ y0 y1 y2 y3 y4 y5 y6 y7,LeO (Z12.l1 k y0 y1 y2 y3 y4 y5 y6 y7) (Z12.l1 (k + 1) y0 y1 y2 y3 y4 y5 y6 y7))
 | 0=>⟨fun _ _ _ r h=>by simp [Z12.j0] at h,fun _ _ _ _ _ r h=>by simp [Z12.l0] at h,fun _ _ _ _ _ _ _ _ r h=>by simp [Z12.l1] at h⟩
 | k + 1=>by
  obtain ⟨ih0,ih1,ih2⟩:=Z12.mono_l k
  refine ⟨?_,?_,?_⟩
  ·intro y0 y1 y2
   unfold Z12.j0
   repeat' first|exact ih0 _ _ _|exact ih1 _ _ _ _ _|exact ih2 _ _ _ _ _ _ _ _|exact Z60.mono _ _|exact lo_|refine LeO.ite ?_ ?_|refine LeO.bind ?_ (fun _=>?_)
  ·intro y0 y1 y2 y3 y4
   unfold Z12.l0
   repeat' first|exact ih0 _ _ _|exact ih1 _ _ _ _ _|exact ih2 _ _ _ _ _ _ _ _|exact Z60.mono _ _|exact lo_|refine LeO.ite ?_ ?_|refine LeO.bind ?_ (fun _=>?_)
  ·intro y0 y1 y2 y3 y4 y5 y6 y7
   unfold Z12.l1
   repeat' first|exact ih0 _ _ _|exact ih1 _ _ _ _ _|exact ih2 _ _ _ _ _ _ _ _|exact Z60.mono _ _|exact lo_|refine LeO.ite ?_ ?_|refine LeO.bind ?_ (fun _=>?_)
theorem Z12.mono:∀ a0 a1 k,LeO (Z12.f k a0 a1) (Z12.f (k + 1) a0 a1):=by
 intro a0 a1 k
 obtain ⟨ih0,ih1,ih2⟩:=Z12.mono_l k
 unfold Z12.f
 repeat' first|exact ih0 _ _ _|exact ih1 _ _ _ _ _|exact ih2 _ _ _ _ _ _ _ _|exact Z60.mono _ _|exact lo_|refine LeO.ite ?_ ?_|refine LeO.bind ?_ (fun _=>?_)
def Z12.T9:Bool × List (List Nat × List Nat):=(true,[([],[]),([],[]),([],[]),([1,2],[1,2]),([3],[3]),([0,4],[0,4]),([5],[5]),([],[]),([],[]),([],[]),([8,9],[8,9]),([10],[10]),([7,11],[7,11]),([12],[12]),([6,13],[6,13]),([14],[14]),([],[])])
def Z12.B9:List Nat:=[0,0,0,6,14,31,63,0,0,0,768,1792,3968,8064,16383,32767,0]
theorem Z12.tab9:rtab .any (opsOf Try.f106 9) = Z12.T9:=by kernel_rfl
theorem Z12.bits9:waitsOk Z12.T9.2 Z12.B9 = true:=by kernel_rfl
set_option maxHeartbeats 8000000 in
set_option maxRecDepth 100000 in
theorem Z12.calls (k:Nat) (A0:Option Addr) (c0:Nat) (l0:List Int) (A1:Option Addr) (c1:Nat) (l1:List Int) (r:Bool) (w:World) (hr0:Kd.C (Kd.int .i64) w A0 l0.length l0) (hc0:l0.length≤c0) (hr1:Kd.C (Kd.int .i64) w A1 l1.length l1) (hc1:l1.length≤c1) (h:Z12.f k l0 l1 = some r) :
  Calls Try.prog 106 #[.slice A0 l0.length c0,.slice A1 l1.length c1] w fun e w'=>e = .returned (.bool r)∧Below w.heap.size w w':=by
 have HR0:=A_ hr0
 have HC0:=A_ hc0
 clear hr0 hc0
 have HR1:=A_ hr1
 have HC1:=A_ hc1
 clear hr1 hc1
 have HB:=A_ (Below.refl w.heap.size w)
 have H:=h
 unfold Z12.f at H
 clear h
 have HC3:=A_ H
 clear H
 go_enter Try.func106,Try.ntmps106
 go_upto_region 1 with (fail)
 go_cut [29] (fun v29 wc=>∃ (kq:Nat) (x29_2:Bool),v29 = .bool x29_2∧Aside0 (Z12.j0 kq l0 l1 x29_2 = some r)∧Aside0 (kq≤k)∧Aside0 (Below w.heap.size w wc))
 case first =>
  have H:=HC3.out
  clear HC3
  obtain ⟨t215,A4,H⟩:=bi_ H
  by_cases c5:t215 = true
  ·subst c5
   rw [if_pos rfl] at H
   obtain ⟨t216,A6,H⟩:=bi_ H
   by_cases c7:t216 = true
   ·subst c7
    rw [if_pos rfl] at H
    by_cases c8:(l0.length:Int) = (l1.length:Int)
    ·rw [if_pos c8] at H
     have c8b0:((l0.length:Int) == (l1.length:Int)) = true:=beq_iff_eq.mpr c8
     have c8b1:((l0.length:Int) != (l1.length:Int)) = false:=bne_eq_false_iff_eq.mpr c8
     have c8b2:(l0.length == l1.length) = true:=by first | simpa using c8 | (simp at c8 ⊢;omega)
     clear c8
     (first | rw [c8b0] | (simp only [i64_w,i32_w];rw [c8b0]) | skip)
     have H':=A_ H
     clear H
     go_wp2_with (first | ((with_reducible refine gA_ (f:=107) rfl ?_);refine gL_ (some 11) Try.func107 #[.slice A0 l0.length c0] rfl qa_ ?_;(with_reducible refine (Z60.calls k _ _ l0 true _ (cb_ HR0) HC0.out A4.out).mono ?_);rintro e w9 ⟨rfl,hb⟩;refine ⟨_,rfl,?_⟩;replace HB:=b1_ hb;clear hb) | (go_at_call 107;(with_reducible refine (Z60.calls k _ _ l1 true _ (cb_ HR1) HC1.out A6.out).mono ?_);rintro e w10 ⟨rfl,hb⟩;replace HB:=b1_ hb;clear hb))
     go_meet
     case rel=>exact ⟨_,(((l0.length:Int) == 0)),qc_,H',⟨qd_⟩,⟨hB_⟩⟩
    ·rw [if_neg c8] at H
     have c8b0:((l0.length:Int) == (l1.length:Int)) = false:=beq_eq_false_iff_ne.mpr c8
     have c8b1:((l0.length:Int) != (l1.length:Int)) = true:=bne_iff_ne.mpr c8
     have c8b2:(l0.length == l1.length) = false:=by first | simpa using c8 | (simp at c8 ⊢;omega)
     (first | rw [c8b0] | (simp only [i64_w,i32_w];rw [c8b0]) | skip)
     have H':=A_ H
     clear H
     go_wp2_with (first | ((with_reducible refine gA_ (f:=107) rfl ?_);refine gL_ (some 11) Try.func107 #[.slice A0 l0.length c0] rfl qa_ ?_;(with_reducible refine (Z60.calls k _ _ l0 true _ (cb_ HR0) HC0.out A4.out).mono ?_);rintro e w11 ⟨rfl,hb⟩;refine ⟨_,rfl,?_⟩;replace HB:=b1_ hb;clear hb) | (go_at_call 107;(with_reducible refine (Z60.calls k _ _ l1 true _ (cb_ HR1) HC1.out A6.out).mono ?_);rintro e w12 ⟨rfl,hb⟩;replace HB:=b1_ hb;clear hb))
     go_meet
     case rel=>exact ⟨_,(true),qc_,H',⟨qd_⟩,⟨hB_⟩⟩
   ·replace c7:=Bool.eq_false_iff.mpr c7
    subst c7
    have H1:(Z12.j0 k l0 l1 true) = some r:=by rw [if_neg (show ¬ (false = true) by decide)] at H;exact H
    clear H
    have H:=H1
    clear H1
    have H':=A_ H
    clear H
    go_wp2_with (first | ((with_reducible refine gA_ (f:=107) rfl ?_);refine gL_ (some 11) Try.func107 #[.slice A0 l0.length c0] rfl qa_ ?_;(with_reducible refine (Z60.calls k _ _ l0 true _ (cb_ HR0) HC0.out A4.out).mono ?_);rintro e w13 ⟨rfl,hb⟩;refine ⟨_,rfl,?_⟩;replace HB:=b1_ hb;clear hb) | (go_at_call 107;(with_reducible refine (Z60.calls k _ _ l1 false _ (cb_ HR1) HC1.out A6.out).mono ?_);rintro e w14 ⟨rfl,hb⟩;replace HB:=b1_ hb;clear hb))
    go_meet
    case rel=>exact ⟨_,(true),qc_,H',⟨qd_⟩,⟨hB_⟩⟩
  ·replace c5:=Bool.eq_false_iff.mpr c5
   subst c5
   have H1:(Z12.j0 k l0 l1 true) = some r:=by rw [if_neg (show ¬ (false = true) by decide)] at H;exact H
   clear H
   have H:=H1
   clear H1
   have H':=A_ H
   clear H
   go_wp2_with (first | ((with_reducible refine gA_ (f:=107) rfl ?_);refine gL_ (some 11) Try.func107 #[.slice A0 l0.length c0] rfl qa_ ?_;(with_reducible refine (Z60.calls k _ _ l0 false _ (cb_ HR0) HC0.out A4.out).mono ?_);rintro e w15 ⟨rfl,hb⟩;refine ⟨_,rfl,?_⟩;replace HB:=b1_ hb;clear hb))
   go_meet
   case rel=>exact ⟨_,(true),qc_,H',⟨qd_⟩,⟨hB_⟩⟩
 case rest =>
  clear HC3
  obtain ⟨kq,x29_2,rfl,HA,HJ2,HB⟩:=hcut
  cases kq with
  | zero=>exact absurd HA.out (by simp [Z12.j0])
  | succ kj2 =>
   have H:=HA.out
   clear HA
   simp only [Z12.j0] at H
   by_cases c16:x29_2 = true
   ·subst c16
    rw [if_pos rfl] at H
    obtain rfl:=Option.some.inj H
    go_wp2
    go_ret
    exact ⟨qb_,hB_⟩
   ·replace c16:=Bool.eq_false_iff.mpr c16
    subst c16
    have H1:(if 0≤(l0.length:Int) then (if ((l0.length:Int):Int).toNat≤281474976710656 then ((some (List.replicate ((l0.length:Int):Int).toNat false:List Bool)).bind fun y217=>(if 0 < (y217.length:Int) then (Z12.l0 kj2 l0 l1 (y217.set (0:Int).toNat true) (([0]:List Int)) 0) else (none))) else (none)) else (none)) = some r:=by rw [if_neg (show ¬ (false = true) by decide)] at H;exact H
    clear H
    have H:=H1
    clear H1
    have c17:=cp_ H
    replace H:=ca_ H
    have c17b0:=eq_true c17
    have c17b1:=oC_ c17
    clear c17
    have c18:=cp_ H
    replace H:=ca_ H
    have c18b0:=eq_true c18
    have c18b1:=oC_ c18
    clear c18
    obtain ⟨y217,hy217⟩:∃ y_:List Bool,y_ = (List.replicate ((l0.length:Int):Int).toNat false):=⟨_,rfl⟩
    replace H:(if 0 < (y217.length:Int) then (Z12.l0 kj2 l0 l1 (y217.set (0:Int).toNat true) (([0]:List Int)) 0) else (none)) = some r:=by first | (rw [hy217];exact H) | exact H
    have Ny217:=A_ hy217
    clear hy217
    have c19:=cp_ H
    replace H:=ca_ H
    have c19b0:=oC_ c19
    have c19b1:decide (0 < y217.length) = true:=oC_ (by omega)
    clear c19
    obtain ⟨y220,hy220⟩:∃ y_:List Bool,y_ = (y217.set (0:Int).toNat true):=⟨_,rfl⟩
    replace H:(Z12.l0 kj2 l0 l1 y220 (([0]:List Int)) 0) = some r:=by first | (rw [hy220];exact H) | exact H
    have Ny220:=A_ hy220
    clear hy220
    obtain ⟨y221,hy221⟩:∃ y_:List Int,y_ = (([0]:List Int)):=⟨_,rfl⟩
    replace H:(Z12.l0 kj2 l0 l1 y220 y221 0) = some r:=by first | (rw [hy221];exact H) | exact H
    have Ny221:=A_ hy221
    clear hy221
    have H':=A_ H
    clear H
    go_wp2_with (first | ((with_reducible refine gB_ (N:=32) rfl ?_);(try (refine gate_guard (by rfl) ?_;dsimp only));refine Kd.R_make Kd.bool _ 4 rfl (N:=32) rfl 66 _ _ rfl (l0.length:Int) rfl rfl Try.underlying66 (.bool false) 1 info4 rfl (by decide) (by omega) false (ok:=fun _=>True) (okp:=fun _=>True) rfl (fun _ hk=>hk) trivial (oB_ qe_) (Nat.le_trans (Nat.mul_le_mul_right _ (oB_ qe_:(l0.length:Int).toNat≤281474976710656)) (by omega)) (Below.refl _ _) (nA_ _) ?_;intro v218 w21 ho22 hb hg_ hnew_;clear hg_ hnew_;(first | rw [← Ny217.out] at ho22 | (simp only [Int.reduceToNat] at ho22;rw [← Ny217.out] at ho22));have HO219:=rl_ w ho22;replace HB:=b1_ hb;clear hb ho22;have p20:0≤(0:Int):=(by omega);have q20:(0:Int) < ((y217.length:Int):Int):=oB_ qe_;have qi20:(0 < y217.length) = True:=eq_true (by omega);obtain ⟨go20,co20,eo20,gb20,gl20,cl20,HG20⟩:=Kd.R_form HO219.out (by omega);(first | cases eo20 | (injection eo20 with ea_ en_ ec_;(first | subst ea_ | (injection ea_ with ea_;subst ea_));subst ec_;clear en_));have GB20:=A_ gb20;have GG20:=A_ HG20;clear gb20 gl20 HG20;obtain ⟨hx20_0,hf20_0⟩:=Kd.R_celln false HO219.out (0:Int) p20 q20;(try rw [show ((0:Int)).toNat = 0 from rfl] at hx20_0);(try simp only [Nat.reduceMul,Nat.zero_mul,Nat.zero_add,Nat.reduceAdd] at hx20_0);(try rw [show ((0:Int)).toNat = 0 from rfl] at hf20_0);(try simp only [Nat.reduceMul,Nat.zero_mul,Nat.zero_add,Nat.reduceAdd] at hf20_0);replace p20:=eq_true p20;replace q20:=eq_true q20;obtain ⟨hy23_,hz23_⟩:=Kd.R_celln false HO219.out (0:Int) (by omega) (oB_ qe_);(try simp only [Int.reduceToNat,Int.toNat_zero,Int.toNat_ofNat,Nat.reduceMul,Nat.zero_mul,Nat.zero_add] at hy23_ hz23_);(try rw [show ((0:Int)).toNat = 0 from rfl] at hy23_);(try rw [show ((0:Int)).toNat = 0 from rfl] at hz23_);have HP23:=Kd.R_putg HO219.out (0:Int) true) | ((with_reducible refine gate_store (t:=4) (p:=34) rfl ?_);refine store_event (t:=4) (p:=34) (v:=?vo_w24) (w1:=(w21.setCell ⟨go20,(0:Int).toNat,none⟩ (.bool true))) ?hg ?ho ?hn ?hr ?_;(case ho=>rfl);(case hg=>rfl);(case hn=>rfl);(case hr=>first | (go_simp;done) | (go_simp;rfl));intro w24 hw;have hg:w21.grownBy w24 (some go20):=(by rw [hw];exact HP23.2);have hp_:Kd.R Kd.bool 4 w24 w.heap.size (fun _=>True) (.slice (some ⟨go20,0,none⟩) y217.length co20) y220:=(by rw [hw,Ny220.out];exact HP23.1);clear HP23;replace HO219:=A_ (hp_);replace HB:=A_ ((by rw [hw];exact bD_ (HB.out) GB20.out:Below w.heap.size w w24));clear hg hw hp_) | ((with_reducible refine gB_ (N:=35) rfl ?_);(try (refine gate_guard (by rfl) ?_;dsimp only));refine Kd.R_lit (Kd.int .i64) _ 3 ?hg (N:=35) ?hd (xs:=([0]:List Int)) (inner:=[.int .i64 0]) (ok:=fun _=>True) (okp:=fun _=>True) ?hr ?hp (fun _ hk=>hk) trivial (Below.refl _ _) (nA_ _) (by simp) ?_;(case hd=>rfl);(case hg=>rfl);(case hr=>first | (go_simp;done) | (go_simp;rfl));(case hp=>exact (Reps.one (show Kd.M (Kd.int .i64) _ _ _ 0 [.int .i64 0] from rfl) (Reps.none _ _)));intro v222 w25 ho26 hb hg_ hnew_;clear hg_ hnew_;(first | rw [← Ny221.out] at ho26 | (simp only [Int.reduceToNat] at ho26;rw [← Ny221.out] at ho26));replace HO219:=rb_ HO219 hb;have HO223:=rl_ w ho26;replace HB:=b1_ hb;clear hb ho26))
    go_loopg [6,7] kj2 (fun kq v6 v7 w'=>∃ (x5_2:List Bool) (x6_2:List Int) (x7_2:Int),v7 = .int .i64 x7_2∧Aside0 (Z12.l0 kq l0 l1 x5_2 x6_2 x7_2 = some r)∧Aside0 (kq≤kj2)∧Aside0 (Kd.R Kd.bool 4 w' w.heap.size (fun _=>True) (.slice (some ⟨go20,0,none⟩) y217.length co20) x5_2)∧Aside0 (Kd.R (Kd.int .i64) 3 w' w.heap.size (fun _=>True) v6 x6_2)∧Aside0 (Below w.heap.size w w'))
    case atStart=>exact ⟨(y220),(y221),(0),qc_,H',⟨nA_ _⟩,⟨(rr_ HO219)⟩,⟨(rr_ HO223)⟩,⟨hB_⟩⟩
    case round =>
     clear H'
     obtain ⟨x5_2,x6_2,x7_2,rfl,HA,HK2,HO_5,HO_6,HB⟩:=hrel
     have hl5_2:=(Kd.R_reads' HO_5.out).1
     rw [hl5_2] at HO_5
     (try simp only [hl5_2])
     (try simp only [hl5_2] at HO_6)
     cases gk with
     | zero=>exact absurd HA.out (by simp [Z12.l0])
     | succ k2 =>
      have H:=HA.out
      clear HA
      simp only [Z12.l0] at H
      by_cases c27:x7_2 < (x6_2.length:Int)
      ·rw [if_pos c27] at H
       have c27b0:=oC_ c27
       clear c27
       replace H:=cx_ H;obtain ⟨c28b0,H⟩:=H
       replace H:=cx_ H;obtain ⟨c29b0,H⟩:=H
       replace H:=cx_ H;obtain ⟨c30b0,H⟩:=H
       replace H:=cx_ H;obtain ⟨c31b0,H⟩:=H
       obtain ⟨y228,hy228⟩:∃ y_:List Int,y_ = (([rd l0 (rd x6_2 x7_2),rd l1 (rd x6_2 x7_2)]:List Int)):=⟨_,rfl⟩
       replace H:(Z12.l1 k2 l0 l1 x5_2 x6_2 x7_2 y228 (y228.length:Int) 0) = some r:=by first | (rw [hy228];exact H) | exact H
       have Ny228:=A_ hy228
       clear hy228
       have H':=A_ H
       clear H
       obtain ⟨Ao32,co32,eo32⟩:=Kd.R_slice HO_6.out
       subst eo32
       try go_wp2
       replace HO_5:=A_ (rC_ HO_5.out)
       replace HO_6:=A_ (rC_ HO_6.out)
       replace HB:=A_ (bC_ HB.out)
       have p224:0≤(x7_2:Int):=oB_ qe_
       have q224:x7_2 < (x6_2.length:Int):=oB_ qe_
       obtain ⟨ad224,e224,hx224_0⟩:=Kd.at_int (Kd.R_reads' HO_6.out).2.2 x7_2 p224 q224
       cases e224
       replace p224:=eq_true p224
       replace q224:=eq_true q224
       have p225:0≤((rd x6_2 x7_2):Int):=oB_ qe_
       have q225:(rd x6_2 x7_2) < (l0.length:Int):=oB_ qe_
       obtain ⟨ad225,e225,hx225_0⟩:=Kd.at_int HR0.out (rd x6_2 x7_2) p225 q225
       have hw225_0:=hx225_0
       cases e225
       replace hx225_0:=(HB.out.cell (World.block_lt_of_cell? w _ hx225_0)).trans hx225_0
       replace p225:=eq_true p225
       replace q225:=eq_true q225
       have p226:0≤(x7_2:Int):=oB_ qe_
       have q226:x7_2 < (x6_2.length:Int):=oB_ qe_
       obtain ⟨ad226,e226,hx226_0⟩:=Kd.at_int (Kd.R_reads' HO_6.out).2.2 x7_2 p226 q226
       obtain rfl:ad224 = ad226:=(by injection e226)
       replace p226:=eq_true p226
       replace q226:=eq_true q226
       have p227:0≤((rd x6_2 x7_2):Int):=oB_ qe_
       have q227:(rd x6_2 x7_2) < (l1.length:Int):=oB_ qe_
       obtain ⟨ad227,e227,hx227_0⟩:=Kd.at_int HR1.out (rd x6_2 x7_2) p227 q227
       have hw227_0:=hx227_0
       cases e227
       replace hx227_0:=(HB.out.cell (World.block_lt_of_cell? w _ hx227_0)).trans hx227_0
       replace p227:=eq_true p227
       replace q227:=eq_true q227
       refine start_ (n:=17) (S:=fun w'=>w'.cell? (ad224.add (x7_2).toNat) = some (.int .i64 (rd x6_2 x7_2))∧w'.cell? (ad225.add ((rd x6_2 x7_2)).toNat) = some (.int .i64 (rd l0 (rd x6_2 x7_2)))∧w'.cell? (ad224.add (x7_2).toNat) = some (.int .i64 (rd x6_2 x7_2))∧w'.cell? (ad227.add ((rd x6_2 x7_2)).toNat) = some (.int .i64 (rd l1 (rd x6_2 x7_2)))) (ds:=[]) (bl_ 17 0) (by kernel_rfl) rfl (by kernel_rfl) ⟨hx224_0,((HB.out.cell (World.block_lt_of_cell? w _ hw225_0)).trans hw225_0),hx226_0,((HB.out.cell (World.block_lt_of_cell? w _ hw227_0)).trans hw227_0)⟩ (fun hHeld=>?_);refine with_tabW Z12.tab9 Z12.bits9 (fun HT_ HW_=>?_)
       generalize wr.drew = w33 at HO_5 HO_6 HB hx224_0 hx225_0 hx226_0 hx227_0 hHeld ⊢
       refine pu_ 0 (some 42) (bl_ 17 1) HT_ ?_
       refine pu_ 1 (some 43) (bl_ 17 3) HT_ ?_
       refine pu_ 2 (some 44) (bl_ 17 7) HT_ ?_
       refine pu_ 3 (some 45) (bl_ 17 15) HT_ ?_
       refine pu_ 7 (some 49) (bl_ 17 143) HT_ ?_
       refine pu_ 8 (some 50) (bl_ 17 399) HT_ ?_
       refine pu_ 9 (some 51) (bl_ 17 911) HT_ ?_
       refine pu_ 10 (some 52) (bl_ 17 1935) HT_ ?_
       refine pu_ 16 (some 58) (bl_ 17 67471) HT_ ?_
       refine ta_ 4 (some 46) (bl_ 17 67487) HT_ HW_ hHeld ?_
       refine pu_ 5 (some 47) (bl_ 17 67519) HT_ ?_
       refine ta_ 6 (some 48) (bl_ 17 67583) HT_ HW_ hHeld ?_
       refine ta_ 11 (some 53) (bl_ 17 69631) HT_ HW_ hHeld ?_
       refine pu_ 12 (some 54) (bl_ 17 73727) HT_ ?_
       refine ta_ 13 (some 55) (bl_ 17 81919) HT_ HW_ hHeld ?_
       refine on_ 14 (some 56) (bl_ 17 98303) HT_ (fun K hK=>?_)
       refine Kd.R_lit_step (Kd.int .i64) _ 3 ?hg (N:=56) ?hd (xs:=([rd l0 (rd x6_2 x7_2),rd l1 (rd x6_2 x7_2)]:List Int)) (inner:=[.int .i64 (rd l0 (rd x6_2 x7_2)),.int .i64 (rd l1 (rd x6_2 x7_2))]) (ok:=fun _=>True) (okp:=fun _=>True) ?hr ?hp (fun _ hk=>hk) trivial (Below.refl _ _) (nA_ _) (by simp) ?_;(case hd=>rfl);(case hg=>rfl);(case hr=>first | (go_simp;done) | (go_simp;rfl));(case hp=>exact (Reps.one (show Kd.M (Kd.int .i64) _ _ _ (rd l0 (rd x6_2 x7_2)) [.int .i64 (rd l0 (rd x6_2 x7_2))] from rfl) (Reps.one (show Kd.M (Kd.int .i64) _ _ _ (rd l1 (rd x6_2 x7_2)) [.int .i64 (rd l1 (rd x6_2 x7_2))] from rfl) (Reps.none _ _))))
       intro v229 w34 ho35 hb hg_ hnew_
       have HS0_:=(hb.cell (World.block_lt_of_cell? _ _ (hHeld.1))).trans (hHeld.1)
       have HS2_:=(hb.cell (World.block_lt_of_cell? _ _ (hHeld.2.2.1))).trans (hHeld.2.2.1)
       clear hg_ hnew_
       (first | rw [← Ny228.out] at ho35 | (simp only [Int.reduceToNat] at ho35;rw [← Ny228.out] at ho35))
       replace HO_5:=rb_ HO_5 hb
       have HO230:=A_ (rE_ (Kd.R_new' ho35 (Kd.R_lt (rr_ HO_6))) (bF_ hB_))
       replace HO_6:=A_ (Kd.R_elder' (rr_ HO_6) (Kd.R_base ho35) hb)
       replace HB:=b1_ hb
       clear hb ho35
       obtain ⟨Ao36,co36,eo36⟩:=Kd.R_slice HO230.out
       (first|subst eo36|(injection eo36 with a_ b_ c_;have a_:=a_.symm;have c_:=c_.symm;clear b_;subst a_;subst c_))
       refine hK.out _ _ ⟨HS0_,((HB.out.cell (World.block_lt_of_cell? w _ hw225_0)).trans hw225_0),HS2_,((HB.out.cell (World.block_lt_of_cell? w _ hw227_0)).trans hw227_0)⟩ (fun hHeld=>?_)
       clear hK K
       refine no_ (some 56) ?_
       refine pu_ 15 (some 57) (bl_ 17 131071) HT_ ?_
       refine done_ (done_of HT_.out (by kernel_rfl)) ?_
       try go_wp2
       go_loopg [6,58] k2 (fun kq v6 v58 w'=>∃ (x5_3:List Bool) (x6_3:List Int) (x58_3:Int),v58 = .int .i64 x58_3∧Aside0 (Z12.l1 kq l0 l1 x5_3 x6_3 x7_2 y228 (y228.length:Int) x58_3 = some r)∧Aside0 (kq≤k2)∧Aside0 (Kd.R Kd.bool 4 w' w.heap.size (fun _=>True) (.slice (some ⟨go20,0,none⟩) x5_2.length co20) x5_3)∧Aside0 (Kd.R (Kd.int .i64) 3 w' w.heap.size (fun k_=>some k_≠((.slice Ao36 y228.length co36):Value).ownBlock) v6 x6_3)∧Aside0 (Kd.R (Kd.int .i64) 3 w' w.heap.size (fun k_=>some k_≠(v6:Value).ownBlock) (.slice Ao36 y228.length co36) y228)∧Aside0 (Below w.heap.size w w'))
       case atStart=>exact ⟨(x5_2),(x6_2),(0),qc_,H',⟨nA_ _⟩,⟨by (try simp only [hl5_2]);(with_reducible repeat (first | apply rA_ | apply rB_ | apply rC_));exact HO_5.out⟩,⟨by (try simp only [hl5_2]);(with_reducible repeat (first | apply rA_ | apply rB_ | apply rC_));exact Kd.R_mono HO_6.out (fun _ hk=>hk.2)⟩,⟨by (try simp only [hl5_2]);(with_reducible repeat (first | apply rA_ | apply rB_ | apply rC_));exact Kd.R_mono HO230.out (fun _ hk=>hk.2)⟩,⟨hB_⟩⟩
       case round =>
        clear H'
        obtain ⟨x5_3,x6_3,x58_3,rfl,HA,HK3,HO_5,HO_6,HO_56,HB⟩:=hrel
        have hl5_3:=(Kd.R_reads' HO_5.out).1
        rw [hl5_3] at HO_5
        (try simp only [hl5_3])
        (try simp only [hl5_3] at HO_6)
        (try simp only [hl5_3] at HO_56)
        cases gk with
        | zero=>exact absurd HA.out (by simp [Z12.l1])
        | succ k3 =>
         have H:=HA.out
         clear HA
         simp only [Z12.l1] at H
         by_cases c37:x58_3 < (y228.length:Int)
         ·rw [if_pos c37] at H
          have c37b0:=oC_ c37
          clear c37
          replace H:=cx_ H;obtain ⟨c38b0,H⟩:=H
          replace H:=cx_ H;obtain ⟨c39b0,H⟩:=H
          replace H:=cx_ H;obtain ⟨c40b0,H⟩:=H
          replace H:=cx_ H;obtain ⟨c41b0,H⟩:=H
          obtain ⟨bq42,hbq42⟩:∃ b_:Bool,b_ = (rdOf false x5_3 (rd y228 x58_3)):=⟨_,rfl⟩
          replace H:(if (bq42 = true) then (Z12.l1 k3 l0 l1 x5_3 x6_3 x7_2 y228 (y228.length:Int) (wrap64 (x58_3 + 1))) else (if x6_3.length < 17592186044416 then (Z12.l1 k3 l0 l1 (x5_3.set ((rd y228 x58_3):Int).toNat true) (x6_3 ++ [rd y228 x58_3]) x7_2 y228 (y228.length:Int) (wrap64 (x58_3 + 1))) else (none))) = some r:=by rw [← hbq42] at H;exact H
          have Nbq42:=A_ hbq42
          clear hbq42
          by_cases c43:(bq42 = true)
          ·subst c43
           rw [if_pos rfl] at H
           have H':=A_ H
           clear H
           have p231:0≤(x58_3:Int):=oB_ qe_
           have q231:x58_3 < (y228.length:Int):=oB_ qe_
           obtain ⟨ad231,e231,hx231_0⟩:=Kd.at_int (Kd.R_reads' HO_56.out).2.2 x58_3 p231 q231
           cases e231
           replace p231:=eq_true p231
           replace q231:=eq_true q231
           have p232:0≤((rd y228 x58_3):Int):=oB_ qe_
           have q232:(rd y228 x58_3) < (x5_3.length:Int):=oB_ qe_
           obtain ⟨ad232,e232,hx232_0⟩:=Kd.at_bool (Kd.R_reads' HO_5.out).2.2 (rd y228 x58_3) p232 q232
           (try rw [← Nbq42.out] at hx232_0)
           obtain rfl:(⟨go20,0,none⟩:Addr) = ad232:=(by injection e232)
           (first | simp only [add_plain] at hx232_0 | simp only [add_at] at hx232_0 | simp only [Addr.add,Nat.zero_add] at hx232_0 | skip)
           replace p232:=eq_true p232
           replace q232:=eq_true q232
           go_wp2
           (try simp only [← hl5_3])
           go_roundg k3
           case measure=>have:=HJ2.out;have:=HK2.out;have:=HK3.out;omega
           case rel=>exact ⟨(x5_3),(x6_3),(wrap64 (x58_3 + 1)),qc_,H',⟨by have:=HJ2.out;have:=HK2.out;have:=HK3.out;omega⟩,⟨by (try simp only [hl5_2]);(try simp only [hl5_3]);(with_reducible repeat (first | apply rA_ | apply rB_ | apply rC_));exact HO_5.out⟩,⟨by (try simp only [hl5_2]);(try simp only [hl5_3]);(with_reducible repeat (first | apply rA_ | apply rB_ | apply rC_));exact HO_6.out⟩,⟨by (try simp only [hl5_2]);(try simp only [hl5_3]);(with_reducible repeat (first | apply rA_ | apply rB_ | apply rC_));exact HO_56.out⟩,⟨hB_⟩⟩
          ·replace c43:=Bool.eq_false_iff.mpr c43
           subst c43
           have H1:(if x6_3.length < 17592186044416 then (Z12.l1 k3 l0 l1 (x5_3.set ((rd y228 x58_3):Int).toNat true) (x6_3 ++ [rd y228 x58_3]) x7_2 y228 (y228.length:Int) (wrap64 (x58_3 + 1))) else (none)) = some r:=by rw [if_neg (show ¬ (false = true) by decide)] at H;exact H
           clear H
           have H:=H1
           clear H1
           obtain ⟨y233,hy233⟩:∃ y_:List Bool,y_ = (x5_3.set ((rd y228 x58_3):Int).toNat true):=⟨_,rfl⟩
           replace H:(if x6_3.length < 17592186044416 then (Z12.l1 k3 l0 l1 y233 (x6_3 ++ [rd y228 x58_3]) x7_2 y228 (y228.length:Int) (wrap64 (x58_3 + 1))) else (none)) = some r:=by first | (rw [hy233];exact H) | exact H
           have Ny233:=A_ hy233
           clear hy233
           have c45:=cp_ H
           replace H:=ca_ H
           have LMc45:=A_ c45
           clear c45
           obtain ⟨y234,hy234⟩:∃ y_:List Int,y_ = (x6_3 ++ [rd y228 x58_3]):=⟨_,rfl⟩
           replace H:(Z12.l1 k3 l0 l1 y233 y234 x7_2 y228 (y228.length:Int) (wrap64 (x58_3 + 1))) = some r:=by first | (rw [hy234];exact H) | exact H
           have Ny234:=A_ hy234
           clear hy234
           have H':=A_ H
           clear H
           have p231:0≤(x58_3:Int):=oB_ qe_
           have q231:x58_3 < (y228.length:Int):=oB_ qe_
           obtain ⟨ad231,e231,hx231_0⟩:=Kd.at_int (Kd.R_reads' HO_56.out).2.2 x58_3 p231 q231
           cases e231
           replace p231:=eq_true p231
           replace q231:=eq_true q231
           have p232:0≤((rd y228 x58_3):Int):=oB_ qe_
           have q232:(rd y228 x58_3) < (x5_3.length:Int):=oB_ qe_
           obtain ⟨ad232,e232,hx232_0⟩:=Kd.at_bool (Kd.R_reads' HO_5.out).2.2 (rd y228 x58_3) p232 q232
           (try rw [← Nbq42.out] at hx232_0)
           obtain rfl:(⟨go20,0,none⟩:Addr) = ad232:=(by injection e232)
           (first | simp only [add_plain] at hx232_0 | simp only [add_at] at hx232_0 | simp only [Addr.add,Nat.zero_add] at hx232_0 | skip)
           replace p232:=eq_true p232
           replace q232:=eq_true q232
           have p44:0≤((rd y228 x58_3):Int):=oB_ qe_
           have q44:((rd y228 x58_3):Int) < ((x5_3.length:Int):Int):=oB_ qe_
           obtain ⟨hx44_0,hf44_0⟩:=Kd.R_celln false HO_5.out ((rd y228 x58_3):Int) p44 q44
           replace p44:=eq_true p44
           replace q44:=eq_true q44
           have HP46:=Kd.R_putg HO_5.out ((rd y228 x58_3):Int) true
           go_wp2_with (first | ((with_reducible refine gate_store (t:=4) (p:=69) rfl ?_);refine store_event (t:=4) (p:=69) (v:=?vo_w47) (w1:=(wr.setCell ⟨go20,((rd y228 x58_3):Int).toNat,none⟩ (.bool true))) ?hg ?ho ?hn ?hr ?_;(case ho=>rfl);(case hg=>rfl);(case hn=>rfl);(case hr=>first | (go_simp;done) | (go_simp;rfl));intro w47 hw;have hg:wr.grownBy w47 (some go20):=(by rw [hw];exact HP46.2);have hp_:Kd.R Kd.bool 4 w47 w.heap.size (fun _=>True) (.slice (some ⟨go20,0,none⟩) x5_3.length co20) y233:=(by rw [hw,Ny233.out];exact HP46.1);clear HP46;replace HO_6:=A_ (Kd.R_over' (v:=(.slice (some ⟨go20,0,none⟩) x5_3.length co20)) (rr_ HO_6) (Kd.R_typed HO_5.out) (by decide) hg);replace HO_56:=A_ (Kd.R_over' (v:=(.slice (some ⟨go20,0,none⟩) x5_3.length co20)) (rr_ HO_56) (Kd.R_typed HO_5.out) (by decide) hg);replace HO_5:=A_ (hp_);replace HB:=A_ ((by rw [hw];exact bD_ (HB.out) GB20.out:Below w.heap.size w w47));clear hg hw hp_) | ((with_reducible refine gate_builtin (b:=.append) (xs:=#[.tmp 70,.tmp 72]) rfl ?_);(try (refine gate_guard (by rfl) ?_;dsimp only));at_builtin;refine Kd.R_append (Kd.int .i64) (w0:=w) w.heap.size rfl (.tmp 70) (.tmp 72) 23 3 (.int .i64 0) 8 rfl Try.underlying23 info3 rfl (by decide) (by omega) u6 x6_3 (rd y228 x58_3) [.int .i64 (rd y228 x58_3)] (fun k_=>some k_≠(.slice (some ad231) y228.length co36:Value).ownBlock) (fun _=>False) rfl rfl ?aP (fun _ hk=>hk.elim) ?aF ?aO ?aB ?aS ?aL ?_;(case aP=>exact rfl);(case aB=>exact hB_);(case aF=>exact (fun k_ hk=>Kd.fresh' (Kd.R_lt (rr_ HO_56)) k_ hk));(case aO=>exact (rr_ HO_6));(case aS=>exact (bF_ hB_));(case aL=>have:=LMc45.out;omega);intro v235 w48 ho hb hg hat;rw [← Ny234.out] at ho;replace HO_5:=A_ (Kd.R_over' (rr_ HO_5) (Kd.R_typed (rr_ HO_6)) (by decide) hg);replace HO_56:=A_ (Kd.R_after (ok:=(fun _=>True)) (rw_ (Kd.R_mono HO_56.out (fun _ hk=>⟨trivial,hk⟩))) hg hat);replace HB:=A_ hb;have HO236:=A_ ho;clear HO_6;clear ho hb hg hat))
           (try simp only [← hl5_3])
           go_roundg k3
           case measure=>have:=HJ2.out;have:=HK2.out;have:=HK3.out;omega
           case rel=>exact ⟨(y233),(y234),(wrap64 (x58_3 + 1)),qc_,H',⟨by have:=HJ2.out;have:=HK2.out;have:=HK3.out;omega⟩,⟨by (try simp only [hl5_2]);(try simp only [hl5_3]);(with_reducible repeat (first | apply rA_ | apply rB_ | apply rC_));exact HO_5.out⟩,⟨by (try simp only [hl5_2]);(try simp only [hl5_3]);(with_reducible repeat (first | apply rA_ | apply rB_ | apply rC_));exact HO236.out⟩,⟨by (try simp only [hl5_2]);(try simp only [hl5_3]);(with_reducible repeat (first | apply rA_ | apply rB_ | apply rC_));exact Kd.R_mono HO_56.out (fun _ hk=>hk.2)⟩,⟨hB_⟩⟩
         ·rw [if_neg c37] at H
          have c37b0:=oD_ c37
          clear c37
          have H':=A_ H
          clear H
          go_wp2
          (try simp only [← hl5_2,← hl5_3])
          go_roundg k3
          case measure=>have:=HJ2.out;have:=HK2.out;have:=HK3.out;omega
          case rel=>exact ⟨(x5_3),(x6_3),(wrap64 (x7_2 + 1)),qc_,H',⟨by have:=HJ2.out;have:=HK2.out;have:=HK3.out;omega⟩,⟨by (try simp only [hl5_2]);(try simp only [hl5_3]);(with_reducible repeat (first | apply rA_ | apply rB_ | apply rC_));exact HO_5.out⟩,⟨by (try simp only [hl5_2]);(try simp only [hl5_3]);(with_reducible repeat (first | apply rA_ | apply rB_ | apply rC_));exact Kd.R_mono HO_6.out (fun _ hk=>trivial)⟩,⟨hB_⟩⟩
      ·rw [if_neg c27] at H
       have c27b0:=oD_ c27
       clear c27
       obtain rfl:=Option.some.inj H
       obtain ⟨Ao49,co49,eo49⟩:=Kd.R_slice HO_6.out
       subst eo49
       go_wp2
       go_ret
       exact ⟨qb_,hB_⟩
end Go.Proofs.Ytcggfjpnfodbaaa.A
end
section
namespace Go.Proofs.Ytcggfjpnfodbaaa.A
open Go.RowKit Go.Proofs.YtcggfjpnfodbaaaW.PrintWords Go.Proofs.YtcggfjpnfodbaaaW.PrintLast Go.Proofs.YtcggfjpnfodbaaaW.PrintMore
attribute [local go_sem] max2_int min2_int max_two min_two max_three min_three max_four min_four
set_option linter.unusedVariables false
set_option linter.unusedSimpArgs false
def Z31.f (k:Nat) (l0_0:List Int) (l0_1:List Int):Option (Bool):=(Z12.f k l0_0 l0_1).bind fun t238=>(some t238)
theorem Z31.mono:∀ a0 a1 k,LeO (Z31.f k a0 a1) (Z31.f (k + 1) a0 a1):=by
 intro a0 a1 k
 unfold Z31.f
 repeat' first|exact Z12.mono _ _ _|exact lo_|refine LeO.ite ?_ ?_|refine LeO.bind ?_ (fun _=>?_)
set_option maxHeartbeats 8000000 in
set_option maxRecDepth 100000 in
theorem Z31.calls (k:Nat) (A0_0:Option Addr) (c0_0:Nat) (l0_0:List Int) (A0_1:Option Addr) (c0_1:Nat) (l0_1:List Int) (r:Bool) (w:World) (hr0_0:Kd.C (Kd.int .i64) w A0_0 l0_0.length l0_0) (hc0_0:l0_0.length≤c0_0) (hr0_1:Kd.C (Kd.int .i64) w A0_1 l0_1.length l0_1) (hc0_1:l0_1.length≤c0_1) (h:Z31.f k l0_0 l0_1 = some r) :
  Calls Try.prog 66 #[.agg #[.slice A0_0 l0_0.length c0_0,.slice A0_1 l0_1.length c0_1]] w fun e w'=>e = .returned (.bool r)∧Below w.heap.size w w':=by
 have hu25:=Try.underlying25
 have HR0_0:=A_ hr0_0
 have HC0_0:=A_ hc0_0
 clear hr0_0 hc0_0
 have HR0_1:=A_ hr0_1
 have HC0_1:=A_ hc0_1
 clear hr0_1 hc0_1
 have HB:=A_ (Below.refl w.heap.size w)
 have H:=h
 unfold Z31.f at H
 clear h
 obtain ⟨t238,A2,H⟩:=bi_ H
 obtain rfl:=Option.some.inj H
 go_enter Try.func66,Try.ntmps66
 go_wp2_with (first | ((with_reducible refine gB_ (N:=1) rfl ?_);refine bx_ 1 #[.slice A0_0 l0_0.length c0_0,.slice A0_1 l0_1.length c0_1] 25 ?_;intro gb237 hg w3 hbox hb;have BK237:=A_ hbox;have GW237:=gw_ w hg;have GE237:=GW237;replace HB:=b1_ hb;clear hb hbox hg;obtain ⟨hcz4_0,hcz4_1,hfz4_0,hfz4_1⟩:=c2_ BK237) | ((with_reducible refine gA_ (f:=106) rfl ?_);refine gL_ (some 7) Try.func106 #[.slice A0_0 l0_0.length c0_0,.slice A0_1 l0_1.length c0_1] rfl qa_ ?_;(with_reducible refine (Z12.calls k _ _ l0_0 _ _ l0_1 t238 _ (cb_ HR0_0) HC0_0.out (cb_ HR0_1) HC0_1.out A2.out).mono ?_);rintro e w5 ⟨rfl,hb⟩;refine ⟨_,rfl,?_⟩;replace BK237:=bb_ BK237 hb;replace HB:=b1_ hb;clear hb))
 go_ret
 exact ⟨qb_,hB_⟩
def Z11.f (k:Nat) (l0_0:List Int) (l0_1:List Int):Option (Int):=(Z31.f k l0_0 l0_1).bind fun t240=>(if t240 = true then (some (l0_0.length:Int)) else (some 0))
theorem Z11.mono:∀ a0 a1 k,LeO (Z11.f k a0 a1) (Z11.f (k + 1) a0 a1):=by
 intro a0 a1 k
 unfold Z11.f
 repeat' first|exact Z31.mono _ _ _|exact lo_|refine LeO.ite ?_ ?_|refine LeO.bind ?_ (fun _=>?_)
set_option maxHeartbeats 8000000 in
set_option maxRecDepth 100000 in
theorem Z11.calls (k:Nat) (A0_0:Option Addr) (c0_0:Nat) (l0_0:List Int) (A0_1:Option Addr) (c0_1:Nat) (l0_1:List Int) (r:Int) (w:World) (hr0_0:Kd.C (Kd.int .i64) w A0_0 l0_0.length l0_0) (hc0_0:l0_0.length≤c0_0) (hr0_1:Kd.C (Kd.int .i64) w A0_1 l0_1.length l0_1) (hc0_1:l0_1.length≤c0_1) (h:Z11.f k l0_0 l0_1 = some r) :
  Calls Try.prog 112 #[.agg #[.slice A0_0 l0_0.length c0_0,.slice A0_1 l0_1.length c0_1]] w fun e w'=>e = .returned (.int .i64 r)∧Below w.heap.size w w':=by
 have hu25:=Try.underlying25
 have HR0_0:=A_ hr0_0
 have HC0_0:=A_ hc0_0
 clear hr0_0 hc0_0
 have HR0_1:=A_ hr0_1
 have HC0_1:=A_ hc0_1
 clear hr0_1 hc0_1
 have HB:=A_ (Below.refl w.heap.size w)
 have H:=h
 unfold Z11.f at H
 clear h
 obtain ⟨t240,A2,H⟩:=bi_ H
 by_cases c3:t240 = true
 ·subst c3
  rw [if_pos rfl] at H
  obtain rfl:=Option.some.inj H
  go_enter Try.func112,Try.ntmps112
  go_wp2_with (first | ((with_reducible refine gB_ (N:=1) rfl ?_);refine bx_ 1 #[.slice A0_0 l0_0.length c0_0,.slice A0_1 l0_1.length c0_1] 25 ?_;intro gb239 hg w4 hbox hb;have BK239:=A_ hbox;have GW239:=gw_ w hg;have GE239:=GW239;replace HB:=b1_ hb;clear hb hbox hg;obtain ⟨hcz5_0,hcz5_1,hfz5_0,hfz5_1⟩:=c2_ BK239) | ((with_reducible refine gA_ (f:=66) rfl ?_);refine gL_ (some 4) Try.func66 #[.agg #[.slice A0_0 l0_0.length c0_0,.slice A0_1 l0_1.length c0_1]] rfl qa_ ?_;(with_reducible refine (Z31.calls k _ _ l0_0 _ _ l0_1 true _ (cb_ HR0_0) HC0_0.out (cb_ HR0_1) HC0_1.out A2.out).mono ?_);rintro e w6 ⟨rfl,hb⟩;refine ⟨_,rfl,?_⟩;replace BK239:=bb_ BK239 hb;replace HB:=b1_ hb;clear hb;obtain ⟨hcz7_0,hcz7_1,hfz7_0,hfz7_1⟩:=c2_ BK239))
  go_ret
  exact ⟨qb_,hB_⟩
 ·replace c3:=Bool.eq_false_iff.mpr c3
  subst c3
  have H1:(some 0) = some r:=by rw [if_neg (show ¬ (false = true) by decide)] at H;exact H
  clear H
  have H:=H1
  clear H1
  obtain rfl:=Option.some.inj H
  go_enter Try.func112,Try.ntmps112
  go_wp2_with (first | ((with_reducible refine gB_ (N:=1) rfl ?_);refine bx_ 1 #[.slice A0_0 l0_0.length c0_0,.slice A0_1 l0_1.length c0_1] 25 ?_;intro gb239 hg w8 hbox hb;have BK239:=A_ hbox;have GW239:=gw_ w hg;have GE239:=GW239;replace HB:=b1_ hb;clear hb hbox hg;obtain ⟨hcz9_0,hcz9_1,hfz9_0,hfz9_1⟩:=c2_ BK239) | ((with_reducible refine gA_ (f:=66) rfl ?_);refine gL_ (some 4) Try.func66 #[.agg #[.slice A0_0 l0_0.length c0_0,.slice A0_1 l0_1.length c0_1]] rfl qa_ ?_;(with_reducible refine (Z31.calls k _ _ l0_0 _ _ l0_1 false _ (cb_ HR0_0) HC0_0.out (cb_ HR0_1) HC0_1.out A2.out).mono ?_);rintro e w10 ⟨rfl,hb⟩;refine ⟨_,rfl,?_⟩;replace BK239:=bb_ BK239 hb;replace HB:=b1_ hb;clear hb))
  go_ret
  exact ⟨qb_,hB_⟩
end Go.Proofs.Ytcggfjpnfodbaaa.A
end
section
namespace Go.Proofs.Ytcggfjpnfodbaaa.A
open Go.RowKit Go.Proofs.YtcggfjpnfodbaaaW.PrintWords Go.Proofs.YtcggfjpnfodbaaaW.PrintLast Go.Proofs.YtcggfjpnfodbaaaW.PrintMore
attribute [local go_sem] max2_int min2_int max_two min_two max_three min_three max_four min_four
set_option linter.unusedVariables false
set_option linter.unusedSimpArgs false
mutual
def Z26.j0:Nat→List Int→List Int→Bool→Option (List Int)
 | 0,_,_,_=>none
 | k + 1,x0,x1,x22=>if x22 = true then (some ([]:List Int)) else (if 0≤(x0.length:Int) then (if ((x0.length:Int):Int).toNat≤35184372088832 then (Z26.l0 k x1 (List.replicate ((x0.length:Int):Int).toNat 0) x0 (x0.length:Int) 0) else (none)) else (none))
def Z26.l0:Nat→List Int→List Int→List Int→Int→Int→Option (List Int)
 | 0,_,_,_,_,_=>none
 | k + 1,x1,x5,x26,x27,x28=>if x28 < x27 then (if 0≤x28 then (if x28 < (x26.length:Int) then (if x28 < (x1.length:Int) then (if 0≤(rd x26 x28) then (if (rd x26 x28) < (x1.length:Int) then (if 0≤(rd x1 x28) then (if (rd x1 x28) < (x5.length:Int) then (Z26.l0 k x1 (x5.set ((rd x1 x28):Int).toNat (rd x1 (rd x26 x28))) x26 x27 (wrap64 (x28 + 1))) else (none)) else (none)) else (none)) else (none)) else (none)) else (none)) else (none)) else (some x5)
end
def Z26.f (k:Nat) (l0:List Int) (l1:List Int):Option (List Int):=(Z60.f k l0).bind fun t241=>(if t241 = true then ((Z60.f k l1).bind fun t242=>(if t242 = true then (Z26.j0 k l0 l1 ((l0.length:Int) != (l1.length:Int))) else (Z26.j0 k l0 l1 true))) else (Z26.j0 k l0 l1 true))
theorem Z26.mono_l:∀ k,(∀ y0 y1 y2,LeO (Z26.j0 k y0 y1 y2) (Z26.j0 (k + 1) y0 y1 y2))∧(∀ y0 y1 y2 y3 y4,LeO (Z26.l0 k y0 y1 y2 y3 y4) (Z26.l0 (k + 1) y0 y1 y2 y3 y4))
 | 0=>⟨fun _ _ _ r h=>by simp [Z26.j0] at h,fun _ _ _ _ _ r h=>by simp [Z26.l0] at h⟩
 | k + 1=>by
  obtain ⟨ih0,ih1⟩:=Z26.mono_l k
  refine ⟨?_,?_⟩
  ·intro y0 y1 y2
   unfold Z26.j0
   repeat' first|exact ih0 _ _ _|exact ih1 _ _ _ _ _|exact Z60.mono _ _|exact lo_|refine LeO.ite ?_ ?_|refine LeO.bind ?_ (fun _=>?_)
  ·intro y0 y1 y2 y3 y4
   unfold Z26.l0
   repeat' first|exact ih0 _ _ _|exact ih1 _ _ _ _ _|exact Z60.mono _ _|exact lo_|refine LeO.ite ?_ ?_|refine LeO.bind ?_ (fun _=>?_)
theorem Z26.mono:∀ a0 a1 k,LeO (Z26.f k a0 a1) (Z26.f (k + 1) a0 a1):=by
 intro a0 a1 k
 obtain ⟨ih0,ih1⟩:=Z26.mono_l k
 unfold Z26.f
 repeat' first|exact ih0 _ _ _|exact ih1 _ _ _ _ _|exact Z60.mono _ _|exact lo_|refine LeO.ite ?_ ?_|refine LeO.bind ?_ (fun _=>?_)
def Z26.T7:Bool × List (List Nat × List Nat):=(true,[([],[]),([],[]),([],[]),([1,2],[1,2]),([3],[3]),([],[]),([],[]),([5,6],[5,6]),([7],[7]),([0,4,0,1,2,3,4,5,6,7,8],[0,4]),([9,8,0,1,2,3,4,5,6,7,8],[8,9])])
def Z26.B7:List Nat:=[0,0,0,6,14,0,0,96,224,511,1023]
theorem Z26.tab7:rtab .any (opsOf Try.f144 7) = Z26.T7:=by kernel_rfl
theorem Z26.bits7:waitsOk Z26.T7.2 Z26.B7 = true:=by kernel_rfl
set_option maxHeartbeats 8000000 in
set_option maxRecDepth 100000 in
theorem Z26.calls (k:Nat) (A0:Option Addr) (c0:Nat) (l0:List Int) (A1:Option Addr) (c1:Nat) (l1:List Int) (r:List Int) (w:World) (hr0:Kd.C (Kd.int .i64) w A0 l0.length l0) (hc0:l0.length≤c0) (hr1:Kd.C (Kd.int .i64) w A1 l1.length l1) (hc1:l1.length≤c1) (h:Z26.f k l0 l1 = some r) :
  Calls Try.prog 144 #[.slice A0 l0.length c0,.slice A1 l1.length c1] w fun e w'=>∃ v0_:Value,e = .returned (v0_)∧Kd.R (Kd.int .i64) 3 w' w.heap.size (fun _=>True) v0_ r∧Below w.heap.size w w':=by
 have HR0:=A_ hr0
 have HC0:=A_ hc0
 clear hr0 hc0
 have HR1:=A_ hr1
 have HC1:=A_ hc1
 clear hr1 hc1
 have HB:=A_ (Below.refl w.heap.size w)
 have H:=h
 unfold Z26.f at H
 clear h
 have HC3:=A_ H
 clear H
 go_enter Try.func144,Try.ntmps144
 go_upto_region 1 with (fail)
 go_cut [22] (fun v22 wc=>∃ (kq:Nat) (x22_2:Bool),v22 = .bool x22_2∧Aside0 (Z26.j0 kq l0 l1 x22_2 = some r)∧Aside0 (kq≤k)∧Aside0 (Below w.heap.size w wc))
 case first =>
  have H:=HC3.out
  clear HC3
  obtain ⟨t241,A4,H⟩:=bi_ H
  by_cases c5:t241 = true
  ·subst c5
   rw [if_pos rfl] at H
   obtain ⟨t242,A6,H⟩:=bi_ H
   by_cases c7:t242 = true
   ·subst c7
    rw [if_pos rfl] at H
    have H':=A_ H
    clear H
    go_wp2_with (first | ((with_reducible refine gA_ (f:=107) rfl ?_);refine gL_ (some 9) Try.func107 #[.slice A0 l0.length c0] rfl qa_ ?_;(with_reducible refine (Z60.calls k _ _ l0 true _ (cb_ HR0) HC0.out A4.out).mono ?_);rintro e w8 ⟨rfl,hb⟩;refine ⟨_,rfl,?_⟩;replace HB:=b1_ hb;clear hb) | (go_at_call 107;(with_reducible refine (Z60.calls k _ _ l1 true _ (cb_ HR1) HC1.out A6.out).mono ?_);rintro e w9 ⟨rfl,hb⟩;replace HB:=b1_ hb;clear hb))
    go_meet
    case rel=>exact ⟨_,(((l0.length:Int) != (l1.length:Int))),qc_,H',⟨qd_⟩,⟨hB_⟩⟩
   ·replace c7:=Bool.eq_false_iff.mpr c7
    subst c7
    have H1:(Z26.j0 k l0 l1 true) = some r:=by rw [if_neg (show ¬ (false = true) by decide)] at H;exact H
    clear H
    have H:=H1
    clear H1
    have H':=A_ H
    clear H
    go_wp2_with (first | ((with_reducible refine gA_ (f:=107) rfl ?_);refine gL_ (some 9) Try.func107 #[.slice A0 l0.length c0] rfl qa_ ?_;(with_reducible refine (Z60.calls k _ _ l0 true _ (cb_ HR0) HC0.out A4.out).mono ?_);rintro e w10 ⟨rfl,hb⟩;refine ⟨_,rfl,?_⟩;replace HB:=b1_ hb;clear hb) | (go_at_call 107;(with_reducible refine (Z60.calls k _ _ l1 false _ (cb_ HR1) HC1.out A6.out).mono ?_);rintro e w11 ⟨rfl,hb⟩;replace HB:=b1_ hb;clear hb))
    go_meet
    case rel=>exact ⟨_,(true),qc_,H',⟨qd_⟩,⟨hB_⟩⟩
  ·replace c5:=Bool.eq_false_iff.mpr c5
   subst c5
   have H1:(Z26.j0 k l0 l1 true) = some r:=by rw [if_neg (show ¬ (false = true) by decide)] at H;exact H
   clear H
   have H:=H1
   clear H1
   have H':=A_ H
   clear H
   go_wp2_with (first | ((with_reducible refine gA_ (f:=107) rfl ?_);refine gL_ (some 9) Try.func107 #[.slice A0 l0.length c0] rfl qa_ ?_;(with_reducible refine (Z60.calls k _ _ l0 false _ (cb_ HR0) HC0.out A4.out).mono ?_);rintro e w12 ⟨rfl,hb⟩;refine ⟨_,rfl,?_⟩;replace HB:=b1_ hb;clear hb))
   go_meet
   case rel=>exact ⟨_,(true),qc_,H',⟨qd_⟩,⟨hB_⟩⟩
 case rest =>
  clear HC3
  obtain ⟨kq,x22_2,rfl,HA,HJ2,HB⟩:=hcut
  cases kq with
  | zero=>exact absurd HA.out (by simp [Z26.j0])
  | succ kj2 =>
   have H:=HA.out
   clear HA
   simp only [Z26.j0] at H
   by_cases c13:x22_2 = true
   ·subst c13
    rw [if_pos rfl] at H
    obtain rfl:=Option.some.inj H
    go_wp2
    go_ret
    exact ⟨_,qb_,by first | exact Kd.R_nil _ _ _ _ _ | exact Kd.N_nil _ _ _ _ _ | exact Kd.V_nil _ _ _ _ _ | exact Kd.Q_nil _ _ _ _ _ | exact Kd.S_nil _ _ _ _ _,hB_⟩
   ·replace c13:=Bool.eq_false_iff.mpr c13
    subst c13
    have H1:(if 0≤(l0.length:Int) then (if ((l0.length:Int):Int).toNat≤35184372088832 then (Z26.l0 kj2 l1 (List.replicate ((l0.length:Int):Int).toNat 0) l0 (l0.length:Int) 0) else (none)) else (none)) = some r:=by rw [if_neg (show ¬ (false = true) by decide)] at H;exact H
    clear H
    have H:=H1
    clear H1
    have c14:=cp_ H
    replace H:=ca_ H
    have c14b0:=eq_true c14
    have c14b1:=oC_ c14
    clear c14
    have c15:=cp_ H
    replace H:=ca_ H
    have c15b0:=eq_true c15
    have c15b1:=oC_ c15
    clear c15
    obtain ⟨y243,hy243⟩:∃ y_:List Int,y_ = (List.replicate ((l0.length:Int):Int).toNat 0):=⟨_,rfl⟩
    replace H:(Z26.l0 kj2 l1 y243 l0 (l0.length:Int) 0) = some r:=by first | (rw [hy243];exact H) | exact H
    have Ny243:=A_ hy243
    clear hy243
    have H':=A_ H
    clear H
    go_wp2_with (first | ((with_reducible refine gB_ (N:=25) rfl ?_);(try (refine gate_guard (by rfl) ?_;dsimp only));refine Kd.R_make (Kd.int .i64) _ 3 rfl (N:=25) rfl 23 _ _ rfl (l0.length:Int) rfl rfl Try.underlying23 (.int .i64 0) 8 info3 rfl (by decide) (by omega) 0 (ok:=fun _=>True) (okp:=fun _=>True) rfl (fun _ hk=>hk) trivial (oB_ qe_) (Nat.le_trans (Nat.mul_le_mul_right _ (oB_ qe_:(l0.length:Int).toNat≤35184372088832)) (by omega)) (Below.refl _ _) (nA_ _) ?_;intro v244 w16 ho17 hb hg_ hnew_;clear hg_ hnew_;(first | rw [← Ny243.out] at ho17 | (simp only [Int.reduceToNat] at ho17;rw [← Ny243.out] at ho17));have HO245:=rl_ w ho17;replace HB:=b1_ hb;clear hb ho17))
    go_loopg [28] kj2 (fun kq v28 w'=>∃ (x5_2:List Int) (x28_2:Int),v28 = .int .i64 x28_2∧Aside0 (Z26.l0 kq l1 x5_2 l0 (l0.length:Int) x28_2 = some r)∧Aside0 (kq≤kj2)∧Aside0 (Kd.R (Kd.int .i64) 3 w' w.heap.size (fun _=>True) v244 x5_2)∧Aside0 (Below w.heap.size w w'))
    case atStart=>exact ⟨(y243),(0),qc_,H',⟨nA_ _⟩,⟨(rr_ HO245)⟩,⟨hB_⟩⟩
    case round =>
     clear H'
     obtain ⟨x5_2,x28_2,rfl,HA,HK2,HO_5,HB⟩:=hrel
     cases gk with
     | zero=>exact absurd HA.out (by simp [Z26.l0])
     | succ k2 =>
      have H:=HA.out
      clear HA
      simp only [Z26.l0] at H
      by_cases c18:x28_2 < (l0.length:Int)
      ·rw [if_pos c18] at H
       have c18b0:=oC_ c18
       clear c18
       replace H:=cx_ H;obtain ⟨c19b0,H⟩:=H
       replace H:=cx_ H;obtain ⟨c20b0,H⟩:=H
       replace H:=cx_ H;obtain ⟨c21b0,H⟩:=H
       replace H:=cx_ H;obtain ⟨c22b0,H⟩:=H
       replace H:=cx_ H;obtain ⟨c23b0,H⟩:=H
       replace H:=cx_ H;obtain ⟨c24b0,H⟩:=H
       replace H:=cx_ H;obtain ⟨c25b0,H⟩:=H
       obtain ⟨y249,hy249⟩:∃ y_:List Int,y_ = (x5_2.set ((rd l1 x28_2):Int).toNat (rd l1 (rd l0 x28_2))):=⟨_,rfl⟩
       replace H:(Z26.l0 k2 l1 y249 l0 (l0.length:Int) (wrap64 (x28_2 + 1))) = some r:=by first | (rw [hy249];exact H) | exact H
       have Ny249:=A_ hy249
       clear hy249
       have H':=A_ H
       clear H
       have p246:0≤(x28_2:Int):=oB_ qe_
       have q246:x28_2 < (l0.length:Int):=oB_ qe_
       obtain ⟨ad246,e246,hx246_0⟩:=Kd.at_int HR0.out x28_2 p246 q246
       cases e246
       replace hx246_0:=(HB.out.cell (World.block_lt_of_cell? w _ hx246_0)).trans hx246_0
       replace p246:=eq_true p246
       replace q246:=eq_true q246
       try go_wp2
       replace HO_5:=A_ (rC_ HO_5.out)
       replace HB:=A_ (bC_ HB.out)
       have p247:0≤(x28_2:Int):=oB_ qe_
       have q247:x28_2 < (l1.length:Int):=oB_ qe_
       obtain ⟨ad247,e247,hx247_0⟩:=Kd.at_int HR1.out x28_2 p247 q247
       have hw247_0:=hx247_0
       cases e247
       replace hx247_0:=(HB.out.cell (World.block_lt_of_cell? w _ hx247_0)).trans hx247_0
       replace p247:=eq_true p247
       replace q247:=eq_true q247
       have p248:0≤((rd l0 x28_2):Int):=oB_ qe_
       have q248:(rd l0 x28_2) < (l1.length:Int):=oB_ qe_
       obtain ⟨ad248,e248,hx248_0⟩:=Kd.at_int HR1.out (rd l0 x28_2) p248 q248
       have hw248_0:=hx248_0
       obtain rfl:ad247 = ad248:=(by injection e248)
       replace hx248_0:=(HB.out.cell (World.block_lt_of_cell? w _ hx248_0)).trans hx248_0
       replace p248:=eq_true p248
       replace q248:=eq_true q248
       have p26:0≤((rd l1 x28_2):Int):=oB_ qe_
       have q26:((rd l1 x28_2):Int) < ((x5_2.length:Int):Int):=oB_ qe_
       obtain ⟨go26,co26,eo26,gb26,gl26,cl26,HG26⟩:=Kd.R_form HO_5.out (by omega)
       (first | cases eo26 | (injection eo26 with ea_ en_ ec_;(first | subst ea_ | (injection ea_ with ea_;subst ea_));subst ec_;clear en_))
       have GB26:=A_ gb26
       have GG26:=A_ HG26
       clear gb26 gl26 HG26
       obtain ⟨hx26_0,hf26_0⟩:=Kd.R_celln 0 HO_5.out ((rd l1 x28_2):Int) p26 q26
       replace p26:=eq_true p26
       replace q26:=eq_true q26
       have HP28:=Kd.R_putn HO_5.out ((rd l1 x28_2):Int) (rd l1 (rd l0 x28_2))
       rw [← Ny249.out] at HP28
       have HQ28:=A_ HP28
       clear HP28
       refine start_ (n:=11) (S:=fun w'=>w'.cell? (ad247.add (x28_2).toNat) = some (.int .i64 (rd l1 x28_2))∧w'.cell? (ad247.add ((rd l0 x28_2)).toNat) = some (.int .i64 (rd l1 (rd l0 x28_2)))) (ds:=[10]) (bl_ 11 0) (by kernel_rfl) rfl (by kernel_rfl) ⟨((HB.out.cell (World.block_lt_of_cell? w _ hw247_0)).trans hw247_0),((HB.out.cell (World.block_lt_of_cell? w _ hw248_0)).trans hw248_0)⟩ (fun hHeld=>?_);refine with_tabW Z26.tab7 Z26.bits7 (fun HT_ HW_=>?_)
       generalize wr.drew = w27 at HO_5 HB GG26 HQ28 hf26_0 hx247_0 hx248_0 hx26_0 hHeld ⊢
       refine pu_ 0 (some 33) (bl_ 11 1) HT_ ?_
       refine pu_ 1 (some 34) (bl_ 11 3) HT_ ?_
       refine pu_ 2 (some 35) (bl_ 11 7) HT_ ?_
       refine pu_ 3 (some 36) (bl_ 11 15) HT_ ?_
       refine pu_ 5 (some 38) (bl_ 11 47) HT_ ?_
       refine pu_ 6 (some 39) (bl_ 11 111) HT_ ?_
       refine pu_ 7 (some 40) (bl_ 11 239) HT_ ?_
       refine ta_ 4 (some 37) (bl_ 11 255) HT_ HW_ hHeld ?_
       refine ta_ 8 (some 41) (bl_ 11 511) HT_ HW_ hHeld ?_
       refine pu_ 9 (some 42) (bl_ 11 1023) HT_ ?_
       refine last_ (i:=10) (N:=none) (bl_ 11 2047) rfl rfl (one_of HT_.out (by kernel_rfl)) (by decide) (fun K hK=>?_)
       refine skip_ (w1:=?_) (by rfl) rfl ?_ ?_
       rotate_left
       ·go_simp
        rfl
       refine hK.out _ _ ?_
       clear hK K
       refine done_ (done_of HT_.out (by kernel_rfl)) ?_
       try go_wp2
       go_roundg k2
       case measure=>have:=HJ2.out;have:=HK2.out;omega
       case rel=>exact ⟨(y249),(wrap64 (x28_2 + 1)),qc_,H',⟨by have:=HJ2.out;have:=HK2.out;omega⟩,⟨(rr_ HQ28)⟩,⟨by repeat (first | (with_reducible first | exact HB.out | apply bA_ | apply bB_ | apply bC_ | refine bD_ ?_ GB26.out) | exact HB.out)⟩⟩
      ·rw [if_neg c18] at H
       have c18b0:=oD_ c18
       clear c18
       obtain rfl:=Option.some.inj H
       go_wp2
       go_ret
       exact ⟨_,qb_,(rr_ HO_5),hB_⟩
end Go.Proofs.Ytcggfjpnfodbaaa.A
end
section
namespace Go.Proofs.Ytcggfjpnfodbaaa.A
open Go.RowKit Go.Proofs.YtcggfjpnfodbaaaW.PrintWords Go.Proofs.YtcggfjpnfodbaaaW.PrintLast Go.Proofs.YtcggfjpnfodbaaaW.PrintMore
attribute [local go_sem] max2_int min2_int max_two min_two max_three min_three max_four min_four
set_option linter.unusedVariables false
set_option linter.unusedSimpArgs false
def Z8.j0:Nat→List Int→Bool→List Int→List Int→Option (List Int × List Int × Bool)
 | 0,_,_,_,_=>none
 | k + 1,x1,x21,x251000,x251001=>if x21 = true then (some (([]:List Int),([]:List Int),false)) else ((Z26.f k x251000 x1).bind fun t254=>((Z26.f k x251001 x1).bind fun t257=>(some (t254,t257,true))))
def Z8.f (k:Nat) (l0_0:List Int) (l0_1:List Int) (l1:List Int):Option (List Int × List Int × Bool):=(Z31.f k l0_0 l0_1).bind fun t252=>(if t252 = true then ((Z60.f k l1).bind fun t253=>(if t253 = true then (Z8.j0 k l1 ((l1.length:Int) != (l0_0.length:Int)) l0_0 l0_1) else (Z8.j0 k l1 true l0_0 l0_1))) else (Z8.j0 k l1 true l0_0 l0_1))
theorem Z8.mono_l:∀ k,(∀ y0 y1 y2 y3,LeO (Z8.j0 k y0 y1 y2 y3) (Z8.j0 (k + 1) y0 y1 y2 y3))
 | 0=>fun _ _ _ _ r h=>by simp [Z8.j0] at h
 | k + 1=>by
  have ih0:=Z8.mono_l k
  ·intro y0 y1 y2 y3
   unfold Z8.j0
   repeat' first|exact ih0 _ _ _ _|exact Z60.mono _ _|exact Z26.mono _ _ _|exact Z31.mono _ _ _|exact lo_|refine LeO.ite ?_ ?_|refine LeO.bind ?_ (fun _=>?_)
theorem Z8.mono:∀ a0 a1 a2 k,LeO (Z8.f k a0 a1 a2) (Z8.f (k + 1) a0 a1 a2):=by
 intro a0 a1 a2 k
 have ih0:=Z8.mono_l k
 unfold Z8.f
 repeat' first|exact ih0 _ _ _ _|exact Z60.mono _ _|exact Z26.mono _ _ _|exact Z31.mono _ _ _|exact lo_|refine LeO.ite ?_ ?_|refine LeO.bind ?_ (fun _=>?_)
def Z8.T3:Bool × List (List Nat × List Nat):=(true,[([],[]),([0],[0]),([],[]),([1,2],[1,2]),([],[]),([4],[4]),([],[]),([5,6,3],[5,6]),([3,7],[3,7]),([8,7,0,1,2,3,4,5,6,7,8],[8]),([9,0,1,2,3,4,5,6,7,8,9],[])])
def Z8.B3:List Nat:=[0,1,0,7,0,16,0,127,255,511,1023]
theorem Z8.tab3:rtab .any (opsOf Try.f113 3) = Z8.T3:=by kernel_rfl
theorem Z8.bits3:waitsOk Z8.T3.2 Z8.B3 = true:=by kernel_rfl
set_option maxHeartbeats 8000000 in
set_option maxRecDepth 100000 in
theorem Z8.calls (k:Nat) (A0_0:Option Addr) (c0_0:Nat) (l0_0:List Int) (A0_1:Option Addr) (c0_1:Nat) (l0_1:List Int) (A1:Option Addr) (c1:Nat) (l1:List Int) (r1:List Int) (r2:List Int) (r3:Bool) (w:World) (hr0_0:Kd.C (Kd.int .i64) w A0_0 l0_0.length l0_0) (hc0_0:l0_0.length≤c0_0) (hr0_1:Kd.C (Kd.int .i64) w A0_1 l0_1.length l0_1) (hc0_1:l0_1.length≤c0_1) (hr1:Kd.C (Kd.int .i64) w A1 l1.length l1) (hc1:l1.length≤c1) (h:Z8.f k l0_0 l0_1 l1 = some (r1,r2,r3)) :
  Calls Try.prog 113 #[.agg #[.slice A0_0 l0_0.length c0_0,.slice A0_1 l0_1.length c0_1],.slice A1 l1.length c1] w fun e w'=>∃ v0_ v1_:Value,e = .returned (.tuple #[.agg #[v0_,v1_],.bool r3])∧Kd.R (Kd.int .i64) 3 w' w.heap.size (fun k_=>some k_≠(v1_:Value).ownBlock) v0_ r1∧Kd.R (Kd.int .i64) 3 w' w.heap.size (fun k_=>some k_≠(v0_:Value).ownBlock) v1_ r2∧Below w.heap.size w w':=by
 have hu25:=Try.underlying25
 have HR0_0:=A_ hr0_0
 have HC0_0:=A_ hc0_0
 clear hr0_0 hc0_0
 have HR0_1:=A_ hr0_1
 have HC0_1:=A_ hc0_1
 clear hr0_1 hc0_1
 have HR1:=A_ hr1
 have HC1:=A_ hc1
 clear hr1 hc1
 have HB:=A_ (Below.refl w.heap.size w)
 have H:=h
 unfold Z8.f at H
 clear h
 have HC3:=A_ H
 clear H
 go_enter Try.func113,Try.ntmps113
 go_upto_region 1 with (first | ((with_reducible refine gB_ (N:=2) rfl ?_);(try (refine gate_guard (by rfl) ?_;dsimp only));refine bx_ 2 #[.slice A0_0 l0_0.length c0_0,.slice A0_1 l0_1.length c0_1] 25 ?_;intro gb250 hg w4 hbox hb;have BK250:=A_ hbox;have GW250:=gw_ w hg;have GE250:=GW250;replace HB:=b1_ hb;clear hb hbox hg) | ((with_reducible refine gB_ (N:=4) rfl ?_);(try (refine gate_guard (by rfl) ?_;dsimp only));refine bx_ 4 #[.slice none 0 0,.slice none 0 0] 25 ?_;intro gb251 hg w5 hbox hb;have BK251:=A_ hbox;have GW251:=gw_ w hg;have GE251:=GW251;replace HB:=b1_ hb;have NB250_251:=gN_ BK250 hg;have NB251_250:=gP_ BK250 hg;replace BK250:=bb_ BK250 hb;clear hb hbox hg))
 (try simp only [Act.put,sA_,sB_,sC_])
 go_cut [21] (fun v21 wc=>∃ (kq:Nat) (x21_2:Bool),v21 = .bool x21_2∧Aside0 (Z8.j0 kq l1 x21_2 l0_0 l0_1 = some (r1,r2,r3))∧Aside0 (kq≤k)∧Aside0 (wc.heap[gb250]? = some (.cells #[(.slice A0_0 l0_0.length c0_0),(.slice A0_1 l0_1.length c0_1)] 25 (0,0)))∧Aside0 (wc.heap[gb251]? = some (.cells #[(.slice none 0 0),(.slice none 0 0)] 25 (0,0)))∧Aside0 (Below w.heap.size w wc))
 case first =>
  have H:=HC3.out
  clear HC3
  obtain ⟨t252,A6,H⟩:=bi_ H
  by_cases c7:t252 = true
  ·subst c7
   rw [if_pos rfl] at H
   obtain ⟨t253,A8,H⟩:=bi_ H
   by_cases c9:t253 = true
   ·subst c9
    rw [if_pos rfl] at H
    have H':=A_ H
    clear H
    have hnb10:=NB250_251.out
    have hnc10:=NB251_250.out
    obtain ⟨hcz11_0,hcz11_1,hfz11_0,hfz11_1⟩:=c2_ BK250
    go_wp2_with (first | ((with_reducible refine gA_ (f:=66) rfl ?_);refine gL_ (some 7) Try.func66 #[.agg #[.slice A0_0 l0_0.length c0_0,.slice A0_1 l0_1.length c0_1]] rfl qa_ ?_;(with_reducible refine (Z31.calls k _ _ l0_0 _ _ l0_1 true _ (cb_ HR0_0) HC0_0.out (cb_ HR0_1) HC0_1.out A6.out).mono ?_);rintro e w12 ⟨rfl,hb⟩;refine ⟨_,rfl,?_⟩;replace BK250:=bb_ BK250 hb;replace BK251:=bb_ BK251 hb;replace HB:=b1_ hb;clear hb) | (go_at_call 107;(with_reducible refine (Z60.calls k _ _ l1 true _ (cb_ HR1) HC1.out A8.out).mono ?_);rintro e w13 ⟨rfl,hb⟩;replace BK250:=bb_ BK250 hb;replace BK251:=bb_ BK251 hb;replace HB:=b1_ hb;clear hb;obtain ⟨hcz14_0,hcz14_1,hfz14_0,hfz14_1⟩:=c2_ BK250))
    go_meet
    case rel=>exact ⟨_,(((l1.length:Int) != (l0_0.length:Int))),qc_,H',⟨qd_⟩,⟨(kk_ BK250)⟩,⟨(kk_ BK251)⟩,⟨hB_⟩⟩
   ·replace c9:=Bool.eq_false_iff.mpr c9
    subst c9
    have H1:(Z8.j0 k l1 true l0_0 l0_1) = some (r1,r2,r3):=by rw [if_neg (show ¬ (false = true) by decide)] at H;exact H
    clear H
    have H:=H1
    clear H1
    have H':=A_ H
    clear H
    have hnb15:=NB250_251.out
    have hnc15:=NB251_250.out
    obtain ⟨hcz16_0,hcz16_1,hfz16_0,hfz16_1⟩:=c2_ BK250
    go_wp2_with (first | ((with_reducible refine gA_ (f:=66) rfl ?_);refine gL_ (some 7) Try.func66 #[.agg #[.slice A0_0 l0_0.length c0_0,.slice A0_1 l0_1.length c0_1]] rfl qa_ ?_;(with_reducible refine (Z31.calls k _ _ l0_0 _ _ l0_1 true _ (cb_ HR0_0) HC0_0.out (cb_ HR0_1) HC0_1.out A6.out).mono ?_);rintro e w17 ⟨rfl,hb⟩;refine ⟨_,rfl,?_⟩;replace BK250:=bb_ BK250 hb;replace BK251:=bb_ BK251 hb;replace HB:=b1_ hb;clear hb) | (go_at_call 107;(with_reducible refine (Z60.calls k _ _ l1 false _ (cb_ HR1) HC1.out A8.out).mono ?_);rintro e w18 ⟨rfl,hb⟩;replace BK250:=bb_ BK250 hb;replace BK251:=bb_ BK251 hb;replace HB:=b1_ hb;clear hb))
    go_meet
    case rel=>exact ⟨_,(true),qc_,H',⟨qd_⟩,⟨(kk_ BK250)⟩,⟨(kk_ BK251)⟩,⟨hB_⟩⟩
  ·replace c7:=Bool.eq_false_iff.mpr c7
   subst c7
   have H1:(Z8.j0 k l1 true l0_0 l0_1) = some (r1,r2,r3):=by rw [if_neg (show ¬ (false = true) by decide)] at H;exact H
   clear H
   have H:=H1
   clear H1
   have H':=A_ H
   clear H
   have hnb19:=NB250_251.out
   have hnc19:=NB251_250.out
   obtain ⟨hcz20_0,hcz20_1,hfz20_0,hfz20_1⟩:=c2_ BK250
   go_wp2_with (first | ((with_reducible refine gA_ (f:=66) rfl ?_);refine gL_ (some 7) Try.func66 #[.agg #[.slice A0_0 l0_0.length c0_0,.slice A0_1 l0_1.length c0_1]] rfl qa_ ?_;(with_reducible refine (Z31.calls k _ _ l0_0 _ _ l0_1 false _ (cb_ HR0_0) HC0_0.out (cb_ HR0_1) HC0_1.out A6.out).mono ?_);rintro e w21 ⟨rfl,hb⟩;refine ⟨_,rfl,?_⟩;replace BK250:=bb_ BK250 hb;replace BK251:=bb_ BK251 hb;replace HB:=b1_ hb;clear hb))
   go_meet
   case rel=>exact ⟨_,(true),qc_,H',⟨qd_⟩,⟨(kk_ BK250)⟩,⟨(kk_ BK251)⟩,⟨hB_⟩⟩
 case rest =>
  clear HC3
  obtain ⟨kq,x21_2,rfl,HA,HJ2,BK250,BK251,HB⟩:=hcut
  cases kq with
  | zero=>exact absurd HA.out (by simp [Z8.j0])
  | succ kj2 =>
   have H:=HA.out
   clear HA
   simp only [Z8.j0] at H
   by_cases c22:x21_2 = true
   ·subst c22
    rw [if_pos rfl] at H
    simp only [Option.some.injEq,Prod.mk.injEq] at H
    obtain ⟨rfl,rfl,rfl⟩:=H
    have hnb23:=NB251_250.out
    have hnc23:=NB250_251.out
    obtain ⟨hcz24_0,hcz24_1,hfz24_0,hfz24_1⟩:=c2_ BK251
    go_wp2
    refine bodyPost_ret (results_ct rfl _ _ gb251 25 #[.slice none 0 0,.slice none 0 0] (0,0) _ rfl qp_ Try.underlying25 rfl (by kernel_rfl)) rfl ?_
    exact ⟨_,_,qb_,by first | exact Kd.R_nil _ _ _ _ _ | exact Kd.N_nil _ _ _ _ _ | exact Kd.V_nil _ _ _ _ _ | exact Kd.Q_nil _ _ _ _ _ | exact Kd.S_nil _ _ _ _ _,by first | exact Kd.R_nil _ _ _ _ _ | exact Kd.N_nil _ _ _ _ _ | exact Kd.V_nil _ _ _ _ _ | exact Kd.Q_nil _ _ _ _ _ | exact Kd.S_nil _ _ _ _ _,hB_⟩
   ·replace c22:=Bool.eq_false_iff.mpr c22
    subst c22
    have H1:((Z26.f kj2 l0_0 l1).bind fun t254=>((Z26.f kj2 l0_1 l1).bind fun t257=>(some (t254,t257,true)))) = some (r1,r2,r3):=by rw [if_neg (show ¬ (false = true) by decide)] at H;exact H
    clear H
    have H:=H1
    clear H1
    obtain ⟨t254,A25,H⟩:=bi_ H
    obtain ⟨t257,A26,H⟩:=bi_ H
    simp only [Option.some.injEq,Prod.mk.injEq] at H
    obtain ⟨rfl,rfl,rfl⟩:=H
    try go_wp2
    replace BK250:=A_ (kB_ BK250.out)
    replace BK251:=A_ (kB_ BK251.out)
    replace HB:=A_ (bC_ HB.out)
    refine start_ (n:=11) (S:=fun w'=>w'.cell? ⟨gb250,0,none⟩ = some (.slice A0_0 l0_0.length c0_0)∧w'.cell? ⟨gb250,1,none⟩ = some (.slice A0_1 l0_1.length c0_1)) (ds:=[]) (bl_ 11 0) (by kernel_rfl) rfl (by kernel_rfl) ⟨cz0_ BK250,cz1_ BK250⟩ (fun hHeld=>?_);refine with_tabW Z8.tab3 Z8.bits3 (fun HT_ HW_=>?_)
    generalize wc.drew = w27 at BK250 BK251 HB hHeld ⊢
    refine pu_ 0 (some 23) (bl_ 11 1) HT_ ?_
    refine pu_ 2 (some 25) (bl_ 11 5) HT_ ?_
    refine pu_ 4 (some 27) (bl_ 11 21) HT_ ?_
    refine pu_ 6 (some 29) (bl_ 11 85) HT_ ?_
    refine ta_ 1 (some 24) (bl_ 11 87) HT_ HW_ hHeld ?_
    refine ta_ 5 (some 28) (bl_ 11 119) HT_ HW_ hHeld ?_
    refine on_ 3 (some 26) (bl_ 11 127) HT_ (fun K hK=>?_)
    refine gO_ Try.func144 #[.slice A0_0 l0_0.length c0_0,.slice A1 l1.length c1] (by rfl) rfl rfl qa_ ?_
    with_reducible refine (Z26.calls kj2 _ _ l0_0 _ _ l1 t254 _ (cb_ HR0_0) HC0_0.out (cb_ HR1) HC1.out A25.out).mono ?_
    rintro e w28 ⟨v255,rfl,ho0,hb⟩
    refine ⟨_,rfl,?_⟩
    have HO256:=rl_ w ho0
    replace BK250:=bb_ BK250 hb
    replace BK251:=bb_ BK251 hb
    replace HB:=b1_ hb
    clear hb ho0
    refine hK.out _ _ ⟨cz0_ BK250,cz1_ BK250⟩ (fun hHeld=>?_)
    clear hK K
    refine no_ (some 26) ?_
    refine on_ 7 (some 30) (bl_ 11 255) HT_ (fun K hK=>?_)
    refine gO_ Try.func144 #[.slice A0_1 l0_1.length c0_1,.slice A1 l1.length c1] (by rfl) rfl rfl qa_ ?_
    with_reducible refine (Z26.calls kj2 _ _ l0_1 _ _ l1 t257 _ (cb_ HR0_1) HC0_1.out (cb_ HR1) HC1.out A26.out).mono ?_
    rintro e w29 ⟨v258,rfl,ho0,hb⟩
    refine ⟨_,rfl,?_⟩
    have HO259:=A_ (rE_ (Kd.R_new' ho0 (Kd.R_lt (rr_ HO256))) (bF_ hB_))
    replace HO256:=A_ (Kd.R_elder' (rr_ HO256) (Kd.R_base ho0) hb)
    replace BK250:=bb_ BK250 hb
    replace BK251:=bb_ BK251 hb
    replace HB:=b1_ hb
    clear hb ho0
    obtain ⟨Ao30,co30,eo30⟩:=Kd.R_slice HO259.out
    (first|subst eo30|(injection eo30 with a_ b_ c_;have a_:=a_.symm;have c_:=c_.symm;clear b_;subst a_;subst c_))
    obtain ⟨Ao31,co31,eo31⟩:=Kd.R_slice HO256.out
    (first|subst eo31|(injection eo31 with a_ b_ c_;have a_:=a_.symm;have c_:=c_.symm;clear b_;subst a_;subst c_))
    refine hK.out _ _ ⟨cz0_ BK250,cz1_ BK250⟩ (fun hHeld=>?_)
    clear hK K
    refine no_ (some 30) ?_
    refine pu_ 8 (some 31) (bl_ 11 511) HT_ ?_
    refine on_ 9 (none) (bl_ 11 1023) HT_ (fun K hK=>?_)
    have hs32:w29.cell? ⟨gb251,0,none⟩ = some (.slice none 0 0):=cz0_ BK251
    have hfs32:=kD_ BK251.out 0
    have hns32_0:=NB250_251.out
    have hms32_0:=NB251_250.out
    have hs33:w29.cell? ⟨gb251,1,none⟩ = some (.slice none 0 0):=cz1_ BK251
    have hfs33:=kD_ BK251.out 1
    have hns33_0:=NB250_251.out
    have hms33_0:=NB251_250.out
    refine skip_ (w1:=?_) (by rfl) rfl ?_ ?_
    rotate_left
    ·go_simp
     rfl
    refine hK.out _ _ ⟨((cell_far (p:=⟨gb251,_,none⟩) NB250_251.out _).trans (((cell_far (p:=⟨gb251,_,none⟩) NB250_251.out _).trans (hHeld.1)))),((cell_far (p:=⟨gb251,_,none⟩) NB250_251.out _).trans (((cell_far (p:=⟨gb251,_,none⟩) NB250_251.out _).trans (hHeld.2))))⟩ (fun hHeld=>?_)
    clear hK K
    refine pu_ 10 (some 5) (bl_ 11 2047) HT_ ?_
    refine done_ (done_of HT_.out (by kernel_rfl)) ?_
    try go_wp2
    refine bodyPost_ret (results_ct rfl _ _ gb251 25 #[.slice Ao31 t254.length co31,.slice Ao30 t257.length co30] (0,0) _ rfl qp_ Try.underlying25 rfl (by kernel_rfl)) rfl ?_
    exact ⟨_,_,qb_,(rw_ (Kd.R_mono (fa_ HO256 BK251) (fun _ hk=>hk.2))),(rw_ (Kd.R_mono (fa_ HO259 BK251) (fun _ hk=>hk.2))),hB_⟩
end Go.Proofs.Ytcggfjpnfodbaaa.A
end
