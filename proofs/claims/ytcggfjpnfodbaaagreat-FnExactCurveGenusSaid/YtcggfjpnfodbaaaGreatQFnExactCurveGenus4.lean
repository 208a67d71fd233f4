/- Lemmas for the row FnExactCurveGenus: the program's functions told as plain functions, and plain mathematics. No conditions. -/
import Derived.Ground.SlsfProg
import Derived.Lib.Bytealg
import Derived.Lib.Walk
import Derived.Shelf.SlSortCmp.NoneTotal
import Derived.Test.YtcggfjpnfodbaaaGreatProg
import Derived.Test.YtcggfjpnfodbaaaGreatQFnExactCurveGenus3
section
namespace Go.Proofs.YtcggfjpnfodbaaaGreat.A
open Go.RowKit Go.Proofs.YtcggfjpnfodbaaaGreatW.PrintWords Go.Proofs.YtcggfjpnfodbaaaGreatW.PrintLast Go.Proofs.YtcggfjpnfodbaaaGreatW.PrintMore
attribute [local go_sem] max2_int min2_int max_two min_two max_three min_three max_four min_four
set_option linter.unusedVariables false
set_option linter.unusedSimpArgs false
def Z10.f (k:Nat) (l0_0:List Int) (l0_1:List Int):Option (List Int × List Int × Bool):=(Z38.f k l0_0 l0_1).bind fun t652=>(if t652 = true then ((Z54.f l0_1).bind fun t653=>((Z23.f k l0_0).bind fun t656=>(some (t653,t656,true)))) else (some (([]:List Int),([]:List Int),false)))
theorem Z10.mono:∀ a0 a1 k,LeO (Z10.f k a0 a1) (Z10.f (k + 1) a0 a1):=by
 intro a0 a1 k
 unfold Z10.f
 repeat' first|exact Z23.mono _ _|exact Z38.mono _ _ _|exact lo_|refine LeO.ite ?_ ?_|refine LeO.bind ?_ (fun _=>?_)
def Z10.T3:Bool × List (List Nat × List Nat):=(true,[([],[]),([0],[0]),([1],[1]),([],[]),([3],[3]),([4,2],[4]),([2,5],[2,5]),([6,5,0,1,2,3,4,5,6],[6]),([7,0,1,2,3,4,5,6,7],[])])
def Z10.B3:List Nat:=[0,1,3,0,8,31,63,127,255]
theorem Z10.tab3:rtab .any (opsOf Tryz.f62 3) = Z10.T3:=by kernel_rfl
theorem Z10.bits3:waitsOk Z10.T3.2 Z10.B3 = true:=by kernel_rfl
set_option maxHeartbeats 8000000 in
set_option maxRecDepth 100000 in
theorem Z10.calls (k:Nat) (A0_0:Option Addr) (c0_0:Nat) (l0_0:List Int) (A0_1:Option Addr) (c0_1:Nat) (l0_1:List Int) (r1:List Int) (r2:List Int) (r3:Bool) (w:World) (hr0_0:Kd.C (Kd.int .i64) w A0_0 l0_0.length l0_0) (hc0_0:l0_0.length≤c0_0) (hr0_1:Kd.C (Kd.int .i64) w A0_1 l0_1.length l0_1) (hc0_1:l0_1.length≤c0_1) (h:Z10.f k l0_0 l0_1 = some (r1,r2,r3)) :
  Calls Tryz.prog 62 #[.agg #[.slice A0_0 l0_0.length c0_0,.slice A0_1 l0_1.length c0_1]] w fun e w'=>∃ v0_ v1_:Value,e = .returned (.tuple #[.agg #[v0_,v1_],.bool r3])∧Kd.R (Kd.int .i64) 3 w' w.heap.size (fun k_=>some k_≠(v1_:Value).ownBlock) v0_ r1∧Kd.R (Kd.int .i64) 3 w' w.heap.size (fun k_=>some k_≠(v0_:Value).ownBlock) v1_ r2∧Below w.heap.size w w':=by
 have hu27:=Tryz.underlying27
 have HR0_0:=A_ hr0_0
 have HC0_0:=A_ hc0_0
 clear hr0_0 hc0_0
 have HR0_1:=A_ hr0_1
 have HC0_1:=A_ hc0_1
 clear hr0_1 hc0_1
 have HB:=A_ (Below.refl w.heap.size w)
 have H:=h
 unfold Z10.f at H
 clear h
 obtain ⟨t652,A2,H⟩:=bi_ H
 by_cases c3:t652 = true
 ·subst c3
  rw [if_pos rfl] at H
  obtain ⟨t653,A4,H⟩:=bi_ H
  obtain ⟨t656,A5,H⟩:=bi_ H
  simp only [Option.some.injEq,Prod.mk.injEq] at H
  obtain ⟨rfl,rfl,rfl⟩:=H
  go_enter Tryz.func62,Tryz.ntmps62
  try go_wp2_with (first | ((with_reducible refine gB_ (N:=1) rfl ?_);refine bx_ 1 #[.slice A0_0 l0_0.length c0_0,.slice A0_1 l0_1.length c0_1] 27 ?_;intro gb650 hg w6 hbox hb;have BK650:=A_ hbox;have GW650:=gw_ w hg;have GE650:=GW650;replace HB:=b1_ hb;clear hb hbox hg) | ((with_reducible refine gB_ (N:=2) rfl ?_);refine bx_ 2 #[.slice none 0 0,.slice none 0 0] 27 ?_;intro gb651 hg w7 hbox hb;have BK651:=A_ hbox;have GW651:=gw_ w hg;have GE651:=GW651;replace HB:=b1_ hb;have NB650_651:=gN_ BK650 hg;have NB651_650:=gP_ BK650 hg;replace BK650:=bb_ BK650 hb;clear hb hbox hg;have hnb8:=NB650_651.out;have hnc8:=NB651_650.out;obtain ⟨hcz9_0,hcz9_1,hfz9_0,hfz9_1⟩:=c2_ BK650) | ((with_reducible refine gA_ (f:=76) rfl ?_);refine gL_ (some 5) Tryz.func76 #[.agg #[.slice A0_0 l0_0.length c0_0,.slice A0_1 l0_1.length c0_1]] rfl qa_ ?_;(with_reducible refine (Z38.calls k _ _ l0_0 _ _ l0_1 true _ (cb_ HR0_0) HC0_0.out (cb_ HR0_1) HC0_1.out A2.out).mono ?_);rintro e w10 ⟨rfl,hb⟩;refine ⟨_,rfl,?_⟩;replace BK650:=bb_ BK650 hb;replace BK651:=bb_ BK651 hb;replace HB:=b1_ hb;clear hb))
  replace BK650:=A_ (kB_ BK650.out)
  replace BK651:=A_ (kB_ BK651.out)
  replace HB:=A_ (bC_ HB.out)
  refine start_ (n:=9) (S:=fun w'=>w'.cell? ⟨gb650,0,none⟩ = some (.slice A0_0 l0_0.length c0_0)∧w'.cell? ⟨gb650,1,none⟩ = some (.slice A0_1 l0_1.length c0_1)) (ds:=[]) (bl_ 9 0) (by kernel_rfl) rfl (by kernel_rfl) ⟨cz0_ BK650,cz1_ BK650⟩ (fun hHeld=>?_);refine with_tabW Z10.tab3 Z10.bits3 (fun HT_ HW_=>?_)
  generalize w10.drew = w11 at BK650 BK651 HB hHeld ⊢
  refine pu_ 0 (some 8) (bl_ 9 1) HT_ ?_
  refine pu_ 3 (some 11) (bl_ 9 9) HT_ ?_
  refine ta_ 1 (some 9) (bl_ 9 11) HT_ HW_ hHeld ?_
  refine ta_ 4 (some 12) (bl_ 9 27) HT_ HW_ hHeld ?_
  refine on_ 2 (some 10) (bl_ 9 31) HT_ (fun K hK=>?_)
  refine gO_ Tryz.func91 #[.slice A0_1 l0_1.length c0_1] (by rfl) rfl rfl qa_ ?_
  with_reducible refine (Z54.calls _ _ l0_1 t653 _ (cb_ HR0_1) HC0_1.out A4.out).mono ?_
  rintro e w12 ⟨v654,rfl,ho0,hb⟩
  refine ⟨_,rfl,?_⟩
  have HO655:=rl_ w ho0
  replace BK650:=bb_ BK650 hb
  replace BK651:=bb_ BK651 hb
  replace HB:=b1_ hb
  clear hb ho0
  refine hK.out _ _ ⟨cz0_ BK650,cz1_ BK650⟩ (fun hHeld=>?_)
  clear hK K
  refine no_ (some 10) ?_
  refine on_ 5 (some 13) (bl_ 9 63) HT_ (fun K hK=>?_)
  refine gO_ Tryz.func93 #[.slice A0_0 l0_0.length c0_0] (by rfl) rfl rfl qa_ ?_
  with_reducible refine (Z23.calls k _ _ l0_0 t656 _ (cb_ HR0_0) HC0_0.out A5.out).mono ?_
  rintro e w13 ⟨v657,rfl,ho0,hb⟩
  refine ⟨_,rfl,?_⟩
  have HO658:=A_ (rE_ (Kd.R_new' ho0 (Kd.R_lt (rr_ HO655))) (bF_ hB_))
  replace HO655:=A_ (Kd.R_elder' (rr_ HO655) (Kd.R_base ho0) hb)
  replace BK650:=bb_ BK650 hb
  replace BK651:=bb_ BK651 hb
  replace HB:=b1_ hb
  clear hb ho0
  obtain ⟨Ao14,co14,eo14⟩:=Kd.R_slice HO658.out
  (first | subst eo14 | (injection eo14 with f1_ f2_ f3_;have f4_:=f1_.symm;have f5_:=f3_.symm;clear f1_ f2_ f3_;subst f4_;subst f5_))
  obtain ⟨Ao15,co15,eo15⟩:=Kd.R_slice HO655.out
  (first | subst eo15 | (injection eo15 with f1_ f2_ f3_;have f4_:=f1_.symm;have f5_:=f3_.symm;clear f1_ f2_ f3_;subst f4_;subst f5_))
  refine hK.out _ _ ⟨cz0_ BK650,cz1_ BK650⟩ (fun hHeld=>?_)
  clear hK K
  refine no_ (some 13) ?_
  refine pu_ 6 (some 14) (bl_ 9 127) HT_ ?_
  refine on_ 7 (none) (bl_ 9 255) HT_ (fun K hK=>?_)
  have hs16:w13.cell? ⟨gb651,0,none⟩ = some (.slice none 0 0):=cz0_ BK651
  have hfs16:=kD_ BK651.out 0
  have hns16_0:=NB650_651.out
  have hms16_0:=NB651_650.out
  have hs17:w13.cell? ⟨gb651,1,none⟩ = some (.slice none 0 0):=cz1_ BK651
  have hfs17:=kD_ BK651.out 1
  have hns17_0:=NB650_651.out
  have hms17_0:=NB651_650.out
  refine skip_ (w1:=?_) (by rfl) rfl ?_ ?_
  rotate_left
  ·go_simp
   rfl
  refine hK.out _ _ ⟨((cell_far (p:=⟨gb651,_,none⟩) NB650_651.out _).trans (((cell_far (p:=⟨gb651,_,none⟩) NB650_651.out _).trans (hHeld.1)))),((cell_far (p:=⟨gb651,_,none⟩) NB650_651.out _).trans (((cell_far (p:=⟨gb651,_,none⟩) NB650_651.out _).trans (hHeld.2))))⟩ (fun hHeld=>?_)
  clear hK K
  refine pu_ 8 (some 3) (bl_ 9 511) HT_ ?_
  refine done_ (done_of HT_.out (by kernel_rfl)) ?_
  try go_wp2
  refine bodyPost_ret (results_ct rfl _ _ gb651 27 #[.slice Ao15 t653.length co15,.slice Ao14 t656.length co14] (0,0) _ rfl qp_ Tryz.underlying27 rfl (by kernel_rfl)) rfl ?_
  exact ⟨_,_,qb_,(rw_ (Kd.R_mono (fa_ HO655 BK651) (fun _ hk=>hk.2))),(rw_ (Kd.R_mono (fa_ HO658 BK651) (fun _ hk=>hk.2))),hB_⟩
 ·replace c3:=Bool.eq_false_iff.mpr c3
  subst c3
  have H1:(some (([]:List Int),([]:List Int),false)) = some (r1,r2,r3):=by rw [if_neg (show ¬ (false = true) by decide)] at H;exact H
  clear H
  have H:=H1
  clear H1
  simp only [Option.some.injEq,Prod.mk.injEq] at H
  obtain ⟨rfl,rfl,rfl⟩:=H
  go_enter Tryz.func62,Tryz.ntmps62
  go_wp2_with (first | ((with_reducible refine gB_ (N:=1) rfl ?_);refine bx_ 1 #[.slice A0_0 l0_0.length c0_0,.slice A0_1 l0_1.length c0_1] 27 ?_;intro gb650 hg w18 hbox hb;have BK650:=A_ hbox;have GW650:=gw_ w hg;have GE650:=GW650;replace HB:=b1_ hb;clear hb hbox hg) | ((with_reducible refine gB_ (N:=2) rfl ?_);refine bx_ 2 #[.slice none 0 0,.slice none 0 0] 27 ?_;intro gb651 hg w19 hbox hb;have BK651:=A_ hbox;have GW651:=gw_ w hg;have GE651:=GW651;replace HB:=b1_ hb;have NB650_651:=gN_ BK650 hg;have NB651_650:=gP_ BK650 hg;replace BK650:=bb_ BK650 hb;clear hb hbox hg;have hnb20:=NB650_651.out;have hnc20:=NB651_650.out;obtain ⟨hcz21_0,hcz21_1,hfz21_0,hfz21_1⟩:=c2_ BK650) | ((with_reducible refine gA_ (f:=76) rfl ?_);refine gL_ (some 5) Tryz.func76 #[.agg #[.slice A0_0 l0_0.length c0_0,.slice A0_1 l0_1.length c0_1]] rfl qa_ ?_;(with_reducible refine (Z38.calls k _ _ l0_0 _ _ l0_1 false _ (cb_ HR0_0) HC0_0.out (cb_ HR0_1) HC0_1.out A2.out).mono ?_);rintro e w22 ⟨rfl,hb⟩;refine ⟨_,rfl,?_⟩;replace BK650:=bb_ BK650 hb;replace BK651:=bb_ BK651 hb;replace HB:=b1_ hb;clear hb;obtain ⟨hcz23_0,hcz23_1,hfz23_0,hfz23_1⟩:=c2_ BK651))
  refine bodyPost_ret (results_ct rfl _ _ gb651 27 #[.slice none 0 0,.slice none 0 0] (0,0) _ rfl qp_ Tryz.underlying27 rfl (by kernel_rfl)) rfl ?_
  exact ⟨_,_,qb_,by first | exact Kd.R_nil _ _ _ _ _ | exact Kd.N_nil _ _ _ _ _ | exact Kd.V_nil _ _ _ _ _ | exact Kd.Q_nil _ _ _ _ _ | exact Kd.S_nil _ _ _ _ _,by first | exact Kd.R_nil _ _ _ _ _ | exact Kd.N_nil _ _ _ _ _ | exact Kd.V_nil _ _ _ _ _ | exact Kd.Q_nil _ _ _ _ _ | exact Kd.S_nil _ _ _ _ _,hB_⟩
def Z11.f (k:Nat) (l0_0:List Int) (l0_1:List Int) (a1:Int):Option (List Int × List Int):=if a1 = 84 then ((Z16.f k l0_0 l0_1).bind fun bt662=>(some (bt662.1,bt662.2.1))) else (if a1 = 116 then ((Z6.f k l0_0 l0_1).bind fun bt669=>(some (bt669.1,bt669.2.1))) else (if a1 = 83 then ((Z25.f k l0_0 l0_1).bind fun bt676=>(some (bt676.1,bt676.2.1))) else (if a1 = 115 then ((Z10.f k l0_0 l0_1).bind fun bt683=>(some (bt683.1,bt683.2.1))) else (some (([]:List Int),([]:List Int))))))
theorem Z11.mono:∀ a0 a1 a2 k,LeO (Z11.f k a0 a1 a2) (Z11.f (k + 1) a0 a1 a2):=by
 intro a0 a1 a2 k
 unfold Z11.f
 repeat' first|exact Z16.mono _ _ _|exact Z25.mono _ _ _|exact Z6.mono _ _ _|exact Z10.mono _ _ _|exact lo_|refine LeO.ite ?_ ?_|refine LeO.bind ?_ (fun _=>?_)
set_option maxHeartbeats 8000000 in
set_option maxRecDepth 100000 in
theorem Z11.calls (k:Nat) (A0_0:Option Addr) (c0_0:Nat) (l0_0:List Int) (A0_1:Option Addr) (c0_1:Nat) (l0_1:List Int) (a1:Int) (r1:List Int) (r2:List Int) (w:World) (hr0_0:Kd.C (Kd.int .i64) w A0_0 l0_0.length l0_0) (hc0_0:l0_0.length≤c0_0) (hr0_1:Kd.C (Kd.int .i64) w A0_1 l0_1.length l0_1) (hc0_1:l0_1.length≤c0_1) (h:Z11.f k l0_0 l0_1 a1 = some (r1,r2)) :
  Calls Tryz.prog 40 #[.agg #[.slice A0_0 l0_0.length c0_0,.slice A0_1 l0_1.length c0_1],.int .u8 a1] w fun e w'=>∃ v0_ v1_:Value,e = .returned (.agg #[v0_,v1_])∧Kd.R (Kd.int .i64) 3 w' w.heap.size (fun k_=>some k_≠(v1_:Value).ownBlock) v0_ r1∧Kd.R (Kd.int .i64) 3 w' w.heap.size (fun k_=>some k_≠(v0_:Value).ownBlock) v1_ r2∧Below w.heap.size w w':=by
 have hu27:=Tryz.underlying27
 have HR0_0:=A_ hr0_0
 have HC0_0:=A_ hc0_0
 clear hr0_0 hc0_0
 have HR0_1:=A_ hr0_1
 have HC0_1:=A_ hc0_1
 clear hr0_1 hc0_1
 have HB:=A_ (Below.refl w.heap.size w)
 have H:=h
 unfold Z11.f at H
 clear h
 by_cases c3:a1 = 84
 ·rw [if_pos c3] at H
  have c3b0:(a1 == 84) = true:=beq_iff_eq.mpr c3
  have c3b1:(a1 != 84) = false:=bne_eq_false_iff_eq.mpr c3
  clear c3
  obtain ⟨⟨t662,t665,t668⟩,A4,H⟩:=bi_ H
  try dsimp only at H
  simp only [Option.some.injEq,Prod.mk.injEq] at H
  obtain ⟨rfl,rfl⟩:=H
  go_enter Tryz.func40,Tryz.ntmps40
  go_wp2_with (first | ((with_reducible refine gB_ (N:=2) rfl ?_);refine bx_ 2 #[.slice A0_0 l0_0.length c0_0,.slice A0_1 l0_1.length c0_1] 27 ?_;intro gb659 hg w5 hbox hb;have BK659:=A_ hbox;have GW659:=gw_ w hg;have GE659:=GW659;replace HB:=b1_ hb;clear hb hbox hg) | ((with_reducible refine gB_ (N:=4) rfl ?_);refine bx_ 4 #[.slice none 0 0,.slice none 0 0] 27 ?_;intro gb660 hg w6 hbox hb;have BK660:=A_ hbox;have GW660:=gw_ w hg;have GE660:=GW660;replace HB:=b1_ hb;have NB659_660:=gN_ BK659 hg;have NB660_659:=gP_ BK659 hg;replace BK659:=bb_ BK659 hb;clear hb hbox hg) | ((with_reducible refine gB_ (N:=5) rfl ?_);refine bx_ 5 #[.slice none 0 0,.slice none 0 0] 27 ?_;intro gb661 hg w7 hbox hb;have BK661:=A_ hbox;have GW661:=gw_ w hg;have GE661:=GW661;replace HB:=b1_ hb;have NB659_661:=gN_ BK659 hg;have NB661_659:=gP_ BK659 hg;replace BK659:=bb_ BK659 hb;have NB660_661:=gN_ BK660 hg;have NB661_660:=gP_ BK660 hg;replace BK660:=bb_ BK660 hb;clear hb hbox hg;have hnb8:=NB661_659.out;have hnc8:=NB659_661.out;have hnb9:=NB661_660.out;have hnc9:=NB660_661.out;obtain ⟨hcz10_0,hcz10_1,hfz10_0,hfz10_1⟩:=c2_ BK661;have hnb11:=NB659_660.out;have hnc11:=NB660_659.out;obtain ⟨hcz12_0,hcz12_1,hfz12_0,hfz12_1⟩:=c2_ BK659) | ((with_reducible refine gA_ (f:=59) rfl ?_);refine gL_ (some 12) Tryz.func59 #[.agg #[.slice A0_0 l0_0.length c0_0,.slice A0_1 l0_1.length c0_1]] rfl qa_ ?_;(with_reducible refine (Z16.calls k _ _ l0_0 _ _ l0_1 t662 t665 t668 _ (cD_ HR0_0.out hB_) HC0_0.out (cD_ HR0_1.out hB_) HC0_1.out A4.out).mono ?_);rintro e w13 ⟨v663,v666,rfl,ho0,ho1,hb⟩;refine ⟨_,rfl,?_⟩;have HO664:=rl_ w ho0;have HO667:=rl_ w ho1;replace BK659:=A_ (kE_ (g:=gb659) (o:=.cells #[.slice A0_0 l0_0.length c0_0,.slice A0_1 l0_1.length c0_1] 27 (0,0)) (by (with_reducible repeat (first | refine kA_ ?_ _ | refine kB_ ?_ | refine kC_ ?_ _));refine blk_far ?_ NB659_661.out _;(with_reducible repeat (first | refine kA_ ?_ _ | refine kB_ ?_ | refine kC_ ?_ _));refine blk_far ?_ NB659_661.out _;(with_reducible repeat (first | refine kA_ ?_ _ | refine kB_ ?_ | refine kC_ ?_ _));exact BK659.out) hb);replace BK660:=A_ (kE_ (g:=gb660) (o:=.cells #[.slice none 0 0,.slice none 0 0] 27 (0,0)) (by (with_reducible repeat (first | refine kA_ ?_ _ | refine kB_ ?_ | refine kC_ ?_ _));refine blk_far ?_ NB660_661.out _;(with_reducible repeat (first | refine kA_ ?_ _ | refine kB_ ?_ | refine kC_ ?_ _));refine blk_far ?_ NB660_661.out _;(with_reducible repeat (first | refine kA_ ?_ _ | refine kB_ ?_ | refine kC_ ?_ _));exact BK660.out) hb);replace BK661:=A_ (kE_ (g:=gb661) (o:=.cells #[.slice none 0 0,.slice none 0 0] 27 (0,0)) qp_ hb);replace HB:=b1_ hb;clear hb ho0 ho1;obtain ⟨Ao14,co14,eo14⟩:=Kd.R_slice HO664.out;subst eo14;obtain ⟨hcz15_0,hcz15_1,hfz15_0,hfz15_1⟩:=c2_ BK661;obtain ⟨Ao16,co16,eo16⟩:=Kd.R_slice HO667.out;subst eo16;obtain ⟨hcz17_0,hcz17_1,hfz17_0,hfz17_1⟩:=c2_ BK660))
  refine bodyPost_ret (results_cell_row rfl _ _ gb660 27 #[.slice Ao14 t662.length co14,.slice Ao16 t665.length co16] (0,0) _ rfl (by (with_reducible repeat (first | refine kA_ ?_ _ | refine kB_ ?_ | refine kC_ ?_ _));refine blk_put (cs:=#[.slice Ao14 t662.length co14,.slice none 0 0]) ?_ 1 _ rfl;(with_reducible repeat (first | refine kA_ ?_ _ | refine kB_ ?_ | refine kC_ ?_ _));refine blk_put (cs:=#[.slice none 0 0,.slice none 0 0]) ?_ 0 _ rfl;(with_reducible repeat (first | refine kA_ ?_ _ | refine kB_ ?_ | refine kC_ ?_ _));refine blk_far ?_ NB660_661.out _;(with_reducible repeat (first | refine kA_ ?_ _ | refine kB_ ?_ | refine kC_ ?_ _));refine blk_far ?_ NB660_661.out _;(with_reducible repeat (first | refine kA_ ?_ _ | refine kB_ ?_ | refine kC_ ?_ _));exact BK660.out) Tryz.underlying27 rfl (by kernel_rfl)) rfl ?_
  exact ⟨_,_,qb_,(rw_ (Kd.R_mono (Kd.R_far (p:=⟨gb660,1,none⟩) (Kd.R_far (p:=⟨gb660,0,none⟩) (Kd.R_far (p:=⟨gb661,1,none⟩) (Kd.R_far (p:=⟨gb661,0,none⟩) (Kd.R_types (Kd.R_types HO664.out BK661.out (by decide)) BK660.out (by decide)) (fun _ hk=>hk.1.2) (.slice Ao14 t662.length co14)) (fun _ hk=>hk.1.2) (.slice Ao16 t665.length co16)) (fun _ hk=>hk.2) (.slice Ao14 t662.length co14)) (fun _ hk=>hk.2) (.slice Ao16 t665.length co16)) (fun _ hk=>hk.1.1))),(rw_ (Kd.R_mono (Kd.R_far (p:=⟨gb660,1,none⟩) (Kd.R_far (p:=⟨gb660,0,none⟩) (Kd.R_far (p:=⟨gb661,1,none⟩) (Kd.R_far (p:=⟨gb661,0,none⟩) (Kd.R_types (Kd.R_types HO667.out BK661.out (by decide)) BK660.out (by decide)) (fun _ hk=>hk.1.2) (.slice Ao14 t662.length co14)) (fun _ hk=>hk.1.2) (.slice Ao16 t665.length co16)) (fun _ hk=>hk.2) (.slice Ao14 t662.length co14)) (fun _ hk=>hk.2) (.slice Ao16 t665.length co16)) (fun _ hk=>hk.1.1))),hB_⟩
 ·rw [if_neg c3] at H
  have c3b0:(a1 == 84) = false:=beq_eq_false_iff_ne.mpr c3
  have c3b1:(a1 != 84) = true:=bne_iff_ne.mpr c3
  by_cases c18:a1 = 116
  ·rw [if_pos c18] at H
   have c18b0:(a1 == 116) = true:=beq_iff_eq.mpr c18
   have c18b1:(a1 != 116) = false:=bne_eq_false_iff_eq.mpr c18
   clear c18
   obtain ⟨⟨t669,t672,t675⟩,A19,H⟩:=bi_ H
   try dsimp only at H
   simp only [Option.some.injEq,Prod.mk.injEq] at H
   obtain ⟨rfl,rfl⟩:=H
   go_enter Tryz.func40,Tryz.ntmps40
   go_wp2_with (first | ((with_reducible refine gB_ (N:=2) rfl ?_);refine bx_ 2 #[.slice A0_0 l0_0.length c0_0,.slice A0_1 l0_1.length c0_1] 27 ?_;intro gb659 hg w20 hbox hb;have BK659:=A_ hbox;have GW659:=gw_ w hg;have GE659:=GW659;replace HB:=b1_ hb;clear hb hbox hg) | ((with_reducible refine gB_ (N:=4) rfl ?_);refine bx_ 4 #[.slice none 0 0,.slice none 0 0] 27 ?_;intro gb660 hg w21 hbox hb;have BK660:=A_ hbox;have GW660:=gw_ w hg;have GE660:=GW660;replace HB:=b1_ hb;have NB659_660:=gN_ BK659 hg;have NB660_659:=gP_ BK659 hg;replace BK659:=bb_ BK659 hb;clear hb hbox hg) | ((with_reducible refine gB_ (N:=5) rfl ?_);refine bx_ 5 #[.slice none 0 0,.slice none 0 0] 27 ?_;intro gb661 hg w22 hbox hb;have BK661:=A_ hbox;have GW661:=gw_ w hg;have GE661:=GW661;replace HB:=b1_ hb;have NB659_661:=gN_ BK659 hg;have NB661_659:=gP_ BK659 hg;replace BK659:=bb_ BK659 hb;have NB660_661:=gN_ BK660 hg;have NB661_660:=gP_ BK660 hg;replace BK660:=bb_ BK660 hb;clear hb hbox hg;have hnb23:=NB661_659.out;have hnc23:=NB659_661.out;have hnb24:=NB661_660.out;have hnc24:=NB660_661.out;obtain ⟨hcz25_0,hcz25_1,hfz25_0,hfz25_1⟩:=c2_ BK661;have hnb26:=NB659_660.out;have hnc26:=NB660_659.out;obtain ⟨hcz27_0,hcz27_1,hfz27_0,hfz27_1⟩:=c2_ BK659) | ((with_reducible refine gA_ (f:=60) rfl ?_);refine gL_ (some 19) Tryz.func60 #[.agg #[.slice A0_0 l0_0.length c0_0,.slice A0_1 l0_1.length c0_1]] rfl qa_ ?_;(with_reducible refine (Z6.calls k _ _ l0_0 _ _ l0_1 t669 t672 t675 _ (cD_ HR0_0.out hB_) HC0_0.out (cD_ HR0_1.out hB_) HC0_1.out A19.out).mono ?_);rintro e w28 ⟨v670,v673,rfl,ho0,ho1,hb⟩;refine ⟨_,rfl,?_⟩;have HO671:=rl_ w ho0;have HO674:=rl_ w ho1;replace BK659:=A_ (kE_ (g:=gb659) (o:=.cells #[.slice A0_0 l0_0.length c0_0,.slice A0_1 l0_1.length c0_1] 27 (0,0)) (by (with_reducible repeat (first | refine kA_ ?_ _ | refine kB_ ?_ | refine kC_ ?_ _));refine blk_far ?_ NB659_661.out _;(with_reducible repeat (first | refine kA_ ?_ _ | refine kB_ ?_ | refine kC_ ?_ _));refine blk_far ?_ NB659_661.out _;(with_reducible repeat (first | refine kA_ ?_ _ | refine kB_ ?_ | refine kC_ ?_ _));exact BK659.out) hb);replace BK660:=A_ (kE_ (g:=gb660) (o:=.cells #[.slice none 0 0,.slice none 0 0] 27 (0,0)) (by (with_reducible repeat (first | refine kA_ ?_ _ | refine kB_ ?_ | refine kC_ ?_ _));refine blk_far ?_ NB660_661.out _;(with_reducible repeat (first | refine kA_ ?_ _ | refine kB_ ?_ | refine kC_ ?_ _));refine blk_far ?_ NB660_661.out _;(with_reducible repeat (first | refine kA_ ?_ _ | refine kB_ ?_ | refine kC_ ?_ _));exact BK660.out) hb);replace BK661:=A_ (kE_ (g:=gb661) (o:=.cells #[.slice none 0 0,.slice none 0 0] 27 (0,0)) qp_ hb);replace HB:=b1_ hb;clear hb ho0 ho1;obtain ⟨Ao29,co29,eo29⟩:=Kd.R_slice HO671.out;subst eo29;obtain ⟨hcz30_0,hcz30_1,hfz30_0,hfz30_1⟩:=c2_ BK661;obtain ⟨Ao31,co31,eo31⟩:=Kd.R_slice HO674.out;subst eo31;obtain ⟨hcz32_0,hcz32_1,hfz32_0,hfz32_1⟩:=c2_ BK660))
   refine bodyPost_ret (results_cell_row rfl _ _ gb660 27 #[.slice Ao29 t669.length co29,.slice Ao31 t672.length co31] (0,0) _ rfl (by (with_reducible repeat (first | refine kA_ ?_ _ | refine kB_ ?_ | refine kC_ ?_ _));refine blk_put (cs:=#[.slice Ao29 t669.length co29,.slice none 0 0]) ?_ 1 _ rfl;(with_reducible repeat (first | refine kA_ ?_ _ | refine kB_ ?_ | refine kC_ ?_ _));refine blk_put (cs:=#[.slice none 0 0,.slice none 0 0]) ?_ 0 _ rfl;(with_reducible repeat (first | refine kA_ ?_ _ | refine kB_ ?_ | refine kC_ ?_ _));refine blk_far ?_ NB660_661.out _;(with_reducible repeat (first | refine kA_ ?_ _ | refine kB_ ?_ | refine kC_ ?_ _));refine blk_far ?_ NB660_661.out _;(with_reducible repeat (first | refine kA_ ?_ _ | refine kB_ ?_ | refine kC_ ?_ _));exact BK660.out) Tryz.underlying27 rfl (by kernel_rfl)) rfl ?_
   exact ⟨_,_,qb_,(rw_ (Kd.R_mono (Kd.R_far (p:=⟨gb660,1,none⟩) (Kd.R_far (p:=⟨gb660,0,none⟩) (Kd.R_far (p:=⟨gb661,1,none⟩) (Kd.R_far (p:=⟨gb661,0,none⟩) (Kd.R_types (Kd.R_types HO671.out BK661.out (by decide)) BK660.out (by decide)) (fun _ hk=>hk.1.2) (.slice Ao29 t669.length co29)) (fun _ hk=>hk.1.2) (.slice Ao31 t672.length co31)) (fun _ hk=>hk.2) (.slice Ao29 t669.length co29)) (fun _ hk=>hk.2) (.slice Ao31 t672.length co31)) (fun _ hk=>hk.1.1))),(rw_ (Kd.R_mono (Kd.R_far (p:=⟨gb660,1,none⟩) (Kd.R_far (p:=⟨gb660,0,none⟩) (Kd.R_far (p:=⟨gb661,1,none⟩) (Kd.R_far (p:=⟨gb661,0,none⟩) (Kd.R_types (Kd.R_types HO674.out BK661.out (by decide)) BK660.out (by decide)) (fun _ hk=>hk.1.2) (.slice Ao29 t669.length co29)) (fun _ hk=>hk.1.2) (.slice Ao31 t672.length co31)) (fun _ hk=>hk.2) (.slice Ao29 t669.length co29)) (fun _ hk=>hk.2) (.slice Ao31 t672.length co31)) (fun _ hk=>hk.1.1))),hB_⟩
  ·rw [if_neg c18] at H
   have c18b0:(a1 == 116) = false:=beq_eq_false_iff_ne.mpr c18
   have c18b1:(a1 != 116) = true:=bne_iff_ne.mpr c18
   by_cases c33:a1 = 83
   ·rw [if_pos c33] at H
    have c33b0:(a1 == 83) = true:=beq_iff_eq.mpr c33
    have c33b1:(a1 != 83) = false:=bne_eq_false_iff_eq.mpr c33
    clear c33
    obtain ⟨⟨t676,t679,t682⟩,A34,H⟩:=bi_ H
    try dsimp only at H
    simp only [Option.some.injEq,Prod.mk.injEq] at H
    obtain ⟨rfl,rfl⟩:=H
    go_enter Tryz.func40,Tryz.ntmps40
    go_wp2_with (first | ((with_reducible refine gB_ (N:=2) rfl ?_);refine bx_ 2 #[.slice A0_0 l0_0.length c0_0,.slice A0_1 l0_1.length c0_1] 27 ?_;intro gb659 hg w35 hbox hb;have BK659:=A_ hbox;have GW659:=gw_ w hg;have GE659:=GW659;replace HB:=b1_ hb;clear hb hbox hg) | ((with_reducible refine gB_ (N:=4) rfl ?_);refine bx_ 4 #[.slice none 0 0,.slice none 0 0] 27 ?_;intro gb660 hg w36 hbox hb;have BK660:=A_ hbox;have GW660:=gw_ w hg;have GE660:=GW660;replace HB:=b1_ hb;have NB659_660:=gN_ BK659 hg;have NB660_659:=gP_ BK659 hg;replace BK659:=bb_ BK659 hb;clear hb hbox hg) | ((with_reducible refine gB_ (N:=5) rfl ?_);refine bx_ 5 #[.slice none 0 0,.slice none 0 0] 27 ?_;intro gb661 hg w37 hbox hb;have BK661:=A_ hbox;have GW661:=gw_ w hg;have GE661:=GW661;replace HB:=b1_ hb;have NB659_661:=gN_ BK659 hg;have NB661_659:=gP_ BK659 hg;replace BK659:=bb_ BK659 hb;have NB660_661:=gN_ BK660 hg;have NB661_660:=gP_ BK660 hg;replace BK660:=bb_ BK660 hb;clear hb hbox hg;have hnb38:=NB661_659.out;have hnc38:=NB659_661.out;have hnb39:=NB661_660.out;have hnc39:=NB660_661.out;obtain ⟨hcz40_0,hcz40_1,hfz40_0,hfz40_1⟩:=c2_ BK661;have hnb41:=NB659_660.out;have hnc41:=NB660_659.out;obtain ⟨hcz42_0,hcz42_1,hfz42_0,hfz42_1⟩:=c2_ BK659) | ((with_reducible refine gA_ (f:=61) rfl ?_);refine gL_ (some 26) Tryz.func61 #[.agg #[.slice A0_0 l0_0.length c0_0,.slice A0_1 l0_1.length c0_1]] rfl qa_ ?_;(with_reducible refine (Z25.calls k _ _ l0_0 _ _ l0_1 t676 t679 t682 _ (cD_ HR0_0.out hB_) HC0_0.out (cD_ HR0_1.out hB_) HC0_1.out A34.out).mono ?_);rintro e w43 ⟨v677,v680,rfl,ho0,ho1,hb⟩;refine ⟨_,rfl,?_⟩;have HO678:=rl_ w ho0;have HO681:=rl_ w ho1;replace BK659:=A_ (kE_ (g:=gb659) (o:=.cells #[.slice A0_0 l0_0.length c0_0,.slice A0_1 l0_1.length c0_1] 27 (0,0)) (by (with_reducible repeat (first | refine kA_ ?_ _ | refine kB_ ?_ | refine kC_ ?_ _));refine blk_far ?_ NB659_661.out _;(with_reducible repeat (first | refine kA_ ?_ _ | refine kB_ ?_ | refine kC_ ?_ _));refine blk_far ?_ NB659_661.out _;(with_reducible repeat (first | refine kA_ ?_ _ | refine kB_ ?_ | refine kC_ ?_ _));exact BK659.out) hb);replace BK660:=A_ (kE_ (g:=gb660) (o:=.cells #[.slice none 0 0,.slice none 0 0] 27 (0,0)) (by (with_reducible repeat (first | refine kA_ ?_ _ | refine kB_ ?_ | refine kC_ ?_ _));refine blk_far ?_ NB660_661.out _;(with_reducible repeat (first | refine kA_ ?_ _ | refine kB_ ?_ | refine kC_ ?_ _));refine blk_far ?_ NB660_661.out _;(with_reducible repeat (first | refine kA_ ?_ _ | refine kB_ ?_ | refine kC_ ?_ _));exact BK660.out) hb);replace BK661:=A_ (kE_ (g:=gb661) (o:=.cells #[.slice none 0 0,.slice none 0 0] 27 (0,0)) qp_ hb);replace HB:=b1_ hb;clear hb ho0 ho1;obtain ⟨Ao44,co44,eo44⟩:=Kd.R_slice HO678.out;subst eo44;obtain ⟨hcz45_0,hcz45_1,hfz45_0,hfz45_1⟩:=c2_ BK661;obtain ⟨Ao46,co46,eo46⟩:=Kd.R_slice HO681.out;subst eo46;obtain ⟨hcz47_0,hcz47_1,hfz47_0,hfz47_1⟩:=c2_ BK660))
    refine bodyPost_ret (results_cell_row rfl _ _ gb660 27 #[.slice Ao44 t676.length co44,.slice Ao46 t679.length co46] (0,0) _ rfl (by (with_reducible repeat (first | refine kA_ ?_ _ | refine kB_ ?_ | refine kC_ ?_ _));refine blk_put (cs:=#[.slice Ao44 t676.length co44,.slice none 0 0]) ?_ 1 _ rfl;(with_reducible repeat (first | refine kA_ ?_ _ | refine kB_ ?_ | refine kC_ ?_ _));refine blk_put (cs:=#[.slice none 0 0,.slice none 0 0]) ?_ 0 _ rfl;(with_reducible repeat (first | refine kA_ ?_ _ | refine kB_ ?_ | refine kC_ ?_ _));refine blk_far ?_ NB660_661.out _;(with_reducible repeat (first | refine kA_ ?_ _ | refine kB_ ?_ | refine kC_ ?_ _));refine blk_far ?_ NB660_661.out _;(with_reducible repeat (first | refine kA_ ?_ _ | refine kB_ ?_ | refine kC_ ?_ _));exact BK660.out) Tryz.underlying27 rfl (by kernel_rfl)) rfl ?_
    exact ⟨_,_,qb_,(rw_ (Kd.R_mono (Kd.R_far (p:=⟨gb660,1,none⟩) (Kd.R_far (p:=⟨gb660,0,none⟩) (Kd.R_far (p:=⟨gb661,1,none⟩) (Kd.R_far (p:=⟨gb661,0,none⟩) (Kd.R_types (Kd.R_types HO678.out BK661.out (by decide)) BK660.out (by decide)) (fun _ hk=>hk.1.2) (.slice Ao44 t676.length co44)) (fun _ hk=>hk.1.2) (.slice Ao46 t679.length co46)) (fun _ hk=>hk.2) (.slice Ao44 t676.length co44)) (fun _ hk=>hk.2) (.slice Ao46 t679.length co46)) (fun _ hk=>hk.1.1))),(rw_ (Kd.R_mono (Kd.R_far (p:=⟨gb660,1,none⟩) (Kd.R_far (p:=⟨gb660,0,none⟩) (Kd.R_far (p:=⟨gb661,1,none⟩) (Kd.R_far (p:=⟨gb661,0,none⟩) (Kd.R_types (Kd.R_types HO681.out BK661.out (by decide)) BK660.out (by decide)) (fun _ hk=>hk.1.2) (.slice Ao44 t676.length co44)) (fun _ hk=>hk.1.2) (.slice Ao46 t679.length co46)) (fun _ hk=>hk.2) (.slice Ao44 t676.length co44)) (fun _ hk=>hk.2) (.slice Ao46 t679.length co46)) (fun _ hk=>hk.1.1))),hB_⟩
   ·rw [if_neg c33] at H
    have c33b0:(a1 == 83) = false:=beq_eq_false_iff_ne.mpr c33
    have c33b1:(a1 != 83) = true:=bne_iff_ne.mpr c33
    by_cases c48:a1 = 115
    ·rw [if_pos c48] at H
     have c48b0:(a1 == 115) = true:=beq_iff_eq.mpr c48
     have c48b1:(a1 != 115) = false:=bne_eq_false_iff_eq.mpr c48
     clear c48
     obtain ⟨⟨t683,t686,t689⟩,A49,H⟩:=bi_ H
     try dsimp only at H
     simp only [Option.some.injEq,Prod.mk.injEq] at H
     obtain ⟨rfl,rfl⟩:=H
     go_enter Tryz.func40,Tryz.ntmps40
     go_wp2_with (first | ((with_reducible refine gB_ (N:=2) rfl ?_);refine bx_ 2 #[.slice A0_0 l0_0.length c0_0,.slice A0_1 l0_1.length c0_1] 27 ?_;intro gb659 hg w50 hbox hb;have BK659:=A_ hbox;have GW659:=gw_ w hg;have GE659:=GW659;replace HB:=b1_ hb;clear hb hbox hg) | ((with_reducible refine gB_ (N:=4) rfl ?_);refine bx_ 4 #[.slice none 0 0,.slice none 0 0] 27 ?_;intro gb660 hg w51 hbox hb;have BK660:=A_ hbox;have GW660:=gw_ w hg;have GE660:=GW660;replace HB:=b1_ hb;have NB659_660:=gN_ BK659 hg;have NB660_659:=gP_ BK659 hg;replace BK659:=bb_ BK659 hb;clear hb hbox hg) | ((with_reducible refine gB_ (N:=5) rfl ?_);refine bx_ 5 #[.slice none 0 0,.slice none 0 0] 27 ?_;intro gb661 hg w52 hbox hb;have BK661:=A_ hbox;have GW661:=gw_ w hg;have GE661:=GW661;replace HB:=b1_ hb;have NB659_661:=gN_ BK659 hg;have NB661_659:=gP_ BK659 hg;replace BK659:=bb_ BK659 hb;have NB660_661:=gN_ BK660 hg;have NB661_660:=gP_ BK660 hg;replace BK660:=bb_ BK660 hb;clear hb hbox hg;have hnb53:=NB661_659.out;have hnc53:=NB659_661.out;have hnb54:=NB661_660.out;have hnc54:=NB660_661.out;obtain ⟨hcz55_0,hcz55_1,hfz55_0,hfz55_1⟩:=c2_ BK661;have hnb56:=NB659_660.out;have hnc56:=NB660_659.out;obtain ⟨hcz57_0,hcz57_1,hfz57_0,hfz57_1⟩:=c2_ BK659) | ((with_reducible refine gA_ (f:=62) rfl ?_);refine gL_ (some 33) Tryz.func62 #[.agg #[.slice A0_0 l0_0.length c0_0,.slice A0_1 l0_1.length c0_1]] rfl qa_ ?_;(with_reducible refine (Z10.calls k _ _ l0_0 _ _ l0_1 t683 t686 t689 _ (cD_ HR0_0.out hB_) HC0_0.out (cD_ HR0_1.out hB_) HC0_1.out A49.out).mono ?_);rintro e w58 ⟨v684,v687,rfl,ho0,ho1,hb⟩;refine ⟨_,rfl,?_⟩;have HO685:=rl_ w ho0;have HO688:=rl_ w ho1;replace BK659:=A_ (kE_ (g:=gb659) (o:=.cells #[.slice A0_0 l0_0.length c0_0,.slice A0_1 l0_1.length c0_1] 27 (0,0)) (by (with_reducible repeat (first | refine kA_ ?_ _ | refine kB_ ?_ | refine kC_ ?_ _));refine blk_far ?_ NB659_661.out _;(with_reducible repeat (first | refine kA_ ?_ _ | refine kB_ ?_ | refine kC_ ?_ _));refine blk_far ?_ NB659_661.out _;(with_reducible repeat (first | refine kA_ ?_ _ | refine kB_ ?_ | refine kC_ ?_ _));exact BK659.out) hb);replace BK660:=A_ (kE_ (g:=gb660) (o:=.cells #[.slice none 0 0,.slice none 0 0] 27 (0,0)) (by (with_reducible repeat (first | refine kA_ ?_ _ | refine kB_ ?_ | refine kC_ ?_ _));refine blk_far ?_ NB660_661.out _;(with_reducible repeat (first | refine kA_ ?_ _ | refine kB_ ?_ | refine kC_ ?_ _));refine blk_far ?_ NB660_661.out _;(with_reducible repeat (first | refine kA_ ?_ _ | refine kB_ ?_ | refine kC_ ?_ _));exact BK660.out) hb);replace BK661:=A_ (kE_ (g:=gb661) (o:=.cells #[.slice none 0 0,.slice none 0 0] 27 (0,0)) qp_ hb);replace HB:=b1_ hb;clear hb ho0 ho1;obtain ⟨Ao59,co59,eo59⟩:=Kd.R_slice HO685.out;subst eo59;obtain ⟨hcz60_0,hcz60_1,hfz60_0,hfz60_1⟩:=c2_ BK661;obtain ⟨Ao61,co61,eo61⟩:=Kd.R_slice HO688.out;subst eo61;obtain ⟨hcz62_0,hcz62_1,hfz62_0,hfz62_1⟩:=c2_ BK660))
     refine bodyPost_ret (results_cell_row rfl _ _ gb660 27 #[.slice Ao59 t683.length co59,.slice Ao61 t686.length co61] (0,0) _ rfl (by (with_reducible repeat (first | refine kA_ ?_ _ | refine kB_ ?_ | refine kC_ ?_ _));refine blk_put (cs:=#[.slice Ao59 t683.length co59,.slice none 0 0]) ?_ 1 _ rfl;(with_reducible repeat (first | refine kA_ ?_ _ | refine kB_ ?_ | refine kC_ ?_ _));refine blk_put (cs:=#[.slice none 0 0,.slice none 0 0]) ?_ 0 _ rfl;(with_reducible repeat (first | refine kA_ ?_ _ | refine kB_ ?_ | refine kC_ ?_ _));refine blk_far ?_ NB660_661.out _;(with_reducible repeat (first | refine kA_ ?_ _ | refine kB_ ?_ | refine kC_ ?_ _));refine blk_far ?_ NB660_661.out _;(with_reducible repeat (first | refine kA_ ?_ _ | refine kB_ ?_ | refine kC_ ?_ _));exact BK660.out) Tryz.underlying27 rfl (by kernel_rfl)) rfl ?_
     exact ⟨_,_,qb_,(rw_ (Kd.R_mono (Kd.R_far (p:=⟨gb660,1,none⟩) (Kd.R_far (p:=⟨gb660,0,none⟩) (Kd.R_far (p:=⟨gb661,1,none⟩) (Kd.R_far (p:=⟨gb661,0,none⟩) (Kd.R_types (Kd.R_types HO685.out BK661.out (by decide)) BK660.out (by decide)) (fun _ hk=>hk.1.2) (.slice Ao59 t683.length co59)) (fun _ hk=>hk.1.2) (.slice Ao61 t686.length co61)) (fun _ hk=>hk.2) (.slice Ao59 t683.length co59)) (fun _ hk=>hk.2) (.slice Ao61 t686.length co61)) (fun _ hk=>hk.1.1))),(rw_ (Kd.R_mono (Kd.R_far (p:=⟨gb660,1,none⟩) (Kd.R_far (p:=⟨gb660,0,none⟩) (Kd.R_far (p:=⟨gb661,1,none⟩) (Kd.R_far (p:=⟨gb661,0,none⟩) (Kd.R_types (Kd.R_types HO688.out BK661.out (by decide)) BK660.out (by decide)) (fun _ hk=>hk.1.2) (.slice Ao59 t683.length co59)) (fun _ hk=>hk.1.2) (.slice Ao61 t686.length co61)) (fun _ hk=>hk.2) (.slice Ao59 t683.length co59)) (fun _ hk=>hk.2) (.slice Ao61 t686.length co61)) (fun _ hk=>hk.1.1))),hB_⟩
    ·rw [if_neg c48] at H
     have c48b0:(a1 == 115) = false:=beq_eq_false_iff_ne.mpr c48
     have c48b1:(a1 != 115) = true:=bne_iff_ne.mpr c48
     simp only [Option.some.injEq,Prod.mk.injEq] at H
     obtain ⟨rfl,rfl⟩:=H
     go_enter Tryz.func40,Tryz.ntmps40
     go_wp2_with (first | ((with_reducible refine gB_ (N:=2) rfl ?_);refine bx_ 2 #[.slice A0_0 l0_0.length c0_0,.slice A0_1 l0_1.length c0_1] 27 ?_;intro gb659 hg w63 hbox hb;have BK659:=A_ hbox;have GW659:=gw_ w hg;have GE659:=GW659;replace HB:=b1_ hb;clear hb hbox hg) | ((with_reducible refine gB_ (N:=4) rfl ?_);refine bx_ 4 #[.slice none 0 0,.slice none 0 0] 27 ?_;intro gb660 hg w64 hbox hb;have BK660:=A_ hbox;have GW660:=gw_ w hg;have GE660:=GW660;replace HB:=b1_ hb;have NB659_660:=gN_ BK659 hg;have NB660_659:=gP_ BK659 hg;replace BK659:=bb_ BK659 hb;clear hb hbox hg) | ((with_reducible refine gB_ (N:=5) rfl ?_);refine bx_ 5 #[.slice none 0 0,.slice none 0 0] 27 ?_;intro gb661 hg w65 hbox hb;have BK661:=A_ hbox;have GW661:=gw_ w hg;have GE661:=GW661;replace HB:=b1_ hb;have NB659_661:=gN_ BK659 hg;have NB661_659:=gP_ BK659 hg;replace BK659:=bb_ BK659 hb;have NB660_661:=gN_ BK660 hg;have NB661_660:=gP_ BK660 hg;replace BK660:=bb_ BK660 hb;clear hb hbox hg;have hnb66:=NB661_659.out;have hnc66:=NB659_661.out;have hnb67:=NB661_660.out;have hnc67:=NB660_661.out;obtain ⟨hcz68_0,hcz68_1,hfz68_0,hfz68_1⟩:=c2_ BK661;have hnb69:=NB660_659.out;have hnc69:=NB659_660.out;obtain ⟨hcz70_0,hcz70_1,hfz70_0,hfz70_1⟩:=c2_ BK660))
     refine bodyPost_ret (results_cell_row rfl _ _ gb660 27 #[.slice none 0 0,.slice none 0 0] (0,0) _ rfl (by (with_reducible repeat (first | refine kA_ ?_ _ | refine kB_ ?_ | refine kC_ ?_ _));refine blk_put (cs:=#[.slice none 0 0,.slice none 0 0]) ?_ 1 _ rfl;(with_reducible repeat (first | refine kA_ ?_ _ | refine kB_ ?_ | refine kC_ ?_ _));refine blk_put (cs:=#[.slice none 0 0,.slice none 0 0]) ?_ 0 _ rfl;(with_reducible repeat (first | refine kA_ ?_ _ | refine kB_ ?_ | refine kC_ ?_ _));refine blk_far ?_ NB660_661.out _;(with_reducible repeat (first | refine kA_ ?_ _ | refine kB_ ?_ | refine kC_ ?_ _));refine blk_far ?_ NB660_661.out _;(with_reducible repeat (first | refine kA_ ?_ _ | refine kB_ ?_ | refine kC_ ?_ _));exact BK660.out) Tryz.underlying27 rfl (by kernel_rfl)) rfl ?_
     exact ⟨_,_,qb_,by first | exact Kd.R_nil _ _ _ _ _ | exact Kd.N_nil _ _ _ _ _ | exact Kd.V_nil _ _ _ _ _ | exact Kd.Q_nil _ _ _ _ _ | exact Kd.S_nil _ _ _ _ _,by first | exact Kd.R_nil _ _ _ _ _ | exact Kd.N_nil _ _ _ _ _ | exact Kd.V_nil _ _ _ _ _ | exact Kd.Q_nil _ _ _ _ _ | exact Kd.S_nil _ _ _ _ _,hB_⟩
end Go.Proofs.YtcggfjpnfodbaaaGreat.A
end
section
/- The orbit: what finding it comes to, and how it lies in memory. No conditions. -/
namespace Go.Proofs.YtcggfjpnfodbaaaGreat.M
set_option linter.unusedVariables false
set_option linter.unusedSimpArgs false
open Go Go.RowKit Go.Proofs.YtcggfjpnfodbaaaGreatW.PrintWords Go.Proofs.YtcggfjpnfodbaaaGreatW.PrintLast Go.Proofs.YtcggfjpnfodbaaaGreatW.PrintMore Go.Proofs.YtcggfjpnfodbaaaGreat.A
structure Orb where
 L:List S27
 W:List ByteArray
 F:List Int
 B:List Int
 T:List Int
 S:List Int
def stpO (k:Nat) (i c:Int) (s:Orb):Option (Option Orb) :=
 if 0≤i then (if i < (s.L.length:Int) then ((Z11.f k (rd_T27 s.L i).f0 (rd_T27 s.L i).f1 c).bind fun x=>((Z62.f k x.1 x.2).bind fun y=>((indexO k s.L y.1 y.2.1).bind fun j =>
  (if j < 0 then (if (s.L.length:Int) = 120 then some none else (if s.L.length < 1000000∧s.W.length < 1000000∧s.F.length < 1000000∧s.B.length < 1000000∧s.T.length < 1000000∧s.S.length < 1000000 then (if i < (s.W.length:Int) then (if (rdOf ByteArray.empty s.W i).size + 1≤9223372036854775807 then
   some (some ⟨s.L ++ [⟨y.1,y.2.1⟩],s.W ++ [rdOf ByteArray.empty s.W i ++ strOfNums [c]],s.F ++ [i],s.B ++ [c],if c = 84 then s.T ++ [(s.L.length:Int)] else s.T,if c = 84 then s.S else s.S ++ [(s.L.length:Int)]⟩) else none) else none) else none))
  else (if s.T.length < 1000000∧s.S.length < 1000000 then some (some ⟨s.L,s.W,s.F,s.B,if c = 84 then s.T ++ [j] else s.T,if c = 84 then s.S else s.S ++ [j]⟩) else none))))) else none) else none
def innerO (k:Nat) (i:Int):List Int→Orb→Option (Option Orb)
 | [],s=>some (some s)
 | c :: cs,s=>(stpO k i c s).bind fun z=>match z with | none=>some none | some s'=>innerO k i cs s'
def loopO:Nat→Orb→Int→Option (Option Orb)
 | 0,_,_=>none
 | k + 1,s,i=>if i < (s.L.length:Int) then ((innerO k i [84,83] s).bind fun z=>match z with | none=>some none | some s'=>loopO k s' (wrap64 (i + 1))) else some (some s)
def orbitO (k:Nat) (r u:List Int):Option (Option Orb):=(Z62.f k r u).bind fun y=>if y.2.2 = true then loopO k ⟨[⟨y.1,y.2.1⟩],[⟨#[]⟩],[-1],[0],[],[]⟩ 0 else some none
structure OrbH (base:Nat) (col:Nat→Nat) (W:World) (gO gM n:Nat) (vL vW vF vB vT vS:Value) (s:Orb):Prop where
 hO:W.heap[gO]? = some (.cells #[vL,vW,vF,vB,.map (some gM)] 51 (0,0))
 hM:W.heap[gM]? = some (mapO n vT vS)
 cO:col gO = 6
 cM:col gM = 7
 bO:base≤gO
 bM:base≤gM
 nT:n = 0→vT = .slice none 0 0
 nS:n≤1→vS = .slice none 0 0
 hL:Kd.S k27 27 W base (fun k=>col k = 0) vL s.L
 hW:Kd.R Kd.string 9 W base (fun k=>col k = 1) vW s.W
 hF:Kd.R (Kd.int .i64) 3 W base (fun k=>col k = 2) vF s.F
 hB:Kd.R (Kd.int .u8) 5 W base (fun k=>col k = 3) vB s.B
 hT:Kd.R (Kd.int .i64) 3 W base (fun k=>col k = 4) vT s.T
 hS:Kd.R (Kd.int .i64) 3 W base (fun k=>col k = 5) vS s.S
def rcl (n:Nat) (col:Nat→Nat) (c:Nat):Nat→Nat:=fun k=>if k < n then col k else c
theorem rcl_new {n:Nat} {col:Nat→Nat} {c k:Nat} (h:n≤k):rcl n col c k = c:=if_neg (by omega)
theorem rcl_old {n:Nat} {col:Nat→Nat} {c k:Nat} (h:k < n):rcl n col c k = col k:=if_pos h
section
variable {α:Type} {d:Kd α} {e base c c2:Nat} {col col':Nat→Nat} {W w1:World} {v:Value} {xs:List α} {row:Option Nat}
theorem R_col (h:d.R e W base (fun k=>col k = c) v xs) (hc:∀ k,k < W.heap.size→col' k = col k):d.R e W base (fun k=>col' k = c) v xs:=Kd.R_mono (Kd.R_bound h) (fun k hk=>(hc k hk.2.2.1).trans hk.1)
theorem S_col (h:Kd.S d e W base (fun k=>col k = c) v xs) (hc:∀ k,k < W.heap.size→col' k = col k):Kd.S d e W base (fun k=>col' k = c) v xs:=Kd.S_mono (Kd.S_bound h) (fun k hk=>(hc k hk.2.2.1).trans hk.1)
theorem R_gr (h:d.R e W base (fun k=>col k = c2) v xs) (hg:W.grownBy w1 row) (hr:∀ k,row = some k→col k = c) (hne:c≠c2):d.R e w1 base (fun k=>rcl W.heap.size col c k = c2) v xs :=
 Kd.R_grown (R_col h (fun k hk=>rcl_old hk)) hg (fun k hk he=>by
  have h1:=hr k he.symm
  unfold rcl at hk
  split at hk
  ·exact hne (h1.symm.trans hk)
  ·exact hne hk)
theorem S_gr (h:Kd.S d e W base (fun k=>col k = c2) v xs) (hg:W.grownBy w1 row) (hr:∀ k,row = some k→col k = c) (hne:c≠c2):Kd.S d e w1 base (fun k=>rcl W.heap.size col c k = c2) v xs :=
 Kd.S_grown (S_col h (fun k hk=>rcl_old hk)) hg (fun k hk he=>by
  have h1:=hr k he.symm
  unfold rcl at hk
  split at hk
  ·exact hne (h1.symm.trans hk)
  ·exact hne hk)
theorem B_gr {g:Nat} {o:Obj} (h:W.heap[g]? = some o) (hcg:col g = c2) (hg:W.grownBy w1 row) (hr:∀ k,row = some k→col k = c) (hne:c≠c2):w1.heap[g]? = some o∧rcl W.heap.size col c g = c2 :=
 ⟨(hg.block g (Array.getElem?_eq_some_iff.1 h).1 (fun he=>hne ((hr g he.symm).symm.trans hcg))).trans h,(rcl_old (Array.getElem?_eq_some_iff.1 h).1).trans hcg⟩
end
theorem put_at {w:World} {g t:Nat} {cs:Array Value} (hb:w.heap[g]? = some (.cells cs t (0,0))) (j:Nat) (v:Value):(w.setCell ⟨g,j,none⟩ v).heap[g]? = some (.cells (cs.setIfInBounds j v) t (0,0)):=blk_set hb j v
theorem put_far {w:World} {g g':Nat} {o:Obj} (hb:w.heap[g']? = some o) (h:g'≠g) (j:Nat) (v:Value):(w.setCell ⟨g,j,none⟩ v).heap[g']? = some o:=(Below.heap_setCell w ⟨g,j,none⟩ v g' h).trans hb
section
variable {base:Nat} {col col':Nat→Nat} {W w1:World} {gO gM n:Nat} {vL vW vF vB vT vS:Value} {s:Orb}
theorem OrbH.below (h:OrbH base col W gO gM n vL vW vF vB vT vS s) (hb:Below W.heap.size W w1):OrbH base col w1 gO gM n vL vW vF vB vT vS s :=
 ⟨blk_below h.hO hb,blk_below h.hM hb,h.cO,h.cM,h.bO,h.bM,h.nT,h.nS,Kd.S_below h.hL hb,Kd.R_below h.hW hb,Kd.R_below h.hF hb,Kd.R_below h.hB hb,Kd.R_below h.hT hb,Kd.R_below h.hS hb⟩
theorem OrbH.recol (h:OrbH base col W gO gM n vL vW vF vB vT vS s) (hc:∀ k,k < W.heap.size→col' k = col k):OrbH base col' W gO gM n vL vW vF vB vT vS s :=
 ⟨h.hO,h.hM,(hc _ (Array.getElem?_eq_some_iff.1 h.hO).1).trans h.cO,(hc _ (Array.getElem?_eq_some_iff.1 h.hM).1).trans h.cM,h.bO,h.bM,h.nT,h.nS,S_col h.hL hc,R_col h.hW hc,R_col h.hF hc,R_col h.hB hc,R_col h.hT hc,R_col h.hS hc⟩
theorem OrbH.ne (h:OrbH base col W gO gM n vL vW vF vB vT vS s):gO≠gM:=fun e=>by have h1:=h.cO;have h2:=h.cM;rw [e] at h1;omega
theorem OrbH.look (h:OrbH base col W gO gM n vL vW vF vB vT vS s):mapV n 84 vT vS = vT∧mapV n 83 vT vS = vS:=by
 unfold mapV
 constructor
 ·rw [if_pos rfl]
  split
  ·rfl
  ·exact (h.nT (by omega)).symm
 ·rw [if_neg (by decide)]
  split
  ·rfl
  ·exact (h.nS (by omega)).symm
theorem OrbH.putL {v1:Value} {L1:List S27} (h:OrbH base col W gO gM n vL vW vF vB vT vS s) (hg:W.grownBy w1 vL.ownBlock) (h1:Kd.S k27 27 w1 base (fun k=>rcl W.heap.size col 0 k = 0) v1 L1) :
  OrbH base (rcl W.heap.size col 0) (w1.setCell ⟨gO,0,none⟩ v1) gO gM n v1 vW vF vB vT vS { s with L:=L1 }:=by
 have hr:∀ k,vL.ownBlock = some k→col k = 0:=(Kd.S_R h.hL).1
 have bO:=B_gr h.hO h.cO hg hr (by decide)
 have bM:=B_gr h.hM h.cM hg hr (by decide)
 have far:∀ c,c≠6→∀ k,rcl W.heap.size col 0 k = c→k≠(⟨gO,0,none⟩:Addr).block:=fun c hc k hk e=>by
  have:k = gO:=e
  rw [this,bO.2] at hk
  exact hc hk.symm
 exact ⟨put_at bO.1 0 v1,put_far bM.1 h.ne.symm 0 v1,bO.2,bM.2,h.bO,h.bM,h.nT,h.nS,Kd.S_far h1 (far 0 (by decide)) v1,Kd.R_far (R_gr h.hW hg hr (by decide)) (far 1 (by decide)) v1,Kd.R_far (R_gr h.hF hg hr (by decide)) (far 2 (by decide)) v1,Kd.R_far (R_gr h.hB hg hr (by decide)) (far 3 (by decide)) v1,Kd.R_far (R_gr h.hT hg hr (by decide)) (far 4 (by decide)) v1,Kd.R_far (R_gr h.hS hg hr (by decide)) (far 5 (by decide)) v1⟩
theorem OrbH.putW {v1:Value} {L1:List ByteArray} (h:OrbH base col W gO gM n vL vW vF vB vT vS s) (hg:W.grownBy w1 vW.ownBlock) (h1:Kd.R Kd.string 9 w1 base (fun k=>rcl W.heap.size col 1 k = 1) v1 L1) :
  OrbH base (rcl W.heap.size col 1) (w1.setCell ⟨gO,1,none⟩ v1) gO gM n vL v1 vF vB vT vS { s with W:=L1 }:=by
 have hr:∀ k,vW.ownBlock = some k→col k = 1:=h.hW.1
 have bO:=B_gr h.hO h.cO hg hr (by decide)
 have bM:=B_gr h.hM h.cM hg hr (by decide)
 have far:∀ c,c≠6→∀ k,rcl W.heap.size col 1 k = c→k≠(⟨gO,1,none⟩:Addr).block:=fun c hc k hk e=>by
  have:k = gO:=e
  rw [this,bO.2] at hk
  exact hc hk.symm
 exact ⟨put_at bO.1 1 v1,put_far bM.1 h.ne.symm 1 v1,bO.2,bM.2,h.bO,h.bM,h.nT,h.nS,Kd.S_far (S_gr h.hL hg hr (by decide)) (far 0 (by decide)) v1,Kd.R_far h1 (far 1 (by decide)) v1,Kd.R_far (R_gr h.hF hg hr (by decide)) (far 2 (by decide)) v1,Kd.R_far (R_gr h.hB hg hr (by decide)) (far 3 (by decide)) v1,Kd.R_far (R_gr h.hT hg hr (by decide)) (far 4 (by decide)) v1,Kd.R_far (R_gr h.hS hg hr (by decide)) (far 5 (by decide)) v1⟩
theorem OrbH.putF {v1:Value} {L1:List Int} (h:OrbH base col W gO gM n vL vW vF vB vT vS s) (hg:W.grownBy w1 vF.ownBlock) (h1:Kd.R (Kd.int .i64) 3 w1 base (fun k=>rcl W.heap.size col 2 k = 2) v1 L1) :
  OrbH base (rcl W.heap.size col 2) (w1.setCell ⟨gO,2,none⟩ v1) gO gM n vL vW v1 vB vT vS { s with F:=L1 }:=by
 have hr:∀ k,vF.ownBlock = some k→col k = 2:=h.hF.1
 have bO:=B_gr h.hO h.cO hg hr (by decide)
 have bM:=B_gr h.hM h.cM hg hr (by decide)
 have far:∀ c,c≠6→∀ k,rcl W.heap.size col 2 k = c→k≠(⟨gO,2,none⟩:Addr).block:=fun c hc k hk e=>by
  have:k = gO:=e
  rw [this,bO.2] at hk
  exact hc hk.symm
 exact ⟨put_at bO.1 2 v1,put_far bM.1 h.ne.symm 2 v1,bO.2,bM.2,h.bO,h.bM,h.nT,h.nS,Kd.S_far (S_gr h.hL hg hr (by decide)) (far 0 (by decide)) v1,Kd.R_far (R_gr h.hW hg hr (by decide)) (far 1 (by decide)) v1,Kd.R_far h1 (far 2 (by decide)) v1,Kd.R_far (R_gr h.hB hg hr (by decide)) (far 3 (by decide)) v1,Kd.R_far (R_gr h.hT hg hr (by decide)) (far 4 (by decide)) v1,Kd.R_far (R_gr h.hS hg hr (by decide)) (far 5 (by decide)) v1⟩
theorem OrbH.putB {v1:Value} {L1:List Int} (h:OrbH base col W gO gM n vL vW vF vB vT vS s) (hg:W.grownBy w1 vB.ownBlock) (h1:Kd.R (Kd.int .u8) 5 w1 base (fun k=>rcl W.heap.size col 3 k = 3) v1 L1) :
  OrbH base (rcl W.heap.size col 3) (w1.setCell ⟨gO,3,none⟩ v1) gO gM n vL vW vF v1 vT vS { s with B:=L1 }:=by
 have hr:∀ k,vB.ownBlock = some k→col k = 3:=h.hB.1
 have bO:=B_gr h.hO h.cO hg hr (by decide)
 have bM:=B_gr h.hM h.cM hg hr (by decide)
 have far:∀ c,c≠6→∀ k,rcl W.heap.size col 3 k = c→k≠(⟨gO,3,none⟩:Addr).block:=fun c hc k hk e=>by
  have:k = gO:=e
  rw [this,bO.2] at hk
  exact hc hk.symm
 exact ⟨put_at bO.1 3 v1,put_far bM.1 h.ne.symm 3 v1,bO.2,bM.2,h.bO,h.bM,h.nT,h.nS,Kd.S_far (S_gr h.hL hg hr (by decide)) (far 0 (by decide)) v1,Kd.R_far (R_gr h.hW hg hr (by decide)) (far 1 (by decide)) v1,Kd.R_far (R_gr h.hF hg hr (by decide)) (far 2 (by decide)) v1,Kd.R_far h1 (far 3 (by decide)) v1,Kd.R_far (R_gr h.hT hg hr (by decide)) (far 4 (by decide)) v1,Kd.R_far (R_gr h.hS hg hr (by decide)) (far 5 (by decide)) v1⟩
theorem OrbH.putT {v1:Value} {L1:List Int} (h:OrbH base col W gO gM n vL vW vF vB vT vS s) (hg:W.grownBy w1 vT.ownBlock) (h1:Kd.R (Kd.int .i64) 3 w1 base (fun k=>rcl W.heap.size col 4 k = 4) v1 L1) :
  w1.heap[gM]? = some (mapO n vT vS)∧OrbH base (rcl W.heap.size col 4) (setMap w1 gM (max n 1) v1 vS) gO gM (max n 1) vL vW vF vB v1 vS { s with T:=L1 }:=by
 have hr:∀ k,vT.ownBlock = some k→col k = 4:=h.hT.1
 have bO:=B_gr h.hO h.cO hg hr (by decide)
 have bM:=B_gr h.hM h.cM hg hr (by decide)
 have hgm:w1.grownBy (setMap w1 gM (max n 1) v1 vS) (some gM):=setMap_grown v1 vS
 have far:∀ c,c≠7→∀ k,rcl W.heap.size col 4 k = c→some k≠some gM:=fun c hc k hk e=>by
  injection e with e
  rw [e,bM.2] at hk
  exact hc hk.symm
 exact ⟨bM.1,(setMap_far v1 vS h.ne).trans bO.1,setMap_at bM.1 v1 vS,bO.2,bM.2,h.bO,h.bM,fun e=>by omega,fun e=>h.nS (by omega),Kd.S_grown (S_gr h.hL hg hr (by decide)) hgm (far 0 (by decide)),Kd.R_grown (R_gr h.hW hg hr (by decide)) hgm (far 1 (by decide)),Kd.R_grown (R_gr h.hF hg hr (by decide)) hgm (far 2 (by decide)),Kd.R_grown (R_gr h.hB hg hr (by decide)) hgm (far 3 (by decide)),Kd.R_grown h1 hgm (far 4 (by decide)),Kd.R_grown (R_gr h.hS hg hr (by decide)) hgm (far 5 (by decide))⟩
theorem OrbH.putS {v1:Value} {L1:List Int} (h:OrbH base col W gO gM n vL vW vF vB vT vS s) (hn:n = 1 ∨ n = 2) (hg:W.grownBy w1 vS.ownBlock) (h1:Kd.R (Kd.int .i64) 3 w1 base (fun k=>rcl W.heap.size col 5 k = 5) v1 L1) :
  w1.heap[gM]? = some (mapO n vT vS)∧OrbH base (rcl W.heap.size col 5) (setMap w1 gM 2 vT v1) gO gM 2 vL vW vF vB vT v1 { s with S:=L1 }:=by
 have hr:∀ k,vS.ownBlock = some k→col k = 5:=h.hS.1
 have bO:=B_gr h.hO h.cO hg hr (by decide)
 have bM:=B_gr h.hM h.cM hg hr (by decide)
 have hgm:w1.grownBy (setMap w1 gM 2 vT v1) (some gM):=setMap_grown vT v1
 have far:∀ c,c≠7→∀ k,rcl W.heap.size col 5 k = c→some k≠some gM:=fun c hc k hk e=>by
  injection e with e
  rw [e,bM.2] at hk
  exact hc hk.symm
 exact ⟨bM.1,(setMap_far vT v1 h.ne).trans bO.1,setMap_at bM.1 vT v1,bO.2,bM.2,h.bO,h.bM,fun e=>by omega,fun e=>by omega,Kd.S_grown (S_gr h.hL hg hr (by decide)) hgm (far 0 (by decide)),Kd.R_grown (R_gr h.hW hg hr (by decide)) hgm (far 1 (by decide)),Kd.R_grown (R_gr h.hF hg hr (by decide)) hgm (far 2 (by decide)),Kd.R_grown (R_gr h.hB hg hr (by decide)) hgm (far 3 (by decide)),Kd.R_grown (R_gr h.hT hg hr (by decide)) hgm (far 4 (by decide)),Kd.R_grown h1 hgm (far 5 (by decide))⟩
end
end Go.Proofs.YtcggfjpnfodbaaaGreat.M
end
section
/- What a call made lies apart from what was there. No conditions. -/
namespace Go.Proofs.YtcggfjpnfodbaaaGreat.M
open Go.RowKit Go.Proofs.YtcggfjpnfodbaaaGreatW.PrintWords Go.Proofs.YtcggfjpnfodbaaaGreatW.PrintLast Go.Proofs.YtcggfjpnfodbaaaGreatW.PrintMore
theorem fresh_R {α:Type} {d:Kd α} {e b b0:Nat} {w:World} {ok:Nat→Prop} {v:Value} {xs:List α} (h:d.R e w b ok v xs) (hb:b0≤b):d.R e w b0 (fun k=>b≤k∧k < w.heap.size) v xs :=
 Kd.R_lower (Kd.R_mono (Kd.R_bound h) (fun _ hk=>⟨hk.2.1,hk.2.2.1⟩)) hb
theorem box_store {w0 W:World} {g t:Nat} {cs:Array Value} (hb:W.heap[g]? = some (.cells cs t (0,0))) (x y:Value) (hB:Below w0.heap.size w0 W) (hg:w0.heap.size≤g) :
  ((W.setCell ⟨g,0,none⟩ x).setCell ⟨g,1,none⟩ y).heap[g]? = some (.cells ((cs.setIfInBounds 0 x).setIfInBounds 1 y) t (0,0))∧Kept W ((W.setCell ⟨g,0,none⟩ x).setCell ⟨g,1,none⟩ y) (fun k=>k = g)∧Below w0.heap.size w0 ((W.setCell ⟨g,0,none⟩ x).setCell ⟨g,1,none⟩ y) :=
 ⟨blk_set (blk_set hb 0 x) 1 y,Kept.setCell (p:=⟨g,1,none⟩) (Kept.setCell (p:=⟨g,0,none⟩) (Kept.refl W (fun k=>k = g)) (.inl rfl) x) (.inl rfl) y,below_set (below_set hB hg) hg⟩
end Go.Proofs.YtcggfjpnfodbaaaGreat.M
end
section
/- Finding the orbit: the program's walk. No conditions. -/
namespace Go.Proofs.YtcggfjpnfodbaaaGreat.M
set_option linter.unusedVariables false
set_option linter.unusedSimpArgs false
open Go Go.RowKit Go.Proofs.YtcggfjpnfodbaaaGreatW.PrintWords Go.Proofs.YtcggfjpnfodbaaaGreatW.PrintLast Go.Proofs.YtcggfjpnfodbaaaGreatW.PrintMore Go.Proofs.YtcggfjpnfodbaaaGreat.A
def OrbPost (w w':World) (e:Ending):Option Orb→Prop
 | none=>e = .returned (.tuple #[.pointer none,.bool false])∧Below w.heap.size w w'
 | some s=>∃ gO gM n col vL vW vF vB vT vS,e = .returned (.tuple #[.pointer (some ⟨gO,0,none⟩),.bool true])∧OrbH w.heap.size col w' gO gM n vL vW vF vB vT vS s∧Below w.heap.size w w'
set_option maxHeartbeats 8000000 in
set_option maxRecDepth 100000 in
theorem orbit_no (k:Nat) (A0:Option Addr) (c0:Nat) (l0:List Int) (A1:Option Addr) (c1:Nat) (l1:List Int) (y1 y2:List Int) (w:World) (h0:Kd.C (Kd.int .i64) w A0 l0.length l0) (g0:l0.length≤c0) (h1:Kd.C (Kd.int .i64) w A1 l1.length l1) (g1:l1.length≤c1) (h:Z62.f k l0 l1 = some (y1,y2,false)) :
  Calls Tryz.prog 27 #[.agg #[.slice A0 l0.length c0,.slice A1 l1.length c1]] w fun e w'=>OrbPost w w' e none:=by
 have hu:=Tryz.underlying27
 have H0:=Aside0.mk h0;have H1:=Aside0.mk h1;have G0:=Aside0.mk g0;have G1:=Aside0.mk g1;have HA:=Aside0.mk h
 clear h0 h1 g0 g1 h
 have HB:=Aside0.mk (Below.refl w.heap.size w)
 go_enter Tryz.func27,Tryz.ntmps27
 go_wp2_with (first | ((with_reducible refine gate_dst (N:=1) rfl ?_);refine bx_ 1 #[.slice A0 l0.length c0,.slice A1 l1.length c1] 27 ?_;intro gs hg w2 hbox hb;have BS:=Aside0.mk hbox;replace HB:=b1_ hb;clear hb hbox hg;obtain ⟨hcz0,hcz1,hfz0,hfz1⟩:=c2_ BS) | ((with_reducible refine gate_callee (f:=39) rfl ?_);refine gL_ (some 15) Tryz.func39 #[.agg #[.slice A0 l0.length c0,.slice A1 l1.length c1]] rfl qa_ ?_;(with_reducible refine (Z62.calls k _ _ l0 _ _ l1 y1 y2 false _ (cb_ H0) G0.out (cb_ H1) G1.out HA.out).mono ?_);rintro e w3 ⟨v0,v1,rfl,ho0,ho1,hb⟩;refine ⟨_,rfl,?_⟩;replace HB:=b1_ hb;clear hb;obtain ⟨Ay0,cy0,ey0⟩:=Kd.R_slice ho0;subst ey0;obtain ⟨Ay1,cy1,ey1⟩:=Kd.R_slice ho1;subst ey1;clear ho0 ho1) | ((with_reducible refine gate_dst (N:=4) rfl ?_);refine bx_ 4 #[.slice none 0 0,.slice none 0 0] 27 ?_;intro gf hg w4 hbox hb;have GF:=gw_ w hg;have BF:=Aside0.mk hbox;replace HB:=b1_ hb;clear hb hbox hg;obtain ⟨hcf0,hcf1,hff0,hff1⟩:=c2_ BF))
 go_ret2
 exact ⟨qb_,hB_⟩
section
variable {P:Program} {ops:Array Oper} {rest:List Oper} {o:Oper} {a:Act} {Q:Exit→Act→World→Prop}
theorem lit_event {W:World} (N:Tmp) (cs:Array Value) (e:TypeId) (n:Nat) (h:∀ g,g = W.heap.size→∀ w1,w1.heap[g]? = some (.cells cs e (0,0))→Below W.heap.size W w1→wpList P ops Q rest (a.put o.dst (.slice (some ⟨g,0,none⟩) n n)) w1) (hgd:o.guard = none:=by rfl) (hd:o.dst = some N:=by rfl)
  (hrun:(execOp a.eval o).run P W = .ok (.value (.slice (some ⟨W.heap.size,0,none⟩) n n)) (W.alloc (.cells cs e (0,0))):=by first | (go_simp;done) | (go_simp;rfl)):wpList P ops Q (o :: rest) a W :=
 Kd.event_run hgd hrun (h _ rfl _ (blk_new W _) (below_alloc (Below.refl _ _) _))
theorem map_event {W:World} (N:Tmp) (h:∀ g,g = W.heap.size→∀ w1,w1.heap[g]? = some (.map #[] 0)→Below W.heap.size W w1→wpList P ops Q rest (a.put o.dst (.map (some g))) w1) (hgd:o.guard = none:=by rfl) (hd:o.dst = some N:=by rfl)
  (hrun:(execOp a.eval o).run P W = .ok (.value (.map (some W.heap.size))) (W.alloc (.map #[] 0)):=by first | (go_simp;done) | (go_simp;rfl)):wpList P ops Q (o :: rest) a W :=
 Kd.event_run hgd hrun (h _ rfl _ (blk_new W _) (below_alloc (Below.refl _ _) _))
end
theorem R_blk {α:Type} {enc:α→Value} {h1:∀ x:α,(enc x).oneCell' = true} {W:World} {g e base:Nat} {x:α} {ok:Nat→Prop} (hb:W.heap[g]? = some (.cells #[enc x] e (0,0))) (hg:base≤g) (hok:ok g):(Kd.scalar enc h1).R e W base ok (.slice (some ⟨g,0,none⟩) 1 1) [x] :=
 ⟨fun k hk=>(by simpa [Value.ownBlock] using hk:g = k) ▸ hok,[enc x],⟨rfl,.inr ⟨g,1,#[enc x],rfl,hg,hb,Nat.le_refl _,by decide,rfl,rfl⟩⟩,Reps.one rfl (Reps.none _ _)⟩
theorem S_blk {W:World} {g base:Nat} {u0 u1:Value} {x:S27} {ok:Nat→Prop} (hb:W.heap[g]? = some (.cells #[u0,u1] 27 (0,0))) (hg:base≤g) (hok:ok g) (h0:Kd.R (Kd.int .i64) 3 W base (fun k=>ok k∧k≠g) u0 x.f0) (h1:Kd.R (Kd.int .i64) 3 W base (fun k=>ok k∧k≠g) u1 x.f1) (ne:NeRow u0 u1):Kd.S k27 27 W base ok (.slice (some ⟨g,0,none⟩) 1 1) [x]:=by
 refine ⟨fun _=>0,fun k hk=>by
  have:g = k:=by simpa [Value.ownBlock] using hk
  exact this ▸ hok,[u0,u1],⟨rfl,.inr ⟨g,1,#[u0,u1],rfl,hg,hb,Nat.le_refl _,by decide,rfl,rfl⟩⟩,Reps.c2 ?_ (Reps.none _ _)⟩
 exact k27_mkM _ _ _ x (Kd.R_mono h0 (fun k hk=>⟨⟨hk.1,by simpa [Value.ownBlock] using hk.2⟩,rfl⟩)) (Kd.R_mono h1 (fun k hk=>⟨⟨hk.1,by simpa [Value.ownBlock] using hk.2⟩,rfl⟩)) ne
def orb_T21:Bool × List (List Nat × List Nat):=(true,[([],[]),([0],[0]),([1],[1]),([2],[2]),([],[]),([],[]),([5],[5]),([6],[6]),([7],[7]),([],[]),([8,9],[8,9]),([],[]),([11],[11]),([10,12],[10,12]),([3,4,13,13,0,1,2,3,4,5,6,7,8,9,10,11,12,13],[3,4,13])])
def orb_B21:List Nat:=[0,1,3,7,0,0,32,96,224,0,992,0,2048,8160,16383]
theorem orb_tab21:rtab .any (opsOf Tryz.f27 21) = orb_T21:=by kernel_rfl
theorem orb_bits21:waitsOk orb_T21.2 orb_B21 = true:=by kernel_rfl
def orb_T17:Bool × List (List Nat × List Nat):=(true,[([],[]),([],[]),([1],[1]),([2],[2]),([3],[3]),([],[]),([5],[5]),([4,6],[4,6]),([0,0,1,2,3,4,5,6,7],[0]),([8,0,1,2,3,4,5,6,7],[8]),([9,7,7,0,1,2,3,4,5,6,7],[7,9])])
def orb_B17:List Nat:=[0,0,2,6,14,0,32,126,255,511,1023]
theorem orb_tab17:rtab .any (opsOf Tryz.f27 17) = orb_T17:=by kernel_rfl
theorem orb_bits17:waitsOk orb_T17.2 orb_B17 = true:=by kernel_rfl
def orb_T18:Bool × List (List Nat × List Nat):=(true,[([],[]),([],[]),([1],[1]),([2],[2]),([3],[3]),([],[]),([5],[5]),([6],[6]),([7],[7]),([],[]),([8,9],[8,9]),([10],[10]),([],[]),([12],[12]),([13],[13]),([11,14],[11,14]),([15],[15]),([4,16],[4,16]),([0,0,1,2,3,4,5,6,7,8,9,10,11,12,13,14,15,16,17],[0]),([18,0,1,2,3,4,5,6,7,8,9,10,11,12,13,14,15,16,17],[18]),([19,17,17,0,1,2,3,4,5,6,7,8,9,10,11,12,13,14,15,16,17],[17,19])])
def orb_B18:List Nat:=[0,0,2,6,14,0,32,96,224,0,992,2016,0,4096,12288,32736,65504,131070,262143,524287,1048575]
theorem orb_tab18:rtab .any (opsOf Tryz.f27 18) = orb_T18:=by kernel_rfl
theorem orb_bits18:waitsOk orb_T18.2 orb_B18 = true:=by kernel_rfl
set_option maxHeartbeats 8000000 in
set_option maxRecDepth 100000 in
theorem orbit_yes (k:Nat) (A0:Option Addr) (c0:Nat) (l0:List Int) (A1:Option Addr) (c1:Nat) (l1:List Int) (y1 y2:List Int) (R:Option Orb) (w:World) (h0:Kd.C (Kd.int .i64) w A0 l0.length l0) (g0:l0.length≤c0) (h1:Kd.C (Kd.int .i64) w A1 l1.length l1) (g1:l1.length≤c1) (h:Z62.f k l0 l1 = some (y1,y2,true)) (hl:loopO k ⟨[⟨y1,y2⟩],[⟨#[]⟩],[-1],[0],[],[]⟩ 0 = some R) :
  Calls Tryz.prog 27 #[.agg #[.slice A0 l0.length c0,.slice A1 l1.length c1]] w fun e w'=>OrbPost w w' e R:=by
 have hu:=Tryz.underlying27
 have H0:=Aside0.mk h0;have H1:=Aside0.mk h1;have G0:=Aside0.mk g0;have G1:=Aside0.mk g1;have HA:=Aside0.mk h;have HL:=Aside0.mk hl
 clear h0 h1 g0 g1 h hl
 have HB:=Aside0.mk (Below.refl w.heap.size w)
 go_enter Tryz.func27,Tryz.ntmps27
 go_upto_region 4 with (first | ((with_reducible refine gate_dst (N:=1) rfl ?_);refine bx_ 1 #[.slice A0 l0.length c0,.slice A1 l1.length c1] 27 ?_;intro gs hg w2 hbox hb;have BS:=Aside0.mk hbox;replace HB:=b1_ hb;clear hb hbox hg;obtain ⟨hcz0,hcz1,hfz0,hfz1⟩:=c2_ BS) | ((with_reducible refine gate_callee (f:=39) rfl ?_);refine gL_ (some 15) Tryz.func39 #[.agg #[.slice A0 l0.length c0,.slice A1 l1.length c1]] rfl qa_ ?_;(with_reducible refine (Z62.calls k _ _ l0 _ _ l1 y1 y2 true _ (cb_ H0) G0.out (cb_ H1) G1.out HA.out).mono ?_);rintro e w3 ⟨v0,v1,rfl,ho0,ho1,hb⟩;refine ⟨_,rfl,?_⟩;have ZB:=Aside0.mk (below_size hB_:w.heap.size≤w2.heap.size);replace HB:=b1_ hb;clear hb;obtain ⟨Ay0,cy0,ey0⟩:=Kd.R_slice ho0;subst ey0;obtain ⟨Ay1,cy1,ey1⟩:=Kd.R_slice ho1;subst ey1;have Y0:=Aside0.mk ho0;have Y1:=Aside0.mk ho1;clear ho0 ho1) | ((with_reducible refine gate_dst (N:=4) rfl ?_);refine bx_ 4 #[.slice none 0 0,.slice none 0 0] 27 ?_;intro gf hg w4 hbox hb;have GF:=gw_ w hg;have GF2:=Aside0.mk (show w3.heap.size≤gf from Nat.le_of_eq hg.symm);have BF:=Aside0.mk hbox;have B3:=Aside0.mk hb;replace HB:=b1_ hb;clear hb hbox hg;obtain ⟨hcf0,hcf1,hff0,hff1⟩:=c2_ BF))
 obtain ⟨hbox,hkp,hB2⟩:=box_store BF.out (.slice Ay0 y1.length cy0) (.slice Ay1 y2.length cy1) HB.out GF.out
 generalize hw:((w4.setCell ⟨gf,0,none⟩ (.slice Ay0 y1.length cy0)).setCell ⟨gf,1,none⟩ (.slice Ay1 y2.length cy1)) = w5 at hbox hkp hB2 ⊢
 clear hw hcf0 hcf1 hff0 hff1 hcz0 hcz1 hfz0 hfz1 HB
 have NE:=Aside0.mk (show NeRow (.slice Ay0 y1.length cy0) (.slice Ay1 y2.length cy1) from fun k_ e1_ e2_=>(Y0.out.1 k_ e1_) e2_.symm)
 replace Y0:=Aside0.mk (Kd.R_kept (Kd.R_below (Kd.R_bound Y0.out) B3.out) hkp (fun k_ hk hs=>by have h2:=hk.2.2.1;have h3:=GF2.out;omega))
 replace Y1:=Aside0.mk (Kd.R_kept (Kd.R_below (Kd.R_bound Y1.out) B3.out) hkp (fun k_ hk hs=>by have h2:=hk.2.2.1;have h3:=GF2.out;omega))
 have HB:=Aside0.mk hB2
 replace BF:=Aside0.mk (show w5.heap[gf]? = some (.cells #[.slice Ay0 y1.length cy0,.slice Ay1 y2.length cy1] 27 (0,0)) from hbox)
 have Z5:=Aside0.mk hkp.1
 have HB5:=HB
 clear hbox hkp hB2
 obtain ⟨hcf0,hcf1,hff0,hff1⟩:=c2_ BF
 replace Y0:=Aside0.mk (Kd.R_bound Y0.out)
 replace Y1:=Aside0.mk (Kd.R_bound Y1.out)
 go_wp2_with (first | ((with_reducible refine gate_dst (N:=21) rfl ?_);refine lit_event 21 #[.slice Ay0 y1.length cy0,.slice Ay1 y2.length cy1] 27 1 ?_;intro g1 hg w6 hbox hb;have Kg1:=Aside0.mk hbox;have Sg1:=Aside0.mk (show w5.heap.size≤g1∧g1 < w6.heap.size from ⟨Nat.le_of_eq hg.symm,(Array.getElem?_eq_some_iff.1 hbox).1⟩);replace Y0:=Aside0.mk (Kd.R_below Y0.out hb);replace Y1:=Aside0.mk (Kd.R_below Y1.out hb);replace HB:=b1_ hb;clear hb hbox hg) | ((with_reducible refine gate_dst (N:=22) rfl ?_);refine lit_event 22 #[.string ⟨#[]⟩] 9 1 ?_;intro g2 hg w7 hbox hb;have Kg2:=Aside0.mk hbox;have Sg2:=Aside0.mk (show w6.heap.size≤g2∧g2 < w7.heap.size from ⟨Nat.le_of_eq hg.symm,(Array.getElem?_eq_some_iff.1 hbox).1⟩);replace Kg1:=bb_ Kg1 hb;replace Y0:=Aside0.mk (Kd.R_below Y0.out hb);replace Y1:=Aside0.mk (Kd.R_below Y1.out hb);replace HB:=b1_ hb;clear hb hbox hg) | ((with_reducible refine gate_dst (N:=23) rfl ?_);refine lit_event 23 #[.int .i64 (-1)] 3 1 ?_;intro g3 hg w8 hbox hb;have Kg3:=Aside0.mk hbox;have Sg3:=Aside0.mk (show w7.heap.size≤g3∧g3 < w8.heap.size from ⟨Nat.le_of_eq hg.symm,(Array.getElem?_eq_some_iff.1 hbox).1⟩);replace Kg1:=bb_ Kg1 hb;replace Kg2:=bb_ Kg2 hb;replace Y0:=Aside0.mk (Kd.R_below Y0.out hb);replace Y1:=Aside0.mk (Kd.R_below Y1.out hb);replace HB:=b1_ hb;clear hb hbox hg) | ((with_reducible refine gate_dst (N:=24) rfl ?_);refine lit_event 24 #[.int .u8 0] 5 1 ?_;intro g4 hg w9 hbox hb;have Kg4:=Aside0.mk hbox;have Sg4:=Aside0.mk (show w8.heap.size≤g4∧g4 < w9.heap.size from ⟨Nat.le_of_eq hg.symm,(Array.getElem?_eq_some_iff.1 hbox).1⟩);replace Kg1:=bb_ Kg1 hb;replace Kg2:=bb_ Kg2 hb;replace Kg3:=bb_ Kg3 hb;replace Y0:=Aside0.mk (Kd.R_below Y0.out hb);replace Y1:=Aside0.mk (Kd.R_below Y1.out hb);replace HB:=b1_ hb;clear hb hbox hg) | ((with_reducible refine gate_dst (N:=25) rfl ?_);refine map_event 25 ?_;intro gM hg w10 hbox hb;have KgM:=Aside0.mk hbox;have SgM:=Aside0.mk (show w9.heap.size≤gM∧gM < w10.heap.size from ⟨Nat.le_of_eq hg.symm,(Array.getElem?_eq_some_iff.1 hbox).1⟩);replace Kg1:=bb_ Kg1 hb;replace Kg2:=bb_ Kg2 hb;replace Kg3:=bb_ Kg3 hb;replace Kg4:=bb_ Kg4 hb;replace Y0:=Aside0.mk (Kd.R_below Y0.out hb);replace Y1:=Aside0.mk (Kd.R_below Y1.out hb);replace HB:=b1_ hb;clear hb hbox hg) | ((with_reducible refine gate_dst (N:=27) rfl ?_);refine bx_ 27 #[.slice (some ⟨g1,0,none⟩) 1 1,.slice (some ⟨g2,0,none⟩) 1 1,.slice (some ⟨g3,0,none⟩) 1 1,.slice (some ⟨g4,0,none⟩) 1 1,.map (some gM)] 51 ?_;intro gO hg w11 hbox hb;have KgO:=Aside0.mk hbox;have SgO:=Aside0.mk (show w10.heap.size≤gO∧gO < w11.heap.size from ⟨Nat.le_of_eq hg.symm,(Array.getElem?_eq_some_iff.1 hbox).1⟩);replace Kg1:=bb_ Kg1 hb;replace Kg2:=bb_ Kg2 hb;replace Kg3:=bb_ Kg3 hb;replace Kg4:=bb_ Kg4 hb;replace KgM:=bb_ KgM hb;replace Y0:=Aside0.mk (Kd.R_below Y0.out hb);replace Y1:=Aside0.mk (Kd.R_below Y1.out hb);replace HB:=b1_ hb;clear hb hbox hg))
 have HH:Aside0 (OrbH w.heap.size (fun k=>if k = g2 then 1 else if k = g3 then 2 else if k = g4 then 3 else if k = gO then 6 else if k = gM then 7 else 0) w11 gO gM 0 (.slice (some ⟨g1,0,none⟩) 1 1) (.slice (some ⟨g2,0,none⟩) 1 1) (.slice (some ⟨g3,0,none⟩) 1 1) (.slice (some ⟨g4,0,none⟩) 1 1) (.slice none 0 0) (.slice none 0 0) ⟨[⟨y1,y2⟩],[⟨#[]⟩],[-1],[0],[],[]⟩):=by
  have q1:=Sg1.out;have q2:=Sg2.out;have q3:=Sg3.out;have q4:=Sg4.out;have q5:=SgM.out;have q6:=SgO.out
  have z5:=Z5.out;have z2:=ZB.out;have zf:=GF.out;have zg:=GF2.out
  have bz:w.heap.size≤w5.heap.size:=HB5.out.size
  refine ⟨⟨KgO.out,KgM.out,?_,?_,by omega,by omega,fun _=>rfl,fun _=>rfl,?_,?_,?_,?_,Kd.R_nil _ _ _ _ _,Kd.R_nil _ _ _ _ _⟩⟩
  ·show (if gO = g2 then 1 else if gO = g3 then 2 else if gO = g4 then 3 else if gO = gO then 6 else if gO = gM then 7 else 0) = 6
   rw [if_neg (by omega),if_neg (by omega),if_neg (by omega),if_pos rfl]
  ·show (if gM = g2 then 1 else if gM = g3 then 2 else if gM = g4 then 3 else if gM = gO then 6 else if gM = gM then 7 else 0) = 7
   rw [if_neg (by omega),if_neg (by omega),if_neg (by omega),if_neg (by omega),if_pos rfl]
  ·refine S_blk (x:=⟨y1,y2⟩) Kg1.out (by omega) ?_ ?_ ?_ NE.out
   ·show (if g1 = g2 then 1 else if g1 = g3 then 2 else if g1 = g4 then 3 else if g1 = gO then 6 else if g1 = gM then 7 else 0) = 0
    rw [if_neg (by omega),if_neg (by omega),if_neg (by omega),if_neg (by omega),if_neg (by omega)]
   ·refine Kd.R_mono (Kd.R_lower Y0.out (by omega)) (fun k hk=>?_)
    have hk2:=hk.2.2.1
    show (if k = g2 then 1 else if k = g3 then 2 else if k = g4 then 3 else if k = gO then 6 else if k = gM then 7 else 0) = 0∧k≠g1
    rw [if_neg (by omega),if_neg (by omega),if_neg (by omega),if_neg (by omega),if_neg (by omega)]
    exact ⟨rfl,by omega⟩
   ·refine Kd.R_mono (Kd.R_lower Y1.out (by omega)) (fun k hk=>?_)
    have hk2:=hk.2.2.1
    show (if k = g2 then 1 else if k = g3 then 2 else if k = g4 then 3 else if k = gO then 6 else if k = gM then 7 else 0) = 0∧k≠g1
    rw [if_neg (by omega),if_neg (by omega),if_neg (by omega),if_neg (by omega),if_neg (by omega)]
    exact ⟨rfl,by omega⟩
  ·exact R_blk Kg2.out (by omega) (if_pos rfl)
  ·refine R_blk Kg3.out (by omega) ?_
   show (if g3 = g2 then 1 else if g3 = g3 then 2 else if g3 = g4 then 3 else if g3 = gO then 6 else if g3 = gM then 7 else 0) = 2
   rw [if_neg (by omega),if_pos rfl]
  ·refine R_blk Kg4.out (by omega) ?_
   show (if g4 = g2 then 1 else if g4 = g3 then 2 else if g4 = g4 then 3 else if g4 = gO then 6 else if g4 = gM then 7 else 0) = 3
   rw [if_neg (by omega),if_neg (by omega),if_pos rfl]
 clear Kg1 Kg2 Kg3 Kg4 KgM KgO Sg1 Sg2 Sg3 Sg4 SgM SgO Y0 Y1 NE BF GF GF2 Z5 ZB B3 BS H0 H1 G0 G1 HA hcf0 hcf1 hff0 hff1 HB5
 go_loopg [7] k (fun kq v7 w'=>∃ (x7:Int) (n:Nat) (col:Nat→Nat) (vL vW vF vB vT vS:Value) (s:Orb),v7 = .int .i64 x7∧Aside0 (loopO kq s x7 = some R)∧Aside0 (kq≤k)∧Aside0 (n = 0 ∨ n = 2)∧Aside0 (OrbH w.heap.size col w' gO gM n vL vW vF vB vT vS s)∧Aside0 (Below w.heap.size w w'))
 case atStart=>exact ⟨0,0,_,_,_,_,_,_,_,_,rfl,HL,⟨Nat.le_refl _⟩,⟨.inl rfl⟩,HH,HB⟩
 case round =>
  clear HL HH HB
  obtain ⟨x7,n,col,vL,vW,vF,vB,vT,vS,s,rfl,HA,HK,HN,HH,HB⟩:=hrel
  cases gk with
  | zero=>exact absurd HA.out (by simp [loopO])
  | succ k1 =>
   have H:=HA.out
   clear HA
   simp only [loopO] at H
   obtain ⟨AL,cL,eL⟩:=Kd.S_slice HH.out.hL
   subst eL
   have hco0:wr.cell? ⟨gO,0,none⟩ = some (.slice AL s.L.length cL):=(blk_cell HH.out.hO 0).trans rfl
   have hfo0:=blk_frozen HH.out.hO 0
   by_cases hq1:x7 < (s.L.length:Int)
   ·rw [if_pos hq1] at H
    have c1b:=decide_eq_true hq1
    obtain ⟨z,AZ,H⟩:=bi_ H
    have HR:=Aside0.mk H
    clear H
    obtain ⟨wo,hwo⟩:∃ wo:World,wo = wr:=⟨_,rfl⟩
    subst hwo
    go_wp2_with (first | ((with_reducible refine gate_dst (N:=37) rfl ?_);refine lit_event 37 #[.int .u8 84,.int .u8 83] 5 2 ?_;intro gl hg w12 hbox hb;have SL:=Aside0.mk (show wo.heap.size≤gl from Nat.le_of_eq hg.symm);have BL:=Aside0.mk hbox;have HH2:=Aside0.mk ((HH.out.recol (col':=fun k=>if k = gl then 8 else col k) (fun k hk=>if_neg (by have:=SL.out;omega))).below hb);replace HB:=b1_ hb;clear hb hbox hg))
    clear hco0 hfo0 c1b HH
    have SLG:=SL
    go_loopg [39] 2 (fun gi v39 w'=>∃ (jj n':Nat) (col':Nat→Nat) (vL vW vF vB vT vS:Value) (s':Orb),v39 = .int .i64 (jj:Int)∧Aside0 (jj≤2)∧Aside0 (2 - jj≤gi)∧Aside0 (innerO k1 x7 (([84,83]:List Int).drop jj) s' = some z)∧Aside0 ((jj = 0→n' = 0 ∨ n' = 2)∧(jj = 1→n' = 1 ∨ n' = 2)∧(jj = 2→n' = 2))∧Aside0 (col' gl = 8)∧Aside0 (w'.heap[gl]? = some (.cells #[.int .u8 84,.int .u8 83] 5 (0,0)))∧Aside0 (OrbH w.heap.size col' w' gO gM n' vL vW vF vB vT vS s')∧Aside0 (Below w.heap.size w w'))
    case atStart=>exact ⟨0,n,(fun k=>if k = gl then 8 else col k),_,_,_,_,_,_,s,rfl,⟨by omega⟩,⟨by omega⟩,AZ,⟨⟨fun _=>HN.out,fun e=>absurd e (by decide),fun e=>absurd e (by decide)⟩⟩,⟨if_pos rfl⟩,BL,HH2,HB⟩
    case round =>
     clear AZ HH2 HB BL SL HN
     obtain ⟨jj,n',col',vL',vW',vF',vB',vT',vS',s',rfl,HJ,HG,AZ,HN,HC,BL,HH,HB⟩:=hrel
     have hj:=HJ.out
     obtain ⟨AL',cL',eL'⟩:=Kd.S_slice HH.out.hL
     subst eL'
     have hcl0:wr.cell? ⟨gl,0,none⟩ = some (.int .u8 84):=(blk_cell BL.out 0).trans rfl
     have hcl1:wr.cell? ⟨gl,1,none⟩ = some (.int .u8 83):=(blk_cell BL.out 1).trans rfl
     have hfl0:=blk_frozen BL.out 0
     have hfl1:=blk_frozen BL.out 1
     have hco0:wr.cell? ⟨gO,0,none⟩ = some (.slice AL' s'.L.length cL'):=(blk_cell HH.out.hO 0).trans rfl
     have hfo0:=blk_frozen HH.out.hO 0
     rcases Nat.lt_or_ge jj 2 with hj2 | hj2
     ·have hq3:jj = 0 ∨ jj = 1:=by omega
      rcases hq3 with rfl | rfl
      ·skip
       have hn0:=Aside0.mk (HN.out.1 rfl)
       have H:=AZ.out
       clear AZ
       change innerO k1 x7 (84 :: [83]) s' = some z at H
       simp only [innerO] at H
       obtain ⟨zz,AS,H⟩:=bi_ H
       have HT:=Aside0.mk H
       have H:=AS.out
       clear AS
       unfold stpO at H
       have hi0:=cp_ H
       replace H:=ca_ H
       have hi1:=cp_ H
       replace H:=ca_ H
       obtain ⟨⟨x1,x2⟩,AX,H⟩:=bi_ H
       obtain ⟨⟨y1',y2',yb⟩,AY,H⟩:=bi_ H
       obtain ⟨j,AJ,H⟩:=bi_ H
       dsimp only at H AY AJ
       have HS:=Aside0.mk H
       clear H
       obtain ⟨adx,Ax0,cx0,Ax1,cx1,ex,hx0,hx1,hlx0,hix0,hlx1,hix1⟩:=at_T27 (Kd.S_reads' HH.out.hL).2.2 x7 hi0 hi1
       cases ex
       have X0:=Aside0.mk hix0;have X1:=Aside0.mk hix1;have LX0:=Aside0.mk hlx0;have LX1:=Aside0.mk hlx1
       clear hix0 hix1 hlx0 hlx1
       have ti0:=eq_true hi0
       have ti1:=eq_true hi1
       have td1:=decide_eq_true hi1
       go_upto_region 12 with (first | ((with_reducible refine gate_callee (f:=40) rfl ?_);refine gL_ (some 52) Tryz.func40 #[.agg #[.slice Ax0 (rd_T27 s'.L x7).f0.length cx0,.slice Ax1 (rd_T27 s'.L x7).f1.length cx1],.int .u8 84] rfl qa_ ?_;(with_reducible refine (Z11.calls k1 _ _ (rd_T27 s'.L x7).f0 _ _ (rd_T27 s'.L x7).f1 84 x1 x2 _ X0.out LX0.out X1.out LX1.out AX.out).mono ?_);rintro e w13 ⟨v0,v1,rfl,ho0,ho1,hb⟩;refine ⟨_,rfl,?_⟩;replace HH:=Aside0.mk (HH.out.below hb);replace BL:=bb_ BL hb;replace HB:=b1_ hb;clear hb;obtain ⟨Al0,cl0,el0⟩:=Kd.R_slice ho0;subst el0;obtain ⟨Al1,cl1,el1⟩:=Kd.R_slice ho1;subst el1;have LT0:=Aside0.mk (Kd.R_reads' ho0).2;have LT1:=Aside0.mk (Kd.R_reads' ho1).2;clear ho0 ho1) | ((with_reducible refine gate_callee (f:=39) rfl ?_);refine gL_ (some 53) Tryz.func39 #[.agg #[.slice Al0 x1.length cl0,.slice Al1 x2.length cl1]] rfl qa_ ?_;(with_reducible refine (Z62.calls k1 _ _ x1 _ _ x2 y1' y2' yb _ LT0.out.2 LT0.out.1 LT1.out.2 LT1.out.1 AY.out).mono ?_);rintro e w14 ⟨v0,v1,rfl,ho0,ho1,hb⟩;refine ⟨_,rfl,?_⟩;have ZC:=Aside0.mk (below_size hB_:w.heap.size≤w13.heap.size);have ZD:=Aside0.mk hb.size;have SL13:=Aside0.mk (Kd.S_below (Kd.S_mono (ok':=fun k_=>col' k_ = 0∧k_ < w13.heap.size) (Kd.S_bound HH.out.hL) (fun k_ hk_=>⟨hk_.1,hk_.2.2.1⟩)) hb);replace HH:=Aside0.mk ((HH.out.recol (col':=rcl w13.heap.size col' 0) (fun k hk=>rcl_old hk)).below hb);replace HC:=Aside0.mk ((rcl_old (blk_lt BL.out)).trans HC.out:rcl w13.heap.size col' 0 gl = 8);replace BL:=bb_ BL hb;replace HB:=b1_ hb;clear hb;obtain ⟨Ay0,cy0,ey0⟩:=Kd.R_slice ho0;subst ey0;obtain ⟨Ay1,cy1,ey1⟩:=Kd.R_slice ho1;subst ey1;have Y0:=Aside0.mk ho0;have Y1:=Aside0.mk ho1;clear ho0 ho1) | ((with_reducible refine gate_dst (N:=10) rfl ?_);refine bx_ 10 #[.slice none 0 0,.slice none 0 0] 27 ?_;intro gx hg w15 hbox hb;have GX:=Aside0.mk (show w14.heap.size≤gx from Nat.le_of_eq hg.symm);have BX:=Aside0.mk hbox;have B3:=Aside0.mk hb;clear hb hbox hg;obtain ⟨hcf0,hcf1,hff0,hff1⟩:=c2_ BX))
       obtain ⟨hbox,hkp,hB2⟩:=box_store (w0:=w14) BX.out (.slice Ay0 y1'.length cy0) (.slice Ay1 y2'.length cy1) B3.out GX.out
       generalize hw:((w15.setCell ⟨gx,0,none⟩ (.slice Ay0 y1'.length cy0)).setCell ⟨gx,1,none⟩ (.slice Ay1 y2'.length cy1)) = w16 at hbox hkp hB2 ⊢
       clear hw hcf0 hcf1 hff0 hff1 hcl0 hcl1 hfl0 hfl1 hco0 hfo0 hx0 hx1 X0 X1 LX0 LX1 LT0 LT1
       have NE:=Aside0.mk (show NeRow (.slice Ay0 y1'.length cy0) (.slice Ay1 y2'.length cy1) from fun k_ e1_ e2_=>(Y0.out.1 k_ e1_) e2_.symm)
       replace HH:=Aside0.mk (HH.out.below hB2)
       replace BL:=Aside0.mk (blk_below BL.out hB2)
       replace Y0:=Aside0.mk (Kd.R_below (Kd.R_bound Y0.out) hB2)
       replace Y1:=Aside0.mk (Kd.R_below (Kd.R_bound Y1.out) hB2)
       replace SL13:=Aside0.mk (Kd.S_below SL13.out hB2)
       replace HB:=Aside0.mk (below_step HB.out hB2)
       replace BX:=Aside0.mk (show w16.heap[gx]? = some (.cells #[.slice Ay0 y1'.length cy0,.slice Ay1 y2'.length cy1] 27 (0,0)) from hbox)
       have ZE:=Aside0.mk hB2.size
       clear hbox hkp hB2 B3
       obtain ⟨hcx0,hcx1,hfx0,hfx1⟩:=c2_ BX
       have hLr:=(Kd.S_reads' HH.out.hL).2
       have RL:=Aside0.mk hLr
       clear hLr
       go_upto_region 13 with (first | ((with_reducible refine gate_callee (f:=41) rfl ?_);refine gL_ (some 58) Tryz.func41 #[.pointer (some ⟨gO,0,none⟩),.agg #[.slice Ay0 y1'.length cy0,.slice Ay1 y2'.length cy1]] rfl qa_ ?_;(with_reducible refine (index_calls k1 gO _ _ s'.L _ _ _ _ _ _ y1' _ _ y2' j _ RL.out.2 RL.out.1 (Kd.R_reads' Y0.out).2.2 (Kd.R_reads' Y0.out).2.1 (Kd.R_reads' Y1.out).2.2 (Kd.R_reads' Y1.out).2.1 HH.out.hO AJ.out).mono ?_);rintro e w17 ⟨rfl,hb⟩;refine ⟨_,rfl,?_⟩;have ZF:=Aside0.mk hb.size;replace HH:=Aside0.mk (HH.out.below hb);replace BL:=bb_ BL hb;replace BX:=bb_ BX hb;replace Y0:=Aside0.mk (Kd.R_below Y0.out hb);replace Y1:=Aside0.mk (Kd.R_below Y1.out hb);replace SL13:=Aside0.mk (Kd.S_below SL13.out hb);replace HB:=b1_ hb;clear hb))
       clear hcx0 hcx1 hfx0 hfx1 RL
       have ZW:=Aside0.mk (show w13.heap.size≤w17.heap.size from Nat.le_trans ZD.out (Nat.le_trans ZE.out ZF.out))
       clear ZD ZE ZF
       by_cases hj0:j < 0
       ·have H:=HS.out
        clear HS
        rw [if_pos hj0] at H
        have hjb:=decide_eq_true hj0
        have hco0:w17.cell? ⟨gO,0,none⟩ = some (.slice (some adx) s'.L.length cL'):=(blk_cell HH.out.hO 0).trans rfl
        have hfo0:=blk_frozen HH.out.hO 0
        by_cases hq5:(s'.L.length:Int) = 120
        ·rw [if_pos hq5] at H
         obtain rfl:=Option.some.inj H
         clear H
         have hzn:z = none:=(Option.some.inj HT.out).symm
         subst hzn
         have hRn:R = none:=(Option.some.inj HR.out).symm
         subst hRn
         have e5b:((s'.L.length:Int) == 120) = true:=beq_iff_eq.mpr hq5
         clear hq5
         go_wp2
         go_ret2
         exact ⟨qb_,hB_⟩
        ·rw [if_neg hq5] at H
         have e5b:((s'.L.length:Int) == 120) = false:=beq_eq_false_iff_ne.mpr hq5
         clear hq5
         have hlen:=cp_ H
         replace H:=ca_ H
         have hiW:=cp_ H
         replace H:=ca_ H
         have hsz:=cp_ H
         replace H:=Option.some.inj (ca_ H)
         subst H
         rw [if_pos rfl,if_pos rfl] at HT
         have LN:=Aside0.mk hlen
         have LS:=Aside0.mk hsz
         clear hlen hsz
         go_upto_region 17 with (fail)
         clear hco0 hfo0 e5b
         replace HH:=Aside0.mk (HH.out.below (below_drew1 (Below.refl _ _)))
         replace BL:=Aside0.mk (blk_drew BL.out)
         replace BX:=Aside0.mk (blk_drew BX.out)
         replace HB:=Aside0.mk (below_drew1 HB.out)
         replace Y0:=Aside0.mk (Kd.R_bound (Kd.R_drew Y0.out))
         replace Y1:=Aside0.mk (Kd.R_bound (Kd.R_drew Y1.out))
         replace SL13:=Aside0.mk (Kd.S_drew SL13.out)
         replace ZW:=Aside0.mk (show w13.heap.size≤w17.drew.heap.size from ZW.out)
         refine start_ (n:=11) (S:=fun w'=>w'.cell? ⟨gO,0,none⟩ = some (.slice (some adx) s'.L.length cL')∧w'.cell? ⟨gx,0,none⟩ = some (.slice Ay0 y1'.length cy0)∧w'.cell? ⟨gx,1,none⟩ = some (.slice Ay1 y2'.length cy1)) (ds:=[7,10]) (bl_ 11 0) (by kernel_rfl) rfl (by kernel_rfl) ⟨(blk_cell HH.out.hO 0).trans rfl,(blk_cell BX.out 0).trans rfl,(blk_cell BX.out 1).trans rfl⟩ (fun hHeld=>?_)
         refine with_tabW orb_tab17 orb_bits17 (fun HT_ HW_=>?_)
         generalize w17.drew = wa at HH BL BX HB Y0 Y1 SL13 ZW hHeld ⊢
         refine pu_ 0 (some 68) (bl_ 11 1) HT_ ?_
         refine pu_ 1 (some 69) (bl_ 11 3) HT_ ?_
         refine pu_ 2 (some 70) (bl_ 11 7) HT_ ?_
         refine pu_ 3 (some 71) (bl_ 11 15) HT_ ?_
         refine ta_ 4 (some 72) (bl_ 11 31) HT_ HW_ hHeld ?_
         refine ta_ 5 (some 73) (bl_ 11 63) HT_ HW_ hHeld ?_
         refine on_ 6 (some 74) (bl_ 11 127) HT_ (fun K hK=>?_)
         refine value_ (w1:=?_) (v:=?_) (by rfl) rfl ?_ ?_
         rotate_left 2
         ·go_simp
          constructor
          ·rfl
          ·rfl
         refine hK.out _ _ ⟨((below_alloc (Below.refl _ _) _).cell (World.block_lt_of_cell? _ _ hHeld.1)).trans hHeld.1,((below_alloc (Below.refl _ _) _).cell (World.block_lt_of_cell? _ _ hHeld.2.1)).trans hHeld.2.1,((below_alloc (Below.refl _ _) _).cell (World.block_lt_of_cell? _ _ hHeld.2.2)).trans hHeld.2.2⟩ (fun hHeld=>?_)
         clear hK K
         refine no_ (some 74) ?_
         refine last_ (i:=7) (N:=some 75) (bl_ 11 255) rfl rfl (one_of HT_.out (by kernel_rfl)) (by decide) (fun K hK=>?_)
         refine Kd.S_append_step k27 (w0:=w) w.heap.size (by rfl) (.tmp 72) (.tmp 74) 37 27 (.agg #[(.slice none 0 0),(.slice none 0 0)]) 48 rfl Tryz.underlying37 info27 rfl (by decide) (by omega) (.slice (some adx) s'.L.length cL') s'.L (⟨y1',y2'⟩:S27) [.slice Ay0 y1'.length cy0,.slice Ay1 y2'.length cy1] (fun k_=>rcl wa.heap.size (rcl w13.heap.size col' 0) 0 k_ = 0) (fun k_=>w13.heap.size≤k_∧k_ < wa.heap.size) rfl rfl ?aP ?aQ (fun k_ hk=>rcl_new hk) ?aO HB.out HB.out.size (by have:=LN.out;omega) ?_
         case aP=>exact k27_mkM _ _ _ (⟨y1',y2'⟩:S27) (Kd.R_mono (Kd.R_lower Y0.out ZC.out) (fun k_ hk=>⟨hk.2.1,hk.2.2.1⟩)) (Kd.R_mono (Kd.R_lower Y1.out ZC.out) (fun k_ hk=>⟨hk.2.1,hk.2.2.1⟩)) NE.out
         case aQ=>exact fun k_ hk=>⟨(rcl_old hk.2).trans (rcl_new hk.1),fun e=>by have:=((Kd.S_R SL13.out).1 k_ e.symm).2;have:=hk.1;omega⟩
         case aO=>exact Kd.S_mono SL13.out (fun k_ hk=>⟨(rcl_old (Nat.lt_of_lt_of_le hk.2 ZW.out)).trans ((rcl_old hk.2).trans hk.1),fun h_=>by have:=hk.2;have:=h_.1;omega⟩)
         intro v1 wb ho hb hg hat
         obtain ⟨An1,cn1,en1⟩:=Kd.S_slice ho
         subst en1
         have HO19:=(B_gr HH.out.hO HH.out.cO hg (Kd.S_R HH.out.hL).1 (by decide)).1
         have HC3:=Aside0.mk (B_gr BL.out HC.out hg (Kd.S_R HH.out.hL).1 (by decide))
         have HP:=HH.out.putL hg ho
         have HB2:=Aside0.mk hb
         refine hK.out _ _ ?_
         clear hK K ho hb hg hat SL13 Y0 Y1 BX NE GX
         refine no_ (some 75) ?_
         refine pu_ 8 (some 76) (bl_ 11 511) HT_ ?_
         refine pu_ 9 (some 77) (bl_ 11 1023) HT_ ?_
         refine last_ (i:=10) (N:=none) (bl_ 11 2047) rfl rfl (one_of HT_.out (by kernel_rfl)) (by decide) (fun K hK=>?_)
         have hs19:wb.cell? ⟨gO,0,none⟩ = some (.slice (some adx) s'.L.length cL'):=(blk_cell HO19 0).trans rfl
         have hf19:=blk_frozen HO19 0
         refine skip_ (w1:=wb.setCell ⟨gO,0,none⟩ (.slice An1 (s'.L ++ [(⟨y1',y2'⟩:S27)]).length cn1)) (by rfl) rfl ?_ ?_
         ·go_simp
         refine hK.out _ _ ?_
         clear hK K hs19 hf19
         refine done_ (done_of HT_.out (by kernel_rfl)) ?_
         have hne_:gl≠gO:=fun e=>by have a1:=HC3.out.2;have a2:=HP.cO;rw [e] at a1;omega
         have HB3:=Aside0.mk (below_set (g:=gO) (j:=0) (v:=(.slice An1 (s'.L ++ [(⟨y1',y2'⟩:S27)]).length cn1)) HB2.out HP.bO)
         have BL2:=Aside0.mk (put_far HC3.out.1 hne_ 0 (.slice An1 (s'.L ++ [(⟨y1',y2'⟩:S27)]).length cn1))
         have HCN:=HC3.out.2
         clear HH BL HB HC HC3 HB2 HO19
         generalize hwc:wb.setCell ⟨gO,0,none⟩ (.slice An1 (s'.L ++ [(⟨y1',y2'⟩:S27)]).length cn1) = wc at HP HB3 BL2 ⊢
         clear hwc
         obtain ⟨colwc,hh_,hc_⟩:∃ c_,OrbH w.heap.size c_ wc gO gM n' _ _ _ _ _ _ _∧c_ gl = 8:=⟨_,HP,HCN⟩
         have HH:=Aside0.mk hh_;have HC:=Aside0.mk hc_;have BL:=BL2;have HB:=HB3
         clear hh_ hc_ BL2 HB3 HP HCN hne_
         obtain ⟨AW,cW,eW⟩:=Kd.R_slice HH.out.hW
         subst eW
         go_upto_region 18 with (fail)
         replace HH:=Aside0.mk (HH.out.below (below_drew1 (Below.refl _ _)))
         replace BL:=Aside0.mk (blk_drew BL.out)
         replace HB:=Aside0.mk (below_drew1 HB.out)
         obtain ⟨adw,ew,hxw⟩:=Kd.at_string (Kd.R_reads' HH.out.hW).2.2 x7 hi0 hiW
         cases ew
         have tw1:=eq_true hiW
         have tw2:=decide_eq_true hiW
         refine start_ (n:=21) (S:=fun w'=>w'.cell? ⟨gO,1,none⟩ = some (.slice (some adw) s'.W.length cW)∧w'.cell? (adw.add (x7).toNat) = some (.string (rdOf ByteArray.empty s'.W x7))) (ds:=[17,20]) (bl_ 21 0) (by kernel_rfl) rfl (by kernel_rfl) ⟨(blk_cell HH.out.hO 1).trans rfl,hxw⟩ (fun hHeld=>?_)
         refine with_tabW orb_tab18 orb_bits18 (fun HT_ HW_=>?_)
         clear hxw
         generalize wc.drew = wd at HH BL HB hHeld ⊢
         refine pu_ 0 (some 78) (bl_ 21 1) HT_ ?_
         refine pu_ 1 (some 79) (bl_ 21 3) HT_ ?_
         refine pu_ 2 (some 80) (bl_ 21 7) HT_ ?_
         refine pu_ 3 (some 81) (bl_ 21 15) HT_ ?_
         refine ta_ 4 (some 82) (bl_ 21 31) HT_ HW_ hHeld ?_
         refine pu_ 5 (some 83) (bl_ 21 63) HT_ ?_
         refine pu_ 6 (some 84) (bl_ 21 127) HT_ ?_
         refine pu_ 7 (some 85) (bl_ 21 255) HT_ ?_
         refine ta_ 8 (some 86) (bl_ 21 511) HT_ HW_ hHeld ?_
         refine pu_ 9 (some 87) (bl_ 21 1023) HT_ ?_
         refine pu_ 10 (some 88) (bl_ 21 2047) HT_ ?_
         refine ta_ 11 (some 89) (bl_ 21 4095) HT_ HW_ hHeld ?_
         refine pu_ 12 (some 90) (bl_ 21 8191) HT_ ?_
         refine on_ 13 (some 91) (bl_ 21 16383) HT_ (fun K hK=>?_)
         refine Kd.R_lit_step (Kd.int .u8) _ 5 ?hg (N:=91) ?hd (xs:=([84]:List Int)) (inner:=[.int .u8 84]) (ok:=fun _=>True) (okp:=fun _=>True) ?hr ?hp (fun _ hk=>hk) trivial (Below.refl _ _) (Nat.le_refl _) (by simp) ?_;(case hd=>rfl);(case hg=>rfl);(case hr=>first | (go_simp;done) | (go_simp;rfl));(case hp=>exact (Reps.one (show Kd.M (Kd.int .u8) _ _ _ 84 [.int .u8 84] from rfl) (Reps.none _ _)))
         intro vq we hoq hb hg_ hnew_
         have hS1_:=(hb.cell (World.block_lt_of_cell? _ _ hHeld.1)).trans hHeld.1
         have hS2_:=(hb.cell (World.block_lt_of_cell? _ _ hHeld.2)).trans hHeld.2
         replace HH:=Aside0.mk (HH.out.below hb)
         replace BL:=bb_ BL hb
         replace HB:=b1_ hb
         have HOq:=Aside0.mk hoq
         clear hg_ hnew_ hb hoq
         refine hK.out _ _ ⟨hS1_,hS2_⟩ (fun hHeld=>?_)
         clear hK K hS1_ hS2_
         refine no_ (some 91) ?_
         refine on_ 14 (some 92) (bl_ 21 32767) HT_ (fun K hK=>?_)
         have hcv47:=own_string (P:=Tryz.prog) Tryz.underlying48 Tryz.underlying5 Tryz.underlying9 (Kd.own_of_R HOq.out)
         refine value_ (w1:=?_) (v:=?_) (by rfl) rfl ?_ ?_
         rotate_left 2
         ·go_simp
          constructor
          ·rfl
          ·rfl
         clear hcv47 HOq
         refine hK.out _ _ hHeld (fun hHeld=>?_)
         clear hK K
         refine no_ (some 92) ?_
         have hs1_:(strOfNums [(84:Int)]).size = 1:=by decide +kernel
         have tw3:(9223372036854775807 < (rdOf ByteArray.empty s'.W x7).size + (strOfNums [(84:Int)]).size) = False:=eq_false (by rw [hs1_];have:=LS.out;omega)
         clear hs1_
         refine pu_ 15 (some 93) (bl_ 21 65535) HT_ ?_
         clear tw3
         refine on_ 16 (some 94) (bl_ 21 131071) HT_ (fun K hK=>?_)
         refine value_ (w1:=?_) (v:=?_) (by rfl) rfl ?_ ?_
         rotate_left 2
         ·go_simp
          constructor
          ·rfl
          ·rfl
         refine hK.out _ _ ⟨((below_alloc (Below.refl _ _) _).cell (World.block_lt_of_cell? _ _ hHeld.1)).trans hHeld.1,((below_alloc (Below.refl _ _) _).cell (World.block_lt_of_cell? _ _ hHeld.2)).trans hHeld.2⟩ (fun hHeld=>?_)
         clear hK K
         refine no_ (some 94) ?_
         refine last_ (i:=17) (N:=some 95) (bl_ 21 262143) rfl rfl (one_of HT_.out (by kernel_rfl)) (by decide) (fun K hK=>?_)
         refine Kd.R_append_step Kd.string (w0:=w) w.heap.size (by rfl) (.tmp 82) (.tmp 94) 47 9 (.string ⟨#[]⟩) 16 rfl Tryz.underlying47 info9 rfl (by decide) (by omega) (.slice (some adw) s'.W.length cW) s'.W ((rdOf ByteArray.empty s'.W x7) ++ (strOfNums [84])) [.string ((rdOf ByteArray.empty s'.W x7) ++ (strOfNums [84]))] (fun k_=>rcl we.heap.size colwc 1 k_ = 1) (fun _=>False) rfl rfl rfl (fun _ hk=>hk.elim) (fun k_ hk=>rcl_new hk) (R_col HH.out.hW (fun k_ hk=>rcl_old hk)) HB.out HB.out.size (by have:=LN.out;omega) ?_
         intro v2 wf ho hb hg hat
         obtain ⟨An2,cn2,en2⟩:=Kd.R_slice ho
         subst en2
         have HO19:=(B_gr HH.out.hO HH.out.cO hg HH.out.hW.1 (by decide)).1
         have HC3:=Aside0.mk (B_gr BL.out HC.out hg HH.out.hW.1 (by decide))
         have HP:=HH.out.putW hg ho
         have HB2:=Aside0.mk hb
         refine hK.out _ _ ?_
         clear hK K ho hb hg hat
         refine no_ (some 95) ?_
         refine pu_ 18 (some 96) (bl_ 21 524287) HT_ ?_
         refine pu_ 19 (some 97) (bl_ 21 1048575) HT_ ?_
         refine last_ (i:=20) (N:=none) (bl_ 21 2097151) rfl rfl (one_of HT_.out (by kernel_rfl)) (by decide) (fun K hK=>?_)
         have hs19:wf.cell? ⟨gO,1,none⟩ = some (.slice (some adw) s'.W.length cW):=(blk_cell HO19 1).trans rfl
         have hf19:=blk_frozen HO19 1
         refine skip_ (w1:=wf.setCell ⟨gO,1,none⟩ (.slice An2 (s'.W ++ [(rdOf ByteArray.empty s'.W x7) ++ (strOfNums [84])]).length cn2)) (by rfl) rfl ?_ ?_
         ·go_simp
         refine hK.out _ _ ?_
         clear hK K hs19 hf19
         refine done_ (done_of HT_.out (by kernel_rfl)) ?_
         have hne_:gl≠gO:=fun e=>by have a1:=HC3.out.2;have a2:=HP.cO;rw [e] at a1;omega
         have HB3:=Aside0.mk (below_set (g:=gO) (j:=1) (v:=(.slice An2 (s'.W ++ [(rdOf ByteArray.empty s'.W x7) ++ (strOfNums [84])]).length cn2)) HB2.out HP.bO)
         have BL2:=Aside0.mk (put_far HC3.out.1 hne_ 1 (.slice An2 (s'.W ++ [(rdOf ByteArray.empty s'.W x7) ++ (strOfNums [84])]).length cn2))
         have HCN:=HC3.out.2
         clear HH BL HB HC HC3 HB2 HO19
         generalize hwc:wf.setCell ⟨gO,1,none⟩ (.slice An2 (s'.W ++ [(rdOf ByteArray.empty s'.W x7) ++ (strOfNums [84])]).length cn2) = wg at HP HB3 BL2 ⊢
         clear hwc
         obtain ⟨colwg,hh_,hc_⟩:∃ c_,OrbH w.heap.size c_ wg gO gM n' _ _ _ _ _ _ _∧c_ gl = 8:=⟨_,HP,HCN⟩
         have HH:=Aside0.mk hh_;have HC:=Aside0.mk hc_;have BL:=BL2;have HB:=HB3
         clear hh_ hc_ BL2 HB3 HP HCN hne_
         obtain ⟨AF,cF,eF⟩:=Kd.R_slice HH.out.hF
         subst eF
         go_upto_region 19 with (fail)
         have hco_:wg.cell? ⟨gO,2,none⟩ = some (.slice AF s'.F.length cF):=(blk_cell HH.out.hO 2).trans rfl
         have hfo_:=blk_frozen HH.out.hO 2
         go_upto_region 20 with (first | ((with_reducible refine gate_builtin (b:=.append) (xs:=#[.tmp 102,.tmp 104]) rfl ?_);at_builtin;refine Kd.R_append (Kd.int .i64) (w0:=w) w.heap.size rfl (.tmp 102) (.tmp 104) 22 3 (.int .i64 0) 8 rfl Tryz.underlying22 info3 rfl (by decide) (by omega) (.slice AF s'.F.length cF) s'.F (x7) [.int .i64 (x7)] (fun k_=>rcl wg.heap.size colwg 2 k_ = 2) (fun _=>False) rfl rfl rfl (fun _ hk=>hk.elim) (fun k_ hk=>rcl_new hk) (R_col HH.out.hF (fun k_ hk=>rcl_old hk)) HB.out HB.out.size (by have:=LN.out;omega) ?_;intro v3 wh ho hb hg hat;obtain ⟨Anv3,cnv3,env3⟩:=Kd.R_slice ho;subst env3;rw [List.length_append,List.length_singleton] at ho;have HO19:=(B_gr HH.out.hO HH.out.cO hg HH.out.hF.1 (by decide)).1;have HC3:=Aside0.mk (B_gr BL.out HC.out hg HH.out.hF.1 (by decide));have HP:=HH.out.putF hg ho;have HB2:=Aside0.mk hb;clear ho hb hg hat hco_ hfo_;have hs19:wh.cell? ⟨gO,2,none⟩ = some (.slice AF s'.F.length cF):=(blk_cell HO19 2).trans rfl;have hf19:=blk_frozen HO19 2))
         clear hs19 hf19
         have hne_:gl≠gO:=fun e=>by have a1:=HC3.out.2;have a2:=HP.cO;rw [e] at a1;omega
         have HB3:=Aside0.mk (below_set (g:=gO) (j:=2) (v:=(.slice Anv3 (s'.F.length + 1) cnv3)) HB2.out HP.bO)
         have BL2:=Aside0.mk (put_far HC3.out.1 hne_ 2 (.slice Anv3 (s'.F.length + 1) cnv3))
         have HCN:=HC3.out.2
         clear HH BL HB HC HC3 HB2 HO19
         generalize hwc:wh.setCell ⟨gO,2,none⟩ (.slice Anv3 (s'.F.length + 1) cnv3) = wi at HP HB3 BL2 ⊢
         clear hwc
         obtain ⟨colwi,hh_,hc_⟩:∃ c_,OrbH w.heap.size c_ wi gO gM n' _ _ _ _ _ _ _∧c_ gl = 8:=⟨_,HP,HCN⟩
         have HH:=Aside0.mk hh_;have HC:=Aside0.mk hc_;have BL:=BL2;have HB:=HB3
         clear hh_ hc_ BL2 HB3 HP HCN hne_
         obtain ⟨AB,cB,eB⟩:=Kd.R_slice HH.out.hB
         subst eB
         have hco_:wi.cell? ⟨gO,3,none⟩ = some (.slice AB s'.B.length cB):=(blk_cell HH.out.hO 3).trans rfl
         have hfo_:=blk_frozen HH.out.hO 3
         go_upto_region 21 with (first | ((with_reducible refine gate_builtin (b:=.append) (xs:=#[.tmp 112,.tmp 114]) rfl ?_);at_builtin;refine Kd.R_append (Kd.int .u8) (w0:=w) w.heap.size rfl (.tmp 112) (.tmp 114) 48 5 (.int .u8 0) 1 rfl Tryz.underlying48 info5 rfl (by decide) (by omega) (.slice AB s'.B.length cB) s'.B (84) [.int .u8 (84)] (fun k_=>rcl wi.heap.size colwi 3 k_ = 3) (fun _=>False) rfl rfl rfl (fun _ hk=>hk.elim) (fun k_ hk=>rcl_new hk) (R_col HH.out.hB (fun k_ hk=>rcl_old hk)) HB.out HB.out.size (by have:=LN.out;omega) ?_;intro v4 wj ho hb hg hat;obtain ⟨Anv4,cnv4,env4⟩:=Kd.R_slice ho;subst env4;rw [List.length_append,List.length_singleton] at ho;have HO19:=(B_gr HH.out.hO HH.out.cO hg HH.out.hB.1 (by decide)).1;have HC3:=Aside0.mk (B_gr BL.out HC.out hg HH.out.hB.1 (by decide));have HP:=HH.out.putB hg ho;have HB2:=Aside0.mk hb;clear ho hb hg hat hco_ hfo_;have hs19:wj.cell? ⟨gO,3,none⟩ = some (.slice AB s'.B.length cB):=(blk_cell HO19 3).trans rfl;have hf19:=blk_frozen HO19 3))
         clear hs19 hf19
         have hne_:gl≠gO:=fun e=>by have a1:=HC3.out.2;have a2:=HP.cO;rw [e] at a1;omega
         have HB3:=Aside0.mk (below_set (g:=gO) (j:=3) (v:=(.slice Anv4 (s'.B.length + 1) cnv4)) HB2.out HP.bO)
         have BL2:=Aside0.mk (put_far HC3.out.1 hne_ 3 (.slice Anv4 (s'.B.length + 1) cnv4))
         have HCN:=HC3.out.2
         clear HH BL HB HC HC3 HB2 HO19
         generalize hwc:wj.setCell ⟨gO,3,none⟩ (.slice Anv4 (s'.B.length + 1) cnv4) = wk at HP HB3 BL2 ⊢
         clear hwc
         obtain ⟨colwk,hh_,hc_⟩:∃ c_,OrbH w.heap.size c_ wk gO gM n' _ _ _ _ _ _ _∧c_ gl = 8:=⟨_,HP,HCN⟩
         have HH:=Aside0.mk hh_;have HC:=Aside0.mk hc_;have BL:=BL2;have HB:=HB3
         clear hh_ hc_ BL2 HB3 HP HCN hne_
         generalize hcc:colwk = colc at HH HC
         clear hcc
         go_upto_region 21 with (fail)
         replace HH:=Aside0.mk (HH.out.below (below_drew1 (Below.refl _ _)))
         replace BL:=Aside0.mk (blk_drew BL.out)
         replace HB:=Aside0.mk (below_drew1 HB.out)
         refine start_ (n:=15) (S:=fun w'=>w'.cell? ⟨gO,4,none⟩ = some (.map (some gM))∧w'.heap[gM]? = some (mapO n' vT' vS')) (ds:=[14]) (bl_ 15 0) (by kernel_rfl) rfl (by kernel_rfl) ⟨(blk_cell HH.out.hO 4).trans rfl,HH.out.hM⟩ (fun hHeld=>?_)
         refine with_tabW orb_tab21 orb_bits21 (fun HT_ HW_=>?_)
         generalize wk.drew = wl at HH BL HB hHeld ⊢
         refine pu_ 0 (some 118) (bl_ 15 1) HT_ ?_
         refine pu_ 1 (some 119) (bl_ 15 3) HT_ ?_
         refine pu_ 2 (some 120) (bl_ 15 7) HT_ ?_
         refine ta_ 3 (some 121) (bl_ 15 15) HT_ HW_ hHeld ?_
         refine pu_ 4 (some 122) (bl_ 15 31) HT_ ?_
         refine pu_ 5 (some 123) (bl_ 15 63) HT_ ?_
         refine pu_ 6 (some 124) (bl_ 15 127) HT_ ?_
         refine pu_ 7 (some 125) (bl_ 15 255) HT_ ?_
         refine ta_ 8 (some 126) (bl_ 15 511) HT_ HW_ hHeld ?_
         refine pu_ 9 (some 127) (bl_ 15 1023) HT_ ?_
         have hlk:∀ w',w'.heap[gM]? = some (mapO n' vT' vS')→(Instr.lookup 49 (.map (some gM)) (.int .u8 84) false).run Tryz.prog w' = .ok vT' w':=fun w' h_=>by
          have hn:=hn0.out
          have:=look_T h_ (by omega)
          rw [HH.out.look.1] at this
          exact this
         refine ta_ 10 (some 128) (v:=vT') (bl_ 15 2047) HT_ HW_ hHeld ?_ (hy:=Or.inl ⟨by rfl,fun w' hs_=>?_⟩)
         rotate_left
         ·have hq:=hlk w' hs_.2
          go_simp
         clear hlk
         refine pu_ 11 (some 129) (bl_ 15 4095) HT_ ?_
         refine on_ 12 (some 130) (bl_ 15 8191) HT_ (fun K hK=>?_)
         refine value_ (w1:=?_) (v:=?_) (by rfl) rfl ?_ ?_
         rotate_left 2
         ·go_simp
          constructor
          ·rfl
          ·rfl
         refine hK.out _ _ ⟨((below_alloc (Below.refl _ _) _).cell (World.block_lt_of_cell? _ _ hHeld.1)).trans hHeld.1,blk_alloc hHeld.2 _⟩ (fun hHeld=>?_)
         clear hK K
         refine no_ (some 130) ?_
         refine on_ 13 (some 131) (bl_ 15 16383) HT_ (fun K hK=>?_)
         refine Kd.R_append_step (Kd.int .i64) (w0:=w) w.heap.size (by rfl) (.tmp 128) (.tmp 130) 22 3 (.int .i64 0) 8 rfl Tryz.underlying22 info3 rfl (by decide) (by omega) vT' s'.T ((s'.L.length:Int)) [.int .i64 ((s'.L.length:Int))] (fun k_=>rcl wl.heap.size colc 4 k_ = 4) (fun _=>False) rfl rfl rfl (fun _ hk=>hk.elim) (fun k_ hk=>rcl_new hk) (R_col HH.out.hT (fun k_ hk=>rcl_old hk)) HB.out HB.out.size (by have:=LN.out;omega) ?_
         intro v1 wlb ho hb hg hat
         have HP:=HH.out.putT hg ho
         have HM:=Aside0.mk HP.1
         have HO19:=(B_gr HH.out.hO HH.out.cO hg HH.out.hT.1 (by decide)).1
         have HC3:=Aside0.mk (B_gr BL.out HC.out hg HH.out.hT.1 (by decide))
         replace HH:=Aside0.mk HP.2
         clear HP
         have HB2:=Aside0.mk hb
         refine hK.out _ _ ⟨(blk_cell HO19 4).trans rfl,HM.out⟩ (fun hHeld=>?_)
         clear hK K ho hb hg hat HO19
         refine no_ (some 131) ?_
         refine last_ (i:=14) (N:=none) (bl_ 15 32767) rfl rfl (one_of HT_.out (by kernel_rfl)) (by decide) (fun K hK=>?_)
         have hput:(Instr.mapUpdate 49 (.map (some gM)) (.int .u8 84) v1).run Tryz.prog wlb = .ok () (setMap wlb gM (max n' 1) v1 vS'):=put_T HM.out hn0.out v1
         refine skip_ (w1:=setMap wlb gM (max n' 1) v1 vS') (by rfl) rfl ?_ ?_
         ·go_simp
         refine hK.out _ _ ?_
         clear hK K hput
         refine done_ (done_of HT_.out (by kernel_rfl)) ?_
         try go_wp2
         have hgm:gl≠gM:=fun e=>by have a1:=HC3.out.2;have a2:=HH.out.cM;rw [e] at a1;omega
         have BL2:=Aside0.mk ((setMap_far (n:=max n' 1) v1 vS' hgm).trans HC3.out.1)
         have HB3:=Aside0.mk (setMap_below (n:=max n' 1) v1 vS' HB2.out HH.out.bM)
         go_roundg 1
         case measure=>have:=HG.out;omega
         case rel=>exact ⟨1,max n' 1,_,_,_,_,_,_,_,_,(by first | rfl | (simp;done) | (simp [*];done)),⟨by omega⟩,⟨by omega⟩,HT,⟨⟨fun e=>absurd e (by decide),fun _=>by have:=hn0.out;omega,fun e=>absurd e (by decide)⟩⟩,⟨HC3.out.2⟩,BL2,HH,HB3⟩
       ·have H:=HS.out
        clear HS
        rw [if_neg hj0] at H
        have hjb:=decide_eq_false hj0
        have hlen:=cp_ H
        replace H:=Option.some.inj (ca_ H)
        subst H
        rw [if_pos rfl,if_pos rfl] at HT
        have LN:=Aside0.mk hlen
        clear hlen SL13 Y0 Y1 BX NE GX
        generalize hcc:rcl w13.heap.size col' 0 = colc at HH HC
        clear hcc
        go_upto_region 21 with (fail)
        replace HH:=Aside0.mk (HH.out.below (below_drew1 (Below.refl _ _)))
        replace BL:=Aside0.mk (blk_drew BL.out)
        replace HB:=Aside0.mk (below_drew1 HB.out)
        refine start_ (n:=15) (S:=fun w'=>w'.cell? ⟨gO,4,none⟩ = some (.map (some gM))∧w'.heap[gM]? = some (mapO n' vT' vS')) (ds:=[14]) (bl_ 15 0) (by kernel_rfl) rfl (by kernel_rfl) ⟨(blk_cell HH.out.hO 4).trans rfl,HH.out.hM⟩ (fun hHeld=>?_)
        refine with_tabW orb_tab21 orb_bits21 (fun HT_ HW_=>?_)
        generalize w17.drew = w18 at HH BL HB hHeld ⊢
        refine pu_ 0 (some 118) (bl_ 15 1) HT_ ?_
        refine pu_ 1 (some 119) (bl_ 15 3) HT_ ?_
        refine pu_ 2 (some 120) (bl_ 15 7) HT_ ?_
        refine ta_ 3 (some 121) (bl_ 15 15) HT_ HW_ hHeld ?_
        refine pu_ 4 (some 122) (bl_ 15 31) HT_ ?_
        refine pu_ 5 (some 123) (bl_ 15 63) HT_ ?_
        refine pu_ 6 (some 124) (bl_ 15 127) HT_ ?_
        refine pu_ 7 (some 125) (bl_ 15 255) HT_ ?_
        refine ta_ 8 (some 126) (bl_ 15 511) HT_ HW_ hHeld ?_
        refine pu_ 9 (some 127) (bl_ 15 1023) HT_ ?_
        have hlk:∀ w',w'.heap[gM]? = some (mapO n' vT' vS')→(Instr.lookup 49 (.map (some gM)) (.int .u8 84) false).run Tryz.prog w' = .ok vT' w':=fun w' h_=>by
         have hn:=hn0.out
         have:=look_T h_ (by omega)
         rw [HH.out.look.1] at this
         exact this
        refine ta_ 10 (some 128) (v:=vT') (bl_ 15 2047) HT_ HW_ hHeld ?_ (hy:=Or.inl ⟨by rfl,fun w' hs_=>?_⟩)
        rotate_left
        ·have hq:=hlk w' hs_.2
         go_simp
        clear hlk
        refine pu_ 11 (some 129) (bl_ 15 4095) HT_ ?_
        refine on_ 12 (some 130) (bl_ 15 8191) HT_ (fun K hK=>?_)
        refine value_ (w1:=?_) (v:=?_) (by rfl) rfl ?_ ?_
        rotate_left 2
        ·go_simp
         constructor
         ·rfl
         ·rfl
        refine hK.out _ _ ⟨((below_alloc (Below.refl _ _) _).cell (World.block_lt_of_cell? _ _ hHeld.1)).trans hHeld.1,blk_alloc hHeld.2 _⟩ (fun hHeld=>?_)
        clear hK K
        refine no_ (some 130) ?_
        refine on_ 13 (some 131) (bl_ 15 16383) HT_ (fun K hK=>?_)
        refine Kd.R_append_step (Kd.int .i64) (w0:=w) w.heap.size (by rfl) (.tmp 128) (.tmp 130) 22 3 (.int .i64 0) 8 rfl Tryz.underlying22 info3 rfl (by decide) (by omega) vT' s'.T (j) [.int .i64 (j)] (fun k_=>rcl w18.heap.size colc 4 k_ = 4) (fun _=>False) rfl rfl rfl (fun _ hk=>hk.elim) (fun k_ hk=>rcl_new hk) (R_col HH.out.hT (fun k_ hk=>rcl_old hk)) HB.out HB.out.size (by have:=LN.out;omega) ?_
        intro v1 w18b ho hb hg hat
        have HP:=HH.out.putT hg ho
        have HM:=Aside0.mk HP.1
        have HO19:=(B_gr HH.out.hO HH.out.cO hg HH.out.hT.1 (by decide)).1
        have HC3:=Aside0.mk (B_gr BL.out HC.out hg HH.out.hT.1 (by decide))
        replace HH:=Aside0.mk HP.2
        clear HP
        have HB2:=Aside0.mk hb
        refine hK.out _ _ ⟨(blk_cell HO19 4).trans rfl,HM.out⟩ (fun hHeld=>?_)
        clear hK K ho hb hg hat HO19
        refine no_ (some 131) ?_
        refine last_ (i:=14) (N:=none) (bl_ 15 32767) rfl rfl (one_of HT_.out (by kernel_rfl)) (by decide) (fun K hK=>?_)
        have hput:(Instr.mapUpdate 49 (.map (some gM)) (.int .u8 84) v1).run Tryz.prog w18b = .ok () (setMap w18b gM (max n' 1) v1 vS'):=put_T HM.out hn0.out v1
        refine skip_ (w1:=setMap w18b gM (max n' 1) v1 vS') (by rfl) rfl ?_ ?_
        ·go_simp
        refine hK.out _ _ ?_
        clear hK K hput
        refine done_ (done_of HT_.out (by kernel_rfl)) ?_
        try go_wp2
        have hgm:gl≠gM:=fun e=>by have a1:=HC3.out.2;have a2:=HH.out.cM;rw [e] at a1;omega
        have BL2:=Aside0.mk ((setMap_far (n:=max n' 1) v1 vS' hgm).trans HC3.out.1)
        have HB3:=Aside0.mk (setMap_below (n:=max n' 1) v1 vS' HB2.out HH.out.bM)
        go_roundg 1
        case measure=>have:=HG.out;omega
        case rel=>exact ⟨1,max n' 1,_,_,_,_,_,_,_,_,(by first | rfl | (simp;done) | (simp [*];done)),⟨by omega⟩,⟨by omega⟩,HT,⟨⟨fun e=>absurd e (by decide),fun _=>by have:=hn0.out;omega,fun e=>absurd e (by decide)⟩⟩,⟨HC3.out.2⟩,BL2,HH,HB3⟩
      ·skip
       have hn0:=Aside0.mk (HN.out.2.1 rfl)
       have H:=AZ.out
       clear AZ
       change innerO k1 x7 (83 :: []) s' = some z at H
       simp only [innerO] at H
       obtain ⟨zz,AS,H⟩:=bi_ H
       have HT:=Aside0.mk H
       have H:=AS.out
       clear AS
       unfold stpO at H
       have hi0:=cp_ H
       replace H:=ca_ H
       have hi1:=cp_ H
       replace H:=ca_ H
       obtain ⟨⟨x1,x2⟩,AX,H⟩:=bi_ H
       obtain ⟨⟨y1',y2',yb⟩,AY,H⟩:=bi_ H
       obtain ⟨j,AJ,H⟩:=bi_ H
       dsimp only at H AY AJ
       have HS:=Aside0.mk H
       clear H
       obtain ⟨adx,Ax0,cx0,Ax1,cx1,ex,hx0,hx1,hlx0,hix0,hlx1,hix1⟩:=at_T27 (Kd.S_reads' HH.out.hL).2.2 x7 hi0 hi1
       cases ex
       have X0:=Aside0.mk hix0;have X1:=Aside0.mk hix1;have LX0:=Aside0.mk hlx0;have LX1:=Aside0.mk hlx1
       clear hix0 hix1 hlx0 hlx1
       have ti0:=eq_true hi0
       have ti1:=eq_true hi1
       have td1:=decide_eq_true hi1
       go_upto_region 12 with (first | ((with_reducible refine gate_callee (f:=40) rfl ?_);refine gL_ (some 52) Tryz.func40 #[.agg #[.slice Ax0 (rd_T27 s'.L x7).f0.length cx0,.slice Ax1 (rd_T27 s'.L x7).f1.length cx1],.int .u8 83] rfl qa_ ?_;(with_reducible refine (Z11.calls k1 _ _ (rd_T27 s'.L x7).f0 _ _ (rd_T27 s'.L x7).f1 83 x1 x2 _ X0.out LX0.out X1.out LX1.out AX.out).mono ?_);rintro e w13 ⟨v0,v1,rfl,ho0,ho1,hb⟩;refine ⟨_,rfl,?_⟩;replace HH:=Aside0.mk (HH.out.below hb);replace BL:=bb_ BL hb;replace HB:=b1_ hb;clear hb;obtain ⟨Al0,cl0,el0⟩:=Kd.R_slice ho0;subst el0;obtain ⟨Al1,cl1,el1⟩:=Kd.R_slice ho1;subst el1;have LT0:=Aside0.mk (Kd.R_reads' ho0).2;have LT1:=Aside0.mk (Kd.R_reads' ho1).2;clear ho0 ho1) | ((with_reducible refine gate_callee (f:=39) rfl ?_);refine gL_ (some 53) Tryz.func39 #[.agg #[.slice Al0 x1.length cl0,.slice Al1 x2.length cl1]] rfl qa_ ?_;(with_reducible refine (Z62.calls k1 _ _ x1 _ _ x2 y1' y2' yb _ LT0.out.2 LT0.out.1 LT1.out.2 LT1.out.1 AY.out).mono ?_);rintro e w14 ⟨v0,v1,rfl,ho0,ho1,hb⟩;refine ⟨_,rfl,?_⟩;have ZC:=Aside0.mk (below_size hB_:w.heap.size≤w13.heap.size);have ZD:=Aside0.mk hb.size;have SL13:=Aside0.mk (Kd.S_below (Kd.S_mono (ok':=fun k_=>col' k_ = 0∧k_ < w13.heap.size) (Kd.S_bound HH.out.hL) (fun k_ hk_=>⟨hk_.1,hk_.2.2.1⟩)) hb);replace HH:=Aside0.mk ((HH.out.recol (col':=rcl w13.heap.size col' 0) (fun k hk=>rcl_old hk)).below hb);replace HC:=Aside0.mk ((rcl_old (blk_lt BL.out)).trans HC.out:rcl w13.heap.size col' 0 gl = 8);replace BL:=bb_ BL hb;replace HB:=b1_ hb;clear hb;obtain ⟨Ay0,cy0,ey0⟩:=Kd.R_slice ho0;subst ey0;obtain ⟨Ay1,cy1,ey1⟩:=Kd.R_slice ho1;subst ey1;have Y0:=Aside0.mk ho0;have Y1:=Aside0.mk ho1;clear ho0 ho1) | ((with_reducible refine gate_dst (N:=10) rfl ?_);refine bx_ 10 #[.slice none 0 0,.slice none 0 0] 27 ?_;intro gx hg w15 hbox hb;have GX:=Aside0.mk (show w14.heap.size≤gx from Nat.le_of_eq hg.symm);have BX:=Aside0.mk hbox;have B3:=Aside0.mk hb;clear hb hbox hg;obtain ⟨hcf0,hcf1,hff0,hff1⟩:=c2_ BX))
       obtain ⟨hbox,hkp,hB2⟩:=box_store (w0:=w14) BX.out (.slice Ay0 y1'.length cy0) (.slice Ay1 y2'.length cy1) B3.out GX.out
       generalize hw:((w15.setCell ⟨gx,0,none⟩ (.slice Ay0 y1'.length cy0)).setCell ⟨gx,1,none⟩ (.slice Ay1 y2'.length cy1)) = w16 at hbox hkp hB2 ⊢
       clear hw hcf0 hcf1 hff0 hff1 hcl0 hcl1 hfl0 hfl1 hco0 hfo0 hx0 hx1 X0 X1 LX0 LX1 LT0 LT1
       have NE:=Aside0.mk (show NeRow (.slice Ay0 y1'.length cy0) (.slice Ay1 y2'.length cy1) from fun k_ e1_ e2_=>(Y0.out.1 k_ e1_) e2_.symm)
       replace HH:=Aside0.mk (HH.out.below hB2)
       replace BL:=Aside0.mk (blk_below BL.out hB2)
       replace Y0:=Aside0.mk (Kd.R_below (Kd.R_bound Y0.out) hB2)
       replace Y1:=Aside0.mk (Kd.R_below (Kd.R_bound Y1.out) hB2)
       replace SL13:=Aside0.mk (Kd.S_below SL13.out hB2)
       replace HB:=Aside0.mk (below_step HB.out hB2)
       replace BX:=Aside0.mk (show w16.heap[gx]? = some (.cells #[.slice Ay0 y1'.length cy0,.slice Ay1 y2'.length cy1] 27 (0,0)) from hbox)
       have ZE:=Aside0.mk hB2.size
       clear hbox hkp hB2 B3
       obtain ⟨hcx0,hcx1,hfx0,hfx1⟩:=c2_ BX
       have hLr:=(Kd.S_reads' HH.out.hL).2
       have RL:=Aside0.mk hLr
       clear hLr
       go_upto_region 13 with (first | ((with_reducible refine gate_callee (f:=41) rfl ?_);refine gL_ (some 58) Tryz.func41 #[.pointer (some ⟨gO,0,none⟩),.agg #[.slice Ay0 y1'.length cy0,.slice Ay1 y2'.length cy1]] rfl qa_ ?_;(with_reducible refine (index_calls k1 gO _ _ s'.L _ _ _ _ _ _ y1' _ _ y2' j _ RL.out.2 RL.out.1 (Kd.R_reads' Y0.out).2.2 (Kd.R_reads' Y0.out).2.1 (Kd.R_reads' Y1.out).2.2 (Kd.R_reads' Y1.out).2.1 HH.out.hO AJ.out).mono ?_);rintro e w17 ⟨rfl,hb⟩;refine ⟨_,rfl,?_⟩;have ZF:=Aside0.mk hb.size;replace HH:=Aside0.mk (HH.out.below hb);replace BL:=bb_ BL hb;replace BX:=bb_ BX hb;replace Y0:=Aside0.mk (Kd.R_below Y0.out hb);replace Y1:=Aside0.mk (Kd.R_below Y1.out hb);replace SL13:=Aside0.mk (Kd.S_below SL13.out hb);replace HB:=b1_ hb;clear hb))
       clear hcx0 hcx1 hfx0 hfx1 RL
       have ZW:=Aside0.mk (show w13.heap.size≤w17.heap.size from Nat.le_trans ZD.out (Nat.le_trans ZE.out ZF.out))
       clear ZD ZE ZF
       by_cases hj0:j < 0
       ·have H:=HS.out
        clear HS
        rw [if_pos hj0] at H
        have hjb:=decide_eq_true hj0
        have hco0:w17.cell? ⟨gO,0,none⟩ = some (.slice (some adx) s'.L.length cL'):=(blk_cell HH.out.hO 0).trans rfl
        have hfo0:=blk_frozen HH.out.hO 0
        by_cases hq5:(s'.L.length:Int) = 120
        ·rw [if_pos hq5] at H
         obtain rfl:=Option.some.inj H
         clear H
         have hzn:z = none:=(Option.some.inj HT.out).symm
         subst hzn
         have hRn:R = none:=(Option.some.inj HR.out).symm
         subst hRn
         have e5b:((s'.L.length:Int) == 120) = true:=beq_iff_eq.mpr hq5
         clear hq5
         go_wp2
         go_ret2
         exact ⟨qb_,hB_⟩
        ·rw [if_neg hq5] at H
         have e5b:((s'.L.length:Int) == 120) = false:=beq_eq_false_iff_ne.mpr hq5
         clear hq5
         have hlen:=cp_ H
         replace H:=ca_ H
         have hiW:=cp_ H
         replace H:=ca_ H
         have hsz:=cp_ H
         replace H:=Option.some.inj (ca_ H)
         subst H
         rw [if_neg (by decide),if_neg (by decide)] at HT
         have LN:=Aside0.mk hlen
         have LS:=Aside0.mk hsz
         clear hlen hsz
         go_upto_region 17 with (fail)
         clear hco0 hfo0 e5b
         replace HH:=Aside0.mk (HH.out.below (below_drew1 (Below.refl _ _)))
         replace BL:=Aside0.mk (blk_drew BL.out)
         replace BX:=Aside0.mk (blk_drew BX.out)
         replace HB:=Aside0.mk (below_drew1 HB.out)
         replace Y0:=Aside0.mk (Kd.R_bound (Kd.R_drew Y0.out))
         replace Y1:=Aside0.mk (Kd.R_bound (Kd.R_drew Y1.out))
         replace SL13:=Aside0.mk (Kd.S_drew SL13.out)
         replace ZW:=Aside0.mk (show w13.heap.size≤w17.drew.heap.size from ZW.out)
         refine start_ (n:=11) (S:=fun w'=>w'.cell? ⟨gO,0,none⟩ = some (.slice (some adx) s'.L.length cL')∧w'.cell? ⟨gx,0,none⟩ = some (.slice Ay0 y1'.length cy0)∧w'.cell? ⟨gx,1,none⟩ = some (.slice Ay1 y2'.length cy1)) (ds:=[7,10]) (bl_ 11 0) (by kernel_rfl) rfl (by kernel_rfl) ⟨(blk_cell HH.out.hO 0).trans rfl,(blk_cell BX.out 0).trans rfl,(blk_cell BX.out 1).trans rfl⟩ (fun hHeld=>?_)
         refine with_tabW orb_tab17 orb_bits17 (fun HT_ HW_=>?_)
         generalize w17.drew = wa at HH BL BX HB Y0 Y1 SL13 ZW hHeld ⊢
         refine pu_ 0 (some 68) (bl_ 11 1) HT_ ?_
         refine pu_ 1 (some 69) (bl_ 11 3) HT_ ?_
         refine pu_ 2 (some 70) (bl_ 11 7) HT_ ?_
         refine pu_ 3 (some 71) (bl_ 11 15) HT_ ?_
         refine ta_ 4 (some 72) (bl_ 11 31) HT_ HW_ hHeld ?_
         refine ta_ 5 (some 73) (bl_ 11 63) HT_ HW_ hHeld ?_
         refine on_ 6 (some 74) (bl_ 11 127) HT_ (fun K hK=>?_)
         refine value_ (w1:=?_) (v:=?_) (by rfl) rfl ?_ ?_
         rotate_left 2
         ·go_simp
          constructor
          ·rfl
          ·rfl
         refine hK.out _ _ ⟨((below_alloc (Below.refl _ _) _).cell (World.block_lt_of_cell? _ _ hHeld.1)).trans hHeld.1,((below_alloc (Below.refl _ _) _).cell (World.block_lt_of_cell? _ _ hHeld.2.1)).trans hHeld.2.1,((below_alloc (Below.refl _ _) _).cell (World.block_lt_of_cell? _ _ hHeld.2.2)).trans hHeld.2.2⟩ (fun hHeld=>?_)
         clear hK K
         refine no_ (some 74) ?_
         refine last_ (i:=7) (N:=some 75) (bl_ 11 255) rfl rfl (one_of HT_.out (by kernel_rfl)) (by decide) (fun K hK=>?_)
         refine Kd.S_append_step k27 (w0:=w) w.heap.size (by rfl) (.tmp 72) (.tmp 74) 37 27 (.agg #[(.slice none 0 0),(.slice none 0 0)]) 48 rfl Tryz.underlying37 info27 rfl (by decide) (by omega) (.slice (some adx) s'.L.length cL') s'.L (⟨y1',y2'⟩:S27) [.slice Ay0 y1'.length cy0,.slice Ay1 y2'.length cy1] (fun k_=>rcl wa.heap.size (rcl w13.heap.size col' 0) 0 k_ = 0) (fun k_=>w13.heap.size≤k_∧k_ < wa.heap.size) rfl rfl ?aP ?aQ (fun k_ hk=>rcl_new hk) ?aO HB.out HB.out.size (by have:=LN.out;omega) ?_
         case aP=>exact k27_mkM _ _ _ (⟨y1',y2'⟩:S27) (Kd.R_mono (Kd.R_lower Y0.out ZC.out) (fun k_ hk=>⟨hk.2.1,hk.2.2.1⟩)) (Kd.R_mono (Kd.R_lower Y1.out ZC.out) (fun k_ hk=>⟨hk.2.1,hk.2.2.1⟩)) NE.out
         case aQ=>exact fun k_ hk=>⟨(rcl_old hk.2).trans (rcl_new hk.1),fun e=>by have:=((Kd.S_R SL13.out).1 k_ e.symm).2;have:=hk.1;omega⟩
         case aO=>exact Kd.S_mono SL13.out (fun k_ hk=>⟨(rcl_old (Nat.lt_of_lt_of_le hk.2 ZW.out)).trans ((rcl_old hk.2).trans hk.1),fun h_=>by have:=hk.2;have:=h_.1;omega⟩)
         intro v1 wb ho hb hg hat
         obtain ⟨An1,cn1,en1⟩:=Kd.S_slice ho
         subst en1
         have HO19:=(B_gr HH.out.hO HH.out.cO hg (Kd.S_R HH.out.hL).1 (by decide)).1
         have HC3:=Aside0.mk (B_gr BL.out HC.out hg (Kd.S_R HH.out.hL).1 (by decide))
         have HP:=HH.out.putL hg ho
         have HB2:=Aside0.mk hb
         refine hK.out _ _ ?_
         clear hK K ho hb hg hat SL13 Y0 Y1 BX NE GX
         refine no_ (some 75) ?_
         refine pu_ 8 (some 76) (bl_ 11 511) HT_ ?_
         refine pu_ 9 (some 77) (bl_ 11 1023) HT_ ?_
         refine last_ (i:=10) (N:=none) (bl_ 11 2047) rfl rfl (one_of HT_.out (by kernel_rfl)) (by decide) (fun K hK=>?_)
         have hs19:wb.cell? ⟨gO,0,none⟩ = some (.slice (some adx) s'.L.length cL'):=(blk_cell HO19 0).trans rfl
         have hf19:=blk_frozen HO19 0
         refine skip_ (w1:=wb.setCell ⟨gO,0,none⟩ (.slice An1 (s'.L ++ [(⟨y1',y2'⟩:S27)]).length cn1)) (by rfl) rfl ?_ ?_
         ·go_simp
         refine hK.out _ _ ?_
         clear hK K hs19 hf19
         refine done_ (done_of HT_.out (by kernel_rfl)) ?_
         have hne_:gl≠gO:=fun e=>by have a1:=HC3.out.2;have a2:=HP.cO;rw [e] at a1;omega
         have HB3:=Aside0.mk (below_set (g:=gO) (j:=0) (v:=(.slice An1 (s'.L ++ [(⟨y1',y2'⟩:S27)]).length cn1)) HB2.out HP.bO)
         have BL2:=Aside0.mk (put_far HC3.out.1 hne_ 0 (.slice An1 (s'.L ++ [(⟨y1',y2'⟩:S27)]).length cn1))
         have HCN:=HC3.out.2
         clear HH BL HB HC HC3 HB2 HO19
         generalize hwc:wb.setCell ⟨gO,0,none⟩ (.slice An1 (s'.L ++ [(⟨y1',y2'⟩:S27)]).length cn1) = wc at HP HB3 BL2 ⊢
         clear hwc
         obtain ⟨colwc,hh_,hc_⟩:∃ c_,OrbH w.heap.size c_ wc gO gM n' _ _ _ _ _ _ _∧c_ gl = 8:=⟨_,HP,HCN⟩
         have HH:=Aside0.mk hh_;have HC:=Aside0.mk hc_;have BL:=BL2;have HB:=HB3
         clear hh_ hc_ BL2 HB3 HP HCN hne_
         obtain ⟨AW,cW,eW⟩:=Kd.R_slice HH.out.hW
         subst eW
         go_upto_region 18 with (fail)
         replace HH:=Aside0.mk (HH.out.below (below_drew1 (Below.refl _ _)))
         replace BL:=Aside0.mk (blk_drew BL.out)
         replace HB:=Aside0.mk (below_drew1 HB.out)
         obtain ⟨adw,ew,hxw⟩:=Kd.at_string (Kd.R_reads' HH.out.hW).2.2 x7 hi0 hiW
         cases ew
         have tw1:=eq_true hiW
         have tw2:=decide_eq_true hiW
         refine start_ (n:=21) (S:=fun w'=>w'.cell? ⟨gO,1,none⟩ = some (.slice (some adw) s'.W.length cW)∧w'.cell? (adw.add (x7).toNat) = some (.string (rdOf ByteArray.empty s'.W x7))) (ds:=[17,20]) (bl_ 21 0) (by kernel_rfl) rfl (by kernel_rfl) ⟨(blk_cell HH.out.hO 1).trans rfl,hxw⟩ (fun hHeld=>?_)
         refine with_tabW orb_tab18 orb_bits18 (fun HT_ HW_=>?_)
         clear hxw
         generalize wc.drew = wd at HH BL HB hHeld ⊢
         refine pu_ 0 (some 78) (bl_ 21 1) HT_ ?_
         refine pu_ 1 (some 79) (bl_ 21 3) HT_ ?_
         refine pu_ 2 (some 80) (bl_ 21 7) HT_ ?_
         refine pu_ 3 (some 81) (bl_ 21 15) HT_ ?_
         refine ta_ 4 (some 82) (bl_ 21 31) HT_ HW_ hHeld ?_
         refine pu_ 5 (some 83) (bl_ 21 63) HT_ ?_
         refine pu_ 6 (some 84) (bl_ 21 127) HT_ ?_
         refine pu_ 7 (some 85) (bl_ 21 255) HT_ ?_
         refine ta_ 8 (some 86) (bl_ 21 511) HT_ HW_ hHeld ?_
         refine pu_ 9 (some 87) (bl_ 21 1023) HT_ ?_
         refine pu_ 10 (some 88) (bl_ 21 2047) HT_ ?_
         refine ta_ 11 (some 89) (bl_ 21 4095) HT_ HW_ hHeld ?_
         refine pu_ 12 (some 90) (bl_ 21 8191) HT_ ?_
         refine on_ 13 (some 91) (bl_ 21 16383) HT_ (fun K hK=>?_)
         refine Kd.R_lit_step (Kd.int .u8) _ 5 ?hg (N:=91) ?hd (xs:=([83]:List Int)) (inner:=[.int .u8 83]) (ok:=fun _=>True) (okp:=fun _=>True) ?hr ?hp (fun _ hk=>hk) trivial (Below.refl _ _) (Nat.le_refl _) (by simp) ?_;(case hd=>rfl);(case hg=>rfl);(case hr=>first | (go_simp;done) | (go_simp;rfl));(case hp=>exact (Reps.one (show Kd.M (Kd.int .u8) _ _ _ 83 [.int .u8 83] from rfl) (Reps.none _ _)))
         intro vq we hoq hb hg_ hnew_
         have hS1_:=(hb.cell (World.block_lt_of_cell? _ _ hHeld.1)).trans hHeld.1
         have hS2_:=(hb.cell (World.block_lt_of_cell? _ _ hHeld.2)).trans hHeld.2
         replace HH:=Aside0.mk (HH.out.below hb)
         replace BL:=bb_ BL hb
         replace HB:=b1_ hb
         have HOq:=Aside0.mk hoq
         clear hg_ hnew_ hb hoq
         refine hK.out _ _ ⟨hS1_,hS2_⟩ (fun hHeld=>?_)
         clear hK K hS1_ hS2_
         refine no_ (some 91) ?_
         refine on_ 14 (some 92) (bl_ 21 32767) HT_ (fun K hK=>?_)
         have hcv47:=own_string (P:=Tryz.prog) Tryz.underlying48 Tryz.underlying5 Tryz.underlying9 (Kd.own_of_R HOq.out)
         refine value_ (w1:=?_) (v:=?_) (by rfl) rfl ?_ ?_
         rotate_left 2
         ·go_simp
          constructor
          ·rfl
          ·rfl
         clear hcv47 HOq
         refine hK.out _ _ hHeld (fun hHeld=>?_)
         clear hK K
         refine no_ (some 92) ?_
         have hs1_:(strOfNums [(83:Int)]).size = 1:=by decide +kernel
         have tw3:(9223372036854775807 < (rdOf ByteArray.empty s'.W x7).size + (strOfNums [(83:Int)]).size) = False:=eq_false (by rw [hs1_];have:=LS.out;omega)
         clear hs1_
         refine pu_ 15 (some 93) (bl_ 21 65535) HT_ ?_
         clear tw3
         refine on_ 16 (some 94) (bl_ 21 131071) HT_ (fun K hK=>?_)
         refine value_ (w1:=?_) (v:=?_) (by rfl) rfl ?_ ?_
         rotate_left 2
         ·go_simp
          constructor
          ·rfl
          ·rfl
         refine hK.out _ _ ⟨((below_alloc (Below.refl _ _) _).cell (World.block_lt_of_cell? _ _ hHeld.1)).trans hHeld.1,((below_alloc (Below.refl _ _) _).cell (World.block_lt_of_cell? _ _ hHeld.2)).trans hHeld.2⟩ (fun hHeld=>?_)
         clear hK K
         refine no_ (some 94) ?_
         refine last_ (i:=17) (N:=some 95) (bl_ 21 262143) rfl rfl (one_of HT_.out (by kernel_rfl)) (by decide) (fun K hK=>?_)
         refine Kd.R_append_step Kd.string (w0:=w) w.heap.size (by rfl) (.tmp 82) (.tmp 94) 47 9 (.string ⟨#[]⟩) 16 rfl Tryz.underlying47 info9 rfl (by decide) (by omega) (.slice (some adw) s'.W.length cW) s'.W ((rdOf ByteArray.empty s'.W x7) ++ (strOfNums [83])) [.string ((rdOf ByteArray.empty s'.W x7) ++ (strOfNums [83]))] (fun k_=>rcl we.heap.size colwc 1 k_ = 1) (fun _=>False) rfl rfl rfl (fun _ hk=>hk.elim) (fun k_ hk=>rcl_new hk) (R_col HH.out.hW (fun k_ hk=>rcl_old hk)) HB.out HB.out.size (by have:=LN.out;omega) ?_
         intro v2 wf ho hb hg hat
         obtain ⟨An2,cn2,en2⟩:=Kd.R_slice ho
         subst en2
         have HO19:=(B_gr HH.out.hO HH.out.cO hg HH.out.hW.1 (by decide)).1
         have HC3:=Aside0.mk (B_gr BL.out HC.out hg HH.out.hW.1 (by decide))
         have HP:=HH.out.putW hg ho
         have HB2:=Aside0.mk hb
         refine hK.out _ _ ?_
         clear hK K ho hb hg hat
         refine no_ (some 95) ?_
         refine pu_ 18 (some 96) (bl_ 21 524287) HT_ ?_
         refine pu_ 19 (some 97) (bl_ 21 1048575) HT_ ?_
         refine last_ (i:=20) (N:=none) (bl_ 21 2097151) rfl rfl (one_of HT_.out (by kernel_rfl)) (by decide) (fun K hK=>?_)
         have hs19:wf.cell? ⟨gO,1,none⟩ = some (.slice (some adw) s'.W.length cW):=(blk_cell HO19 1).trans rfl
         have hf19:=blk_frozen HO19 1
         refine skip_ (w1:=wf.setCell ⟨gO,1,none⟩ (.slice An2 (s'.W ++ [(rdOf ByteArray.empty s'.W x7) ++ (strOfNums [83])]).length cn2)) (by rfl) rfl ?_ ?_
         ·go_simp
         refine hK.out _ _ ?_
         clear hK K hs19 hf19
         refine done_ (done_of HT_.out (by kernel_rfl)) ?_
         have hne_:gl≠gO:=fun e=>by have a1:=HC3.out.2;have a2:=HP.cO;rw [e] at a1;omega
         have HB3:=Aside0.mk (below_set (g:=gO) (j:=1) (v:=(.slice An2 (s'.W ++ [(rdOf ByteArray.empty s'.W x7) ++ (strOfNums [83])]).length cn2)) HB2.out HP.bO)
         have BL2:=Aside0.mk (put_far HC3.out.1 hne_ 1 (.slice An2 (s'.W ++ [(rdOf ByteArray.empty s'.W x7) ++ (strOfNums [83])]).length cn2))
         have HCN:=HC3.out.2
         clear HH BL HB HC HC3 HB2 HO19
         generalize hwc:wf.setCell ⟨gO,1,none⟩ (.slice An2 (s'.W ++ [(rdOf ByteArray.empty s'.W x7) ++ (strOfNums [83])]).length cn2) = wg at HP HB3 BL2 ⊢
         clear hwc
         obtain ⟨colwg,hh_,hc_⟩:∃ c_,OrbH w.heap.size c_ wg gO gM n' _ _ _ _ _ _ _∧c_ gl = 8:=⟨_,HP,HCN⟩
         have HH:=Aside0.mk hh_;have HC:=Aside0.mk hc_;have BL:=BL2;have HB:=HB3
         clear hh_ hc_ BL2 HB3 HP HCN hne_
         obtain ⟨AF,cF,eF⟩:=Kd.R_slice HH.out.hF
         subst eF
         go_upto_region 19 with (fail)
         have hco_:wg.cell? ⟨gO,2,none⟩ = some (.slice AF s'.F.length cF):=(blk_cell HH.out.hO 2).trans rfl
         have hfo_:=blk_frozen HH.out.hO 2
         go_upto_region 20 with (first | ((with_reducible refine gate_builtin (b:=.append) (xs:=#[.tmp 102,.tmp 104]) rfl ?_);at_builtin;refine Kd.R_append (Kd.int .i64) (w0:=w) w.heap.size rfl (.tmp 102) (.tmp 104) 22 3 (.int .i64 0) 8 rfl Tryz.underlying22 info3 rfl (by decide) (by omega) (.slice AF s'.F.length cF) s'.F (x7) [.int .i64 (x7)] (fun k_=>rcl wg.heap.size colwg 2 k_ = 2) (fun _=>False) rfl rfl rfl (fun _ hk=>hk.elim) (fun k_ hk=>rcl_new hk) (R_col HH.out.hF (fun k_ hk=>rcl_old hk)) HB.out HB.out.size (by have:=LN.out;omega) ?_;intro v3 wh ho hb hg hat;obtain ⟨Anv3,cnv3,env3⟩:=Kd.R_slice ho;subst env3;rw [List.length_append,List.length_singleton] at ho;have HO19:=(B_gr HH.out.hO HH.out.cO hg HH.out.hF.1 (by decide)).1;have HC3:=Aside0.mk (B_gr BL.out HC.out hg HH.out.hF.1 (by decide));have HP:=HH.out.putF hg ho;have HB2:=Aside0.mk hb;clear ho hb hg hat hco_ hfo_;have hs19:wh.cell? ⟨gO,2,none⟩ = some (.slice AF s'.F.length cF):=(blk_cell HO19 2).trans rfl;have hf19:=blk_frozen HO19 2))
         clear hs19 hf19
         have hne_:gl≠gO:=fun e=>by have a1:=HC3.out.2;have a2:=HP.cO;rw [e] at a1;omega
         have HB3:=Aside0.mk (below_set (g:=gO) (j:=2) (v:=(.slice Anv3 (s'.F.length + 1) cnv3)) HB2.out HP.bO)
         have BL2:=Aside0.mk (put_far HC3.out.1 hne_ 2 (.slice Anv3 (s'.F.length + 1) cnv3))
         have HCN:=HC3.out.2
         clear HH BL HB HC HC3 HB2 HO19
         generalize hwc:wh.setCell ⟨gO,2,none⟩ (.slice Anv3 (s'.F.length + 1) cnv3) = wi at HP HB3 BL2 ⊢
         clear hwc
         obtain ⟨colwi,hh_,hc_⟩:∃ c_,OrbH w.heap.size c_ wi gO gM n' _ _ _ _ _ _ _∧c_ gl = 8:=⟨_,HP,HCN⟩
         have HH:=Aside0.mk hh_;have HC:=Aside0.mk hc_;have BL:=BL2;have HB:=HB3
         clear hh_ hc_ BL2 HB3 HP HCN hne_
         obtain ⟨AB,cB,eB⟩:=Kd.R_slice HH.out.hB
         subst eB
         have hco_:wi.cell? ⟨gO,3,none⟩ = some (.slice AB s'.B.length cB):=(blk_cell HH.out.hO 3).trans rfl
         have hfo_:=blk_frozen HH.out.hO 3
         go_upto_region 21 with (first | ((with_reducible refine gate_builtin (b:=.append) (xs:=#[.tmp 112,.tmp 114]) rfl ?_);at_builtin;refine Kd.R_append (Kd.int .u8) (w0:=w) w.heap.size rfl (.tmp 112) (.tmp 114) 48 5 (.int .u8 0) 1 rfl Tryz.underlying48 info5 rfl (by decide) (by omega) (.slice AB s'.B.length cB) s'.B (83) [.int .u8 (83)] (fun k_=>rcl wi.heap.size colwi 3 k_ = 3) (fun _=>False) rfl rfl rfl (fun _ hk=>hk.elim) (fun k_ hk=>rcl_new hk) (R_col HH.out.hB (fun k_ hk=>rcl_old hk)) HB.out HB.out.size (by have:=LN.out;omega) ?_;intro v4 wj ho hb hg hat;obtain ⟨Anv4,cnv4,env4⟩:=Kd.R_slice ho;subst env4;rw [List.length_append,List.length_singleton] at ho;have HO19:=(B_gr HH.out.hO HH.out.cO hg HH.out.hB.1 (by decide)).1;have HC3:=Aside0.mk (B_gr BL.out HC.out hg HH.out.hB.1 (by decide));have HP:=HH.out.putB hg ho;have HB2:=Aside0.mk hb;clear ho hb hg hat hco_ hfo_;have hs19:wj.cell? ⟨gO,3,none⟩ = some (.slice AB s'.B.length cB):=(blk_cell HO19 3).trans rfl;have hf19:=blk_frozen HO19 3))
         clear hs19 hf19
         have hne_:gl≠gO:=fun e=>by have a1:=HC3.out.2;have a2:=HP.cO;rw [e] at a1;omega
         have HB3:=Aside0.mk (below_set (g:=gO) (j:=3) (v:=(.slice Anv4 (s'.B.length + 1) cnv4)) HB2.out HP.bO)
         have BL2:=Aside0.mk (put_far HC3.out.1 hne_ 3 (.slice Anv4 (s'.B.length + 1) cnv4))
         have HCN:=HC3.out.2
         clear HH BL HB HC HC3 HB2 HO19
         generalize hwc:wj.setCell ⟨gO,3,none⟩ (.slice Anv4 (s'.B.length + 1) cnv4) = wk at HP HB3 BL2 ⊢
         clear hwc
         obtain ⟨colwk,hh_,hc_⟩:∃ c_,OrbH w.heap.size c_ wk gO gM n' _ _ _ _ _ _ _∧c_ gl = 8:=⟨_,HP,HCN⟩
         have HH:=Aside0.mk hh_;have HC:=Aside0.mk hc_;have BL:=BL2;have HB:=HB3
         clear hh_ hc_ BL2 HB3 HP HCN hne_
         generalize hcc:colwk = colc at HH HC
         clear hcc
         go_upto_region 21 with (fail)
         replace HH:=Aside0.mk (HH.out.below (below_drew1 (Below.refl _ _)))
         replace BL:=Aside0.mk (blk_drew BL.out)
         replace HB:=Aside0.mk (below_drew1 HB.out)
         refine start_ (n:=15) (S:=fun w'=>w'.cell? ⟨gO,4,none⟩ = some (.map (some gM))∧w'.heap[gM]? = some (mapO n' vT' vS')) (ds:=[14]) (bl_ 15 0) (by kernel_rfl) rfl (by kernel_rfl) ⟨(blk_cell HH.out.hO 4).trans rfl,HH.out.hM⟩ (fun hHeld=>?_)
         refine with_tabW orb_tab21 orb_bits21 (fun HT_ HW_=>?_)
         generalize wk.drew = wl at HH BL HB hHeld ⊢
         refine pu_ 0 (some 118) (bl_ 15 1) HT_ ?_
         refine pu_ 1 (some 119) (bl_ 15 3) HT_ ?_
         refine pu_ 2 (some 120) (bl_ 15 7) HT_ ?_
         refine ta_ 3 (some 121) (bl_ 15 15) HT_ HW_ hHeld ?_
         refine pu_ 4 (some 122) (bl_ 15 31) HT_ ?_
         refine pu_ 5 (some 123) (bl_ 15 63) HT_ ?_
         refine pu_ 6 (some 124) (bl_ 15 127) HT_ ?_
         refine pu_ 7 (some 125) (bl_ 15 255) HT_ ?_
         refine ta_ 8 (some 126) (bl_ 15 511) HT_ HW_ hHeld ?_
         refine pu_ 9 (some 127) (bl_ 15 1023) HT_ ?_
         have hlk:∀ w',w'.heap[gM]? = some (mapO n' vT' vS')→(Instr.lookup 49 (.map (some gM)) (.int .u8 83) false).run Tryz.prog w' = .ok vS' w':=fun w' h_=>by
          have hn:=hn0.out
          have:=look_S h_ (by omega)
          rw [HH.out.look.2] at this
          exact this
         refine ta_ 10 (some 128) (v:=vS') (bl_ 15 2047) HT_ HW_ hHeld ?_ (hy:=Or.inl ⟨by rfl,fun w' hs_=>?_⟩)
         rotate_left
         ·have hq:=hlk w' hs_.2
          go_simp
         clear hlk
         refine pu_ 11 (some 129) (bl_ 15 4095) HT_ ?_
         refine on_ 12 (some 130) (bl_ 15 8191) HT_ (fun K hK=>?_)
         refine value_ (w1:=?_) (v:=?_) (by rfl) rfl ?_ ?_
         rotate_left 2
         ·go_simp
          constructor
          ·rfl
          ·rfl
         refine hK.out _ _ ⟨((below_alloc (Below.refl _ _) _).cell (World.block_lt_of_cell? _ _ hHeld.1)).trans hHeld.1,blk_alloc hHeld.2 _⟩ (fun hHeld=>?_)
         clear hK K
         refine no_ (some 130) ?_
         refine on_ 13 (some 131) (bl_ 15 16383) HT_ (fun K hK=>?_)
         refine Kd.R_append_step (Kd.int .i64) (w0:=w) w.heap.size (by rfl) (.tmp 128) (.tmp 130) 22 3 (.int .i64 0) 8 rfl Tryz.underlying22 info3 rfl (by decide) (by omega) vS' s'.S ((s'.L.length:Int)) [.int .i64 ((s'.L.length:Int))] (fun k_=>rcl wl.heap.size colc 5 k_ = 5) (fun _=>False) rfl rfl rfl (fun _ hk=>hk.elim) (fun k_ hk=>rcl_new hk) (R_col HH.out.hS (fun k_ hk=>rcl_old hk)) HB.out HB.out.size (by have:=LN.out;omega) ?_
         intro v1 wlb ho hb hg hat
         have HP:=HH.out.putS hn0.out hg ho
         have HM:=Aside0.mk HP.1
         have HO19:=(B_gr HH.out.hO HH.out.cO hg HH.out.hS.1 (by decide)).1
         have HC3:=Aside0.mk (B_gr BL.out HC.out hg HH.out.hS.1 (by decide))
         replace HH:=Aside0.mk HP.2
         clear HP
         have HB2:=Aside0.mk hb
         refine hK.out _ _ ⟨(blk_cell HO19 4).trans rfl,HM.out⟩ (fun hHeld=>?_)
         clear hK K ho hb hg hat HO19
         refine no_ (some 131) ?_
         refine last_ (i:=14) (N:=none) (bl_ 15 32767) rfl rfl (one_of HT_.out (by kernel_rfl)) (by decide) (fun K hK=>?_)
         have hput:(Instr.mapUpdate 49 (.map (some gM)) (.int .u8 83) v1).run Tryz.prog wlb = .ok () (setMap wlb gM 2 vT' v1):=put_S HM.out hn0.out v1
         refine skip_ (w1:=setMap wlb gM 2 vT' v1) (by rfl) rfl ?_ ?_
         ·go_simp
         refine hK.out _ _ ?_
         clear hK K hput
         refine done_ (done_of HT_.out (by kernel_rfl)) ?_
         try go_wp2
         have hgm:gl≠gM:=fun e=>by have a1:=HC3.out.2;have a2:=HH.out.cM;rw [e] at a1;omega
         have BL2:=Aside0.mk ((setMap_far (n:=2) vT' v1 hgm).trans HC3.out.1)
         have HB3:=Aside0.mk (setMap_below (n:=2) vT' v1 HB2.out HH.out.bM)
         go_roundg 0
         case measure=>have:=HG.out;omega
         case rel=>exact ⟨2,2,_,_,_,_,_,_,_,_,(by first | rfl | (simp;done) | (simp [*];done)),⟨by omega⟩,⟨by omega⟩,HT,⟨⟨fun e=>absurd e (by decide),fun e=>absurd e (by decide),fun _=>rfl⟩⟩,⟨HC3.out.2⟩,BL2,HH,HB3⟩
       ·have H:=HS.out
        clear HS
        rw [if_neg hj0] at H
        have hjb:=decide_eq_false hj0
        have hlen:=cp_ H
        replace H:=Option.some.inj (ca_ H)
        subst H
        rw [if_neg (by decide),if_neg (by decide)] at HT
        have LN:=Aside0.mk hlen
        clear hlen SL13 Y0 Y1 BX NE GX
        generalize hcc:rcl w13.heap.size col' 0 = colc at HH HC
        clear hcc
        go_upto_region 21 with (fail)
        replace HH:=Aside0.mk (HH.out.below (below_drew1 (Below.refl _ _)))
        replace BL:=Aside0.mk (blk_drew BL.out)
        replace HB:=Aside0.mk (below_drew1 HB.out)
        refine start_ (n:=15) (S:=fun w'=>w'.cell? ⟨gO,4,none⟩ = some (.map (some gM))∧w'.heap[gM]? = some (mapO n' vT' vS')) (ds:=[14]) (bl_ 15 0) (by kernel_rfl) rfl (by kernel_rfl) ⟨(blk_cell HH.out.hO 4).trans rfl,HH.out.hM⟩ (fun hHeld=>?_)
        refine with_tabW orb_tab21 orb_bits21 (fun HT_ HW_=>?_)
        generalize w17.drew = w18 at HH BL HB hHeld ⊢
        refine pu_ 0 (some 118) (bl_ 15 1) HT_ ?_
        refine pu_ 1 (some 119) (bl_ 15 3) HT_ ?_
        refine pu_ 2 (some 120) (bl_ 15 7) HT_ ?_
        refine ta_ 3 (some 121) (bl_ 15 15) HT_ HW_ hHeld ?_
        refine pu_ 4 (some 122) (bl_ 15 31) HT_ ?_
        refine pu_ 5 (some 123) (bl_ 15 63) HT_ ?_
        refine pu_ 6 (some 124) (bl_ 15 127) HT_ ?_
        refine pu_ 7 (some 125) (bl_ 15 255) HT_ ?_
        refine ta_ 8 (some 126) (bl_ 15 511) HT_ HW_ hHeld ?_
        refine pu_ 9 (some 127) (bl_ 15 1023) HT_ ?_
        have hlk:∀ w',w'.heap[gM]? = some (mapO n' vT' vS')→(Instr.lookup 49 (.map (some gM)) (.int .u8 83) false).run Tryz.prog w' = .ok vS' w':=fun w' h_=>by
         have hn:=hn0.out
         have:=look_S h_ (by omega)
         rw [HH.out.look.2] at this
         exact this
        refine ta_ 10 (some 128) (v:=vS') (bl_ 15 2047) HT_ HW_ hHeld ?_ (hy:=Or.inl ⟨by rfl,fun w' hs_=>?_⟩)
        rotate_left
        ·have hq:=hlk w' hs_.2
         go_simp
        clear hlk
        refine pu_ 11 (some 129) (bl_ 15 4095) HT_ ?_
        refine on_ 12 (some 130) (bl_ 15 8191) HT_ (fun K hK=>?_)
        refine value_ (w1:=?_) (v:=?_) (by rfl) rfl ?_ ?_
        rotate_left 2
        ·go_simp
         constructor
         ·rfl
         ·rfl
        refine hK.out _ _ ⟨((below_alloc (Below.refl _ _) _).cell (World.block_lt_of_cell? _ _ hHeld.1)).trans hHeld.1,blk_alloc hHeld.2 _⟩ (fun hHeld=>?_)
        clear hK K
        refine no_ (some 130) ?_
        refine on_ 13 (some 131) (bl_ 15 16383) HT_ (fun K hK=>?_)
        refine Kd.R_append_step (Kd.int .i64) (w0:=w) w.heap.size (by rfl) (.tmp 128) (.tmp 130) 22 3 (.int .i64 0) 8 rfl Tryz.underlying22 info3 rfl (by decide) (by omega) vS' s'.S (j) [.int .i64 (j)] (fun k_=>rcl w18.heap.size colc 5 k_ = 5) (fun _=>False) rfl rfl rfl (fun _ hk=>hk.elim) (fun k_ hk=>rcl_new hk) (R_col HH.out.hS (fun k_ hk=>rcl_old hk)) HB.out HB.out.size (by have:=LN.out;omega) ?_
        intro v1 w18b ho hb hg hat
        have HP:=HH.out.putS hn0.out hg ho
        have HM:=Aside0.mk HP.1
        have HO19:=(B_gr HH.out.hO HH.out.cO hg HH.out.hS.1 (by decide)).1
        have HC3:=Aside0.mk (B_gr BL.out HC.out hg HH.out.hS.1 (by decide))
        replace HH:=Aside0.mk HP.2
        clear HP
        have HB2:=Aside0.mk hb
        refine hK.out _ _ ⟨(blk_cell HO19 4).trans rfl,HM.out⟩ (fun hHeld=>?_)
        clear hK K ho hb hg hat HO19
        refine no_ (some 131) ?_
        refine last_ (i:=14) (N:=none) (bl_ 15 32767) rfl rfl (one_of HT_.out (by kernel_rfl)) (by decide) (fun K hK=>?_)
        have hput:(Instr.mapUpdate 49 (.map (some gM)) (.int .u8 83) v1).run Tryz.prog w18b = .ok () (setMap w18b gM 2 vT' v1):=put_S HM.out hn0.out v1
        refine skip_ (w1:=setMap w18b gM 2 vT' v1) (by rfl) rfl ?_ ?_
        ·go_simp
        refine hK.out _ _ ?_
        clear hK K hput
        refine done_ (done_of HT_.out (by kernel_rfl)) ?_
        try go_wp2
        have hgm:gl≠gM:=fun e=>by have a1:=HC3.out.2;have a2:=HH.out.cM;rw [e] at a1;omega
        have BL2:=Aside0.mk ((setMap_far (n:=2) vT' v1 hgm).trans HC3.out.1)
        have HB3:=Aside0.mk (setMap_below (n:=2) vT' v1 HB2.out HH.out.bM)
        go_roundg 0
        case measure=>have:=HG.out;omega
        case rel=>exact ⟨2,2,_,_,_,_,_,_,_,_,(by first | rfl | (simp;done) | (simp [*];done)),⟨by omega⟩,⟨by omega⟩,HT,⟨⟨fun e=>absurd e (by decide),fun e=>absurd e (by decide),fun _=>rfl⟩⟩,⟨HC3.out.2⟩,BL2,HH,HB3⟩
     ·have hj2':jj = 2:=by omega
      subst hj2'
      have hn2:=Aside0.mk (HN.out.2.2 rfl)
      have H:=AZ.out
      clear AZ
      change innerO k1 x7 [] s' = some z at H
      simp only [innerO] at H
      obtain rfl:=Option.some.inj H
      clear H
      clear hcl0 hcl1 hfl0 hfl1 hco0 hfo0
      go_wp2
      go_roundg k1
      case measure=>have:=HK.out;omega
      case rel=>exact ⟨wrap64 (x7 + 1),n',_,_,_,_,_,_,_,s',(by first | rfl | (simp;done) | (simp [*];done)),HR,⟨by have:=HK.out;omega⟩,⟨.inr hn2.out⟩,HH,HB⟩
   ·rw [if_neg hq1] at H
    have c1b:=decide_eq_false hq1
    obtain rfl:=Option.some.inj H
    clear H hq1
    go_wp2
    go_ret2
    exact ⟨gO,gM,n,col,_,_,_,_,_,_,rfl,HH.out,HB.out⟩
theorem orbit_calls (k:Nat) (A0:Option Addr) (c0:Nat) (l0:List Int) (A1:Option Addr) (c1:Nat) (l1:List Int) (R:Option Orb) (w:World) (h0:Kd.C (Kd.int .i64) w A0 l0.length l0) (g0:l0.length≤c0) (h1:Kd.C (Kd.int .i64) w A1 l1.length l1) (g1:l1.length≤c1) (h:orbitO k l0 l1 = some R) :
  Calls Tryz.prog 27 #[.agg #[.slice A0 l0.length c0,.slice A1 l1.length c1]] w fun e w'=>OrbPost w w' e R:=by
 unfold orbitO at h
 obtain ⟨⟨y1,y2,yb⟩,a,h⟩:=Option.bind_eq_some_iff.mp h
 cases yb with
 | false =>
  have e:none = R:=Option.some.inj h
  subst e
  exact orbit_no k A0 c0 l0 A1 c1 l1 y1 y2 w h0 g0 h1 g1 a
 | true=>exact orbit_yes k A0 c0 l0 A1 c1 l1 y1 y2 R w h0 g0 h1 g1 a h
end Go.Proofs.YtcggfjpnfodbaaaGreat.M
end
section
/- Finding the orbit: more rounds give the same answer. No conditions. -/
namespace Go.Proofs.YtcggfjpnfodbaaaGreat.M
set_option linter.unusedVariables false
set_option linter.unusedSimpArgs false
open Go Go.RowKit Go.Proofs.YtcggfjpnfodbaaaGreatW.PrintWords Go.Proofs.YtcggfjpnfodbaaaGreatW.PrintLast Go.Proofs.YtcggfjpnfodbaaaGreatW.PrintMore Go.Proofs.YtcggfjpnfodbaaaGreat.A
theorem idxS_mono (k:Nat) (r u:List Int):∀ (l:List S27) (i:Nat),LeO (idxS k r u l i) (idxS (k + 1) r u l i):=by
 intro l
 induction l with
 | nil=>intro i;exact LeO.refl _
 | cons x l ih =>
  intro i
  unfold idxS
  refine LeO.bind (Z24.mono _ _ _ _ _) (fun b=>LeO.ite (LeO.refl _) (ih _))
theorem indexO_mono (k:Nat) (l:List S27) (r u:List Int):LeO (indexO k l r u) (indexO (k + 1) l r u):=by
 unfold indexO
 exact LeO.ite (idxS_mono _ _ _ _ _) (LeO.refl _)
theorem stpO_mono (k:Nat) (i c:Int) (s:Orb):LeO (stpO k i c s) (stpO (k + 1) i c s):=by
 unfold stpO
 refine LeO.ite (LeO.ite (LeO.bind (Z11.mono _ _ _ _) (fun x=>LeO.bind (Z62.mono _ _ _) (fun y=>LeO.bind (indexO_mono _ _ _ _) (fun j=>LeO.refl _)))) (LeO.refl _)) (LeO.refl _)
theorem innerO_mono (k:Nat) (i:Int):∀ (cs:List Int) (s:Orb),LeO (innerO k i cs s) (innerO (k + 1) i cs s):=by
 intro cs
 induction cs with
 | nil=>intro s;exact LeO.refl _
 | cons c cs ih =>
  intro s
  unfold innerO
  refine LeO.bind (stpO_mono _ _ _ _) (fun z=>?_)
  cases z with
  | none=>exact LeO.refl _
  | some s'=>exact ih s'
theorem loopO_mono:∀ (k:Nat) (s:Orb) (i:Int),LeO (loopO k s i) (loopO (k + 1) s i):=by
 intro k
 induction k with
 | zero=>intro s i;exact LeO.none _
 | succ k ih =>
  intro s i
  rw [loopO,loopO]
  refine LeO.ite (LeO.bind (innerO_mono _ _ _ _) (fun z=>?_)) (LeO.refl _)
  cases z with
  | none=>exact LeO.refl _
  | some s'=>exact ih s' _
theorem orbitO_mono (k:Nat) (r u:List Int):LeO (orbitO k r u) (orbitO (k + 1) r u):=by
 unfold orbitO
 exact LeO.bind (Z62.mono _ _ _) (fun y=>LeO.ite (loopO_mono _ _ _) (LeO.refl _))
end Go.Proofs.YtcggfjpnfodbaaaGreat.M
end
section
/- Sorting a row of the call's own: what slices.SortFunc leaves. No conditions. -/
namespace Go.Proofs.YtcggfjpnfodbaaaGreat.M
set_option linter.unusedVariables false
set_option linter.unusedSimpArgs false
open Go Go.RowKit Go.Proofs.YtcggfjpnfodbaaaGreatW.PrintWords.Kd Go.Proofs.YtcggfjpnfodbaaaGreatW.PrintWords Go.Proofs.YtcggfjpnfodbaaaGreatW.PrintLast Go.Proofs.YtcggfjpnfodbaaaGreatW.PrintMore Go.Shelf Go.Lib Go.Sort Go.Proofs
structure Cel {α:Type} (d:Kd α) (Q:α→Prop) (w:World) (base:Nat) (ok:Nat→Prop) where
 x:α
 c:List Value
 h:d.M w base ok x c
 q:Q x
section
variable {α:Type} {d:Kd α} {Q:α→Prop} {w W:World} {ok:Nat→Prop} {e base g cap:Nat} {v:Value} {xs:List α}
theorem Cel.len (z:Cel d Q w base ok):z.c.length = d.sz:=d.K_len (d.K_of_M z.h)
theorem Cel.one (z:Cel d Q w base ok):∀ u ∈ z.c,u.oneCell' = true:=d.K_one (d.K_of_M z.h)
theorem Cel.move (z:Cel d Q w base ok) (hm:∀ k,ok k→k < w.heap.size→W.heap[k]? = w.heap[k]?):d.M W base ok z.x z.c :=
 d.M_mono (fun _ hk=>hk.1) (d.M_move (fun k hk=>hm k hk.1 hk.2.2.1) (d.M_bound z.h))
theorem cels_of:∀ (xs:List α) (rows:List (List Value)),rows.length = xs.length→(∀ x ∈ xs,Q x)→(∀ (j:Nat) (x:α) (c:List Value),xs[j]? = some x→rows[j]? = some c→d.M w base ok x c) →
  ∃ l:List (Cel d Q w base ok),l.map (·.x) = xs∧l.map (·.c) = rows
 | [],[],_,_,_=>⟨[],rfl,rfl⟩
 | [],_ :: _,h,_,_=>by simp at h
 | _ :: _,[],h,_,_=>by simp at h
 | x :: xs,c :: rows,h,hq,hf=>by
  obtain ⟨l,h1,h2⟩:=cels_of xs rows (by simpa using h) (fun y hy=>hq y (List.mem_cons_of_mem _ hy)) (fun j y c' hy hc=>hf (j + 1) y c' (by simpa using hy) (by simpa using hc))
  exact ⟨⟨x,c,hf 0 x c rfl rfl,hq x List.mem_cons_self⟩ :: l,by simp [h1],by simp [h2]⟩
theorem flat_lenK {sz:Nat}:∀ {rows:List (List Value)},(∀ c ∈ rows,c.length = sz)→rows.flatten.length = rows.length * sz
 | [],_=>by simp
 | c :: rows,h=>by
  rw [List.flatten_cons,List.length_append,flat_lenK (fun c' hc=>h c' (List.mem_cons_of_mem _ hc)),h c List.mem_cons_self,List.length_cons,Nat.add_mul,Nat.one_mul,Nat.add_comm]
theorem flat_chunk {sz:Nat}:∀ {rows:List (List Value)} (j:Nat) (c:List Value),(∀ c ∈ rows,c.length = sz)→rows[j]? = some c→(rows.flatten.drop (j * sz)).take sz = c
 | [],j,c,_,h=>by simp at h
 | r :: rows,0,c,hl,h=>by
  simp only [List.getElem?_cons_zero,Option.some.injEq] at h
  subst h
  have:=hl r List.mem_cons_self
  rw [Nat.zero_mul,List.drop_zero,List.flatten_cons,List.take_append_of_le_length (by omega),List.take_of_length_le (by omega)]
 | r :: rows,j + 1,c,hl,h=>by
  have h0:=hl r List.mem_cons_self
  have hd:r.drop sz = []:=List.drop_of_length_le (by omega)
  rw [List.flatten_cons,Nat.add_mul,Nat.one_mul,Nat.add_comm,← List.drop_drop,List.drop_append_of_le_length (by omega),hd,List.nil_append]
  exact flat_chunk j c (fun c' hc=>hl c' (List.mem_cons_of_mem _ hc)) (by simpa using h)
theorem flat_at {sz:Nat} {rows:List (List Value)} (hl:∀ c ∈ rows,c.length = sz) {t:Nat} (ht:t < rows.length * sz) {c:List Value} (hc:rows[t / sz]? = some c):rows.flatten[t]? = c[t % sz]?:=by
 have h:=flat_chunk (t / sz) c hl hc
 have hsz:0 < sz:=by
  rcases Nat.eq_zero_or_pos sz with h0 | h0
  ·subst h0;simp at ht
  ·exact h0
 have hm:=Nat.mod_lt t hsz
 rw [← h,List.getElem?_take,if_pos hm,List.getElem?_drop,Nat.mul_comm,Nat.div_add_mod]
theorem R_of_cells {l:List (Cel d Q w base ok)} {okk:Nat→Prop} {cur:Array Value} (hg0:okk g) (hbase:base≤g) (hW:∀ k,k≠g→k < w.heap.size→W.heap[k]? = w.heap[k]?)
  (hg:W.heap[g]? = some (.cells cur e (0,0))) (hn:l.length≤cap) (hm:cap≤maxLen) (hs:cur.size = cap * d.sz) (ht:cur.toList.take (l.length * d.sz) = (l.map (·.c)).flatten) (hok2:∀ k,ok k→okk k∧k≠g) :
  d.R e W base okk (.slice (some ⟨g,0,none⟩) l.length cap) (l.map (·.x)):=by
 have hl:∀ c ∈ l.map (·.c),c.length = d.sz:=by
  intro c hc
  obtain ⟨z,_,rfl⟩:=List.mem_map.1 hc
  exact z.len
 refine ⟨fun k hk=>?_,(l.map (·.c)).flatten,?_,?_,?_⟩
 ·simp only [Value.ownBlock,Option.some.injEq] at hk;rw [← hk];exact hg0
 ·show World.ownsRow W base e d.sz _ _ _
  rw [List.length_map]
  exact ⟨by rw [flat_lenK hl,List.length_map],.inr ⟨g,cap,cur,rfl,hbase,hg,hn,hm,hs,ht⟩⟩
 ·rw [flat_lenK hl,List.length_map,List.length_map]
 ·intro j p hj
  rw [List.getElem?_map] at hj
  cases hz:l[j]? with
  | none=>rw [hz] at hj;simp at hj
  | some z =>
   rw [hz] at hj
   simp only [Option.map_some,Option.some.injEq] at hj
   subst hj
   rw [flat_chunk j z.c hl (by rw [List.getElem?_map,hz];rfl)]
   exact d.M_mono (fun k hk=>⟨(hok2 k hk).1,fun e_=>(hok2 k hk).2 (by simpa [Value.ownBlock] using e_)⟩) (z.move (fun k hk hlt=>hW k (hok2 k hk).2 hlt))
theorem R_cells (h:d.R e w base ok v xs) (hq:∀ x ∈ xs,Q x) (hp:0 < xs.length):∃ g cap cur,v = .slice (some ⟨g,0,none⟩) xs.length cap∧ok g∧base≤g∧g < w.heap.size∧w.heap[g]? = some (.cells cur e (0,0))∧xs.length≤cap∧cap≤maxLen∧cur.size = cap * d.sz ∧
  ∃ l:List (Cel d Q w base (fun k=>ok k∧k≠g)),l.map (·.x) = xs∧cur.toList.take (xs.length * d.sz) = (l.map (·.c)).flatten:=by
 obtain ⟨h0,inner,ho,hr⟩:=h
 obtain ⟨hlen,ho⟩:=ho
 rcases ho with ⟨rfl,hz⟩ | ⟨g,cap,cur,rfl,hb,hg,hn,hm,hs,ht⟩
 ·omega
 ·have hgl:g < w.heap.size:=by
   rcases Nat.lt_or_ge g w.heap.size with h | h
   ·exact h
   ·rw [Array.getElem?_eq_none h] at hg;cases hg
  obtain ⟨l,h1,h2⟩:=cels_of (d:=d) (w:=w) (base:=base) (Q:=Q) (ok:=fun k=>ok k∧k≠g) xs (chunks d.sz xs.length inner) (chunks_length _ _ _) hq (fun j x c hx hc=>by
   rw [chunks_get hc]
   exact d.M_mono (fun k hk=>⟨hk.1,fun e_=>hk.2 (by rw [e_];rfl)⟩) (hr.2 j x hx))
  refine ⟨g,cap,cur,rfl,h0 g rfl,hb,hgl,hg,hn,hm,hs,l,h1,?_⟩
  have hrl:∀ c ∈ l.map (·.c),c.length = d.sz:=by
   intro c hc
   obtain ⟨z,_,rfl⟩:=List.mem_map.1 hc
   exact z.len
  rw [ht]
  apply List.ext_getElem?
  intro t
  have hll:(l.map (·.c)).length = xs.length:=by rw [List.length_map,← h1,List.length_map]
  by_cases htl:t < xs.length * d.sz
  ·have hsz:0 < d.sz:=by
    rcases Nat.eq_zero_or_pos d.sz with h | h
    ·rw [h] at htl;simp at htl
    ·exact h
   have hdiv:t / d.sz < xs.length:=(Nat.div_lt_iff_lt_mul hsz).2 htl
   have hc:=chunks_at (sz:=d.sz) (inner:=inner) hdiv
   rw [← h2] at hc
   rw [flat_at hrl (by rw [hll];exact htl) hc]
   have hmod:=Nat.mod_lt t hsz
   rw [List.getElem?_take,if_pos hmod,List.getElem?_drop,Nat.mul_comm,Nat.div_add_mod]
  ·rw [List.getElem?_eq_none (by rw [hlen];omega),List.getElem?_eq_none (by rw [flat_lenK hrl,hll];omega)]
theorem row_after {cur F:Array Value} {m:Nat} {os:Array Obj} (hg:w.heap[g]? = some (.cells cur e (0,0))) (hF:F.size≤cur.size) (hW:W = grow (putRow id (Sort.ahead w m) g 0 F) os) :
  W.heap[g]? = some (.cells (putCells id 0 F cur) e (0,0))∧(∀ k,k≠g→k < w.heap.size→W.heap[k]? = w.heap[k]?)∧w.heap.size≤W.heap.size∧W.os = w.os∧W.tape = w.tape∧W.output = w.output∧(putCells id 0 F cur).size = cur.size∧(putCells id 0 F cur).toList.take F.size = F.toList:=by
 subst hW
 have hgl:g < w.heap.size:=by
  rcases Nat.lt_or_ge g w.heap.size with h | h
  ·exact h
  ·rw [Array.getElem?_eq_none h] at hg;cases hg
 have hp:∀ k,k < w.heap.size→(grow (putRow id (Sort.ahead w m) g 0 F) os).heap[k]? = (w.heap.modify g (onCells (putCells id 0 F)))[k]?:=by
  intro k hk
  show ((w.heap.modify g (onCells (putCells id 0 F))) ++ os)[k]? = _
  rw [Array.getElem?_append_left (by simpa using hk)]
 refine ⟨?_,?_,?_,rfl,rfl,rfl,by simp [putCells],?_⟩
 ·rw [hp g hgl,Array.getElem?_modify,if_pos rfl,hg];rfl
 ·intro k hk hlt
  rw [hp k hlt,Array.getElem?_modify,if_neg (fun e_=>hk e_.symm)]
 ·show w.heap.size≤((w.heap.modify g (onCells (putCells id 0 F))) ++ os).size
  simp
 ·apply List.ext_getElem?
  intro t
  by_cases ht:t < F.size
  ·rw [List.getElem?_take,if_pos ht,Array.getElem?_toList,Array.getElem?_toList]
   have htc:t < cur.size:=by omega
   simp only [putCells,Array.getElem?_mapIdx,Array.getElem?_eq_getElem htc,Array.getElem?_eq_getElem ht,Option.map_some,Nat.zero_le,true_and,Nat.zero_add,ht,if_true,Nat.sub_zero,id]
   rw [getElem!_pos F t ht]
  ·rw [List.getElem?_eq_none (by simp;omega),List.getElem?_eq_none (by simp;omega)]
theorem perm_list {β:Type} [Inhabited β] {D D':Array β} (h:PermIn 0 D.size D D'):D'.toList.Perm D.toList:=by
 obtain ⟨hs,_,hp⟩:=h
 have h1:D.extract 0 D.size = D:=by simp
 have h2:D'.extract 0 D.size = D':=by rw [← hs];simp
 rw [h1,h2] at hp
 exact hp
theorem sorted_list {β:Type} [Inhabited β] {lt:β→β→Bool} {D D':Array β} (hs:D'.size = D.size) (h:SortedIn lt 0 D.size D'):D'.toList.Pairwise (fun a b=>lt b a = false):=by
 rw [List.pairwise_iff_getElem]
 intro i j hi hj hij
 have hi':i < D'.size:=by simpa using hi
 have hj':j < D'.size:=by simpa using hj
 have:=h i j (Nat.zero_le _) hij (by omega)
 rwa [getElem!_pos D' i hi',getElem!_pos D' j hj'] at this
theorem below_of {b:Nat} (hW:∀ k,k≠g→k < w.heap.size→W.heap[k]? = w.heap[k]?) (hs:w.heap.size≤W.heap.size) (h1:W.os = w.os) (h2:W.tape = w.tape) (h3:W.output = w.output) (hb:b≤g) (hg:g < w.heap.size):Go.RowKit.Below b w W :=
 ⟨h1,h2,h3,hs,fun k hk=>hW k (by omega) (by omega)⟩
structure Ord3 (Q:α→Prop) (cf:α→α→Int):Prop where
 irr:∀ x,Q x→¬ cf x x < 0
 tr:∀ x y z,Q x→Q y→Q z→cf x y < 0→cf y z < 0→cf x z < 0
 nt:∀ x y z,Q x→Q y→Q z→¬ cf x y < 0→¬ cf y z < 0→¬ cf x z < 0
theorem Ord3.swo {cf:α→α→Int} (h:Ord3 Q cf):SWO (ltOf fun p q:Cel d Q w base ok=>cf p.x q.x) where
 irrefl p:=decide_eq_false (h.irr p.x p.q)
 trans p q r h1 h2:=decide_eq_true (h.tr p.x q.x r.x p.q q.q r.q (of_decide_eq_true h1) (of_decide_eq_true h2))
 ntrans p q r h1 h2:=decide_eq_false (h.nt p.x q.x r.x p.q q.q r.q (of_decide_eq_false h1) (of_decide_eq_false h2))
def SortedTo (d:Kd α) (cf:α→α→Int) (e:Nat) (w w':World) (base:Nat) (ok:Nat→Prop) (v:Value) (xs:List α):Prop :=
 ∃ xs':List α,xs'.Perm xs∧xs'.Pairwise (fun a b=>¬ cf b a < 0)∧d.R e w' base ok v xs'∧Kept w w' (fun k=>some k = v.ownBlock)∧Go.RowKit.Below base w w'
theorem sortedTo_nil {cf:α→α→Int} (h:d.R e w base ok v []):SortedTo d cf e w w base ok v [] :=
 ⟨[],List.Perm.refl _,List.Pairwise.nil,h,Kept.refl _ _,Go.RowKit.Below.refl _ _⟩
theorem sortedTo_of {cf:α→α→Int} {D D':Array (Cel d Q w base (fun k=>ok k∧k≠g))} [Inhabited (Cel d Q w base (fun k=>ok k∧k≠g))] {cur F:Array Value} {m:Nat} {os:Array Obj} (hD:D.toList.map (·.x) = xs) (hp:PermIn 0 D.size D D') (hs:SortedIn (ltOf fun p q:Cel d Q w base (fun k=>ok k∧k≠g)=>cf p.x q.x) 0 D.size D')
  (hF:F.toList = (D'.toList.map (·.c)).flatten) (hW:W = grow (putRow id (Sort.ahead w m) g 0 F) os) (hg0:ok g) (hb:base≤g) (hgl:g < w.heap.size) (hg:w.heap[g]? = some (.cells cur e (0,0))) (hn:xs.length≤cap) (hm:cap≤maxLen) (hc:cur.size = cap * d.sz) :
  SortedTo d cf e w W base ok (.slice (some ⟨g,0,none⟩) xs.length cap) xs:=by
 have hpl:=perm_list hp
 have hlen:D'.toList.length = xs.length:=by rw [hpl.length_eq,← hD,List.length_map]
 have hFs:F.size = xs.length * d.sz:=by
  have h1:F.toList.length = _:=congrArg List.length hF
  rw [flat_lenK (fun c hc=>by obtain ⟨z,_,rfl⟩:=List.mem_map.1 hc;exact z.len),List.length_map,hlen] at h1
  simpa using h1
 obtain ⟨a1,a2,a3,a4,a5,a6,a7,a8⟩:=row_after (W:=W) hg (by rw [hFs,hc];exact Nat.mul_le_mul_right _ hn) hW
 have hN:=R_of_cells (l:=D'.toList) (okk:=ok) (base:=base) (e:=e) (cap:=cap) hg0 hb a2 a1 (by omega) hm (by omega) (by rw [hlen,← hFs,a8,hF]) (fun k hk=>hk)
 rw [hlen] at hN
 refine ⟨D'.toList.map (·.x),?_,?_,hN,⟨a3,fun k hk hne=>a2 k (fun e_=>hne (by rw [e_];rfl)) hk⟩,below_of a2 a3 a4 a5 a6 hb hgl⟩
 ·rw [← hD];exact hpl.map _
 ·rw [List.pairwise_map]
  exact (sorted_list hp.1 hs).imp (fun h=>of_decide_eq_false h)
end
section
variable {P:Program} {ρ:Ren} {α:Type} {d:Kd α} {Q:α→Prop} {w:World} {ok:Nat→Prop} {e base:Nat} {v:Value} {xs:List α}
set_option maxHeartbeats 2000000 in
theorem sortN1 (L:SlLaysF.n6 P ρ) (L0:SlLaysF0.n6 P ρ) (hd:d.sz = 1) {cf:α→α→Int} (hO:Ord3 Q cf) (f:Nat)
  (eg:∀ args w,(callFunc f args).run P w = .ok (.enter f args) w) (hc:∀ (W:World) (x y:α) (cx cy:Value),Q x→Q y→d.K W x [cx]→d.K W y [cy]→Calls P f #[cx,cy] W fun e w'=>e = .returned (.int .i64 (cf x y))∧∃ q os',w' = grow (W.drewN q) os')
  (h:d.R e w base ok v xs) (hq:∀ x ∈ xs,Q x) (hsz:xs.length < 4611686018427387904) :
  Calls P (ρ.f 6) #[v,.func (.func f) #[] #[]] w fun e' w'=>e' = .returned (.tuple #[])∧SortedTo d cf e w w' base ok v xs:=by
 rcases Nat.eq_zero_or_pos xs.length with h0 | hp
 ·have hx:xs = []:=List.length_eq_zero_iff.1 h0
  subst hx
  obtain ⟨A,c,rfl⟩:=Kd.R_slice h
  exact (AnyF.slices_SortFunc_none L0 A c _ w).mono fun _ _ ⟨he,hw⟩=>⟨he,by rw [hw];exact sortedTo_nil h⟩
 ·obtain ⟨g,cap,cur,rfl,hg0,hb,hgl,hg,hn,hm,hcs,l,hl1,hl2⟩:=R_cells h hq hp
  have hll:l.length = xs.length:=by rw [← hl1,List.length_map]
  haveI:Inhabited (Cel d Q w base (fun k=>ok k∧k≠g)):=⟨l[0]'(by omega)⟩
  obtain ⟨enc,one⟩:∃ enc:Cel d Q w base (fun k=>ok k∧k≠g)→Value,∀ z,z.c = [enc z]:=⟨fun z=>z.c.headD .nilIface,fun z=>by
   have hz:=z.len
   rw [hd] at hz
   obtain ⟨u,hu⟩:=List.length_eq_one_iff.1 hz
   show z.c = [z.c.headD .nilIface]
   rw [hu];rfl⟩
  have hfl:∀ r:List (Cel d Q w base (fun k=>ok k∧k≠g)),(r.map (·.c)).flatten = r.map enc:=by
   intro r
   induction r with
   | nil=>rfl
   | cons z r ih=>rw [List.map_cons,List.map_cons,List.flatten_cons,ih,one z];rfl
  have hput:∀ (w':World) (D:Array (Cel d Q w base (fun k=>ok k∧k≠g))),putRow enc w' g 0 D = putRow id w' g 0 (D.map enc):=by
   intro w' D
   unfold putRow
   apply mapBlock_congr
   intro c e fr _
   unfold putCells
   apply Array.ext
   ·simp
   ·intro i h1 h2
    simp only [Array.getElem_mapIdx,Array.size_map,id]
    by_cases hi:0≤i∧i < 0 + D.size
    ·rw [if_pos hi,if_pos hi,getElem!_pos D _ (by omega),getElem!_pos (D.map _) _ (by simp;omega),Array.getElem_map]
    ·rw [if_neg hi,if_neg hi]
  have hsw:∀ m (D:Array (Cel d Q w base (fun k=>ok k∧k≠g))) os,sortWorld enc w g 0 m D os = grow (putRow id (Sort.ahead w m) g 0 (D.map enc)) os:=by
   intro m D os
   unfold sortWorld
   rw [hput]
  have hcs':xs.length≤cur.size:=by rw [hcs,hd];omega
  have hsame:∀ m (D:Array (Cel d Q w base (fun k=>ok k∧k≠g))) os,D.size = xs.length→∀ k,k≠g→k < w.heap.size→(sortWorld enc w g 0 m D os).heap[k]? = w.heap[k]?:=by
   intro m D os hD
   rw [hsw]
   exact (row_after hg (F:=D.map enc) (by rw [Array.size_map,hD];exact hcs') rfl).2.1
  have hH:Holds enc w g 0 l.toArray:=by
   intro j hj
   have hj':j < l.length:=by simpa using hj
   refine ⟨?_,?_⟩
   ·show w.cell? ⟨g,0 + j,none⟩ = _
    rw [Nat.zero_add,getElem!_pos _ j hj]
    simp only [World.cell?,hg,Option.isSome_none,Bool.false_eq_true,if_false]
    rw [hd,Nat.mul_one,hfl] at hl2
    have h1:=congrArg (fun r=>r[j]?) hl2
    simp only [List.getElem?_take,List.getElem?_map] at h1
    rw [if_pos (by omega),Array.getElem?_toList,List.getElem?_eq_getElem hj'] at h1
    rw [h1]
    rfl
   ·simp [World.frozen?,hg]
  have key:=Any.slices_SortFunc L enc (fun z=>z.one _ (by rw [one z];exact List.mem_singleton.2 rfl)) (fun p q=>cf p.x q.x) hO.swo f #[] g 0 cap l.toArray w eg
   (fun m os dk hs p q=>by
    have hh:∀ (z:Cel d Q w base (fun k=>ok k∧k≠g)),d.K (sortWorld enc w g 0 m dk os) z.x [enc z]:=fun z=>by
     have h1:=d.K_of_M (z.move (W:=sortWorld enc w g 0 m dk os) (fun k hk hlt=>hsame m dk os (by rw [hs];simpa using hll) k hk.2 hlt))
     rw [one z] at h1
     exact h1
    exact hc _ p.x q.x _ _ p.q q.q (hh p) (hh q)) hH hgl (by simpa [hll] using hsz)
  have hsz':l.toArray.size = xs.length:=by simp [hll]
  rw [hsz'] at key
  refine key.mono ?_
  rintro e' w' ⟨rfl,D',n,os,hp',hs',rfl⟩
  rw [← hsz'] at hp' hs'
  refine ⟨rfl,?_⟩
  rw [hsw n D' os]
  exact sortedTo_of (D:=l.toArray) (D':=D') (F:=D'.map enc) (by simpa using hl1) hp' hs' (by rw [Array.toList_map,hfl]) rfl hg0 hb hgl hg hn hm hcs
end
section
variable {α:Type} {d:Kd α} {Q:α→Prop} {w W:World} {ok:Nat→Prop} {e base g cap:Nat} {v:Value} {xs:List α}
theorem Ord3.fst {cf:α→α→Int} (h:Ord3 Q cf):Ord3 (fun p:α × Nat=>Q p.1) (fun p q=>cf p.1 q.1) where
 irr p hp:=h.irr p.1 hp
 tr p q r hp hq hr:=h.tr p.1 q.1 r.1 hp hq hr
 nt p q r hp hq hr:=h.nt p.1 q.1 r.1 hp hq hr
end
section
variable {α β:Type}
def cptGo (eqf:α→α→Bool):α→List α→List α
 | _,[]=>[]
 | p,y :: r=>if eqf y p then cptGo eqf y r else y :: cptGo eqf y r
def cpt (eqf:α→α→Bool):List α→List α
 | []=>[]
 | x :: r=>x :: cptGo eqf x r
theorem cptGo_snoc (eqf:α→α→Bool) (x:α):∀ (p:α) (l:List α),cptGo eqf p (l ++ [x]) = cptGo eqf p l ++ (if eqf x ((p :: l).getLast (by simp)) then [] else [x])
 | p,[]=>by
  show (if eqf x p then [] else [x]) = [] ++ (if eqf x p then [] else [x])
  rw [List.nil_append]
 | p,y :: r=>by
  have e:(p :: y :: r).getLast (by simp) = (y :: r).getLast (by simp):=List.getLast_cons (by simp)
  rw [e]
  simp only [List.cons_append,cptGo]
  rw [cptGo_snoc eqf x y r]
  split <;> simp
theorem cpt_snoc (eqf:α→α→Bool) (x:α) (l:List α) (h:l≠[]):cpt eqf (l ++ [x]) = cpt eqf l ++ (if eqf x (l.getLast h) then [] else [x]):=by
 cases l with
 | nil=>exact absurd rfl h
 | cons y r=>simp only [List.cons_append,cpt];rw [cptGo_snoc]
variable [Inhabited α]
def keepsB (eqf:α→α→Bool) (d:Array α) (j:Nat):Bool:=j == 0 || !(eqf d[j]! d[j - 1]!)
theorem cpt_take (eqf:α→α→Bool) (d:Array α) (m:Nat) (h:m < d.size):cpt eqf (d.toList.take (m + 1)) = cpt eqf (d.toList.take m) ++ (if keepsB eqf d m then [d[m]!] else []):=by
 have hl:m < d.toList.length:=by simpa using h
 rw [List.take_add_one,List.getElem?_eq_getElem hl]
 have hm:d.toList[m] = d[m]!:=by rw [getElem!_pos d m h];simp
 rw [hm]
 rcases Nat.eq_zero_or_pos m with h0 | h0
 ·subst h0;simp [cpt,cptGo,keepsB]
 ·have hne:d.toList.take m≠[]:=by
   intro e_
   have h1:=congrArg List.length e_
   have h2:d.toList.length = d.size:=by simp
   rw [List.length_take,h2] at h1
   have h3:min m d.size = 0:=h1
   omega
  show cpt eqf (d.toList.take m ++ [d[m]!]) = _
  rw [cpt_snoc eqf _ _ hne]
  have hlast:(d.toList.take m).getLast hne = d[m - 1]!:=by
   rw [List.getLast_eq_getElem]
   have h1:(d.toList.take m).length - 1 = m - 1:=by rw [List.length_take];simp;omega
   simp only [h1,List.getElem_take]
   rw [getElem!_pos d (m - 1) (by omega)]
   simp
  rw [hlast]
  have:(m == 0) = false:=by simp;omega
  simp only [keepsB,this,Bool.false_or]
  cases eqf d[m]! d[m - 1]! <;> simp
structure CompB (eqf:α→α→Bool) (d:Array α) (m k:Nat) (dk:Array α):Prop where
 size:dk.size = d.size
 len:(cpt eqf (d.toList.take m)).length = k
 le:k≤m
 low:∀ j,j < k→(cpt eqf (d.toList.take m))[j]? = some dk[j]!
 high:∀ j,k≤j→dk[j]! = d[j]!
variable {eqf:α→α→Bool} {d dk:Array α} {m k:Nat}
theorem CompB.one (h:0 < d.size):CompB eqf d 1 1 d:=by
 have h0:d.toList.take 1 = [d[0]!]:=by
  have:=List.take_add_one (l:=d.toList) (i:=0)
  rw [List.getElem?_eq_getElem (by simpa using h)] at this
  rw [this,getElem!_pos d 0 h];simp
 refine ⟨rfl,by rw [h0];rfl,Nat.le_refl _,fun j hj=>?_,fun _ _=>rfl⟩
 obtain rfl:j = 0:=by omega
 rw [h0];rfl
theorem CompB.skip (h:CompB eqf d m k dk) (hm:m < d.size) (hk:keepsB eqf d m = false):CompB eqf d (m + 1) k dk where
 size:=h.size
 len:=by rw [cpt_take eqf d m hm,hk];simpa using h.len
 le:=by have:=h.le;omega
 low:=fun j hj=>by rw [cpt_take eqf d m hm,hk];simpa using h.low j hj
 high:=h.high
theorem CompB.keep (h:CompB eqf d m k dk) (hm:m < d.size) (hk:keepsB eqf d m = true):CompB eqf d (m + 1) (k + 1) (dk.setIfInBounds k d[m]!) where
 size:=by simp [h.size]
 len:=by rw [cpt_take eqf d m hm,hk];simp [h.len]
 le:=by have:=h.le;omega
 low:=fun j hj=>by
  rw [cpt_take eqf d m hm,hk,if_pos rfl]
  by_cases e_:j = k
  ·subst e_
   rw [List.getElem?_append_right (by rw [h.len];exact Nat.le_refl _),h.len,Nat.sub_self,Go.Sort.getElem!_set_same dk j _ (by have:=h.le;have:=h.size;omega)]
   rfl
  ·rw [List.getElem?_append_left (by rw [h.len];omega),h.low j (by omega),Go.Sort.getElem!_set_other dk k j _ e_]
 high:=fun j hj=>by rw [Go.Sort.getElem!_set_other dk k j _ (by omega),h.high j (by omega)]
theorem CompB.same (h:CompB eqf d m m d) (hm:m < d.size) (hk:keepsB eqf d m = true):CompB eqf d (m + 1) (m + 1) d where
 size:=rfl
 len:=by rw [cpt_take eqf d m hm,hk];simp [h.len]
 le:=Nat.le_refl _
 low:=fun j hj=>by
  rw [cpt_take eqf d m hm,hk,if_pos rfl]
  by_cases e_:j = m
  ·subst e_
   rw [List.getElem?_append_right (by rw [h.len];exact Nat.le_refl _),h.len,Nat.sub_self]
   rfl
  ·rw [List.getElem?_append_left (by rw [h.len];omega),h.low j (by omega)]
 high:=fun _ _=>rfl
theorem CompB.done (h:CompB eqf d d.size k dk):dk.toList.take k = cpt eqf d.toList∧k = (cpt eqf d.toList).length:=by
 have ht:d.toList.take d.size = d.toList:=by rw [List.take_of_length_le];simp
 have hl:=h.len
 have hlow:=h.low
 rw [ht] at hl hlow
 refine ⟨?_,hl.symm⟩
 apply List.ext_getElem?
 intro j
 have hle:=h.le
 have hsz:=h.size
 by_cases hj:j < k
 ·rw [List.getElem?_take,if_pos hj,hlow j hj,Array.getElem?_toList,Array.getElem?_eq_getElem (by omega),getElem!_pos dk j (by omega)]
 ·rw [List.getElem?_eq_none (by simp;omega),List.getElem?_eq_none (by omega)]
end
section
variable {α:Type} {d:Kd α} {Q:α→Prop} {w W W':World} {ok:Nat→Prop} {e base g cap:Nat} {v:Value} {xs:List α}
end
end Go.Proofs.YtcggfjpnfodbaaaGreat.M
end
section
/- What the library's sort asks of this program: each by the kernel. No conditions. -/
namespace Go.Proofs
open Go.Shelf
def Tryz.sortA28_ren:Go.Shelf.Ren:=⟨fun | 6=>28 | 15=>43 | 14=>42 | 28=>74 | 29=>75 | 20=>66 | 21=>67 | 22=>68 | 23=>69 | 24=>70 | 25=>71 | 26=>72 | 27=>73 | 46=>95 | 47=>96 | 48=>97 | 49=>98 | 50=>99 | 57=>108 | n=>n,fun | 22=>22 | 24=>3 | 25=>53 | 3=>3 | 39=>64 | 0=>0 | 53=>83 | 55=>85 | 4=>4 | 46=>76 | 45=>75 | 50=>80 | 5=>5 | 9=>9 | 66=>90 | 70=>94 | 76=>99 | 77=>100 | n=>n,fun | n=>n⟩
theorem Tryz.sortA28:Go.Proofs.SlLaysF.n6 Tryz.prog Tryz.sortA28_ren:={
 mixed:=by kernel_rfl
 f6:=⟨Tryz.f28.name,by decide,Tryz.func28.trans (congrArg some (by kernel_rfl))⟩
 f14:=⟨Tryz.f42.name,by decide,Tryz.func42.trans (congrArg some (by kernel_rfl))⟩
 f15:=Tryz.func43.trans (congrArg some (by kernel_rfl))
 f20:=⟨Tryz.f66.name,by decide,Tryz.func66.trans (congrArg some (by kernel_rfl))⟩
 f21:=⟨Tryz.f67.name,by decide,Tryz.func67.trans (congrArg some (by kernel_rfl))⟩
 f22:=⟨Tryz.f68.name,by decide,Tryz.func68.trans (congrArg some (by kernel_rfl))⟩
 f23:=⟨Tryz.f69.name,by decide,Tryz.func69.trans (congrArg some (by kernel_rfl))⟩
 f24:=⟨Tryz.f70.name,by decide,Tryz.func70.trans (congrArg some (by kernel_rfl))⟩
 f25:=⟨Tryz.f71.name,by decide,Tryz.func71.trans (congrArg some (by kernel_rfl))⟩
 f26:=⟨Tryz.f72.name,by decide,Tryz.func72.trans (congrArg some (by kernel_rfl))⟩
 f27:=⟨Tryz.f73.name,by decide,Tryz.func73.trans (congrArg some (by kernel_rfl))⟩
 f28:=Tryz.func74.trans (congrArg some (by kernel_rfl))
 f29:=Tryz.func75.trans (congrArg some (by kernel_rfl))
 f46:=⟨Tryz.f95.name,by decide,Tryz.func95.trans (congrArg some (by kernel_rfl))⟩
 f47:=Tryz.func96.trans (congrArg some (by kernel_rfl))
 f48:=Tryz.func97.trans (congrArg some (by kernel_rfl))
 f49:=⟨Tryz.f98.name,by decide,Tryz.func98.trans (congrArg some (by kernel_rfl))⟩
 f50:=⟨Tryz.f99.name,by decide,Tryz.func99.trans (congrArg some (by kernel_rfl))⟩
 f57:=⟨Tryz.f108.name,by decide,Tryz.func108.trans (congrArg some (by kernel_rfl))⟩
 t0:=Tryz.underlying0
 a0:=Tryz.isAgg0
 z0:=Tryz.sizeOf0
 v0:=Tryz.zeroValue0
 t3:=Tryz.underlying3
 a3:=Tryz.isAgg3
 z3:=Tryz.sizeOf3
 v3:=Tryz.zeroValue3
 t4:=Tryz.underlying4
 a4:=Tryz.isAgg4
 z4:=Tryz.sizeOf4
 v4:=Tryz.zeroValue4
 t5:=Tryz.underlying5
 a5:=Tryz.isAgg5
 z5:=Tryz.sizeOf5
 v5:=Tryz.zeroValue5
 t9:=Tryz.underlying9
 a9:=Tryz.isAgg9
 z9:=Tryz.sizeOf9
 v9:=Tryz.zeroValue9
 t22:=Tryz.underlying22
 a22:=Tryz.isAgg22
 z22:=Tryz.sizeOf22
 v22:=Tryz.zeroValue22
 a24:=Tryz.isAgg3
 z24:=Tryz.sizeOf3
 t25:=Tryz.underlying53
 a25:=Tryz.isAgg53
 z25:=Tryz.sizeOf53
 v25:=Tryz.zeroValue53
 t39:=Tryz.underlying64
 a39:=Tryz.isAgg64
 z39:=Tryz.sizeOf64
 v39:=Tryz.zeroValue64
 t45:=Tryz.underlying75
 a45:=Tryz.isAgg75
 z45:=Tryz.sizeOf75
 v45:=Tryz.zeroValue75
 t46:=Tryz.underlying76
 a46:=Tryz.isAgg76
 z46:=Tryz.sizeOf76
 v46:=Tryz.zeroValue76
 t50:=Tryz.underlying80
 a50:=Tryz.isAgg80
 z50:=Tryz.sizeOf80
 v50:=Tryz.zeroValue80
 t53:=Tryz.underlying83
 a53:=Tryz.isAgg83
 z53:=Tryz.sizeOf83
 v53:=Tryz.zeroValue83
 t55:=Tryz.underlying85
 a55:=Tryz.isAgg85
 z55:=Tryz.sizeOf85
 v55:=Tryz.zeroValue85
 t66:=Tryz.underlying90
 a66:=Tryz.isAgg90
 z66:=Tryz.sizeOf90
 v66:=Tryz.zeroValue90
 t70:=Tryz.underlying94
 a70:=Tryz.isAgg94
 z70:=Tryz.sizeOf94
 v70:=Tryz.zeroValue94
 t76:=Tryz.underlying99
 a76:=Tryz.isAgg99
 z76:=Tryz.sizeOf99
 v76:=Tryz.zeroValue99
 t77:=Tryz.underlying100
 a77:=Tryz.isAgg100
 z77:=Tryz.sizeOf100
 v77:=Tryz.zeroValue100 }
def Tryz.sortB28_ren:Go.Shelf.Ren:=⟨fun | 6=>28 | 15=>43 | 14=>42 | 28=>74 | 29=>75 | 20=>66 | 21=>67 | 22=>68 | 23=>69 | 24=>70 | 25=>71 | 26=>72 | 27=>73 | 46=>95 | 47=>96 | 48=>97 | 49=>98 | 50=>99 | 57=>108 | n=>n,fun | 22=>22 | 24=>3 | 25=>53 | 3=>3 | 39=>64 | 0=>0 | 53=>83 | 55=>85 | 4=>4 | 46=>76 | 45=>75 | 50=>80 | 5=>5 | 9=>9 | 66=>90 | 70=>94 | 76=>99 | 77=>100 | n=>n,fun | n=>n⟩
theorem Tryz.sortB28:Go.Proofs.SlLaysF0.n6 Tryz.prog Tryz.sortB28_ren:={
 mixed:=by kernel_rfl
 f6:=⟨Tryz.f28.name,by decide,Tryz.func28.trans (congrArg some (by kernel_rfl))⟩
 f14:=⟨Tryz.f42.name,by decide,Tryz.func42.trans (congrArg some (by kernel_rfl))⟩
 f15:=Tryz.func43.trans (congrArg some (by kernel_rfl))
 f20:=⟨Tryz.f66.name,by decide,Tryz.func66.trans (congrArg some (by kernel_rfl))⟩
 f21:=⟨Tryz.f67.name,by decide,Tryz.func67.trans (congrArg some (by kernel_rfl))⟩
 f22:=⟨Tryz.f68.name,by decide,Tryz.func68.trans (congrArg some (by kernel_rfl))⟩
 f23:=⟨Tryz.f69.name,by decide,Tryz.func69.trans (congrArg some (by kernel_rfl))⟩
 f24:=⟨Tryz.f70.name,by decide,Tryz.func70.trans (congrArg some (by kernel_rfl))⟩
 f25:=⟨Tryz.f71.name,by decide,Tryz.func71.trans (congrArg some (by kernel_rfl))⟩
 f26:=⟨Tryz.f72.name,by decide,Tryz.func72.trans (congrArg some (by kernel_rfl))⟩
 f27:=⟨Tryz.f73.name,by decide,Tryz.func73.trans (congrArg some (by kernel_rfl))⟩
 f28:=Tryz.func74.trans (congrArg some (by kernel_rfl))
 f29:=Tryz.func75.trans (congrArg some (by kernel_rfl))
 f46:=⟨Tryz.f95.name,by decide,Tryz.func95.trans (congrArg some (by kernel_rfl))⟩
 f47:=Tryz.func96.trans (congrArg some (by kernel_rfl))
 f48:=Tryz.func97.trans (congrArg some (by kernel_rfl))
 f49:=⟨Tryz.f98.name,by decide,Tryz.func98.trans (congrArg some (by kernel_rfl))⟩
 f50:=⟨Tryz.f99.name,by decide,Tryz.func99.trans (congrArg some (by kernel_rfl))⟩
 f57:=⟨Tryz.f108.name,by decide,Tryz.func108.trans (congrArg some (by kernel_rfl))⟩
 t0:=Tryz.underlying0
 a0:=Tryz.isAgg0
 z0:=Tryz.sizeOf0
 v0:=Tryz.zeroValue0
 t3:=Tryz.underlying3
 a3:=Tryz.isAgg3
 z3:=Tryz.sizeOf3
 v3:=Tryz.zeroValue3
 t4:=Tryz.underlying4
 a4:=Tryz.isAgg4
 z4:=Tryz.sizeOf4
 v4:=Tryz.zeroValue4
 t5:=Tryz.underlying5
 a5:=Tryz.isAgg5
 z5:=Tryz.sizeOf5
 v5:=Tryz.zeroValue5
 t9:=Tryz.underlying9
 a9:=Tryz.isAgg9
 z9:=Tryz.sizeOf9
 v9:=Tryz.zeroValue9
 t22:=Tryz.underlying22
 a22:=Tryz.isAgg22
 z22:=Tryz.sizeOf22
 v22:=Tryz.zeroValue22
 t25:=Tryz.underlying53
 a25:=Tryz.isAgg53
 z25:=Tryz.sizeOf53
 v25:=Tryz.zeroValue53
 t39:=Tryz.underlying64
 a39:=Tryz.isAgg64
 z39:=Tryz.sizeOf64
 v39:=Tryz.zeroValue64
 t45:=Tryz.underlying75
 a45:=Tryz.isAgg75
 z45:=Tryz.sizeOf75
 v45:=Tryz.zeroValue75
 t46:=Tryz.underlying76
 a46:=Tryz.isAgg76
 z46:=Tryz.sizeOf76
 v46:=Tryz.zeroValue76
 t50:=Tryz.underlying80
 a50:=Tryz.isAgg80
 z50:=Tryz.sizeOf80
 v50:=Tryz.zeroValue80
 t53:=Tryz.underlying83
 a53:=Tryz.isAgg83
 z53:=Tryz.sizeOf83
 v53:=Tryz.zeroValue83
 t55:=Tryz.underlying85
 a55:=Tryz.isAgg85
 z55:=Tryz.sizeOf85
 v55:=Tryz.zeroValue85
 t66:=Tryz.underlying90
 a66:=Tryz.isAgg90
 z66:=Tryz.sizeOf90
 v66:=Tryz.zeroValue90
 t70:=Tryz.underlying94
 a70:=Tryz.isAgg94
 z70:=Tryz.sizeOf94
 v70:=Tryz.zeroValue94
 t76:=Tryz.underlying99
 a76:=Tryz.isAgg99
 z76:=Tryz.sizeOf99
 v76:=Tryz.zeroValue99
 t77:=Tryz.underlying100
 a77:=Tryz.isAgg100
 z77:=Tryz.sizeOf100
 v77:=Tryz.zeroValue100 }
end Go.Proofs
end
section
/- Plain mathematics: permutations as lists of numbers. No conditions. -/
namespace Go.Proofs.YtcggfjpnfodbaaaGreat.M
set_option linter.unusedVariables false
set_option linter.unusedSimpArgs false
def I (l:List Nat):List Int:=l.map Int.ofNat
def g (p:List Nat) (i:Nat):Nat:=p.getD i 0
def tab (n:Nat) (f:Nat→Nat):List Nat:=(List.range n).map f
theorem I_len (l:List Nat):(I l).length = l.length:=by simp [I]
theorem I_inj {a b:List Nat} (h:I a = I b):a = b:=by
 unfold I at h
 exact (List.map_inj_right (fun x y hxy=>Int.ofNat.inj hxy)).mp h
theorem tab_len (n:Nat) (f:Nat→Nat):(tab n f).length = n:=by simp [tab]
theorem g_tab {n:Nat} {f:Nat→Nat} {i:Nat} (h:i < n):g (tab n f) i = f i:=by simp [g,tab,List.getD_eq_getElem?_getD,h]
theorem g_get {p:List Nat} {i:Nat} (h:i < p.length):g p i = p[i]:=by simp [g,List.getD_eq_getElem?_getD,h]
theorem g_mem {p:List Nat} {i:Nat} (h:i < p.length):g p i ∈ p:=by rw [g_get h];exact List.getElem_mem h
theorem mem_g {p:List Nat} {x:Nat} (h:x ∈ p):∃ i,i < p.length∧g p i = x:=by
 obtain ⟨i,hi,rfl⟩:=List.mem_iff_getElem.mp h
 exact ⟨i,hi,g_get hi⟩
theorem ext_g {a b:List Nat} (hl:a.length = b.length) (h:∀ i,i < a.length→g a i = g b i):a = b:=by
 apply List.ext_getElem hl
 intro i h1 h2
 rw [← g_get h1,← g_get h2]
 exact h i h1
theorem eq_tab {l:List Nat} {n:Nat} {f:Nat→Nat} (hl:l.length = n) (h:∀ i,i < n→g l i = f i):l = tab n f :=
 ext_g (by rw [tab_len,hl]) (fun i hi=>by rw [hl] at hi;rw [g_tab hi,h i hi])
theorem g_set {p:List Nat} {i x j:Nat} (h:i < p.length):g (p.set i x) j = if i = j then x else g p j:=by
 unfold g
 rw [List.getD_eq_getElem?_getD,List.getD_eq_getElem?_getD,List.getElem?_set]
 by_cases e:i = j
 ·subst e
  simp [h]
 ·simp [e]
theorem I_set (p:List Nat) (i x:Nat):(I p).set i (x:Int) = I (p.set i x):=by simp [I,List.map_set]
theorem I_app (p q:List Nat):I p ++ I q = I (p ++ q):=by simp [I]
theorem I_one (x:Nat):I [x] = [(x:Int)]:=rfl
theorem I_snoc (p:List Nat) (x:Nat):I p ++ [(x:Int)] = I (p ++ [x]):=by simp [I]
theorem I_nil:I [] = []:=rfl
theorem I_rep (n x:Nat):I (List.replicate n x) = List.replicate n (x:Int):=by simp [I]
structure IsP (p:List Nat):Prop where
 lt:∀ x ∈ p,x < p.length
 nd:p.Nodup
instance (p:List Nat):Decidable (IsP p):=decidable_of_iff ((∀ x ∈ p,x < p.length)∧p.Nodup) ⟨fun h=>⟨h.1,h.2⟩,fun h=>⟨h.lt,h.nd⟩⟩
theorem nodup_le (n:Nat):∀ l:List Nat,l.Nodup→(∀ x ∈ l,x < n)→l.length≤n:=by
 induction n with
 | zero =>
  intro l _ h
  cases l with
  | nil=>simp
  | cons a l=>exact absurd (h a (by simp)) (by omega)
 | succ n ih =>
  intro l hn h
  have h1:=ih (l.erase n) (hn.erase n) (fun x hx=>by
   have h2:=(List.Nodup.mem_erase_iff hn).mp hx
   have h3:=h x h2.2
   have h4:=h2.1
   omega)
  have h5:=@List.length_erase _ _ _ n l
  split at h5 <;> omega
theorem mem_all {p:List Nat} (hp:IsP p) {x:Nat} (h:x < p.length):x ∈ p:=by
 apply Classical.byContradiction
 intro hx
 have:=nodup_le p.length (x :: p) (List.nodup_cons.mpr ⟨hx,hp.nd⟩) (fun y hy=>by
  rcases List.mem_cons.mp hy with rfl | hy
  ·exact h
  ·exact hp.lt y hy)
 simp at this
 omega
theorem g_lt {p:List Nat} (hp:IsP p) {i:Nat} (h:i < p.length):g p i < p.length:=hp.lt _ (g_mem h)
theorem g_inj {p:List Nat} (hp:IsP p) {i j:Nat} (hi:i < p.length) (hj:j < p.length) (h:g p i = g p j):i = j:=by
 rw [g_get hi,g_get hj] at h
 have hw:=List.pairwise_iff_getElem.mp hp.nd
 rcases Nat.lt_trichotomy i j with hij | hij | hij
 ·exact absurd h (hw i j hi hj hij)
 ·exact hij
 ·exact absurd h.symm (hw j i hj hi hij)
def ix (p:List Nat) (x:Nat):Nat:=p.idxOf x
theorem ix_lt {p:List Nat} (hp:IsP p) {x:Nat} (h:x < p.length):ix p x < p.length:=List.idxOf_lt_length_of_mem (mem_all hp h)
theorem g_ix {p:List Nat} (hp:IsP p) {x:Nat} (h:x < p.length):g p (ix p x) = x:=by
 rw [g_get (ix_lt hp h)]
 exact List.getElem_idxOf (ix_lt hp h)
theorem ix_g {p:List Nat} (hp:IsP p) {i:Nat} (h:i < p.length):ix p (g p i) = i :=
 g_inj hp (ix_lt hp (g_lt hp h)) h (g_ix hp (g_lt hp h))
theorem ix_eq {p:List Nat} (hp:IsP p) {i x:Nat} (h:i < p.length) (e:g p i = x):ix p x = i:=by rw [← e];exact ix_g hp h
theorem isP_mk {p:List Nat} (h1:∀ i,i < p.length→g p i < p.length) (h2:∀ i j,i < p.length→j < p.length→g p i = g p j→i = j):IsP p:=by
 refine ⟨fun x hx=>?_,?_⟩
 ·obtain ⟨i,hi,rfl⟩:=mem_g hx
  exact h1 i hi
 ·refine List.pairwise_iff_getElem.mpr ?_
  intro i j hi hj hij e'
  rw [← g_get hi,← g_get hj] at e'
  have:=h2 i j hi hj e'
  omega
theorem isP_tab {n:Nat} {f:Nat→Nat} (h1:∀ i,i < n→f i < n) (h2:∀ i j,i < n→j < n→f i = f j→i = j):IsP (tab n f):=by
 refine isP_mk (fun i hi=>?_) (fun i j hi hj e=>?_)
 ·rw [tab_len] at hi ⊢;rw [g_tab hi];exact h1 i hi
 ·rw [tab_len] at hi hj;rw [g_tab hi,g_tab hj] at e;exact h2 i j hi hj e
def inv (p:List Nat):List Nat:=tab p.length (ix p)
theorem inv_len (p:List Nat):(inv p).length = p.length:=tab_len _ _
theorem g_inv {p:List Nat} {i:Nat} (h:i < p.length):g (inv p) i = ix p i:=g_tab h
theorem isP_inv {p:List Nat} (hp:IsP p):IsP (inv p):=isP_tab (fun i hi=>ix_lt hp hi) (fun i j hi hj e=>by rw [← g_ix hp hi,← g_ix hp hj,e])
def thn (p q:List Nat):List Nat:=tab p.length (fun i=>g q (g p i))
theorem thn_len (p q:List Nat):(thn p q).length = p.length:=tab_len _ _
theorem g_thn {p q:List Nat} {i:Nat} (h:i < p.length):g (thn p q) i = g q (g p i):=g_tab h
theorem isP_thn {p q:List Nat} (hp:IsP p) (hq:IsP q) (hl:p.length = q.length):IsP (thn p q) :=
 isP_tab (fun i hi=>by have h1:=g_lt hp hi;have h2:=g_lt hq (i:=g p i) (by omega);omega)
  (fun i j hi hj e=>g_inj hp hi hj (g_inj hq (by have:=g_lt hp hi;omega) (by have:=g_lt hp hj;omega) e))
def ren (p names:List Nat):List Nat:=tab p.length (fun j=>g names (g p (ix names j)))
theorem ren_len (p names:List Nat):(ren p names).length = p.length:=tab_len _ _
theorem g_ren {p names:List Nat} {j:Nat} (h:j < p.length):g (ren p names) j = g names (g p (ix names j)):=g_tab h
theorem isP_ren {p names:List Nat} (hp:IsP p) (hn:IsP names) (hl:p.length = names.length):IsP (ren p names):=by
 refine isP_tab (fun i hi=>?_) (fun i j hi hj e=>?_)
 ·have h1:=ix_lt hn (x:=i) (by omega)
  have h2:=g_lt hp (i:=ix names i) (by omega)
  have h3:=g_lt hn (i:=g p (ix names i)) (by omega)
  omega
 ·have h1:=ix_lt hn (x:=i) (by omega)
  have h2:=ix_lt hn (x:=j) (by omega)
  have h3:=g_lt hp (i:=ix names i) (by omega)
  have h4:=g_lt hp (i:=ix names j) (by omega)
  have h5:=g_inj hn (by omega) (by omega) e
  have h6:=g_inj hp (by omega) (by omega) h5
  have h7:=g_ix hn (x:=i) (by omega)
  have h8:=g_ix hn (x:=j) (by omega)
  rw [← h7,← h8,h6]
end Go.Proofs.YtcggfjpnfodbaaaGreat.M
end
section
/- Plain mathematics: going round a permutation. No conditions. -/
namespace Go.Proofs.YtcggfjpnfodbaaaGreat.M
set_option linter.unusedVariables false
set_option linter.unusedSimpArgs false
def itr (p:List Nat):Nat→Nat→Nat
 | 0,s=>s
 | m + 1,s=>g p (itr p m s)
theorem itr_lt {p:List Nat} (hp:IsP p) (m:Nat) {s:Nat} (hs:s < p.length):itr p m s < p.length:=by
 induction m with
 | zero=>exact hs
 | succ m ih=>exact g_lt hp ih
theorem itr_add (p:List Nat) (a b s:Nat):itr p (a + b) s = itr p a (itr p b s):=by
 induction a with
 | zero=>simp [itr]
 | succ a ih =>
  have e:a + 1 + b = (a + b) + 1:=by omega
  rw [e,itr,itr,ih]
theorem itr_back {p:List Nat} (hp:IsP p) {s:Nat} (hs:s < p.length) (i d:Nat) (h:itr p (i + d) s = itr p i s):itr p d s = s:=by
 induction i with
 | zero =>
  have e:0 + d = d:=by omega
  rw [e] at h
  exact h
 | succ i ih =>
  have e:i + 1 + d = (i + d) + 1:=by omega
  rw [e] at h
  exact ih (g_inj hp (itr_lt hp _ hs) (itr_lt hp _ hs) h)
theorem period {p:List Nat} (hp:IsP p) {s:Nat} (hs:s < p.length):∃ m,1≤m∧m≤p.length∧itr p m s = s:=by
 apply Classical.byContradiction
 intro hn
 have hd:((List.range (p.length + 1)).map (fun m=>itr p m s)).Nodup:=by
  refine List.pairwise_map.mpr ?_
  refine List.pairwise_iff_getElem.mpr ?_
  intro i j hi hj hij
  rw [List.length_range] at hi hj
  rw [List.getElem_range,List.getElem_range]
  intro e
  have:itr p (j - i) s = s:=itr_back hp hs i (j - i) (by
   have e2:i + (j - i) = j:=by omega
   rw [e2]
   exact e.symm)
  exact hn ⟨j - i,by omega,by omega,this⟩
 have:=nodup_le p.length _ hd (fun x hx=>by
  obtain ⟨m,_,rfl⟩:=List.mem_map.mp hx
  exact itr_lt hp m hs)
 simp at this
 omega
def per (p:List Nat) (s:Nat):Nat:=(((List.range p.length).find? (fun m=>itr p (m + 1) s == s)).getD 0) + 1
def orbTo (p:List Nat) (s m:Nat):List Nat:=(List.range m).map (fun k=>itr p k s)
def orb (p:List Nat) (s:Nat):List Nat:=orbTo p s (per p s)
def cyc (p:List Nat):Nat→List (List Nat)
 | 0=>[]
 | i + 1=>if ∃ c ∈ cyc p i,i ∈ c then cyc p i else cyc p i ++ [orb p i]
def cycles (p:List Nat):List (List Nat):=cyc p p.length
end Go.Proofs.YtcggfjpnfodbaaaGreat.M
end
section
/- Plain mathematics: lists that fall, and the lengths of cycles. No conditions. -/
namespace Go.Proofs.YtcggfjpnfodbaaaGreat.M
set_option linter.unusedVariables false
set_option linter.unusedSimpArgs false
def insD (x:Nat):List Nat→List Nat
 | []=>[x]
 | y :: l=>if y < x then x :: y :: l else y :: insD x l
def sortD (l:List Nat):List Nat:=l.foldl (fun a x=>insD x a) []
def Fall (l:List Nat):Prop:=l.Pairwise (fun a b=>b≤a)
theorem insD_perm (x:Nat) (l:List Nat):(insD x l).Perm (x :: l):=by
 induction l with
 | nil=>exact List.Perm.refl _
 | cons y l ih =>
  unfold insD
  split
  ·exact List.Perm.refl _
  ·exact (List.Perm.cons y ih).trans (List.Perm.swap x y l)
theorem insD_fall {x:Nat} {l:List Nat} (h:Fall l):Fall (insD x l):=by
 induction l with
 | nil=>exact List.pairwise_singleton _ _
 | cons y l ih =>
  obtain ⟨h1,h2⟩:=List.pairwise_cons.mp h
  unfold insD
  split
  ·rename_i hy
   refine List.pairwise_cons.mpr ⟨fun b hb=>?_,h⟩
   rcases List.mem_cons.mp hb with rfl | hb
   ·omega
   ·have:=h1 b hb
    omega
  ·rename_i hy
   refine List.pairwise_cons.mpr ⟨fun b hb=>?_,ih h2⟩
   rcases List.mem_cons.mp ((insD_perm x l).mem_iff.mp hb) with rfl | hb
   ·omega
   ·exact h1 b hb
theorem sortD_aux:∀ (l a:List Nat),Fall a→Fall (l.foldl (fun a x=>insD x a) a)∧(l.foldl (fun a x=>insD x a) a).Perm (a ++ l):=by
 intro l
 induction l with
 | nil=>intro a h;exact ⟨h,by simp⟩
 | cons x l ih =>
  intro a h
  obtain ⟨h1,h2⟩:=ih (insD x a) (insD_fall h)
  refine ⟨h1,h2.trans ?_⟩
  exact ((insD_perm x a).append_right l).trans (List.perm_middle (l₁:=a) (a:=x) (l₂:=l)).symm
theorem sortD_fall (l:List Nat):Fall (sortD l):=(sortD_aux l [] List.Pairwise.nil).1
theorem sortD_perm (l:List Nat):(sortD l).Perm l:=(sortD_aux l [] List.Pairwise.nil).2
theorem fall_uniq:∀ {a b:List Nat},Fall a→Fall b→a.Perm b→a = b:=by
 intro a
 induction a with
 | nil=>intro b _ _ h;exact (List.nil_perm.mp h).symm
 | cons x a ih =>
  intro b ha hb h
  cases b with
  | nil=>exact absurd (List.perm_nil.mp h) (by simp)
  | cons y b =>
   obtain ⟨a1,a2⟩:=List.pairwise_cons.mp ha
   obtain ⟨b1,b2⟩:=List.pairwise_cons.mp hb
   have e:x = y:=by
    have h1:x ∈ y :: b:=h.mem_iff.mp (by simp)
    have h2:y ∈ x :: a:=h.mem_iff.mpr (by simp)
    rcases List.mem_cons.mp h1 with e | h1
    ·exact e
    ·rcases List.mem_cons.mp h2 with e | h2
     ·exact e.symm
     ·have:=b1 x h1
      have:=a1 y h2
      omega
   subst e
   rw [ih a2 b2 (List.Perm.cons_inv h)]
theorem sortD_len (l:List Nat):(sortD l).length = l.length:=(sortD_perm l).length_eq
theorem insD_len (x:Nat) (l:List Nat):(insD x l).length = l.length + 1:=by rw [(insD_perm x l).length_eq];rfl
theorem insD_at {x:Nat}:∀ {a:List Nat},Fall a→∀ k,k≤a.length→(∀ y ∈ a.drop k,y < x)→(k = 0 ∨ x≤g a (k - 1))→insD x a = a.take k ++ x :: a.drop k:=by
 intro a
 induction a with
 | nil=>intro _ k hk _ _;simp [insD]
 | cons y a ih =>
  intro h k hk h1 h2
  obtain ⟨a1,a2⟩:=List.pairwise_cons.mp h
  cases k with
  | zero =>
   have:y < x:=h1 y (by simp)
   simp [insD,this]
  | succ k =>
   have hy:x≤y:=by
    rcases h2 with h2 | h2
    ·omega
    ·cases k with
     | zero=>exact h2
     | succ k =>
      have e:g (y :: a) (k + 1 + 1 - 1) = g a k:=rfl
      rw [e] at h2
      have hk':k < a.length:=by simp at hk;omega
      have:=a1 (g a k) (g_mem hk')
      omega
   have hny:¬ y < x:=by omega
   simp only [insD,hny,if_false,List.take_succ_cons,List.drop_succ_cons,List.cons_append]
   rw [ih a2 k (by simpa using hk) (fun z hz=>h1 z (by simpa using hz)) ?_]
   rcases h2 with h2 | h2
   ·omega
   ·cases k with
    | zero=>exact .inl rfl
    | succ k=>exact .inr h2
end Go.Proofs.YtcggfjpnfodbaaaGreat.M
end
section
namespace Go.Proofs.YtcggfjpnfodbaaaGreat.A
open Go.RowKit Go.Proofs.YtcggfjpnfodbaaaGreatW.PrintWords Go.Proofs.YtcggfjpnfodbaaaGreatW.PrintLast Go.Proofs.YtcggfjpnfodbaaaGreatW.PrintMore
attribute [local go_sem] max2_int min2_int max_two min_two max_three min_three max_four min_four
set_option linter.unusedVariables false
set_option linter.unusedSimpArgs false
def Z0.f (l0:List Int):Option (List Int):=if (∀ x ∈ l0,0≤x∧x≤4611686018427387904)∧l0.length < 4611686018427387904 then some ((M.sortD (l0.map Int.toNat)).map fun (n:Nat)=>(n:Int)) else none
theorem Z0.closure (x y:Int) (W:World):Calls Tryz.prog 29 #[.int .i64 x,.int .i64 y] W fun e w'=>e = .returned (.int .i64 (wrap64 (y - x)))∧∃ q os',w' = Go.Sort.grow (W.drewN q) os':=by
 go_enter Tryz.func29,Tryz.ntmps29
 go_wp2
 go_ret
 exact ⟨by first | rfl | (rw [i64_w]),0,#[],by rw [Go.Sort.grow_empty];rfl⟩
theorem Z0.ord:M.Ord3 (fun x:Int=>0≤x∧x≤4611686018427387904) (fun x y=>wrap64 (y - x)) where
 irr x hx:=by unfold wrap64;omega
 tr x y z hx hy hz h1 h2:=by unfold wrap64 at *;omega
 nt x y z hx hy hz h1 h2:=by unfold wrap64 at *;omega
set_option maxHeartbeats 8000000 in
set_option maxRecDepth 100000 in
theorem Z0.calls (P0_:Nat→Prop) (u9000_:Value) (l0:List Int) (r:List Int) (w0 w:World) (hB:Below w0.heap.size w0 w) (ho0:Kd.R (Kd.int .i64) 3 w w0.heap.size P0_ u9000_ l0) (h:Z0.f l0 = some r) :
  Calls Tryz.prog 28 #[u9000_,.func (.func 29) #[] #[]] w fun e w'=>e = .returned (.tuple #[])∧Kd.R (Kd.int .i64) 3 w' w0.heap.size (fun k_=>(P0_ k_ ∨ w.heap.size≤k_)) u9000_ r∧Below w0.heap.size w0 w'∧Kept w w' (fun k_=>P0_ k_):=by
 unfold Z0.f at h
 split at h
 ·rename_i hq
  obtain rfl:=Option.some.inj h
  have key:=M.sortN1 (d:=Kd.int .i64) (Q:=fun x:Int=>0≤x∧x≤4611686018427387904) (cf:=fun x y=>wrap64 (y - x)) Tryz.sortA28 Tryz.sortB28 rfl Z0.ord 29 (enters_of Tryz.func29 (by kernel_rfl) rfl)
   (fun W x y cx cy _ _ hx hy=>by
    have e1:cx = .int .i64 x:=(List.cons.inj hx).1
    have e2:cy = .int .i64 y:=(List.cons.inj hy).1
    subst e1 e2
    exact Z0.closure x y W) ho0 hq.1 hq.2
  refine key.mono ?_
  rintro e w' ⟨rfl,xs',hp,hs,hR,hK,hB2⟩
  have hx:xs' = (M.sortD (l0.map Int.toNat)).map fun (n:Nat)=>(n:Int):=by
   have hnn:∀ x ∈ xs',0≤x∧x≤4611686018427387904:=fun x hx=>hq.1 x (hp.mem_iff.1 hx)
   have h1:xs' = (xs'.map Int.toNat).map fun (n:Nat)=>(n:Int):=by
    rw [List.map_map]
    conv=>lhs;rw [← List.map_id xs']
    apply List.map_congr_left
    intro x hx
    have:=hnn x hx
    simp only [id,Function.comp]
    omega
   have h2:M.Fall (xs'.map Int.toNat):=by
    unfold M.Fall
    rw [List.pairwise_map]
    refine hs.imp_of_mem ?_
    intro a b ha hb hab
    have:=hnn a ha
    have:=hnn b hb
    have hab':¬ wrap64 (a - b) < 0:=hab
    unfold wrap64 at hab'
    clear hab
    omega
   have h3:xs'.map Int.toNat = M.sortD (l0.map Int.toNat):=M.fall_uniq h2 (M.sortD_fall _) ((hp.map _).trans (M.sortD_perm _).symm)
   rw [← h3]
   exact h1
  rw [← hx]
  exact ⟨rfl,Kd.R_mono hR (fun _ hk=>.inl hk),hB.trans hB2,⟨hK.1,fun i hi hn=>hK.2 i hi (fun e_=>hn (ho0.1 i e_.symm))⟩⟩
 ·cases h
end Go.Proofs.YtcggfjpnfodbaaaGreat.A
end
section
namespace Go.Proofs.YtcggfjpnfodbaaaGreat.A
open Go.RowKit Go.Proofs.YtcggfjpnfodbaaaGreatW.PrintWords Go.Proofs.YtcggfjpnfodbaaaGreatW.PrintLast Go.Proofs.YtcggfjpnfodbaaaGreatW.PrintMore
attribute [local go_sem] max2_int min2_int max_two min_two max_three min_three max_four min_four
set_option linter.unusedVariables false
set_option linter.unusedSimpArgs false
mutual
def Z63.l0:Nat→List Int→List Int→List Bool→Int→Int→Option (List Int × Bool)
 | 0,_,_,_,_,_=>none
 | k + 1,x6,x7,x8,x26,x27=>if x27 < x26 then (Z63.l1 k x6 x7 x8 0 x27 x26 x27) else ((Z0.f x7).bind fun t=>(some (t,true)))
def Z63.l1:Nat→List Int→List Int→List Bool→Int→Int→Int→Int→Option (List Int × Bool)
 | 0,_,_,_,_,_,_,_=>none
 | k + 1,x6,x7,x8,x10,x11,x26,x27=>if 0≤x11 then (if x11 < (x8.length:Int) then (if rdOf false x8 x11 = true then (if x10 > 0 then (if x7.length < 17592186044416 then (Z63.l0 k x6 (x7 ++ [x10]) x8 x26 (wrap64 (x27 + 1))) else (none)) else (Z63.l0 k x6 x7 x8 x26 (wrap64 (x27 + 1)))) else (if x11 < (x6.length:Int) then (Z63.l1 k x6 x7 (x8.set (x11:Int).toNat true) (wrap64 (x10 + 1)) (rd x6 x11) x26 x27) else (none))) else (none)) else (none)
end
def Z63.f (k:Nat) (r u:List Int):Option (List Int × Bool):=(M.orbitO k r u).bind fun z=>match z with | none=>some (([]:List Int),false) | some s=>if s.L.length≤281474976710656∧0 < s.T.length then (Z63.l0 k s.T ([]:List Int) (List.replicate s.L.length false) (s.L.length:Int) 0) else none
theorem Z63.mono_l:∀ k,(∀ y0 y1 y2 y3 y4,LeO (Z63.l0 k y0 y1 y2 y3 y4) (Z63.l0 (k + 1) y0 y1 y2 y3 y4))∧(∀ y0 y1 y2 y3 y4 y5 y6,LeO (Z63.l1 k y0 y1 y2 y3 y4 y5 y6) (Z63.l1 (k + 1) y0 y1 y2 y3 y4 y5 y6))
 | 0=>⟨fun _ _ _ _ _ r h=>by simp [Z63.l0] at h,fun _ _ _ _ _ _ _ r h=>by simp [Z63.l1] at h⟩
 | k + 1=>by
  obtain ⟨ih0,ih1⟩:=Z63.mono_l k
  refine ⟨?_,?_⟩
  ·intro y0 y1 y2 y3 y4
   unfold Z63.l0
   repeat' first|exact ih0 _ _ _ _ _|exact ih1 _ _ _ _ _ _ _|exact lo_|refine LeO.ite ?_ ?_|refine LeO.bind ?_ (fun _=>?_)
  ·intro y0 y1 y2 y3 y4 y5 y6
   unfold Z63.l1
   repeat' first|exact ih0 _ _ _ _ _|exact ih1 _ _ _ _ _ _ _|exact lo_|refine LeO.ite ?_ ?_|refine LeO.bind ?_ (fun _=>?_)
theorem Z63.mono:∀ a0 a1 k,LeO (Z63.f k a0 a1) (Z63.f (k + 1) a0 a1):=by
 intro a0 a1 k
 unfold Z63.f
 refine LeO.bind (M.orbitO_mono _ _ _) (fun z=>?_)
 cases z with
 | none=>exact LeO.refl _
 | some s=>exact LeO.ite ((Z63.mono_l k).1 _ _ _ _ _) (LeO.refl _)
theorem Z63.lookT {w:World} {b n:Nat} {vT vS:Value} (hb:w.heap[b]? = some (M.mapO n vT vS)):(Instr.lookup 49 (.map (some b)) (.int .u8 84) false).run Tryz.prog w = .ok (M.mapV n 84 vT vS) w:=by
 by_cases hn:n = 0 ∨ n = 1 ∨ n = 2
 ·exact M.look_T hb hn
 ·obtain ⟨m,rfl⟩:∃ m,n = m + 2:=⟨n - 2,by omega⟩
  have e:M.mapO (m + 2) vT vS = .map #[⟨.int .u8 84,vT,0⟩,⟨.int .u8 83,vS,1⟩] (m + 2):=by
   unfold M.mapO
   congr 1
   exact Array.extract_eq_self_of_le (Nat.le_add_left 2 m)
  have e2:M.mapV (m + 2) 84 vT vS = vT:=by
   unfold M.mapV
   rw [if_pos rfl,if_pos (by omega)]
  rw [e] at hb
  rw [e2]
  exact M.map_look hb 84 (some (0,vT)) rfl
set_option maxHeartbeats 8000000 in
set_option maxRecDepth 100000 in
theorem Z63.calls (k:Nat) (A0_0:Option Addr) (c0_0:Nat) (l0_0:List Int) (A0_1:Option Addr) (c0_1:Nat) (l0_1:List Int) (r1:List Int) (r2:Bool) (w:World) (hr0_0:Kd.C (Kd.int .i64) w A0_0 l0_0.length l0_0) (hc0_0:l0_0.length≤c0_0) (hr0_1:Kd.C (Kd.int .i64) w A0_1 l0_1.length l0_1) (hc0_1:l0_1.length≤c0_1) (h:Z63.f k l0_0 l0_1 = some (r1,r2)) :
  Calls Tryz.prog 16 #[.agg #[.slice A0_0 l0_0.length c0_0,.slice A0_1 l0_1.length c0_1]] w fun e w'=>∃ v0_:Value,e = .returned (.tuple #[v0_,.bool r2])∧Kd.R (Kd.int .i64) 3 w' w.heap.size (fun _=>True) v0_ r1∧Below w.heap.size w w':=by
 have hu:=Tryz.underlying27
 have HR0_0:=A_ hr0_0;have HC0_0:=A_ hc0_0;clear hr0_0 hc0_0
 have HR0_1:=A_ hr0_1;have HC0_1:=A_ hc0_1;clear hr0_1 hc0_1
 have HB:=A_ (Below.refl w.heap.size w)
 have H:=h
 unfold Z63.f at H
 clear h
 obtain ⟨z,AZ,H⟩:=bi_ H
 cases z with
 | none =>
  obtain ⟨rfl,rfl⟩:=Prod.mk.inj (Option.some.inj H)
  go_enter Tryz.func16,Tryz.ntmps16
  go_wp2_with (first | ((with_reducible refine gB_ (N:=1) rfl ?_);refine bx_ 1 #[.slice A0_0 l0_0.length c0_0,.slice A0_1 l0_1.length c0_1] 27 ?_;intro gs hg wgs hbox hb;have Bgs:=A_ hbox;replace HB:=b1_ hb;clear hb hbox hg;have hczgs0:=cz0_ Bgs;have hczgs1:=cz1_ Bgs;have hfzgs0:=kD_ Bgs.out 0;have hfzgs1:=kD_ Bgs.out 1) | ((with_reducible refine gA_ (f:=27) rfl ?_);refine gL_ (some 13) Tryz.func27 #[.agg #[.slice A0_0 l0_0.length c0_0,.slice A0_1 l0_1.length c0_1]] rfl qa_ ?_;(with_reducible refine (M.orbit_calls k _ _ l0_0 _ _ l0_1 none _ (cb_ HR0_0) HC0_0.out (cb_ HR0_1) HC0_1.out AZ.out).mono ?_);rintro e wz ⟨rfl,hb⟩;refine ⟨_,rfl,?_⟩;replace HB:=b1_ hb;clear hb))
  go_ret2
  exact ⟨_,qb_,Kd.R_nil _ _ _ _ _,hB_⟩
 | some s =>
  dsimp only at H
  have hsm:=cp_ H
  replace H:=ca_ H
  have HSM:=A_ hsm.1
  have HTP:=A_ hsm.2
  clear hsm
  obtain ⟨y1411,hy1411⟩:∃ y_:List Int,y_ = (([]:List Int)):=⟨_,rfl⟩
  rw [← hy1411] at H
  have Ny1411:=A_ hy1411
  clear hy1411
  obtain ⟨y1414,hy1414⟩:∃ y_:List Bool,y_ = (List.replicate s.L.length false):=⟨_,rfl⟩
  rw [← hy1414] at H
  have Ny1414:=A_ hy1414
  clear hy1414
  have H':=A_ H
  clear H
  go_enter Tryz.func16,Tryz.ntmps16
  go_upto_region 4 with (first | ((with_reducible refine gB_ (N:=1) rfl ?_);refine bx_ 1 #[.slice A0_0 l0_0.length c0_0,.slice A0_1 l0_1.length c0_1] 27 ?_;intro gs hg wgs hbox hb;have Bgs:=A_ hbox;replace HB:=b1_ hb;clear hb hbox hg;have hczgs0:=cz0_ Bgs;have hczgs1:=cz1_ Bgs;have hfzgs0:=kD_ Bgs.out 0;have hfzgs1:=kD_ Bgs.out 1) | ((with_reducible refine gA_ (f:=27) rfl ?_);refine gL_ (some 13) Tryz.func27 #[.agg #[.slice A0_0 l0_0.length c0_0,.slice A0_1 l0_1.length c0_1]] rfl qa_ ?_;(with_reducible refine (M.orbit_calls k _ _ l0_0 _ _ l0_1 (some s) _ (cb_ HR0_0) HC0_0.out (cb_ HR0_1) HC0_1.out AZ.out).mono ?_);rintro e wz ⟨gO,gM,nm_,col,vL,vW,vF,vB,vT,vS,rfl,hh,hb⟩;refine ⟨_,rfl,?_⟩;replace HB:=b1_ hb;have HH:=A_ hh;clear hb hh;obtain ⟨AL,cL,eL⟩:=Kd.S_slice HH.out.hL;subst eL;obtain ⟨AW,cW,eW⟩:=Kd.R_slice HH.out.hW;subst eW;have hco0:wz.cell? ⟨gO,0,none⟩ = some (.slice AL s.L.length cL):=(blk_cell HH.out.hO 0).trans rfl;have hco1:wz.cell? ⟨gO,1,none⟩ = some (.slice AW s.W.length cW):=(blk_cell HH.out.hO 1).trans rfl;have hfo0:=kD_ HH.out.hO 0;have hfo1:=kD_ HH.out.hO 1))
  have HB0:=HB
  replace HB:=A_ (Below.refl wz.heap.size wz)
  obtain ⟨AT,cT,eT⟩:=Kd.R_slice HH.out.hT
  subst eT
  have HLK:Aside0 (∀ w',w'.heap[gM]? = some (M.mapO nm_ (.slice AT s.T.length cT) vS)→(Instr.lookup 49 (.map (some gM)) (.int .u8 84) false).run Tryz.prog w' = .ok (.slice AT s.T.length cT) w'):=⟨fun w' h_=>by
   have:=Z63.lookT h_
   rw [HH.out.look.1] at this
   exact this⟩
  clear hco1 hfo1
  go_upto_region 5 with (first | ((with_reducible refine gB_ (N:=23) rfl ?_);refine Kd.R_make Kd.bool _ 4 rfl (N:=23) rfl 41 _ _ rfl (s.L.length:Int) rfl rfl Tryz.underlying41 (.bool false) 1 info4 rfl (by decide) (by omega) false (ok:=fun _=>True) (okp:=fun _=>True) rfl (fun _ hk=>hk) trivial (Int.natCast_nonneg _) (Nat.le_trans (Nat.mul_le_mul_right _ HSM.out) (by omega)) (Below.refl _ _) (nA_ _) ?_;intro v1415 w15 ho16 hb hg_ hnew_;clear hg_ hnew_;rw [Int.toNat_natCast,← Ny1414.out] at ho16;have HO1416:=rl_ wz ho16;replace HB:=b1_ hb;clear hb ho16))
  go_upto_region 6 with (first | ((with_reducible refine gB_ (N:=24) rfl ?_);refine Kd.R_lit (Kd.int .i64) _ 3 ?hg (N:=24) ?hd (xs:=([]:List Int)) (inner:=[]) (ok:=fun _=>True) (okp:=fun _=>True) ?hr ?hp (fun _ hk=>hk) trivial (Below.refl _ _) (nA_ _) (by simp) ?_;(case hd=>rfl);(case hg=>rfl);(case hr=>first | (go_simp;done) | (go_simp;rfl));(case hp=>exact (Reps.none _ _));intro v1412 w12 ho13 hb hg_ hnew_;clear hg_ hnew_;rw [← Ny1411.out] at ho13;have HO1413:=rl_ wz ho13;replace HO1416:=rb_ HO1416 hb;replace HB:=b1_ hb;clear hb ho13))
  have hHr:=HH.out.below HB.out
  have hcp0:w12.cell? ⟨gO,0,none⟩ = some (.slice AL s.L.length cL):=(blk_cell hHr.hO 0).trans rfl
  have hfp0:=kD_ hHr.hO 0
  clear hHr
  go_wp2
  go_loopg [7,30] k (fun kq v7 v30 w'=>∃ (x7_1:List Int) (x8_1:List Bool) (x27_1:Int),v30 = .int .i64 x27_1∧Aside0 (Z63.l0 kq s.T x7_1 x8_1 (s.L.length:Int) x27_1 = some (r1,r2))∧Aside0 (kq≤k)∧Aside0 (Kd.R (Kd.int .i64) 3 w' wz.heap.size (fun _=>True) v7 x7_1)∧Aside0 (Kd.R Kd.bool 4 w' wz.heap.size (fun _=>True) v1415 x8_1)∧Aside0 (Below wz.heap.size wz w'))
  case atStart=>exact ⟨(y1411),(y1414),(0),qc_,H',⟨nA_ _⟩,⟨(rr_ HO1413)⟩,⟨(rr_ HO1416)⟩,⟨hB_⟩⟩
  case round =>
   clear H' hcp0 hfp0 hco0 hfo0
   obtain ⟨x7_1,x8_1,x27_1,rfl,HA,HK1,HO_7,HO_8,HB⟩:=hrel
   cases gk with
   | zero=>exact absurd HA.out (by simp [Z63.l0])
   | succ k1 =>
    have H:=HA.out
    clear HA
    simp only [Z63.l0] at H
    by_cases c17:x27_1 < (s.L.length:Int)
    ·rw [if_pos c17] at H
     have c17b0:=oC_ c17
     clear c17
     have H':=A_ H
     clear H
     go_wp2
     go_loopg [9,10] k1 (fun kq v9 v10 w'=>∃ (x8_2:List Bool) (x10_2:Int) (x11_2:Int),v9 = .int .i64 x10_2∧v10 = .int .i64 x11_2∧Aside0 (Z63.l1 kq s.T x7_1 x8_2 x10_2 x11_2 (s.L.length:Int) x27_1 = some (r1,r2))∧Aside0 (kq≤k1)∧Aside0 (Kd.R (Kd.int .i64) 3 w' wz.heap.size (fun _=>True) u7 x7_1)∧Aside0 (Kd.R Kd.bool 4 w' wz.heap.size (fun _=>True) v1415 x8_2)∧Aside0 (Below wz.heap.size wz w'))
     case atStart=>exact ⟨(x8_1),(0),(x27_1),qc_,qc_,H',⟨nA_ _⟩,⟨(rr_ HO_7)⟩,⟨(rr_ HO_8)⟩,⟨hB_⟩⟩
     case round =>
      clear H'
      obtain ⟨x8_2,x10_2,x11_2,rfl,rfl,HA,HK2,HO_7,HO_8,HB⟩:=hrel
      cases gk with
      | zero=>exact absurd HA.out (by simp [Z63.l1])
      | succ k2 =>
       have H:=HA.out
       clear HA
       simp only [Z63.l1] at H
       have c18:=cp_ H
       replace H:=ca_ H
       have c18b0:=oC_ c18
       clear c18
       have c19:=cp_ H
       replace H:=ca_ H
       have c19b0:=oC_ c19
       clear c19
       obtain ⟨bq20,hbq20⟩:∃ b_:Bool,b_ = (rdOf false x8_2 x11_2):=⟨_,rfl⟩
       rw [← hbq20] at H
       have Nbq20:=A_ hbq20
       clear hbq20
       by_cases c21:bq20 = true
       ·subst c21
        rw [if_pos rfl] at H
        by_cases c22:x10_2 > 0
        ·rw [if_pos c22] at H
         have c22b0:decide (0 < x10_2) = true:=oC_ c22
         clear c22
         have c23:=cp_ H
         replace H:=ca_ H
         have LMc23:=A_ c23
         clear c23
         obtain ⟨y1421,hy1421⟩:∃ y_:List Int,y_ = (x7_1 ++ [x10_2]):=⟨_,rfl⟩
         rw [← hy1421] at H
         have Ny1421:=A_ hy1421
         clear hy1421
         have H':=A_ H
         clear H
         obtain ⟨Ao24,co24,eo24⟩:=Kd.R_slice HO_8.out
         subst eo24
         have p1420:0≤(x11_2:Int):=oB_ qe_
         have q1420:x11_2 < (x8_2.length:Int):=oB_ qe_
         obtain ⟨ad1420,e1420,hx1420_0⟩:=Kd.at_bool (Kd.R_reads' HO_8.out).2.2 x11_2 p1420 q1420
         (try rw [← Nbq20.out] at hx1420_0)
         cases e1420
         replace p1420:=eq_true p1420
         replace q1420:=eq_true q1420
         go_wp2_with (first | ((with_reducible refine gate_builtin (b:=.append) (xs:=#[.tmp 54,.tmp 56]) rfl ?_);at_builtin;refine Kd.R_append (Kd.int .i64) (w0:=wz) wz.heap.size rfl (.tmp 54) (.tmp 56) 22 3 (.int .i64 0) 8 rfl Tryz.underlying22 info3 rfl (by decide) (by omega) u7 x7_1 x10_2 [.int .i64 x10_2] (fun _=>True) (fun _=>False) rfl rfl ?aP (fun _ hk=>hk.elim) ?aF ?aO ?aB ?aS ?aL ?_;(case aP=>exact rfl);(case aB=>exact hB_);(case aF=>exact (fun k_ hk=>trivial));(case aO=>exact (rr_ HO_7));(case aS=>exact (bF_ hB_));(case aL=>have:=LMc23.out;omega);intro v1422 w25 ho hb hg hat;rw [← Ny1421.out] at ho;replace HO_8:=A_ (Kd.R_over' (rr_ HO_8) (Kd.R_typed (rr_ HO_7)) (by decide) hg);replace HB:=A_ hb;have HO1423:=A_ ho;clear HO_7;clear ho hb hg hat))
         go_roundg k2
         case measure=>have:=HK1.out;have:=HK2.out;omega
         case rel=>exact ⟨(y1421),(x8_2),(wrap64 (x27_1 + 1)),qc_,H',⟨by have:=HK1.out;have:=HK2.out;omega⟩,⟨(rr_ HO1423)⟩,⟨(rr_ HO_8)⟩,⟨hB_⟩⟩
        ·rw [if_neg c22] at H
         have c22b0:decide (0 < x10_2) = false:=oD_ c22
         clear c22
         have H':=A_ H
         clear H
         obtain ⟨Ao26,co26,eo26⟩:=Kd.R_slice HO_8.out
         subst eo26
         have p1420:0≤(x11_2:Int):=oB_ qe_
         have q1420:x11_2 < (x8_2.length:Int):=oB_ qe_
         obtain ⟨ad1420,e1420,hx1420_0⟩:=Kd.at_bool (Kd.R_reads' HO_8.out).2.2 x11_2 p1420 q1420
         (try rw [← Nbq20.out] at hx1420_0)
         cases e1420
         replace p1420:=eq_true p1420
         replace q1420:=eq_true q1420
         go_wp2
         go_roundg k2
         case measure=>have:=HK1.out;have:=HK2.out;omega
         case rel=>exact ⟨(x7_1),(x8_2),(wrap64 (x27_1 + 1)),qc_,H',⟨by have:=HK1.out;have:=HK2.out;omega⟩,⟨(rr_ HO_7)⟩,⟨(rr_ HO_8)⟩,⟨hB_⟩⟩
       ·replace c21:=Bool.eq_false_iff.mpr c21
        subst c21
        rw [if_neg (show ¬ (false = true) by decide)] at H
        obtain ⟨y1424,hy1424⟩:∃ y_:List Bool,y_ = (x8_2.set (x11_2:Int).toNat true):=⟨_,rfl⟩
        rw [← hy1424] at H
        have Ny1424:=A_ hy1424
        clear hy1424
        have c28:=cp_ H
        replace H:=ca_ H
        have c28b0:=oC_ c28
        clear c28
        have H':=A_ H
        clear H
        obtain ⟨Ao29,co29,eo29⟩:=Kd.R_slice HO_8.out
        subst eo29
        have p1420:0≤(x11_2:Int):=oB_ qe_
        have q1420:x11_2 < (x8_2.length:Int):=oB_ qe_
        obtain ⟨ad1420,e1420,hx1420_0⟩:=Kd.at_bool (Kd.R_reads' HO_8.out).2.2 x11_2 p1420 q1420
        (try rw [← Nbq20.out] at hx1420_0)
        cases e1420
        replace p1420:=eq_true p1420
        replace q1420:=eq_true q1420
        have p27:0≤(x11_2:Int):=oB_ qe_
        have q27:(x11_2:Int) < ((x8_2.length:Int):Int):=oB_ qe_
        obtain ⟨go27,co27,eo27,gb27,gl27,cl27,HG27⟩:=Kd.R_form HO_8.out (by omega)
        (first | cases eo27 | (injection eo27 with ea_ en_ ec_;(first | subst ea_ | (injection ea_ with ea_;subst ea_));subst ec_;clear en_))
        have GB27:=A_ gb27
        have GG27:=A_ HG27
        clear gb27 gl27 HG27
        (first | simp only [add_plain] at hx1420_0 | skip)
        obtain ⟨hx27_0,hf27_0⟩:=Kd.R_celln false HO_8.out (x11_2:Int) p27 q27
        replace p27:=eq_true p27
        replace q27:=eq_true q27
        have HP30:=Kd.R_putg HO_8.out (x11_2:Int) true
        go_wp2_with (first | ((with_reducible refine gate_store (t:=4) (p:=49) rfl ?_);refine store_event (t:=4) (p:=49) (v:=?vo_w31) (w1:=(wr.setCell ⟨go27,(x11_2:Int).toNat,none⟩ (.bool true))) ?hg ?ho ?hn ?hr ?_;(case ho=>rfl);(case hg=>rfl);(case hn=>rfl);(case hr=>first | (go_simp;done) | (go_simp;rfl));intro w31 hw;have hg:wr.grownBy w31 (some go27):=(by rw [hw];exact HP30.2);have hp_:Kd.R Kd.bool 4 w31 wz.heap.size (fun _=>True) (.slice (some ⟨go27,0,none⟩) x8_2.length co29) y1424:=(by rw [hw,Ny1424.out];exact HP30.1);clear HP30;replace HO_7:=A_ (Kd.R_over' (v:=(.slice (some ⟨go27,0,none⟩) x8_2.length co29)) (rr_ HO_7) (Kd.R_typed HO_8.out) (by decide) hg);replace HO_8:=A_ (hp_);replace HB:=A_ ((by rw [hw];exact bD_ (HB.out) GB27.out:Below wz.heap.size wz w31));clear hg hw hp_;have HHr:=HH.out.below HB.out;have hco4:w31.cell? ⟨gO,4,none⟩ = some (.map (some gM)):=(blk_cell HHr.hO 4).trans rfl;have hfo4:=kD_ HHr.hO 4;have hlk:=HLK.out w31 HHr.hM;have p1425:0≤(x11_2:Int):=oB_ qe_;have q1425:x11_2 < (s.T.length:Int):=oB_ qe_;obtain ⟨ad1425,e1425,hx1425_0⟩:=Kd.at_int (Kd.R_reads' HHr.hT).2.2 x11_2 p1425 q1425;cases e1425;clear HHr;replace p1425:=eq_true p1425;replace q1425:=eq_true q1425))
        go_roundg k2
        case measure=>have:=HK1.out;have:=HK2.out;omega
        case rel=>exact ⟨(y1424),(wrap64 (x10_2 + 1)),(rd s.T x11_2),qc_,qc_,H',⟨by have:=HK1.out;have:=HK2.out;omega⟩,⟨(rr_ HO_7)⟩,⟨(rr_ HO_8)⟩,⟨hB_⟩⟩
    ·rw [if_neg c17] at H
     have c17b0:=oD_ c17
     clear c17
     obtain ⟨t1417,A32,H⟩:=bi_ H
     simp only [Option.some.injEq,Prod.mk.injEq] at H
     obtain ⟨rfl,rfl⟩:=H
     obtain ⟨Ao33,co33,eo33⟩:=Kd.R_slice HO_7.out
     subst eo33
     go_wp2_with (first | ((with_reducible refine gA_ (f:=28) rfl ?_);refine gL_ (some 60) Tryz.func28 #[.slice Ao33 x7_1.length co33,.func (.func 29) #[] #[]] rfl qa_ ?_;(with_reducible refine (Z0.calls (fun k_=>some k_ = (.slice Ao33 x7_1.length co33:Value).ownBlock) (.slice Ao33 x7_1.length co33) x7_1 t1417 wz _ hB_ (Kd.R_tight rfl HO_7.out) A32.out).mono ?_);rintro e w34 ⟨rfl,hy0,hb,hkp⟩;refine ⟨_,rfl,?_⟩;replace HO_7:=A_ (Kd.R_reok rfl hy0 (fun k_ e_=>HO_7.out.1 k_ e_));replace HB:=A_ hb;clear hb hkp hy0))
     go_ret2
     exact ⟨_,qb_,rE_ (Kd.R_mono (rr_ HO_7) (fun _ hk=>trivial)) (bF_ HB0.out),bE_ HB0.out HB.out⟩
end Go.Proofs.YtcggfjpnfodbaaaGreat.A
end
section
namespace Go.Proofs.YtcggfjpnfodbaaaGreat.A
open Go.RowKit Go.Proofs.YtcggfjpnfodbaaaGreatW.PrintWords Go.Proofs.YtcggfjpnfodbaaaGreatW.PrintLast Go.Proofs.YtcggfjpnfodbaaaGreatW.PrintMore
attribute [local go_sem] max2_int min2_int max_two min_two max_three min_three max_four min_four
set_option linter.unusedVariables false
set_option linter.unusedSimpArgs false
def Z3.f (s:ByteArray) (c:Int):Option Int:=some (Lib.indexByte s.data.toList c.toNat.toUInt8)
set_option maxHeartbeats 8000000 in
set_option maxRecDepth 100000 in
theorem Z3.calls (a0:ByteArray) (a1:Int) (r:Int) (w:World) (h:Z3.f a0 a1 = some r) :
  Calls Tryz.prog 109 #[.string a0,.int .u8 a1] w fun e w'=>e = .returned (.int .i64 r)∧Below w.heap.size w w':=by
 unfold Z3.f at h
 obtain rfl:=Option.some.inj h
 clear h
 go_enter Tryz.func109,Tryz.ntmps109
 go_wp2
 rw [run_callFunc_extern Tryz.func111 (by kernel_rfl) (by kernel_rfl) (by kernel_rfl) (e:=Extern.BytealgIndexByte.indexByte) (by kernel_rfl),Lib.run_indexByteString]
 simp only [Result.andThen]
 rw [Oper.upon_value]
 go_wp2
 go_ret
 exact ⟨rfl,by repeat (first | (with_reducible first | exact Below.refl _ _ | apply bA_ | apply bB_ | apply bC_) | exact Below.refl _ _)⟩
def Z21.f (a0:ByteArray) (a1:Int):Option (Int):=(Z3.f a0 a1).bind fun t692=>(some t692)
set_option maxHeartbeats 8000000 in
set_option maxRecDepth 100000 in
theorem Z21.calls (a0:ByteArray) (a1:Int) (r:Int) (w:World) (h:Z21.f a0 a1 = some r) :
  Calls Tryz.prog 101 #[.string a0,.int .u8 a1] w fun e w'=>e = .returned (.int .i64 r)∧Below w.heap.size w w':=by
 have HB:=A_ (Below.refl w.heap.size w)
 have H:=h
 unfold Z21.f at H
 clear h
 obtain ⟨t692,A3,H⟩:=bi_ H
 obtain rfl:=Option.some.inj H
 go_enter Tryz.func101,Tryz.ntmps101
 go_wp2_with (first | ((with_reducible refine gA_ (f:=109) rfl ?_);refine gL_ (some 7) Tryz.func109 #[.string a0,.int .u8 a1] rfl qa_ ?_;(with_reducible refine (Z3.calls a0 a1 t692 _ A3.out).mono ?_);rintro e w4 ⟨rfl,hb⟩;refine ⟨_,rfl,?_⟩;replace HB:=b1_ hb;clear hb))
 go_ret
 exact ⟨qb_,hB_⟩
def Z76.l0:Nat→ByteArray→Int→Option (Bool)
 | 0,_,_=>none
 | k + 1,x0,x3=>if x3 < (x0.size:Int) then (if 0≤x3 then ((Z21.f (⟨#[84,116,83,115]⟩:ByteArray) (bt x0 x3)).bind fun t693=>(if t693 < 0 then (some false) else (Z76.l0 k x0 (wrap64 (x3 + 1))))) else (none)) else (some (decide ((x0.size:Int)≤40)))
def Z76.f (k:Nat) (a0:ByteArray):Option (Bool):=Z76.l0 k a0 0
theorem Z76.mono_l:∀ k,(∀ y0 y1,LeO (Z76.l0 k y0 y1) (Z76.l0 (k + 1) y0 y1))
 | 0=>fun _ _ r h=>by simp [Z76.l0] at h
 | k + 1=>by
  have ih0:=Z76.mono_l k
  ·intro y0 y1
   unfold Z76.l0
   repeat' first|exact ih0 _ _|exact lo_|refine LeO.ite ?_ ?_|refine LeO.bind ?_ (fun _=>?_)
theorem Z76.mono:∀ a0 k,LeO (Z76.f k a0) (Z76.f (k + 1) a0):=by
 intro a0 k
 have ih0:=Z76.mono_l k
 unfold Z76.f
 repeat' first|exact ih0 _ _|exact lo_|refine LeO.ite ?_ ?_|refine LeO.bind ?_ (fun _=>?_)
set_option maxHeartbeats 8000000 in
set_option maxRecDepth 100000 in
theorem Z76.calls (k:Nat) (a0:ByteArray) (r:Bool) (w:World) (h:Z76.f k a0 = some r) :
  Calls Tryz.prog 77 #[.string a0] w fun e w'=>e = .returned (.bool r)∧Below w.heap.size w w':=by
 have HB:=A_ (Below.refl w.heap.size w)
 have H:=h
 unfold Z76.f at H
 clear h
 have H':=A_ H
 clear H
 go_enter Tryz.func77,Tryz.ntmps77
 go_wp2
 go_loopg [3] k (fun kq v3 w'=>∃ (x3_1:Int),v3 = .int .i64 x3_1∧Aside0 (Z76.l0 kq a0 x3_1 = some r)∧Aside0 (kq≤k)∧Aside0 (Below w.heap.size w w'))
 case atStart=>exact ⟨(0),qc_,H',⟨nA_ _⟩,⟨hB_⟩⟩
 case round =>
  clear H'
  obtain ⟨x3_1,rfl,HA,HK1,HB⟩:=hrel
  cases gk with
  | zero=>exact absurd HA.out (by simp [Z76.l0])
  | succ k1 =>
   have H:=HA.out
   clear HA
   simp only [Z76.l0] at H
   by_cases c2:x3_1 < (a0.size:Int)
   ·rw [if_pos c2] at H
    have c2b0:=oC_ c2
    clear c2
    have c3:=cp_ H
    replace H:=ca_ H
    have c3b0:=oC_ c3
    clear c3
    obtain ⟨t693,A5,H⟩:=bi_ H
    by_cases c6:t693 < 0
    ·rw [if_pos c6] at H
     have c6b0:=oC_ c6
     clear c6
     obtain rfl:=Option.some.inj H
     have p4:0≤(x3_1:Int):=oB_ qe_
     have q4:x3_1 < (a0.size:Int):=oB_ qe_
     have hx4:=bt_at a0 x3_1
     replace p4:=eq_true p4
     replace q4:=eq_true q4
     go_wp2_with (first | ((with_reducible refine gA_ (f:=101) rfl ?_);refine gL_ (some 13) Tryz.func101 #[.string (⟨#[84,116,83,115]⟩:ByteArray),.int .u8 (bt a0 x3_1)] rfl qa_ ?_;(with_reducible refine (Z21.calls (⟨#[84,116,83,115]⟩:ByteArray) (bt a0 x3_1) t693 _ A5.out).mono ?_);rintro e w7 ⟨rfl,hb⟩;refine ⟨_,rfl,?_⟩;replace HB:=b1_ hb;clear hb))
     go_ret
     exact ⟨qb_,hB_⟩
    ·rw [if_neg c6] at H
     have c6b0:=oD_ c6
     clear c6
     have H':=A_ H
     clear H
     have p4:0≤(x3_1:Int):=oB_ qe_
     have q4:x3_1 < (a0.size:Int):=oB_ qe_
     have hx4:=bt_at a0 x3_1
     replace p4:=eq_true p4
     replace q4:=eq_true q4
     go_wp2_with (first | ((with_reducible refine gA_ (f:=101) rfl ?_);refine gL_ (some 13) Tryz.func101 #[.string (⟨#[84,116,83,115]⟩:ByteArray),.int .u8 (bt a0 x3_1)] rfl qa_ ?_;(with_reducible refine (Z21.calls (⟨#[84,116,83,115]⟩:ByteArray) (bt a0 x3_1) t693 _ A5.out).mono ?_);rintro e w8 ⟨rfl,hb⟩;refine ⟨_,rfl,?_⟩;replace HB:=b1_ hb;clear hb))
     go_roundg k1
     case measure=>have:=HK1.out;omega
     case rel=>exact ⟨(wrap64 (x3_1 + 1)),qc_,H',⟨by have:=HK1.out;omega⟩,⟨hB_⟩⟩
   ·rw [if_neg c2] at H
    have c2b0:=oD_ c2
    clear c2
    obtain rfl:=Option.some.inj H
    go_wp2
    go_ret
    exact ⟨qb_,hB_⟩
def Z26.f (l0_0:List Int) (l0_1:List Int):Option (List Int × List Int):=(Z54.f l0_0).bind fun t696=>((Z54.f l0_1).bind fun t699=>(some (t696,t699)))
def Z26.T1:Bool × List (List Nat × List Nat):=(true,[([],[]),([0],[0]),([1],[1]),([],[]),([3],[3]),([4,2],[4]),([2,5],[2,5]),([6,5,0,1,2,3,4,5,6],[6])])
def Z26.B1:List Nat:=[0,1,3,0,8,31,63,127]
theorem Z26.tab1:rtab .any (opsOf Tryz.f78 1) = Z26.T1:=by kernel_rfl
theorem Z26.bits1:waitsOk Z26.T1.2 Z26.B1 = true:=by kernel_rfl
set_option maxHeartbeats 8000000 in
set_option maxRecDepth 100000 in
theorem Z26.calls (A0_0:Option Addr) (c0_0:Nat) (l0_0:List Int) (A0_1:Option Addr) (c0_1:Nat) (l0_1:List Int) (r1:List Int) (r2:List Int) (w:World) (hr0_0:Kd.C (Kd.int .i64) w A0_0 l0_0.length l0_0) (hc0_0:l0_0.length≤c0_0) (hr0_1:Kd.C (Kd.int .i64) w A0_1 l0_1.length l0_1) (hc0_1:l0_1.length≤c0_1) (h:Z26.f l0_0 l0_1 = some (r1,r2)) :
  Calls Tryz.prog 78 #[.agg #[.slice A0_0 l0_0.length c0_0,.slice A0_1 l0_1.length c0_1]] w fun e w'=>∃ v0_ v1_:Value,e = .returned (.agg #[v0_,v1_])∧Kd.R (Kd.int .i64) 3 w' w.heap.size (fun k_=>some k_≠(v1_:Value).ownBlock) v0_ r1∧Kd.R (Kd.int .i64) 3 w' w.heap.size (fun k_=>some k_≠(v0_:Value).ownBlock) v1_ r2∧Below w.heap.size w w':=by
 have hu27:=Tryz.underlying27
 have HR0_0:=A_ hr0_0
 have HC0_0:=A_ hc0_0
 clear hr0_0 hc0_0
 have HR0_1:=A_ hr0_1
 have HC0_1:=A_ hc0_1
 clear hr0_1 hc0_1
 have HB:=A_ (Below.refl w.heap.size w)
 have H:=h
 unfold Z26.f at H
 clear h
 obtain ⟨t696,A2,H⟩:=bi_ H
 obtain ⟨t699,A3,H⟩:=bi_ H
 simp only [Option.some.injEq,Prod.mk.injEq] at H
 obtain ⟨rfl,rfl⟩:=H
 go_enter Tryz.func78,Tryz.ntmps78
 try go_wp2_with (first | ((with_reducible refine gB_ (N:=1) rfl ?_);refine bx_ 1 #[.slice A0_0 l0_0.length c0_0,.slice A0_1 l0_1.length c0_1] 27 ?_;intro gb694 hg w4 hbox hb;have BK694:=A_ hbox;have GW694:=gw_ w hg;have GE694:=GW694;replace HB:=b1_ hb;clear hb hbox hg) | ((with_reducible refine gB_ (N:=2) rfl ?_);refine bx_ 2 #[.slice none 0 0,.slice none 0 0] 27 ?_;intro gb695 hg w5 hbox hb;have BK695:=A_ hbox;have GW695:=gw_ w hg;have GE695:=GW695;replace HB:=b1_ hb;have NB694_695:=gN_ BK694 hg;have NB695_694:=gP_ BK694 hg;replace BK694:=bb_ BK694 hb;clear hb hbox hg))
 replace BK694:=A_ (kB_ BK694.out)
 replace BK695:=A_ (kB_ BK695.out)
 replace HB:=A_ (bC_ HB.out)
 refine start_ (n:=8) (S:=fun w'=>w'.cell? ⟨gb694,0,none⟩ = some (.slice A0_0 l0_0.length c0_0)∧w'.cell? ⟨gb694,1,none⟩ = some (.slice A0_1 l0_1.length c0_1)) (ds:=[]) (bl_ 8 0) (by kernel_rfl) rfl (by kernel_rfl) ⟨cz0_ BK694,cz1_ BK694⟩ (fun hHeld=>?_);refine with_tabW Z26.tab1 Z26.bits1 (fun HT_ HW_=>?_)
 generalize w5.drew = w6 at BK694 BK695 HB hHeld ⊢
 refine pu_ 0 (some 3) (bl_ 8 1) HT_ ?_
 refine pu_ 3 (some 6) (bl_ 8 9) HT_ ?_
 refine ta_ 1 (some 4) (bl_ 8 11) HT_ HW_ hHeld ?_
 refine ta_ 4 (some 7) (bl_ 8 27) HT_ HW_ hHeld ?_
 refine on_ 2 (some 5) (bl_ 8 31) HT_ (fun K hK=>?_)
 refine gO_ Tryz.func91 #[.slice A0_0 l0_0.length c0_0] (by rfl) rfl rfl qa_ ?_
 with_reducible refine (Z54.calls _ _ l0_0 t696 _ (cb_ HR0_0) HC0_0.out A2.out).mono ?_
 rintro e w7 ⟨v697,rfl,ho0,hb⟩
 refine ⟨_,rfl,?_⟩
 have HO698:=rl_ w ho0
 replace BK694:=bb_ BK694 hb
 replace BK695:=bb_ BK695 hb
 replace HB:=b1_ hb
 clear hb ho0
 refine hK.out _ _ ⟨cz0_ BK694,cz1_ BK694⟩ (fun hHeld=>?_)
 clear hK K
 refine no_ (some 5) ?_
 refine on_ 5 (some 8) (bl_ 8 63) HT_ (fun K hK=>?_)
 refine gO_ Tryz.func91 #[.slice A0_1 l0_1.length c0_1] (by rfl) rfl rfl qa_ ?_
 with_reducible refine (Z54.calls _ _ l0_1 t699 _ (cb_ HR0_1) HC0_1.out A3.out).mono ?_
 rintro e w8 ⟨v700,rfl,ho0,hb⟩
 refine ⟨_,rfl,?_⟩
 have HO701:=A_ (rE_ (Kd.R_new' ho0 (Kd.R_lt (rr_ HO698))) (bF_ hB_))
 replace HO698:=A_ (Kd.R_elder' (rr_ HO698) (Kd.R_base ho0) hb)
 replace BK694:=bb_ BK694 hb
 replace BK695:=bb_ BK695 hb
 replace HB:=b1_ hb
 clear hb ho0
 obtain ⟨Ao9,co9,eo9⟩:=Kd.R_slice HO701.out
 (first | subst eo9 | (injection eo9 with f1_ f2_ f3_;have f4_:=f1_.symm;have f5_:=f3_.symm;clear f1_ f2_ f3_;subst f4_;subst f5_))
 obtain ⟨Ao10,co10,eo10⟩:=Kd.R_slice HO698.out
 (first | subst eo10 | (injection eo10 with f1_ f2_ f3_;have f4_:=f1_.symm;have f5_:=f3_.symm;clear f1_ f2_ f3_;subst f4_;subst f5_))
 refine hK.out _ _ ⟨cz0_ BK694,cz1_ BK694⟩ (fun hHeld=>?_)
 clear hK K
 refine no_ (some 8) ?_
 refine pu_ 6 (some 9) (bl_ 8 127) HT_ ?_
 refine on_ 7 (none) (bl_ 8 255) HT_ (fun K hK=>?_)
 have hs11:w8.cell? ⟨gb695,0,none⟩ = some (.slice none 0 0):=cz0_ BK695
 have hfs11:=kD_ BK695.out 0
 have hns11_0:=NB694_695.out
 have hms11_0:=NB695_694.out
 have hs12:w8.cell? ⟨gb695,1,none⟩ = some (.slice none 0 0):=cz1_ BK695
 have hfs12:=kD_ BK695.out 1
 have hns12_0:=NB694_695.out
 have hms12_0:=NB695_694.out
 refine skip_ (w1:=?_) (by rfl) rfl ?_ ?_
 rotate_left
 ·go_simp
  rfl
 refine hK.out _ _ ⟨((cell_far (p:=⟨gb695,_,none⟩) NB694_695.out _).trans (((cell_far (p:=⟨gb695,_,none⟩) NB694_695.out _).trans (hHeld.1)))),((cell_far (p:=⟨gb695,_,none⟩) NB694_695.out _).trans (((cell_far (p:=⟨gb695,_,none⟩) NB694_695.out _).trans (hHeld.2))))⟩ (fun hHeld=>?_)
 clear hK K
 refine done_ (done_of HT_.out (by kernel_rfl)) ?_
 try go_wp2
 refine bodyPost_ret (results_cell_row rfl _ _ gb695 27 #[.slice Ao10 t696.length co10,.slice Ao9 t699.length co9] (0,0) _ rfl qp_ Tryz.underlying27 rfl (by kernel_rfl)) rfl ?_
 exact ⟨_,_,qb_,(rw_ (Kd.R_mono (fa_ HO698 BK695) (fun _ hk=>hk.2))),(rw_ (Kd.R_mono (fa_ HO701 BK695) (fun _ hk=>hk.2))),hB_⟩
end Go.Proofs.YtcggfjpnfodbaaaGreat.A
end
section
namespace Go.Proofs.YtcggfjpnfodbaaaGreat.A
open Go.RowKit Go.Proofs.YtcggfjpnfodbaaaGreatW.PrintWords Go.Proofs.YtcggfjpnfodbaaaGreatW.PrintLast Go.Proofs.YtcggfjpnfodbaaaGreatW.PrintMore
attribute [local go_sem] max2_int min2_int max_two min_two max_three min_three max_four min_four
set_option linter.unusedVariables false
set_option linter.unusedSimpArgs false
mutual
def Z65.j0:Nat→ByteArray→Bool→List Int→List Int→Option (List Int × List Int × Bool)
 | 0,_,_,_,_=>none
 | k + 1,x1,x15,x703000,x703001=>if x15 = true then (some (([]:List Int),([]:List Int),false)) else ((Z26.f x703000 x703001).bind fun bt706=>(Z65.l0 k x1 0 bt706.1 bt706.2))
def Z65.l0:Nat→ByteArray→Int→List Int→List Int→Option (List Int × List Int × Bool)
 | 0,_,_,_,_=>none
 | k + 1,x1,x7,x713000,x713001=>if x7 < (x1.size:Int) then (if 0≤x7 then ((Z11.f k x713000 x713001 (bt x1 x7)).bind fun bt713=>(Z65.l0 k x1 (wrap64 (x7 + 1)) bt713.1 bt713.2)) else (none)) else (some (x713000,x713001,true))
end
def Z65.f (k:Nat) (l0_0:List Int) (l0_1:List Int) (a1:ByteArray):Option (List Int × List Int × Bool):=(Z38.f k l0_0 l0_1).bind fun t704=>(if t704 = true then ((Z76.f k a1).bind fun t705=>(Z65.j0 k a1 (!t705) l0_0 l0_1)) else (Z65.j0 k a1 true l0_0 l0_1))
theorem Z65.mono_l:∀ k,(∀ y0 y1 y2 y3,LeO (Z65.j0 k y0 y1 y2 y3) (Z65.j0 (k + 1) y0 y1 y2 y3))∧(∀ y0 y1 y2 y3,LeO (Z65.l0 k y0 y1 y2 y3) (Z65.l0 (k + 1) y0 y1 y2 y3))
 | 0=>⟨fun _ _ _ _ r h=>by simp [Z65.j0] at h,fun _ _ _ _ r h=>by simp [Z65.l0] at h⟩
 | k + 1=>by
  obtain ⟨ih0,ih1⟩:=Z65.mono_l k
  refine ⟨?_,?_⟩
  ·intro y0 y1 y2 y3
   unfold Z65.j0
   repeat' first|exact ih0 _ _ _ _|exact ih1 _ _ _ _|exact Z38.mono _ _ _|exact Z76.mono _ _|exact Z11.mono _ _ _ _|exact lo_|refine LeO.ite ?_ ?_|refine LeO.bind ?_ (fun _=>?_)
  ·intro y0 y1 y2 y3
   unfold Z65.l0
   repeat' first|exact ih0 _ _ _ _|exact ih1 _ _ _ _|exact Z38.mono _ _ _|exact Z76.mono _ _|exact Z11.mono _ _ _ _|exact lo_|refine LeO.ite ?_ ?_|refine LeO.bind ?_ (fun _=>?_)
theorem Z65.mono:∀ a0 a1 a2 k,LeO (Z65.f k a0 a1 a2) (Z65.f (k + 1) a0 a1 a2):=by
 intro a0 a1 a2 k
 obtain ⟨ih0,ih1⟩:=Z65.mono_l k
 unfold Z65.f
 repeat' first|exact ih0 _ _ _ _|exact ih1 _ _ _ _|exact Z38.mono _ _ _|exact Z76.mono _ _|exact Z11.mono _ _ _ _|exact lo_|refine LeO.ite ?_ ?_|refine LeO.bind ?_ (fun _=>?_)
set_option maxHeartbeats 8000000 in
set_option maxRecDepth 100000 in
theorem Z65.calls (k:Nat) (A0_0:Option Addr) (c0_0:Nat) (l0_0:List Int) (A0_1:Option Addr) (c0_1:Nat) (l0_1:List Int) (a1:ByteArray) (r1:List Int) (r2:List Int) (r3:Bool) (w:World) (hr0_0:Kd.C (Kd.int .i64) w A0_0 l0_0.length l0_0) (hc0_0:l0_0.length≤c0_0) (hr0_1:Kd.C (Kd.int .i64) w A0_1 l0_1.length l0_1) (hc0_1:l0_1.length≤c0_1) (h:Z65.f k l0_0 l0_1 a1 = some (r1,r2,r3)) :
  Calls Tryz.prog 44 #[.agg #[.slice A0_0 l0_0.length c0_0,.slice A0_1 l0_1.length c0_1],.string a1] w fun e w'=>∃ v0_ v1_:Value,e = .returned (.tuple #[.agg #[v0_,v1_],.bool r3])∧Kd.R (Kd.int .i64) 3 w' w.heap.size (fun k_=>some k_≠(v1_:Value).ownBlock) v0_ r1∧Kd.R (Kd.int .i64) 3 w' w.heap.size (fun k_=>some k_≠(v0_:Value).ownBlock) v1_ r2∧Below w.heap.size w w':=by
 have hu27:=Tryz.underlying27
 have HR0_0:=A_ hr0_0
 have HC0_0:=A_ hc0_0
 clear hr0_0 hc0_0
 have HR0_1:=A_ hr0_1
 have HC0_1:=A_ hc0_1
 clear hr0_1 hc0_1
 have HB:=A_ (Below.refl w.heap.size w)
 have H:=h
 unfold Z65.f at H
 clear h
 have HC3:=A_ H
 clear H
 go_enter Tryz.func44,Tryz.ntmps44
 go_upto_region 1 with (first | ((with_reducible refine gB_ (N:=2) rfl ?_);refine bx_ 2 #[.slice A0_0 l0_0.length c0_0,.slice A0_1 l0_1.length c0_1] 27 ?_;intro gb702 hg w4 hbox hb;have BK702:=A_ hbox;have GW702:=gw_ w hg;have GE702:=GW702;replace HB:=b1_ hb;clear hb hbox hg) | ((with_reducible refine gB_ (N:=4) rfl ?_);refine bx_ 4 #[.slice none 0 0,.slice none 0 0] 27 ?_;intro gb703 hg w5 hbox hb;have BK703:=A_ hbox;have GW703:=gw_ w hg;have GE703:=GW703;replace HB:=b1_ hb;have NB702_703:=gN_ BK702 hg;have NB703_702:=gP_ BK702 hg;replace BK702:=bb_ BK702 hb;clear hb hbox hg))
 (try simp only [Act.put,sA_,sB_,sC_])
 go_cut [15] (fun v15 wc=>∃ (kq:Nat) (x15_2:Bool),v15 = .bool x15_2∧Aside0 (Z65.j0 kq a1 x15_2 l0_0 l0_1 = some (r1,r2,r3))∧Aside0 (kq≤k)∧Aside0 (wc.heap[gb702]? = some (.cells #[(.slice A0_0 l0_0.length c0_0),(.slice A0_1 l0_1.length c0_1)] 27 (0,0)))∧Aside0 (wc.heap[gb703]? = some (.cells #[(.slice none 0 0),(.slice none 0 0)] 27 (0,0)))∧Aside0 (Below w.heap.size w wc))
 case first =>
  have H:=HC3.out
  clear HC3
  obtain ⟨t704,A6,H⟩:=bi_ H
  by_cases c7:t704 = true
  ·subst c7
   rw [if_pos rfl] at H
   obtain ⟨t705,A8,H⟩:=bi_ H
   have H':=A_ H
   clear H
   have hnb9:=NB702_703.out
   have hnc9:=NB703_702.out
   obtain ⟨hcz10_0,hcz10_1,hfz10_0,hfz10_1⟩:=c2_ BK702
   go_wp2_with (first | ((with_reducible refine gA_ (f:=76) rfl ?_);refine gL_ (some 9) Tryz.func76 #[.agg #[.slice A0_0 l0_0.length c0_0,.slice A0_1 l0_1.length c0_1]] rfl qa_ ?_;(with_reducible refine (Z38.calls k _ _ l0_0 _ _ l0_1 true _ (cb_ HR0_0) HC0_0.out (cb_ HR0_1) HC0_1.out A6.out).mono ?_);rintro e w11 ⟨rfl,hb⟩;refine ⟨_,rfl,?_⟩;replace BK702:=bb_ BK702 hb;replace BK703:=bb_ BK703 hb;replace HB:=b1_ hb;clear hb) | (go_at_call 77;(with_reducible refine (Z76.calls k a1 t705 _ A8.out).mono ?_);rintro e w12 ⟨rfl,hb⟩;replace BK702:=bb_ BK702 hb;replace BK703:=bb_ BK703 hb;replace HB:=b1_ hb;clear hb))
   go_meet
   case rel=>exact ⟨_,(!t705),qc_,H',⟨qd_⟩,⟨(kk_ BK702)⟩,⟨(kk_ BK703)⟩,⟨hB_⟩⟩
  ·replace c7:=Bool.eq_false_iff.mpr c7
   subst c7
   have H1:(Z65.j0 k a1 true l0_0 l0_1) = some (r1,r2,r3):=by rw [if_neg (show ¬ (false = true) by decide)] at H;exact H
   clear H
   have H:=H1
   clear H1
   have H':=A_ H
   clear H
   have hnb13:=NB702_703.out
   have hnc13:=NB703_702.out
   obtain ⟨hcz14_0,hcz14_1,hfz14_0,hfz14_1⟩:=c2_ BK702
   go_wp2_with (first | ((with_reducible refine gA_ (f:=76) rfl ?_);refine gL_ (some 9) Tryz.func76 #[.agg #[.slice A0_0 l0_0.length c0_0,.slice A0_1 l0_1.length c0_1]] rfl qa_ ?_;(with_reducible refine (Z38.calls k _ _ l0_0 _ _ l0_1 false _ (cb_ HR0_0) HC0_0.out (cb_ HR0_1) HC0_1.out A6.out).mono ?_);rintro e w15 ⟨rfl,hb⟩;refine ⟨_,rfl,?_⟩;replace BK702:=bb_ BK702 hb;replace BK703:=bb_ BK703 hb;replace HB:=b1_ hb;clear hb))
   go_meet
   case rel=>exact ⟨_,(true),qc_,H',⟨qd_⟩,⟨(kk_ BK702)⟩,⟨(kk_ BK703)⟩,⟨hB_⟩⟩
 case rest =>
  clear HC3
  obtain ⟨kq,x15_2,rfl,HA,HJ2,BK702,BK703,HB⟩:=hcut
  cases kq with
  | zero=>exact absurd HA.out (by simp [Z65.j0])
  | succ kj2 =>
   have H:=HA.out
   clear HA
   simp only [Z65.j0] at H
   by_cases c16:x15_2 = true
   ·subst c16
    rw [if_pos rfl] at H
    simp only [Option.some.injEq,Prod.mk.injEq] at H
    obtain ⟨rfl,rfl,rfl⟩:=H
    have hnb17:=NB703_702.out
    have hnc17:=NB702_703.out
    obtain ⟨hcz18_0,hcz18_1,hfz18_0,hfz18_1⟩:=c2_ BK703
    go_wp2
    refine bodyPost_ret (results_ct rfl _ _ gb703 27 #[.slice none 0 0,.slice none 0 0] (0,0) _ rfl qp_ Tryz.underlying27 rfl (by kernel_rfl)) rfl ?_
    exact ⟨_,_,qb_,by first | exact Kd.R_nil _ _ _ _ _ | exact Kd.N_nil _ _ _ _ _ | exact Kd.V_nil _ _ _ _ _ | exact Kd.Q_nil _ _ _ _ _ | exact Kd.S_nil _ _ _ _ _,by first | exact Kd.R_nil _ _ _ _ _ | exact Kd.N_nil _ _ _ _ _ | exact Kd.V_nil _ _ _ _ _ | exact Kd.Q_nil _ _ _ _ _ | exact Kd.S_nil _ _ _ _ _,hB_⟩
   ·replace c16:=Bool.eq_false_iff.mpr c16
    subst c16
    have H1:((Z26.f l0_0 l0_1).bind fun bt706=>(Z65.l0 kj2 a1 0 bt706.1 bt706.2)) = some (r1,r2,r3):=by rw [if_neg (show ¬ (false = true) by decide)] at H;exact H
    clear H
    have H:=H1
    clear H1
    obtain ⟨⟨t706,t709⟩,A19,H⟩:=bi_ H
    try dsimp only at H
    have H':=A_ H
    clear H
    have hnb20:=NB702_703.out
    have hnc20:=NB703_702.out
    obtain ⟨hcz21_0,hcz21_1,hfz21_0,hfz21_1⟩:=c2_ BK702
    go_wp2_with (first | ((with_reducible refine gA_ (f:=78) rfl ?_);refine gL_ (some 18) Tryz.func78 #[.agg #[.slice A0_0 l0_0.length c0_0,.slice A0_1 l0_1.length c0_1]] rfl qa_ ?_;(with_reducible refine (Z26.calls _ _ l0_0 _ _ l0_1 t706 t709 _ (cb_ HR0_0) HC0_0.out (cb_ HR0_1) HC0_1.out A19.out).mono ?_);rintro e w22 ⟨v707,v710,rfl,ho0,ho1,hb⟩;refine ⟨_,rfl,?_⟩;have HO708:=rl_ w ho0;have HO711:=rl_ w ho1;replace BK702:=bb_ BK702 hb;replace BK703:=bb_ BK703 hb;replace HB:=b1_ hb;clear hb ho0 ho1) | ((with_reducible refine gB_ (N:=6) rfl ?_);refine bx_ 6 #[.slice none 0 0,.slice none 0 0] 27 ?_;intro gb712 hg w23 hbox hb;replace HO708:=rb_ HO708 hb;replace HO711:=rb_ HO711 hb;have BK712:=A_ hbox;have GW712:=gw_ w hg;have GE712:=GW712;replace HB:=b1_ hb;have NB702_712:=gN_ BK702 hg;have NB712_702:=gP_ BK702 hg;replace BK702:=bb_ BK702 hb;have NB703_712:=gN_ BK703 hg;have NB712_703:=gP_ BK703 hg;replace BK703:=bb_ BK703 hb;clear hb hbox hg;obtain ⟨Ao24,co24,eo24⟩:=Kd.R_slice HO708.out;subst eo24;have hnb25:=NB712_702.out;have hnc25:=NB702_712.out;have hnb26:=NB712_703.out;have hnc26:=NB703_712.out;obtain ⟨hcz27_0,hcz27_1,hfz27_0,hfz27_1⟩:=c2_ BK712;obtain ⟨Ao28,co28,eo28⟩:=Kd.R_slice HO711.out;subst eo28))
    go_loopg [7] kj2 (fun kq v7 w'=>∃ (x7_2:Int) (x713000_2:List Int) (x713001_2:List Int) (u713000:Value) (u713001:Value),v7 = .int .i64 x7_2∧Aside0 (Z65.l0 kq a1 x7_2 x713000_2 x713001_2 = some (r1,r2,r3))∧Aside0 (kq≤kj2)∧Aside0 (Kd.R (Kd.int .i64) 3 w' w.heap.size (fun k_=>some k_≠(u713001:Value).ownBlock) u713000 x713000_2)∧Aside0 (Kd.R (Kd.int .i64) 3 w' w.heap.size (fun k_=>some k_≠(u713000:Value).ownBlock) u713001 x713001_2)∧Aside0 (w'.heap[gb702]? = some (.cells #[(.slice A0_0 l0_0.length c0_0),(.slice A0_1 l0_1.length c0_1)] 27 (0,0)))∧Aside0 (w'.heap[gb703]? = some (.cells #[(.slice none 0 0),(.slice none 0 0)] 27 (0,0)))∧Aside0 (w'.heap[gb712]? = some (.cells #[u713000,u713001] 27 (0,0)))∧Aside0 (Below w.heap.size w w'))
    case atStart=>exact ⟨(0),(t706),(t709),(.slice Ao24 t706.length co24),(.slice Ao28 t709.length co28),qc_,H',⟨nA_ _⟩,⟨(rw_ (fa_ HO708 BK712))⟩,⟨(rw_ (fa_ HO711 BK712))⟩,⟨by (with_reducible repeat (first | refine kA_ ?_ _ | refine kB_ ?_ | refine kC_ ?_ _));refine blk_far ?_ NB702_712.out _;(with_reducible repeat (first | refine kA_ ?_ _ | refine kB_ ?_ | refine kC_ ?_ _));refine blk_far ?_ NB702_712.out _;(with_reducible repeat (first | refine kA_ ?_ _ | refine kB_ ?_ | refine kC_ ?_ _));exact BK702.out⟩,⟨by (with_reducible repeat (first | refine kA_ ?_ _ | refine kB_ ?_ | refine kC_ ?_ _));refine blk_far ?_ NB703_712.out _;(with_reducible repeat (first | refine kA_ ?_ _ | refine kB_ ?_ | refine kC_ ?_ _));refine blk_far ?_ NB703_712.out _;(with_reducible repeat (first | refine kA_ ?_ _ | refine kB_ ?_ | refine kC_ ?_ _));exact BK703.out⟩,⟨qp_⟩,⟨hB_⟩⟩
    case round =>
     clear H'
     obtain ⟨x7_2,x713000_2,x713001_2,u713000,u713001,rfl,HA,HK2,HO_713000,HO_713001,BK702,BK703,BK712,HB⟩:=hrel
     cases gk with
     | zero=>exact absurd HA.out (by simp [Z65.l0])
     | succ k2 =>
      have H:=HA.out
      clear HA
      simp only [Z65.l0] at H
      by_cases c29:x7_2 < (a1.size:Int)
      ·rw [if_pos c29] at H
       have c29b0:=oC_ c29
       clear c29
       have c30:=cp_ H
       replace H:=ca_ H
       have c30b0:=oC_ c30
       clear c30
       obtain ⟨⟨t713,t716⟩,A32,H⟩:=bi_ H
       try dsimp only at H
       have H':=A_ H
       clear H
       try go_wp2
       replace HO_713000:=A_ (rC_ HO_713000.out)
       replace HO_713001:=A_ (rC_ HO_713001.out)
       replace BK702:=A_ (kB_ BK702.out)
       replace BK703:=A_ (kB_ BK703.out)
       replace BK712:=A_ (kB_ BK712.out)
       replace HB:=A_ (bC_ HB.out)
       have p31:0≤(x7_2:Int):=oB_ qe_
       have q31:x7_2 < (a1.size:Int):=oB_ qe_
       have hx31:=bt_at a1 x7_2
       replace p31:=eq_true p31
       replace q31:=eq_true q31
       obtain ⟨Ao34,co34,eo34⟩:=Kd.R_slice HO_713000.out
       (first | subst eo34 | (injection eo34 with f1_ f2_ f3_;have f4_:=f1_.symm;have f5_:=f3_.symm;clear f1_ f2_ f3_;subst f4_;subst f5_))
       obtain ⟨Ao35,co35,eo35⟩:=Kd.R_slice HO_713001.out
       (first | subst eo35 | (injection eo35 with f1_ f2_ f3_;have f4_:=f1_.symm;have f5_:=f3_.symm;clear f1_ f2_ f3_;subst f4_;subst f5_))
       refine start_ (n:=6) (S:=fun w'=>w'.cell? ⟨gb712,0,none⟩ = some (.slice Ao34 x713000_2.length co34)∧w'.cell? ⟨gb712,1,none⟩ = some (.slice Ao35 x713001_2.length co35)) (ds:=[5]) (bl_ 6 0) (by kernel_rfl) rfl (by kernel_rfl) ⟨cz0_ BK712,cz1_ BK712⟩ (fun hHeld=>?_)
       generalize wr.drew = w33 at HO_713000 HO_713001 BK702 BK703 BK712 HB hHeld ⊢
       refine pure_ (i:=1) (N:=some 26) (v:=?_) (a':=?_) (bl_ 6 2) rfl rfl (by kernel_rfl) (fun _ _ _ h=>h) (Or.inl ⟨by rfl,?_⟩) ?_ ?_
       rotate_left
       ·intro w'
        go_simp
        with_reducible rfl
       rotate_left
       ·simp only [Act.put,sA_,sB_,sC_,i64_w,i32_w]
        rfl
       refine pure_ (i:=2) (N:=some 27) (v:=?_) (a':=?_) (bl_ 6 6) rfl rfl (by kernel_rfl) (fun _ _ _ h=>h) (Or.inl ⟨by rfl,?_⟩) ?_ ?_
       rotate_left
       ·intro w'
        go_simp
        with_reducible rfl
       rotate_left
       ·simp only [Act.put,sA_,sB_,sC_,i64_w,i32_w]
        rfl
       refine take_ (i:=0) (N:=some 25) (v:=?_) (a':=?_) (bl_ 6 7) rfl rfl (by kernel_rfl) (fun _ _ _ h=>h) (Or.inl ⟨by rfl,?_⟩) hHeld ?_ ?_
       rotate_left
       ·rintro w' ⟨s0,s1⟩
        go_simp
        with_reducible rfl
       rotate_left
       ·simp only [Act.put,sA_,sB_,sC_,i64_w,i32_w]
        rfl
       refine take_ (i:=3) (N:=some 28) (v:=?_) (a':=?_) (bl_ 6 15) rfl rfl (by kernel_rfl) (fun _ _ _ h=>h) (Or.inl ⟨by rfl,?_⟩) hHeld ?_ ?_
       rotate_left
       ·rintro w' ⟨s0,s1⟩
        go_simp
        with_reducible rfl
       rotate_left
       ·simp only [Act.put,sA_,sB_,sC_,i64_w,i32_w]
        rfl
       refine one_ (i:=4) (N:=some 29) (bl_ 6 31) rfl rfl (by kernel_rfl) (by decide) (fun K hK=>?_)
       refine gO_ Tryz.func40 #[.agg #[.slice Ao34 x713000_2.length co34,.slice Ao35 x713001_2.length co35],.int .u8 (bt a1 x7_2)] (by rfl) rfl rfl qa_ ?_
       with_reducible refine (Z11.calls k2 _ _ x713000_2 _ _ x713001_2 (bt a1 x7_2) t713 t716 _ (cr_ HO_713000) ((Kd.R_reads' HO_713000.out).2.1) (cr_ HO_713001) ((Kd.R_reads' HO_713001.out).2.1) A32.out).mono ?_
       rintro e w36 ⟨v714,v717,rfl,ho0,ho1,hb⟩
       refine ⟨_,rfl,?_⟩
       have HO715:=A_ (rE_ (Kd.R_new' (Kd.R_new' ho0 (Kd.R_lt (rr_ HO_713000))) (Kd.R_lt (rr_ HO_713001))) (bF_ hB_))
       have HO718:=A_ (rE_ (Kd.R_new' (Kd.R_new' ho1 (Kd.R_lt (rr_ HO_713000))) (Kd.R_lt (rr_ HO_713001))) (bF_ hB_))
       replace HO_713000:=A_ (Kd.R_mono (Kd.R_told (Kd.R_told (Kd.R_old (rr_ HO_713000) hb) (Kd.R_base ho0)) (Kd.R_base ho1)) (fun _ h_=>h_.1))
       replace HO_713001:=A_ (Kd.R_mono (Kd.R_told (Kd.R_told (Kd.R_old (rr_ HO_713001) hb) (Kd.R_base ho0)) (Kd.R_base ho1)) (fun _ h_=>h_.1))
       replace BK702:=bb_ BK702 hb
       replace BK703:=bb_ BK703 hb
       replace BK712:=bb_ BK712 hb
       replace HB:=b1_ hb
       clear hb ho0 ho1
       obtain ⟨Ao37,co37,eo37⟩:=Kd.R_slice HO715.out
       (first | subst eo37 | (injection eo37 with f1_ f2_ f3_;have f4_:=f1_.symm;have f5_:=f3_.symm;clear f1_ f2_ f3_;subst f4_;subst f5_))
       obtain ⟨Ao39,co39,eo39⟩:=Kd.R_slice HO718.out
       (first | subst eo39 | (injection eo39 with f1_ f2_ f3_;have f4_:=f1_.symm;have f5_:=f3_.symm;clear f1_ f2_ f3_;subst f4_;subst f5_))
       refine hK.out _ _ ⟨cz0_ BK712,cz1_ BK712⟩ (fun hHeld=>?_)
       clear hK K
       refine no_ (some 29) ?_
       refine last_ (i:=5) (N:=none) (bl_ 6 63) rfl rfl (by kernel_rfl) (by decide) (fun K hK=>?_)
       have hs38:w36.cell? ⟨gb712,0,none⟩ = some (.slice Ao34 x713000_2.length co34):=cz0_ BK712
       have hfs38:=kD_ BK712.out 0
       have hns38_0:=NB702_712.out
       have hns38_1:=NB703_712.out
       have hms38_0:=NB712_702.out
       have hms38_1:=NB712_703.out
       have hs40:w36.cell? ⟨gb712,1,none⟩ = some (.slice Ao35 x713001_2.length co35):=cz1_ BK712
       have hfs40:=kD_ BK712.out 1
       have hns40_0:=NB702_712.out
       have hns40_1:=NB703_712.out
       have hms40_0:=NB712_702.out
       have hms40_1:=NB712_703.out
       refine skip_ (w1:=?_) (by rfl) rfl ?_ ?_
       rotate_left
       ·go_simp
        rfl
       refine hK.out _ _ ?_
       clear hK K
       refine done_ (by kernel_rfl) ?_
       try go_wp2
       go_roundg k2
       case measure=>have:=HJ2.out;have:=HK2.out;omega
       case rel=>exact ⟨(wrap64 (x7_2 + 1)),(t713),(t716),(.slice Ao37 t713.length co37),(.slice Ao39 t716.length co39),qc_,H',⟨by have:=HJ2.out;have:=HK2.out;omega⟩,⟨(rw_ (Kd.R_mono (fa_ HO715 BK712) (fun _ hk=>hk.1.1)))⟩,⟨(rw_ (Kd.R_mono (fa_ HO718 BK712) (fun _ hk=>hk.1.1)))⟩,⟨by (with_reducible repeat (first | refine kA_ ?_ _ | refine kB_ ?_ | refine kC_ ?_ _));refine blk_far ?_ NB702_712.out _;(with_reducible repeat (first | refine kA_ ?_ _ | refine kB_ ?_ | refine kC_ ?_ _));refine blk_far ?_ NB702_712.out _;(with_reducible repeat (first | refine kA_ ?_ _ | refine kB_ ?_ | refine kC_ ?_ _));exact BK702.out⟩,⟨by (with_reducible repeat (first | refine kA_ ?_ _ | refine kB_ ?_ | refine kC_ ?_ _));refine blk_far ?_ NB703_712.out _;(with_reducible repeat (first | refine kA_ ?_ _ | refine kB_ ?_ | refine kC_ ?_ _));refine blk_far ?_ NB703_712.out _;(with_reducible repeat (first | refine kA_ ?_ _ | refine kB_ ?_ | refine kC_ ?_ _));exact BK703.out⟩,⟨qp_⟩,⟨hB_⟩⟩
      ·rw [if_neg c29] at H
       have c29b0:=oD_ c29
       clear c29
       simp only [Option.some.injEq,Prod.mk.injEq] at H
       obtain ⟨rfl,rfl,rfl⟩:=H
       have hnb41:=NB712_702.out
       have hnc41:=NB702_712.out
       have hnb42:=NB712_703.out
       have hnc42:=NB703_712.out
       obtain ⟨hcz43_0,hcz43_1,hfz43_0,hfz43_1⟩:=c2_ BK712
       obtain ⟨Ao44,co44,eo44⟩:=Kd.R_slice HO_713000.out
       subst eo44
       have hnb45:=NB703_702.out
       have hnc45:=NB702_703.out
       obtain ⟨hcz46_0,hcz46_1,hfz46_0,hfz46_1⟩:=c2_ BK703
       obtain ⟨Ao47,co47,eo47⟩:=Kd.R_slice HO_713001.out
       subst eo47
       go_wp2
       refine bodyPost_ret (results_ct rfl _ _ gb703 27 #[.slice Ao44 x713000_2.length co44,.slice Ao47 x713001_2.length co47] (0,0) _ rfl qp_ Tryz.underlying27 rfl (by kernel_rfl)) rfl ?_
       exact ⟨_,_,qb_,(rw_ (fa_ HO_713000 BK703)),(rw_ (fa_ HO_713001 BK703)),hB_⟩
end Go.Proofs.YtcggfjpnfodbaaaGreat.A
end
section
namespace Go.Proofs.YtcggfjpnfodbaaaGreat.A
open Go.RowKit Go.Proofs.YtcggfjpnfodbaaaGreatW.PrintWords Go.Proofs.YtcggfjpnfodbaaaGreatW.PrintLast Go.Proofs.YtcggfjpnfodbaaaGreatW.PrintMore
attribute [local go_sem] max2_int min2_int max_two min_two max_three min_three max_four min_four
set_option linter.unusedVariables false
set_option linter.unusedSimpArgs false
def Z7.f (k:Nat) (l0_0:List Int) (l0_1:List Int) (l1_0:List Int) (l1_1:List Int):Option (Bool):=(Z62.f k l0_0 l0_1).bind fun bt728=>((Z62.f k l1_0 l1_1).bind fun bt736=>(if bt728.2.2 = true then (if bt736.2.2 = true then ((Z24.f k bt728.1 bt728.2.1 bt736.1 bt736.2.1).bind fun t744=>(some t744)) else (some false)) else (some false)))
theorem Z7.mono:∀ a0 a1 a2 a3 k,LeO (Z7.f k a0 a1 a2 a3) (Z7.f (k + 1) a0 a1 a2 a3):=by
 intro a0 a1 a2 a3 k
 unfold Z7.f
 repeat' first|exact Z62.mono _ _ _|exact Z24.mono _ _ _ _ _|exact lo_|refine LeO.ite ?_ ?_|refine LeO.bind ?_ (fun _=>?_)
set_option maxHeartbeats 8000000 in
set_option maxRecDepth 100000 in
theorem Z7.calls (k:Nat) (A0_0:Option Addr) (c0_0:Nat) (l0_0:List Int) (A0_1:Option Addr) (c0_1:Nat) (l0_1:List Int) (A1_0:Option Addr) (c1_0:Nat) (l1_0:List Int) (A1_1:Option Addr) (c1_1:Nat) (l1_1:List Int) (r:Bool) (w:World) (hr0_0:Kd.C (Kd.int .i64) w A0_0 l0_0.length l0_0) (hc0_0:l0_0.length≤c0_0) (hr0_1:Kd.C (Kd.int .i64) w A0_1 l0_1.length l0_1) (hc0_1:l0_1.length≤c0_1) (hr1_0:Kd.C (Kd.int .i64) w A1_0 l1_0.length l1_0) (hc1_0:l1_0.length≤c1_0) (hr1_1:Kd.C (Kd.int .i64) w A1_1 l1_1.length l1_1) (hc1_1:l1_1.length≤c1_1) (h:Z7.f k l0_0 l0_1 l1_0 l1_1 = some r) :
  Calls Tryz.prog 45 #[.agg #[.slice A0_0 l0_0.length c0_0,.slice A0_1 l0_1.length c0_1],.agg #[.slice A1_0 l1_0.length c1_0,.slice A1_1 l1_1.length c1_1]] w fun e w'=>e = .returned (.bool r)∧Below w.heap.size w w':=by
 have hu27:=Tryz.underlying27
 have HR0_0:=A_ hr0_0
 have HC0_0:=A_ hc0_0
 clear hr0_0 hc0_0
 have HR0_1:=A_ hr0_1
 have HC0_1:=A_ hc0_1
 clear hr0_1 hc0_1
 have HR1_0:=A_ hr1_0
 have HC1_0:=A_ hc1_0
 clear hr1_0 hc1_0
 have HR1_1:=A_ hr1_1
 have HC1_1:=A_ hc1_1
 clear hr1_1 hc1_1
 have HB:=A_ (Below.refl w.heap.size w)
 have H:=h
 unfold Z7.f at H
 clear h
 obtain ⟨⟨t728,t731,t734⟩,A3,H⟩:=bi_ H
 try dsimp only at H
 obtain ⟨⟨t736,t739,t742⟩,A4,H⟩:=bi_ H
 try dsimp only at H
 by_cases c5:t734 = true
 ·subst c5
  rw [if_pos rfl] at H
  by_cases c6:t742 = true
  ·subst c6
   rw [if_pos rfl] at H
   obtain ⟨t744,A7,H⟩:=bi_ H
   obtain rfl:=Option.some.inj H
   go_enter Tryz.func45,Tryz.ntmps45
   go_wp2_with (first | ((with_reducible refine gB_ (N:=2) rfl ?_);refine bx_ 2 #[.slice A0_0 l0_0.length c0_0,.slice A0_1 l0_1.length c0_1] 27 ?_;intro gb726 hg w8 hbox hb;have BK726:=A_ hbox;have GW726:=gw_ w hg;have GE726:=GW726;replace HB:=b1_ hb;clear hb hbox hg) | ((with_reducible refine gB_ (N:=3) rfl ?_);refine bx_ 3 #[.slice A1_0 l1_0.length c1_0,.slice A1_1 l1_1.length c1_1] 27 ?_;intro gb727 hg w9 hbox hb;have BK727:=A_ hbox;have GW727:=gw_ w hg;have GE727:=GW727;replace HB:=b1_ hb;have NB726_727:=gN_ BK726 hg;have NB727_726:=gP_ BK726 hg;replace BK726:=bb_ BK726 hb;clear hb hbox hg;have hnb10:=NB726_727.out;have hnc10:=NB727_726.out;obtain ⟨hcz11_0,hcz11_1,hfz11_0,hfz11_1⟩:=c2_ BK726) | ((with_reducible refine gA_ (f:=39) rfl ?_);refine gL_ (some 11) Tryz.func39 #[.agg #[.slice A0_0 l0_0.length c0_0,.slice A0_1 l0_1.length c0_1]] rfl qa_ ?_;(with_reducible refine (Z62.calls k _ _ l0_0 _ _ l0_1 t728 t731 true _ (cb_ HR0_0) HC0_0.out (cb_ HR0_1) HC0_1.out A3.out).mono ?_);rintro e w12 ⟨v729,v732,rfl,ho0,ho1,hb⟩;refine ⟨_,rfl,?_⟩;have HO730:=rl_ w ho0;have HO733:=rl_ w ho1;replace BK726:=bb_ BK726 hb;replace BK727:=bb_ BK727 hb;replace HB:=b1_ hb;clear hb ho0 ho1) | ((with_reducible refine gB_ (N:=5) rfl ?_);refine bx_ 5 #[.slice none 0 0,.slice none 0 0] 27 ?_;intro gb735 hg w13 hbox hb;replace HO730:=rb_ HO730 hb;replace HO733:=rb_ HO733 hb;have BK735:=A_ hbox;have GW735:=gw_ w hg;have GE735:=GW735;replace HB:=b1_ hb;have NB726_735:=gN_ BK726 hg;have NB735_726:=gP_ BK726 hg;replace BK726:=bb_ BK726 hb;have NB727_735:=gN_ BK727 hg;have NB735_727:=gP_ BK727 hg;replace BK727:=bb_ BK727 hb;clear hb hbox hg;obtain ⟨Ao14,co14,eo14⟩:=Kd.R_slice HO730.out;subst eo14;have hnb15:=NB735_726.out;have hnc15:=NB726_735.out;have hnb16:=NB735_727.out;have hnc16:=NB727_735.out;obtain ⟨hcz17_0,hcz17_1,hfz17_0,hfz17_1⟩:=c2_ BK735;obtain ⟨Ao18,co18,eo18⟩:=Kd.R_slice HO733.out;subst eo18;obtain ⟨hcz19_0,hcz19_1,hfz19_0,hfz19_1⟩:=c2_ BK727) | ((with_reducible refine gA_ (f:=39) rfl ?_);refine gL_ (some 16) Tryz.func39 #[.agg #[.slice A1_0 l1_0.length c1_0,.slice A1_1 l1_1.length c1_1]] rfl qa_ ?_;(with_reducible refine (Z62.calls k _ _ l1_0 _ _ l1_1 t736 t739 true _ (cD_ HR1_0.out hB_) HC1_0.out (cD_ HR1_1.out hB_) HC1_1.out A4.out).mono ?_);rintro e w20 ⟨v737,v740,rfl,ho0,ho1,hb⟩;refine ⟨_,rfl,?_⟩;have HO738:=A_ (rE_ (Kd.R_new' (Kd.R_new' ho0 (Kd.R_lt (rw_ (fa_ HO730 BK735)))) (Kd.R_lt (rw_ (fa_ HO733 BK735)))) (bF_ hB_));have HO741:=A_ (rE_ (Kd.R_new' (Kd.R_new' ho1 (Kd.R_lt (rw_ (fa_ HO730 BK735)))) (Kd.R_lt (rw_ (fa_ HO733 BK735)))) (bF_ hB_));replace HO730:=A_ (Kd.R_mono (Kd.R_told (Kd.R_told (Kd.R_old (rw_ (fa_ HO730 BK735)) hb) (Kd.R_base ho0)) (Kd.R_base ho1)) (fun _ h_=>h_.1));replace HO733:=A_ (Kd.R_mono (Kd.R_told (Kd.R_told (Kd.R_old (rw_ (fa_ HO733 BK735)) hb) (Kd.R_base ho0)) (Kd.R_base ho1)) (fun _ h_=>h_.1));replace BK726:=A_ (kE_ (g:=gb726) (o:=.cells #[.slice A0_0 l0_0.length c0_0,.slice A0_1 l0_1.length c0_1] 27 (0,0)) (by (with_reducible repeat (first | refine kA_ ?_ _ | refine kB_ ?_ | refine kC_ ?_ _));refine blk_far ?_ NB726_735.out _;(with_reducible repeat (first | refine kA_ ?_ _ | refine kB_ ?_ | refine kC_ ?_ _));refine blk_far ?_ NB726_735.out _;(with_reducible repeat (first | refine kA_ ?_ _ | refine kB_ ?_ | refine kC_ ?_ _));exact BK726.out) hb);replace BK727:=A_ (kE_ (g:=gb727) (o:=.cells #[.slice A1_0 l1_0.length c1_0,.slice A1_1 l1_1.length c1_1] 27 (0,0)) (by (with_reducible repeat (first | refine kA_ ?_ _ | refine kB_ ?_ | refine kC_ ?_ _));refine blk_far ?_ NB727_735.out _;(with_reducible repeat (first | refine kA_ ?_ _ | refine kB_ ?_ | refine kC_ ?_ _));refine blk_far ?_ NB727_735.out _;(with_reducible repeat (first | refine kA_ ?_ _ | refine kB_ ?_ | refine kC_ ?_ _));exact BK727.out) hb);replace BK735:=A_ (kE_ (g:=gb735) (o:=.cells #[.slice Ao14 t728.length co14,.slice Ao18 t731.length co18] 27 (0,0)) qp_ hb);replace HB:=b1_ hb;clear hb ho0 ho1) | ((with_reducible refine gB_ (N:=7) rfl ?_);refine bx_ 7 #[.slice none 0 0,.slice none 0 0] 27 ?_;intro gb743 hg w21 hbox hb;replace HO730:=rb_ HO730 hb;replace HO733:=rb_ HO733 hb;replace HO738:=rb_ HO738 hb;replace HO741:=rb_ HO741 hb;have BK743:=A_ hbox;have GW743:=gw_ w hg;have GE743:=GW743;replace HB:=b1_ hb;have NB726_743:=gN_ BK726 hg;have NB743_726:=gP_ BK726 hg;replace BK726:=bb_ BK726 hb;have NB727_743:=gN_ BK727 hg;have NB743_727:=gP_ BK727 hg;replace BK727:=bb_ BK727 hb;have NB735_743:=gN_ BK735 hg;have NB743_735:=gP_ BK735 hg;replace BK735:=bb_ BK735 hb;clear hb hbox hg;obtain ⟨Ao22,co22,eo22⟩:=Kd.R_slice HO738.out;subst eo22;have hnb23:=NB743_726.out;have hnc23:=NB726_743.out;have hnb24:=NB743_727.out;have hnc24:=NB727_743.out;have hnb25:=NB743_735.out;have hnc25:=NB735_743.out;obtain ⟨hcz26_0,hcz26_1,hfz26_0,hfz26_1⟩:=c2_ BK743;obtain ⟨Ao27,co27,eo27⟩:=Kd.R_slice HO741.out;subst eo27;obtain ⟨hcz28_0,hcz28_1,hfz28_0,hfz28_1⟩:=c2_ BK735) | (go_at_call 65;(with_reducible refine (Z24.calls k _ _ t728 _ _ t731 _ _ t736 _ _ t739 t744 _ ?side1 ?side2 ?side3 ?side4 ?side5 ?side6 ?side7 ?side8 A7.out).mono ?_);(case side1=>refine (Kd.R_reads' (e:=3) (base:=w.heap.size) (ok:=fun k_=>((some k_≠(.slice Ao18 t731.length co18:Value).ownBlock∧some k_≠(.slice Ao22 t736.length co22:Value).ownBlock)∧some k_≠(.slice Ao27 t739.length co27:Value).ownBlock)) (n:=t728.length) (c:=co14) ?_).2.2;exact (rw_ (fa_ HO730 BK743)));(case side2=>exact (Kd.R_reads' HO730.out).2.1);(case side3=>refine (Kd.R_reads' (e:=3) (base:=w.heap.size) (ok:=fun k_=>((some k_≠(.slice Ao14 t728.length co14:Value).ownBlock∧some k_≠(.slice Ao22 t736.length co22:Value).ownBlock)∧some k_≠(.slice Ao27 t739.length co27:Value).ownBlock)) (n:=t731.length) (c:=co18) ?_).2.2;exact (rw_ (fa_ HO733 BK743)));(case side4=>exact (Kd.R_reads' HO733.out).2.1);(case side5=>refine (Kd.R_reads' (e:=3) (base:=w.heap.size) (ok:=fun k_=>((some k_≠(.slice Ao27 t739.length co27:Value).ownBlock∧some k_≠(.slice Ao14 t728.length co14:Value).ownBlock)∧some k_≠(.slice Ao18 t731.length co18:Value).ownBlock)) (n:=t736.length) (c:=co22) ?_).2.2;exact (rw_ (fa_ HO738 BK743)));(case side6=>exact (Kd.R_reads' HO738.out).2.1);(case side7=>refine (Kd.R_reads' (e:=3) (base:=w.heap.size) (ok:=fun k_=>((some k_≠(.slice Ao22 t736.length co22:Value).ownBlock∧some k_≠(.slice Ao14 t728.length co14:Value).ownBlock)∧some k_≠(.slice Ao18 t731.length co18:Value).ownBlock)) (n:=t739.length) (c:=co27) ?_).2.2;exact (rw_ (fa_ HO741 BK743)));(case side8=>exact (Kd.R_reads' HO741.out).2.1);rintro e w29 ⟨rfl,hb⟩;replace HO730:=A_ (rD_ (rw_ (fa_ HO730 BK743)) hb);replace HO733:=A_ (rD_ (rw_ (fa_ HO733 BK743)) hb);replace HO738:=A_ (rD_ (rw_ (fa_ HO738 BK743)) hb);replace HO741:=A_ (rD_ (rw_ (fa_ HO741 BK743)) hb);replace BK726:=A_ (kE_ (g:=gb726) (o:=.cells #[.slice A0_0 l0_0.length c0_0,.slice A0_1 l0_1.length c0_1] 27 (0,0)) (by (with_reducible repeat (first | refine kA_ ?_ _ | refine kB_ ?_ | refine kC_ ?_ _));refine blk_far ?_ NB726_743.out _;(with_reducible repeat (first | refine kA_ ?_ _ | refine kB_ ?_ | refine kC_ ?_ _));refine blk_far ?_ NB726_743.out _;(with_reducible repeat (first | refine kA_ ?_ _ | refine kB_ ?_ | refine kC_ ?_ _));exact BK726.out) hb);replace BK727:=A_ (kE_ (g:=gb727) (o:=.cells #[.slice A1_0 l1_0.length c1_0,.slice A1_1 l1_1.length c1_1] 27 (0,0)) (by (with_reducible repeat (first | refine kA_ ?_ _ | refine kB_ ?_ | refine kC_ ?_ _));refine blk_far ?_ NB727_743.out _;(with_reducible repeat (first | refine kA_ ?_ _ | refine kB_ ?_ | refine kC_ ?_ _));refine blk_far ?_ NB727_743.out _;(with_reducible repeat (first | refine kA_ ?_ _ | refine kB_ ?_ | refine kC_ ?_ _));exact BK727.out) hb);replace BK735:=A_ (kE_ (g:=gb735) (o:=.cells #[.slice Ao14 t728.length co14,.slice Ao18 t731.length co18] 27 (0,0)) (by (with_reducible repeat (first | refine kA_ ?_ _ | refine kB_ ?_ | refine kC_ ?_ _));refine blk_far ?_ NB735_743.out _;(with_reducible repeat (first | refine kA_ ?_ _ | refine kB_ ?_ | refine kC_ ?_ _));refine blk_far ?_ NB735_743.out _;(with_reducible repeat (first | refine kA_ ?_ _ | refine kB_ ?_ | refine kC_ ?_ _));exact BK735.out) hb);replace BK743:=A_ (kE_ (g:=gb743) (o:=.cells #[.slice Ao22 t736.length co22,.slice Ao27 t739.length co27] 27 (0,0)) qp_ hb);replace HB:=b1_ hb;clear hb))
   go_ret
   exact ⟨qb_,hB_⟩
  ·replace c6:=Bool.eq_false_iff.mpr c6
   subst c6
   have H1:(some false) = some r:=by rw [if_neg (show ¬ (false = true) by decide)] at H;exact H
   clear H
   have H:=H1
   clear H1
   obtain rfl:=Option.some.inj H
   go_enter Tryz.func45,Tryz.ntmps45
   go_wp2_with (first | ((with_reducible refine gB_ (N:=2) rfl ?_);refine bx_ 2 #[.slice A0_0 l0_0.length c0_0,.slice A0_1 l0_1.length c0_1] 27 ?_;intro gb726 hg w30 hbox hb;have BK726:=A_ hbox;have GW726:=gw_ w hg;have GE726:=GW726;replace HB:=b1_ hb;clear hb hbox hg) | ((with_reducible refine gB_ (N:=3) rfl ?_);refine bx_ 3 #[.slice A1_0 l1_0.length c1_0,.slice A1_1 l1_1.length c1_1] 27 ?_;intro gb727 hg w31 hbox hb;have BK727:=A_ hbox;have GW727:=gw_ w hg;have GE727:=GW727;replace HB:=b1_ hb;have NB726_727:=gN_ BK726 hg;have NB727_726:=gP_ BK726 hg;replace BK726:=bb_ BK726 hb;clear hb hbox hg;have hnb32:=NB726_727.out;have hnc32:=NB727_726.out;obtain ⟨hcz33_0,hcz33_1,hfz33_0,hfz33_1⟩:=c2_ BK726) | ((with_reducible refine gA_ (f:=39) rfl ?_);refine gL_ (some 11) Tryz.func39 #[.agg #[.slice A0_0 l0_0.length c0_0,.slice A0_1 l0_1.length c0_1]] rfl qa_ ?_;(with_reducible refine (Z62.calls k _ _ l0_0 _ _ l0_1 t728 t731 true _ (cb_ HR0_0) HC0_0.out (cb_ HR0_1) HC0_1.out A3.out).mono ?_);rintro e w34 ⟨v729,v732,rfl,ho0,ho1,hb⟩;refine ⟨_,rfl,?_⟩;have HO730:=rl_ w ho0;have HO733:=rl_ w ho1;replace BK726:=bb_ BK726 hb;replace BK727:=bb_ BK727 hb;replace HB:=b1_ hb;clear hb ho0 ho1) | ((with_reducible refine gB_ (N:=5) rfl ?_);refine bx_ 5 #[.slice none 0 0,.slice none 0 0] 27 ?_;intro gb735 hg w35 hbox hb;replace HO730:=rb_ HO730 hb;replace HO733:=rb_ HO733 hb;have BK735:=A_ hbox;have GW735:=gw_ w hg;have GE735:=GW735;replace HB:=b1_ hb;have NB726_735:=gN_ BK726 hg;have NB735_726:=gP_ BK726 hg;replace BK726:=bb_ BK726 hb;have NB727_735:=gN_ BK727 hg;have NB735_727:=gP_ BK727 hg;replace BK727:=bb_ BK727 hb;clear hb hbox hg;obtain ⟨Ao36,co36,eo36⟩:=Kd.R_slice HO730.out;subst eo36;have hnb37:=NB735_726.out;have hnc37:=NB726_735.out;have hnb38:=NB735_727.out;have hnc38:=NB727_735.out;obtain ⟨hcz39_0,hcz39_1,hfz39_0,hfz39_1⟩:=c2_ BK735;obtain ⟨Ao40,co40,eo40⟩:=Kd.R_slice HO733.out;subst eo40;obtain ⟨hcz41_0,hcz41_1,hfz41_0,hfz41_1⟩:=c2_ BK727) | ((with_reducible refine gA_ (f:=39) rfl ?_);refine gL_ (some 16) Tryz.func39 #[.agg #[.slice A1_0 l1_0.length c1_0,.slice A1_1 l1_1.length c1_1]] rfl qa_ ?_;(with_reducible refine (Z62.calls k _ _ l1_0 _ _ l1_1 t736 t739 false _ (cD_ HR1_0.out hB_) HC1_0.out (cD_ HR1_1.out hB_) HC1_1.out A4.out).mono ?_);rintro e w42 ⟨v737,v740,rfl,ho0,ho1,hb⟩;refine ⟨_,rfl,?_⟩;have HO738:=A_ (rE_ (Kd.R_new' (Kd.R_new' ho0 (Kd.R_lt (rw_ (fa_ HO730 BK735)))) (Kd.R_lt (rw_ (fa_ HO733 BK735)))) (bF_ hB_));have HO741:=A_ (rE_ (Kd.R_new' (Kd.R_new' ho1 (Kd.R_lt (rw_ (fa_ HO730 BK735)))) (Kd.R_lt (rw_ (fa_ HO733 BK735)))) (bF_ hB_));replace HO730:=A_ (Kd.R_mono (Kd.R_told (Kd.R_told (Kd.R_old (rw_ (fa_ HO730 BK735)) hb) (Kd.R_base ho0)) (Kd.R_base ho1)) (fun _ h_=>h_.1));replace HO733:=A_ (Kd.R_mono (Kd.R_told (Kd.R_told (Kd.R_old (rw_ (fa_ HO733 BK735)) hb) (Kd.R_base ho0)) (Kd.R_base ho1)) (fun _ h_=>h_.1));replace BK726:=A_ (kE_ (g:=gb726) (o:=.cells #[.slice A0_0 l0_0.length c0_0,.slice A0_1 l0_1.length c0_1] 27 (0,0)) (by (with_reducible repeat (first | refine kA_ ?_ _ | refine kB_ ?_ | refine kC_ ?_ _));refine blk_far ?_ NB726_735.out _;(with_reducible repeat (first | refine kA_ ?_ _ | refine kB_ ?_ | refine kC_ ?_ _));refine blk_far ?_ NB726_735.out _;(with_reducible repeat (first | refine kA_ ?_ _ | refine kB_ ?_ | refine kC_ ?_ _));exact BK726.out) hb);replace BK727:=A_ (kE_ (g:=gb727) (o:=.cells #[.slice A1_0 l1_0.length c1_0,.slice A1_1 l1_1.length c1_1] 27 (0,0)) (by (with_reducible repeat (first | refine kA_ ?_ _ | refine kB_ ?_ | refine kC_ ?_ _));refine blk_far ?_ NB727_735.out _;(with_reducible repeat (first | refine kA_ ?_ _ | refine kB_ ?_ | refine kC_ ?_ _));refine blk_far ?_ NB727_735.out _;(with_reducible repeat (first | refine kA_ ?_ _ | refine kB_ ?_ | refine kC_ ?_ _));exact BK727.out) hb);replace BK735:=A_ (kE_ (g:=gb735) (o:=.cells #[.slice Ao36 t728.length co36,.slice Ao40 t731.length co40] 27 (0,0)) qp_ hb);replace HB:=b1_ hb;clear hb ho0 ho1) | ((with_reducible refine gB_ (N:=7) rfl ?_);refine bx_ 7 #[.slice none 0 0,.slice none 0 0] 27 ?_;intro gb743 hg w43 hbox hb;replace HO730:=rb_ HO730 hb;replace HO733:=rb_ HO733 hb;replace HO738:=rb_ HO738 hb;replace HO741:=rb_ HO741 hb;have BK743:=A_ hbox;have GW743:=gw_ w hg;have GE743:=GW743;replace HB:=b1_ hb;have NB726_743:=gN_ BK726 hg;have NB743_726:=gP_ BK726 hg;replace BK726:=bb_ BK726 hb;have NB727_743:=gN_ BK727 hg;have NB743_727:=gP_ BK727 hg;replace BK727:=bb_ BK727 hb;have NB735_743:=gN_ BK735 hg;have NB743_735:=gP_ BK735 hg;replace BK735:=bb_ BK735 hb;clear hb hbox hg;obtain ⟨Ao44,co44,eo44⟩:=Kd.R_slice HO738.out;subst eo44;have hnb45:=NB743_726.out;have hnc45:=NB726_743.out;have hnb46:=NB743_727.out;have hnc46:=NB727_743.out;have hnb47:=NB743_735.out;have hnc47:=NB735_743.out;obtain ⟨hcz48_0,hcz48_1,hfz48_0,hfz48_1⟩:=c2_ BK743;obtain ⟨Ao49,co49,eo49⟩:=Kd.R_slice HO741.out;subst eo49))
   go_ret
   exact ⟨qb_,hB_⟩
 ·replace c5:=Bool.eq_false_iff.mpr c5
  subst c5
  have H1:(some false) = some r:=by rw [if_neg (show ¬ (false = true) by decide)] at H;exact H
  clear H
  have H:=H1
  clear H1
  obtain rfl:=Option.some.inj H
  go_enter Tryz.func45,Tryz.ntmps45
  go_wp2_with (first | ((with_reducible refine gB_ (N:=2) rfl ?_);refine bx_ 2 #[.slice A0_0 l0_0.length c0_0,.slice A0_1 l0_1.length c0_1] 27 ?_;intro gb726 hg w50 hbox hb;have BK726:=A_ hbox;have GW726:=gw_ w hg;have GE726:=GW726;replace HB:=b1_ hb;clear hb hbox hg) | ((with_reducible refine gB_ (N:=3) rfl ?_);refine bx_ 3 #[.slice A1_0 l1_0.length c1_0,.slice A1_1 l1_1.length c1_1] 27 ?_;intro gb727 hg w51 hbox hb;have BK727:=A_ hbox;have GW727:=gw_ w hg;have GE727:=GW727;replace HB:=b1_ hb;have NB726_727:=gN_ BK726 hg;have NB727_726:=gP_ BK726 hg;replace BK726:=bb_ BK726 hb;clear hb hbox hg;have hnb52:=NB726_727.out;have hnc52:=NB727_726.out;obtain ⟨hcz53_0,hcz53_1,hfz53_0,hfz53_1⟩:=c2_ BK726) | ((with_reducible refine gA_ (f:=39) rfl ?_);refine gL_ (some 11) Tryz.func39 #[.agg #[.slice A0_0 l0_0.length c0_0,.slice A0_1 l0_1.length c0_1]] rfl qa_ ?_;(with_reducible refine (Z62.calls k _ _ l0_0 _ _ l0_1 t728 t731 false _ (cb_ HR0_0) HC0_0.out (cb_ HR0_1) HC0_1.out A3.out).mono ?_);rintro e w54 ⟨v729,v732,rfl,ho0,ho1,hb⟩;refine ⟨_,rfl,?_⟩;have HO730:=rl_ w ho0;have HO733:=rl_ w ho1;replace BK726:=bb_ BK726 hb;replace BK727:=bb_ BK727 hb;replace HB:=b1_ hb;clear hb ho0 ho1) | ((with_reducible refine gB_ (N:=5) rfl ?_);refine bx_ 5 #[.slice none 0 0,.slice none 0 0] 27 ?_;intro gb735 hg w55 hbox hb;replace HO730:=rb_ HO730 hb;replace HO733:=rb_ HO733 hb;have BK735:=A_ hbox;have GW735:=gw_ w hg;have GE735:=GW735;replace HB:=b1_ hb;have NB726_735:=gN_ BK726 hg;have NB735_726:=gP_ BK726 hg;replace BK726:=bb_ BK726 hb;have NB727_735:=gN_ BK727 hg;have NB735_727:=gP_ BK727 hg;replace BK727:=bb_ BK727 hb;clear hb hbox hg;obtain ⟨Ao56,co56,eo56⟩:=Kd.R_slice HO730.out;subst eo56;have hnb57:=NB735_726.out;have hnc57:=NB726_735.out;have hnb58:=NB735_727.out;have hnc58:=NB727_735.out;obtain ⟨hcz59_0,hcz59_1,hfz59_0,hfz59_1⟩:=c2_ BK735;obtain ⟨Ao60,co60,eo60⟩:=Kd.R_slice HO733.out;subst eo60;obtain ⟨hcz61_0,hcz61_1,hfz61_0,hfz61_1⟩:=c2_ BK727) | ((with_reducible refine gA_ (f:=39) rfl ?_);refine gL_ (some 16) Tryz.func39 #[.agg #[.slice A1_0 l1_0.length c1_0,.slice A1_1 l1_1.length c1_1]] rfl qa_ ?_;(with_reducible refine (Z62.calls k _ _ l1_0 _ _ l1_1 t736 t739 t742 _ (cD_ HR1_0.out hB_) HC1_0.out (cD_ HR1_1.out hB_) HC1_1.out A4.out).mono ?_);rintro e w62 ⟨v737,v740,rfl,ho0,ho1,hb⟩;refine ⟨_,rfl,?_⟩;have HO738:=A_ (rE_ (Kd.R_new' (Kd.R_new' ho0 (Kd.R_lt (rw_ (fa_ HO730 BK735)))) (Kd.R_lt (rw_ (fa_ HO733 BK735)))) (bF_ hB_));have HO741:=A_ (rE_ (Kd.R_new' (Kd.R_new' ho1 (Kd.R_lt (rw_ (fa_ HO730 BK735)))) (Kd.R_lt (rw_ (fa_ HO733 BK735)))) (bF_ hB_));replace HO730:=A_ (Kd.R_mono (Kd.R_told (Kd.R_told (Kd.R_old (rw_ (fa_ HO730 BK735)) hb) (Kd.R_base ho0)) (Kd.R_base ho1)) (fun _ h_=>h_.1));replace HO733:=A_ (Kd.R_mono (Kd.R_told (Kd.R_told (Kd.R_old (rw_ (fa_ HO733 BK735)) hb) (Kd.R_base ho0)) (Kd.R_base ho1)) (fun _ h_=>h_.1));replace BK726:=A_ (kE_ (g:=gb726) (o:=.cells #[.slice A0_0 l0_0.length c0_0,.slice A0_1 l0_1.length c0_1] 27 (0,0)) (by (with_reducible repeat (first | refine kA_ ?_ _ | refine kB_ ?_ | refine kC_ ?_ _));refine blk_far ?_ NB726_735.out _;(with_reducible repeat (first | refine kA_ ?_ _ | refine kB_ ?_ | refine kC_ ?_ _));refine blk_far ?_ NB726_735.out _;(with_reducible repeat (first | refine kA_ ?_ _ | refine kB_ ?_ | refine kC_ ?_ _));exact BK726.out) hb);replace BK727:=A_ (kE_ (g:=gb727) (o:=.cells #[.slice A1_0 l1_0.length c1_0,.slice A1_1 l1_1.length c1_1] 27 (0,0)) (by (with_reducible repeat (first | refine kA_ ?_ _ | refine kB_ ?_ | refine kC_ ?_ _));refine blk_far ?_ NB727_735.out _;(with_reducible repeat (first | refine kA_ ?_ _ | refine kB_ ?_ | refine kC_ ?_ _));refine blk_far ?_ NB727_735.out _;(with_reducible repeat (first | refine kA_ ?_ _ | refine kB_ ?_ | refine kC_ ?_ _));exact BK727.out) hb);replace BK735:=A_ (kE_ (g:=gb735) (o:=.cells #[.slice Ao56 t728.length co56,.slice Ao60 t731.length co60] 27 (0,0)) qp_ hb);replace HB:=b1_ hb;clear hb ho0 ho1) | ((with_reducible refine gB_ (N:=7) rfl ?_);refine bx_ 7 #[.slice none 0 0,.slice none 0 0] 27 ?_;intro gb743 hg w63 hbox hb;replace HO730:=rb_ HO730 hb;replace HO733:=rb_ HO733 hb;replace HO738:=rb_ HO738 hb;replace HO741:=rb_ HO741 hb;have BK743:=A_ hbox;have GW743:=gw_ w hg;have GE743:=GW743;replace HB:=b1_ hb;have NB726_743:=gN_ BK726 hg;have NB743_726:=gP_ BK726 hg;replace BK726:=bb_ BK726 hb;have NB727_743:=gN_ BK727 hg;have NB743_727:=gP_ BK727 hg;replace BK727:=bb_ BK727 hb;have NB735_743:=gN_ BK735 hg;have NB743_735:=gP_ BK735 hg;replace BK735:=bb_ BK735 hb;clear hb hbox hg;obtain ⟨Ao64,co64,eo64⟩:=Kd.R_slice HO738.out;subst eo64;have hnb65:=NB743_726.out;have hnc65:=NB726_743.out;have hnb66:=NB743_727.out;have hnc66:=NB727_743.out;have hnb67:=NB743_735.out;have hnc67:=NB735_743.out;obtain ⟨hcz68_0,hcz68_1,hfz68_0,hfz68_1⟩:=c2_ BK743;obtain ⟨Ao69,co69,eo69⟩:=Kd.R_slice HO741.out;subst eo69))
  go_ret
  exact ⟨qb_,hB_⟩
def Z36.f (k:Nat) (l0_0:List Int) (l0_1:List Int) (a1:ByteArray):Option (Bool):=(Z65.f k l0_0 l0_1 a1).bind fun bt746=>(if bt746.2.2 = true then ((Z7.f k bt746.1 bt746.2.1 l0_0 l0_1).bind fun t754=>(some t754)) else (some false))
theorem Z36.mono:∀ a0 a1 a2 k,LeO (Z36.f k a0 a1 a2) (Z36.f (k + 1) a0 a1 a2):=by
 intro a0 a1 a2 k
 unfold Z36.f
 repeat' first|exact Z7.mono _ _ _ _ _|exact Z65.mono _ _ _ _|exact lo_|refine LeO.ite ?_ ?_|refine LeO.bind ?_ (fun _=>?_)
set_option maxHeartbeats 8000000 in
set_option maxRecDepth 100000 in
theorem Z36.calls (k:Nat) (A0_0:Option Addr) (c0_0:Nat) (l0_0:List Int) (A0_1:Option Addr) (c0_1:Nat) (l0_1:List Int) (a1:ByteArray) (r:Bool) (w:World) (hr0_0:Kd.C (Kd.int .i64) w A0_0 l0_0.length l0_0) (hc0_0:l0_0.length≤c0_0) (hr0_1:Kd.C (Kd.int .i64) w A0_1 l0_1.length l0_1) (hc0_1:l0_1.length≤c0_1) (h:Z36.f k l0_0 l0_1 a1 = some r) :
  Calls Tryz.prog 30 #[.agg #[.slice A0_0 l0_0.length c0_0,.slice A0_1 l0_1.length c0_1],.string a1] w fun e w'=>e = .returned (.bool r)∧Below w.heap.size w w':=by
 have hu27:=Tryz.underlying27
 have HR0_0:=A_ hr0_0
 have HC0_0:=A_ hc0_0
 clear hr0_0 hc0_0
 have HR0_1:=A_ hr0_1
 have HC0_1:=A_ hc0_1
 clear hr0_1 hc0_1
 have HB:=A_ (Below.refl w.heap.size w)
 have H:=h
 unfold Z36.f at H
 clear h
 obtain ⟨⟨t746,t749,t752⟩,A3,H⟩:=bi_ H
 try dsimp only at H
 by_cases c4:t752 = true
 ·subst c4
  rw [if_pos rfl] at H
  obtain ⟨t754,A5,H⟩:=bi_ H
  obtain rfl:=Option.some.inj H
  go_enter Tryz.func30,Tryz.ntmps30
  go_wp2_with (first | ((with_reducible refine gB_ (N:=2) rfl ?_);refine bx_ 2 #[.slice A0_0 l0_0.length c0_0,.slice A0_1 l0_1.length c0_1] 27 ?_;intro gb745 hg w6 hbox hb;have BK745:=A_ hbox;have GW745:=gw_ w hg;have GE745:=GW745;replace HB:=b1_ hb;clear hb hbox hg;obtain ⟨hcz7_0,hcz7_1,hfz7_0,hfz7_1⟩:=c2_ BK745) | ((with_reducible refine gA_ (f:=44) rfl ?_);refine gL_ (some 10) Tryz.func44 #[.agg #[.slice A0_0 l0_0.length c0_0,.slice A0_1 l0_1.length c0_1],.string a1] rfl qa_ ?_;(with_reducible refine (Z65.calls k _ _ l0_0 _ _ l0_1 a1 t746 t749 true _ (cb_ HR0_0) HC0_0.out (cb_ HR0_1) HC0_1.out A3.out).mono ?_);rintro e w8 ⟨v747,v750,rfl,ho0,ho1,hb⟩;refine ⟨_,rfl,?_⟩;have HO748:=rl_ w ho0;have HO751:=rl_ w ho1;replace BK745:=bb_ BK745 hb;replace HB:=b1_ hb;clear hb ho0 ho1) | ((with_reducible refine gB_ (N:=5) rfl ?_);refine bx_ 5 #[.slice none 0 0,.slice none 0 0] 27 ?_;intro gb753 hg w9 hbox hb;replace HO748:=rb_ HO748 hb;replace HO751:=rb_ HO751 hb;have BK753:=A_ hbox;have GW753:=gw_ w hg;have GE753:=GW753;replace HB:=b1_ hb;have NB745_753:=gN_ BK745 hg;have NB753_745:=gP_ BK745 hg;replace BK745:=bb_ BK745 hb;clear hb hbox hg;obtain ⟨Ao10,co10,eo10⟩:=Kd.R_slice HO748.out;subst eo10;have hnb11:=NB753_745.out;have hnc11:=NB745_753.out;obtain ⟨hcz12_0,hcz12_1,hfz12_0,hfz12_1⟩:=c2_ BK753;obtain ⟨Ao13,co13,eo13⟩:=Kd.R_slice HO751.out;subst eo13;obtain ⟨hcz14_0,hcz14_1,hfz14_0,hfz14_1⟩:=c2_ BK745) | (go_at_call 45;(with_reducible refine (Z7.calls k _ _ t746 _ _ t749 _ _ l0_0 _ _ l0_1 t754 _ ?side1 ?side2 ?side3 ?side4 ?side5 ?side6 ?side7 ?side8 A5.out).mono ?_);(case side1=>refine (Kd.R_reads' (e:=3) (base:=w.heap.size) (ok:=fun k_=>some k_≠(.slice Ao13 t749.length co13:Value).ownBlock) (n:=t746.length) (c:=co10) ?_).2.2;exact (rw_ (fa_ HO748 BK753)));(case side2=>exact (Kd.R_reads' HO748.out).2.1);(case side3=>refine (Kd.R_reads' (e:=3) (base:=w.heap.size) (ok:=fun k_=>some k_≠(.slice Ao10 t746.length co10:Value).ownBlock) (n:=t749.length) (c:=co13) ?_).2.2;exact (rw_ (fa_ HO751 BK753)));(case side4=>exact (Kd.R_reads' HO751.out).2.1);(case side5=>exact cD_ HR0_0.out hB_);(case side6=>exact HC0_0.out);(case side7=>exact cD_ HR0_1.out hB_);(case side8=>exact HC0_1.out);rintro e w15 ⟨rfl,hb⟩;replace HO748:=A_ (rD_ (rw_ (fa_ HO748 BK753)) hb);replace HO751:=A_ (rD_ (rw_ (fa_ HO751 BK753)) hb);replace BK745:=A_ (kE_ (g:=gb745) (o:=.cells #[.slice A0_0 l0_0.length c0_0,.slice A0_1 l0_1.length c0_1] 27 (0,0)) (by (with_reducible repeat (first | refine kA_ ?_ _ | refine kB_ ?_ | refine kC_ ?_ _));refine blk_far ?_ NB745_753.out _;(with_reducible repeat (first | refine kA_ ?_ _ | refine kB_ ?_ | refine kC_ ?_ _));refine blk_far ?_ NB745_753.out _;(with_reducible repeat (first | refine kA_ ?_ _ | refine kB_ ?_ | refine kC_ ?_ _));exact BK745.out) hb);replace BK753:=A_ (kE_ (g:=gb753) (o:=.cells #[.slice Ao10 t746.length co10,.slice Ao13 t749.length co13] 27 (0,0)) qp_ hb);replace HB:=b1_ hb;clear hb))
  go_ret
  exact ⟨qb_,hB_⟩
 ·replace c4:=Bool.eq_false_iff.mpr c4
  subst c4
  have H1:(some false) = some r:=by rw [if_neg (show ¬ (false = true) by decide)] at H;exact H
  clear H
  have H:=H1
  clear H1
  obtain rfl:=Option.some.inj H
  go_enter Tryz.func30,Tryz.ntmps30
  go_wp2_with (first | ((with_reducible refine gB_ (N:=2) rfl ?_);refine bx_ 2 #[.slice A0_0 l0_0.length c0_0,.slice A0_1 l0_1.length c0_1] 27 ?_;intro gb745 hg w16 hbox hb;have BK745:=A_ hbox;have GW745:=gw_ w hg;have GE745:=GW745;replace HB:=b1_ hb;clear hb hbox hg;obtain ⟨hcz17_0,hcz17_1,hfz17_0,hfz17_1⟩:=c2_ BK745) | ((with_reducible refine gA_ (f:=44) rfl ?_);refine gL_ (some 10) Tryz.func44 #[.agg #[.slice A0_0 l0_0.length c0_0,.slice A0_1 l0_1.length c0_1],.string a1] rfl qa_ ?_;(with_reducible refine (Z65.calls k _ _ l0_0 _ _ l0_1 a1 t746 t749 false _ (cb_ HR0_0) HC0_0.out (cb_ HR0_1) HC0_1.out A3.out).mono ?_);rintro e w18 ⟨v747,v750,rfl,ho0,ho1,hb⟩;refine ⟨_,rfl,?_⟩;have HO748:=rl_ w ho0;have HO751:=rl_ w ho1;replace BK745:=bb_ BK745 hb;replace HB:=b1_ hb;clear hb ho0 ho1) | ((with_reducible refine gB_ (N:=5) rfl ?_);refine bx_ 5 #[.slice none 0 0,.slice none 0 0] 27 ?_;intro gb753 hg w19 hbox hb;replace HO748:=rb_ HO748 hb;replace HO751:=rb_ HO751 hb;have BK753:=A_ hbox;have GW753:=gw_ w hg;have GE753:=GW753;replace HB:=b1_ hb;have NB745_753:=gN_ BK745 hg;have NB753_745:=gP_ BK745 hg;replace BK745:=bb_ BK745 hb;clear hb hbox hg;obtain ⟨Ao20,co20,eo20⟩:=Kd.R_slice HO748.out;subst eo20;have hnb21:=NB753_745.out;have hnc21:=NB745_753.out;obtain ⟨hcz22_0,hcz22_1,hfz22_0,hfz22_1⟩:=c2_ BK753;obtain ⟨Ao23,co23,eo23⟩:=Kd.R_slice HO751.out;subst eo23))
  go_ret
  exact ⟨qb_,hB_⟩
def Z22.f (k:Nat) (l0_0:List Int) (l0_1:List Int):Option (Bool):=(Z36.f k l0_0 l0_1 (⟨#[83,83]⟩:ByteArray)).bind fun t756=>(some t756)
theorem Z22.mono:∀ a0 a1 k,LeO (Z22.f k a0 a1) (Z22.f (k + 1) a0 a1):=by
 intro a0 a1 k
 unfold Z22.f
 repeat' first|exact Z36.mono _ _ _ _|exact lo_|refine LeO.ite ?_ ?_|refine LeO.bind ?_ (fun _=>?_)
set_option maxHeartbeats 8000000 in
set_option maxRecDepth 100000 in
theorem Z22.calls (k:Nat) (A0_0:Option Addr) (c0_0:Nat) (l0_0:List Int) (A0_1:Option Addr) (c0_1:Nat) (l0_1:List Int) (r:Bool) (w:World) (hr0_0:Kd.C (Kd.int .i64) w A0_0 l0_0.length l0_0) (hc0_0:l0_0.length≤c0_0) (hr0_1:Kd.C (Kd.int .i64) w A0_1 l0_1.length l0_1) (hc0_1:l0_1.length≤c0_1) (h:Z22.f k l0_0 l0_1 = some r) :
  Calls Tryz.prog 17 #[.agg #[.slice A0_0 l0_0.length c0_0,.slice A0_1 l0_1.length c0_1]] w fun e w'=>e = .returned (.bool r)∧Below w.heap.size w w':=by
 have hu27:=Tryz.underlying27
 have HR0_0:=A_ hr0_0
 have HC0_0:=A_ hc0_0
 clear hr0_0 hc0_0
 have HR0_1:=A_ hr0_1
 have HC0_1:=A_ hc0_1
 clear hr0_1 hc0_1
 have HB:=A_ (Below.refl w.heap.size w)
 have H:=h
 unfold Z22.f at H
 clear h
 obtain ⟨t756,A2,H⟩:=bi_ H
 obtain rfl:=Option.some.inj H
 go_enter Tryz.func17,Tryz.ntmps17
 go_wp2_with (first | ((with_reducible refine gB_ (N:=1) rfl ?_);refine bx_ 1 #[.slice A0_0 l0_0.length c0_0,.slice A0_1 l0_1.length c0_1] 27 ?_;intro gb755 hg w3 hbox hb;have BK755:=A_ hbox;have GW755:=gw_ w hg;have GE755:=GW755;replace HB:=b1_ hb;clear hb hbox hg;obtain ⟨hcz4_0,hcz4_1,hfz4_0,hfz4_1⟩:=c2_ BK755) | ((with_reducible refine gA_ (f:=30) rfl ?_);refine gL_ (some 4) Tryz.func30 #[.agg #[.slice A0_0 l0_0.length c0_0,.slice A0_1 l0_1.length c0_1],.string (⟨#[83,83]⟩:ByteArray)] rfl qa_ ?_;(with_reducible refine (Z36.calls k _ _ l0_0 _ _ l0_1 (⟨#[83,83]⟩:ByteArray) t756 _ (cb_ HR0_0) HC0_0.out (cb_ HR0_1) HC0_1.out A2.out).mono ?_);rintro e w5 ⟨rfl,hb⟩;refine ⟨_,rfl,?_⟩;replace BK755:=bb_ BK755 hb;replace HB:=b1_ hb;clear hb))
 go_ret
 exact ⟨qb_,hB_⟩
def Z64.f (k:Nat) (r u:List Int):Option Int:=(M.orbitO k r u).bind fun z=>match z with | none=>some (-1) | some s=>some (s.L.length:Int)
theorem Z64.mono:∀ a0 a1 k,LeO (Z64.f k a0 a1) (Z64.f (k + 1) a0 a1):=by
 intro a0 a1 k
 unfold Z64.f
 exact LeO.bind (M.orbitO_mono _ _ _) (fun z=>LeO.refl _)
set_option maxHeartbeats 8000000 in
set_option maxRecDepth 100000 in
theorem Z64.calls (k:Nat) (A0_0:Option Addr) (c0_0:Nat) (l0_0:List Int) (A0_1:Option Addr) (c0_1:Nat) (l0_1:List Int) (r:Int) (w:World) (hr0_0:Kd.C (Kd.int .i64) w A0_0 l0_0.length l0_0) (hc0_0:l0_0.length≤c0_0) (hr0_1:Kd.C (Kd.int .i64) w A0_1 l0_1.length l0_1) (hc0_1:l0_1.length≤c0_1) (h:Z64.f k l0_0 l0_1 = some r) :
  Calls Tryz.prog 18 #[.agg #[.slice A0_0 l0_0.length c0_0,.slice A0_1 l0_1.length c0_1]] w fun e w'=>e = .returned (.int .i64 r)∧Below w.heap.size w w':=by
 have hu:=Tryz.underlying27
 have HR0_0:=A_ hr0_0;have HC0_0:=A_ hc0_0;clear hr0_0 hc0_0
 have HR0_1:=A_ hr0_1;have HC0_1:=A_ hc0_1;clear hr0_1 hc0_1
 have HB:=A_ (Below.refl w.heap.size w)
 have H:=h
 unfold Z64.f at H
 clear h
 obtain ⟨z,AZ,H⟩:=bi_ H
 cases z with
 | none =>
  obtain rfl:=Option.some.inj H
  go_enter Tryz.func18,Tryz.ntmps18
  go_wp2_with (first | ((with_reducible refine gB_ (N:=1) rfl ?_);refine bx_ 1 #[.slice A0_0 l0_0.length c0_0,.slice A0_1 l0_1.length c0_1] 27 ?_;intro gs hg wgs hbox hb;have Bgs:=A_ hbox;replace HB:=b1_ hb;clear hb hbox hg;have hczgs0:=cz0_ Bgs;have hczgs1:=cz1_ Bgs;have hfzgs0:=kD_ Bgs.out 0;have hfzgs1:=kD_ Bgs.out 1) | ((with_reducible refine gA_ (f:=27) rfl ?_);refine gL_ (some 7) Tryz.func27 #[.agg #[.slice A0_0 l0_0.length c0_0,.slice A0_1 l0_1.length c0_1]] rfl qa_ ?_;(with_reducible refine (M.orbit_calls k _ _ l0_0 _ _ l0_1 none _ (cb_ HR0_0) HC0_0.out (cb_ HR0_1) HC0_1.out AZ.out).mono ?_);rintro e wz ⟨rfl,hb⟩;refine ⟨_,rfl,?_⟩;replace HB:=b1_ hb;clear hb))
  go_ret
  exact ⟨qb_,hB_⟩
 | some s =>
  obtain rfl:=Option.some.inj H
  go_enter Tryz.func18,Tryz.ntmps18
  go_wp2_with (first | ((with_reducible refine gB_ (N:=1) rfl ?_);refine bx_ 1 #[.slice A0_0 l0_0.length c0_0,.slice A0_1 l0_1.length c0_1] 27 ?_;intro gs hg wgs hbox hb;have Bgs:=A_ hbox;replace HB:=b1_ hb;clear hb hbox hg;have hczgs0:=cz0_ Bgs;have hczgs1:=cz1_ Bgs;have hfzgs0:=kD_ Bgs.out 0;have hfzgs1:=kD_ Bgs.out 1) | ((with_reducible refine gA_ (f:=27) rfl ?_);refine gL_ (some 7) Tryz.func27 #[.agg #[.slice A0_0 l0_0.length c0_0,.slice A0_1 l0_1.length c0_1]] rfl qa_ ?_;(with_reducible refine (M.orbit_calls k _ _ l0_0 _ _ l0_1 (some s) _ (cb_ HR0_0) HC0_0.out (cb_ HR0_1) HC0_1.out AZ.out).mono ?_);rintro e wz ⟨gO,gM,nm_,col,vL,vW,vF,vB,vT,vS,rfl,hh,hb⟩;refine ⟨_,rfl,?_⟩;replace HB:=b1_ hb;have HH:=A_ hh;clear hb hh;obtain ⟨AL,cL,eL⟩:=Kd.S_slice HH.out.hL;subst eL;obtain ⟨AW,cW,eW⟩:=Kd.R_slice HH.out.hW;subst eW;have hco0:wz.cell? ⟨gO,0,none⟩ = some (.slice AL s.L.length cL):=(blk_cell HH.out.hO 0).trans rfl;have hco1:wz.cell? ⟨gO,1,none⟩ = some (.slice AW s.W.length cW):=(blk_cell HH.out.hO 1).trans rfl;have hfo0:=kD_ HH.out.hO 0;have hfo1:=kD_ HH.out.hO 1))
  go_ret
  exact ⟨qb_,hB_⟩
def Z18.l0 (k:Nat) (wd:ByteArray):List S27→Int→Option Int
 | [],n=>some n
 | x :: xs,n=>(Z36.f k x.f0 x.f1 wd).bind fun b=>if b = true then Z18.l0 k wd xs (wrap64 (n + 1)) else Z18.l0 k wd xs n
def Z18.f (k:Nat) (r u:List Int) (wd:ByteArray):Option Int:=(M.orbitO k r u).bind fun z=>match z with | none=>some (-1) | some s=>if s.L.length < 4611686018427387904 then Z18.l0 k wd s.L 0 else none
theorem Z18.mono_l (k:Nat) (wd:ByteArray):∀ (l:List S27) (n:Int),LeO (Z18.l0 k wd l n) (Z18.l0 (k + 1) wd l n):=by
 intro l
 induction l with
 | nil=>intro n;exact LeO.refl _
 | cons x l ih =>
  intro n
  unfold Z18.l0
  exact LeO.bind (Z36.mono _ _ _ _) (fun b=>LeO.ite (ih _) (ih _))
theorem Z18.mono:∀ a0 a1 a2 k,LeO (Z18.f k a0 a1 a2) (Z18.f (k + 1) a0 a1 a2):=by
 intro a0 a1 a2 k
 unfold Z18.f
 refine LeO.bind (M.orbitO_mono _ _ _) (fun z=>?_)
 cases z with
 | none=>exact LeO.refl _
 | some s=>exact LeO.ite (Z18.mono_l _ _ _ _) (LeO.refl _)
set_option maxHeartbeats 8000000 in
set_option maxRecDepth 100000 in
theorem Z18.calls (k:Nat) (A0_0:Option Addr) (c0_0:Nat) (l0_0:List Int) (A0_1:Option Addr) (c0_1:Nat) (l0_1:List Int) (a1:ByteArray) (r:Int) (w:World) (hr0_0:Kd.C (Kd.int .i64) w A0_0 l0_0.length l0_0) (hc0_0:l0_0.length≤c0_0) (hr0_1:Kd.C (Kd.int .i64) w A0_1 l0_1.length l0_1) (hc0_1:l0_1.length≤c0_1) (h:Z18.f k l0_0 l0_1 a1 = some r) :
  Calls Tryz.prog 31 #[.agg #[.slice A0_0 l0_0.length c0_0,.slice A0_1 l0_1.length c0_1],.string a1] w fun e w'=>e = .returned (.int .i64 r)∧Below w.heap.size w w':=by
 have hu:=Tryz.underlying27
 have HR0_0:=A_ hr0_0;have HC0_0:=A_ hc0_0;clear hr0_0 hc0_0
 have HR0_1:=A_ hr0_1;have HC0_1:=A_ hc0_1;clear hr0_1 hc0_1
 have HB:=A_ (Below.refl w.heap.size w)
 have H:=h
 unfold Z18.f at H
 clear h
 obtain ⟨z,AZ,H⟩:=bi_ H
 cases z with
 | none =>
  obtain rfl:=Option.some.inj H
  go_enter Tryz.func31,Tryz.ntmps31
  go_wp2_with (first | ((with_reducible refine gB_ (N:=2) rfl ?_);refine bx_ 2 #[.slice A0_0 l0_0.length c0_0,.slice A0_1 l0_1.length c0_1] 27 ?_;intro gs hg wgs hbox hb;have Bgs:=A_ hbox;replace HB:=b1_ hb;clear hb hbox hg;have hczgs0:=cz0_ Bgs;have hczgs1:=cz1_ Bgs;have hfzgs0:=kD_ Bgs.out 0;have hfzgs1:=kD_ Bgs.out 1) | ((with_reducible refine gA_ (f:=27) rfl ?_);refine gL_ (some 12) Tryz.func27 #[.agg #[.slice A0_0 l0_0.length c0_0,.slice A0_1 l0_1.length c0_1]] rfl qa_ ?_;(with_reducible refine (M.orbit_calls k _ _ l0_0 _ _ l0_1 none _ (cb_ HR0_0) HC0_0.out (cb_ HR0_1) HC0_1.out AZ.out).mono ?_);rintro e wz ⟨rfl,hb⟩;refine ⟨_,rfl,?_⟩;replace HB:=b1_ hb;clear hb))
  go_ret
  exact ⟨qb_,hB_⟩
 | some s =>
  dsimp only at H
  have hsm:=cp_ H
  replace H:=ca_ H
  have H':=A_ (show Z18.l0 k a1 (s.L.drop 0) 0 = some r from H)
  clear H
  go_enter Tryz.func31,Tryz.ntmps31
  go_upto_region 5 with (first | ((with_reducible refine gB_ (N:=2) rfl ?_);refine bx_ 2 #[.slice A0_0 l0_0.length c0_0,.slice A0_1 l0_1.length c0_1] 27 ?_;intro gs hg wgs hbox hb;have Bgs:=A_ hbox;replace HB:=b1_ hb;clear hb hbox hg;have hczgs0:=cz0_ Bgs;have hczgs1:=cz1_ Bgs;have hfzgs0:=kD_ Bgs.out 0;have hfzgs1:=kD_ Bgs.out 1) | ((with_reducible refine gA_ (f:=27) rfl ?_);refine gL_ (some 12) Tryz.func27 #[.agg #[.slice A0_0 l0_0.length c0_0,.slice A0_1 l0_1.length c0_1]] rfl qa_ ?_;(with_reducible refine (M.orbit_calls k _ _ l0_0 _ _ l0_1 (some s) _ (cb_ HR0_0) HC0_0.out (cb_ HR0_1) HC0_1.out AZ.out).mono ?_);rintro e wz ⟨gO,gM,nm_,col,vL,vW,vF,vB,vT,vS,rfl,hh,hb⟩;refine ⟨_,rfl,?_⟩;replace HB:=b1_ hb;have HH:=A_ hh;clear hb hh;obtain ⟨AL,cL,eL⟩:=Kd.S_slice HH.out.hL;subst eL;obtain ⟨AW,cW,eW⟩:=Kd.R_slice HH.out.hW;subst eW;have hco0:wz.cell? ⟨gO,0,none⟩ = some (.slice AL s.L.length cL):=(blk_cell HH.out.hO 0).trans rfl;have hco1:wz.cell? ⟨gO,1,none⟩ = some (.slice AW s.W.length cW):=(blk_cell HH.out.hO 1).trans rfl;have hfo0:=kD_ HH.out.hO 0;have hfo1:=kD_ HH.out.hO 1))
  have hLr:=(Kd.S_reads' HH.out.hL).2
  have RL:=A_ hLr
  clear hLr
  go_wp2
  go_loopg [7,22] s.L.length (fun gg v7 v22 wr=>∃ (n:Int) (kk:Nat),v7 = .int .i64 n∧v22 = .int .i64 kk∧Aside0 (kk≤s.L.length)∧Aside0 (s.L.length - kk≤gg)∧Aside0 (Z18.l0 k a1 (s.L.drop kk) n = some r)∧Aside0 (s.L.length≤cL∧Kd.C k27 wr AL s.L.length s.L)∧Aside0 (Below w.heap.size w wr))
  case atStart=>exact ⟨0,0,rfl,rfl,⟨Nat.zero_le _⟩,⟨by omega⟩,H',RL,HB⟩
  case round =>
   clear H' HB RL HH hco0 hco1 hfo0 hfo1
   obtain ⟨n,kk,rfl,rfl,HK,HG,HA,RL,HB⟩:=hrel
   by_cases hlt:kk < s.L.length
   ·have hltz:(kk:Int) < (s.L.length:Int):=by omega
    have h0z:(0:Int)≤(kk:Int):=Int.natCast_nonneg kk
    have H:=HA.out
    clear HA
    have hdr:s.L.drop kk = rd_T27 s.L (kk:Int) :: s.L.drop (kk + 1):=by
     rw [List.drop_eq_getElem_cons hlt]
     congr 1
     simp [rd_T27,hlt]
    rw [hdr] at H
    simp only [Z18.l0] at H
    clear hdr
    obtain ⟨b,Hb,H⟩:=bi_ H
    obtain ⟨ad1,A1,c1,A2,c2,e1,hx1,hx2,hl1,hi1,hl2,hi2⟩:=at_T27 RL.out.2 (kk:Int) h0z hltz
    cases e1
    rw [show ((kk:Int)).toNat = kk from rfl] at hx1 hx2
    have HI1:=A_ hi1
    have HI2:=A_ hi2
    have HL1:=A_ hl1
    have HL2:=A_ hl2
    clear hi1 hi2 hl1 hl2
    cases b with
    | true =>
     rw [if_pos rfl] at H
     have H2:=A_ H
     clear H
     have tj0:=eq_true h0z
     have tjw:=eq_true hltz
     have tjd:=oC_ hltz
     go_upto_region 8 with (first | ((with_reducible refine gB_ (N:=9) rfl ?_);refine bx_ 9 #[.slice none 0 0,.slice none 0 0] 27 ?_;intro gx hg wx hbox hb;have GX:=A_ (show wr.heap.size≤gx from Nat.le_of_eq hg.symm);have BX:=A_ hbox;have B3:=A_ hb;clear hb hbox hg;have hcf0:=cz0_ BX;have hcf1:=cz1_ BX;have hff0:=kD_ BX.out 0;have hff1:=kD_ BX.out 1))
     obtain ⟨hbox,hkp,hB2⟩:=M.box_store (w0:=wr) BX.out (.slice A1 (rd_T27 s.L (kk:Int)).f0.length c1) (.slice A2 (rd_T27 s.L (kk:Int)).f1.length c2) B3.out GX.out
     generalize hw:((wx.setCell ⟨gx,0,none⟩ (.slice A1 (rd_T27 s.L (kk:Int)).f0.length c1)).setCell ⟨gx,1,none⟩ (.slice A2 (rd_T27 s.L (kk:Int)).f1.length c2)) = wv at hbox hkp hB2 ⊢
     clear hw hcf0 hcf1 hff0 hff1
     replace HI1:=A_ (cD_ HI1.out hB2)
     replace HI2:=A_ (cD_ HI2.out hB2)
     replace RL:=A_ (And.intro RL.out.1 (cD_ RL.out.2 hB2))
     replace HB:=A_ (bE_ HB.out hB2)
     replace BX:=A_ (show wv.heap[gx]? = some (.cells #[.slice A1 (rd_T27 s.L (kk:Int)).f0.length c1,.slice A2 (rd_T27 s.L (kk:Int)).f1.length c2] 27 (0,0)) from hbox)
     clear hbox hkp hB2 B3 hx1 hx2
     obtain ⟨hcx0,hcx1,hfx0,hfx1⟩:=c2_ BX
     go_wp2_with (first | (go_at_call 30;(with_reducible refine (Z36.calls k _ _ (rd_T27 s.L (kk:Int)).f0 _ _ (rd_T27 s.L (kk:Int)).f1 a1 true _ HI1.out HL1.out HI2.out HL2.out Hb.out).mono ?_);rintro e wj ⟨rfl,hb⟩;replace RL:=A_ (And.intro RL.out.1 (cD_ RL.out.2 hb));replace HB:=b1_ hb;clear hb))
     go_roundg (s.L.length - (kk + 1))
     case measure=>have:=HG.out;omega
     case rel=>exact ⟨(wrap64 (n + 1)),kk + 1,rfl,by congr 1,⟨by omega⟩,⟨by omega⟩,H2,RL,HB⟩
    | false =>
     rw [if_neg (by decide)] at H
     have H2:=A_ H
     clear H
     have tj0:=eq_true h0z
     have tjw:=eq_true hltz
     have tjd:=oC_ hltz
     go_upto_region 8 with (first | ((with_reducible refine gB_ (N:=9) rfl ?_);refine bx_ 9 #[.slice none 0 0,.slice none 0 0] 27 ?_;intro gx hg wx hbox hb;have GX:=A_ (show wr.heap.size≤gx from Nat.le_of_eq hg.symm);have BX:=A_ hbox;have B3:=A_ hb;clear hb hbox hg;have hcf0:=cz0_ BX;have hcf1:=cz1_ BX;have hff0:=kD_ BX.out 0;have hff1:=kD_ BX.out 1))
     obtain ⟨hbox,hkp,hB2⟩:=M.box_store (w0:=wr) BX.out (.slice A1 (rd_T27 s.L (kk:Int)).f0.length c1) (.slice A2 (rd_T27 s.L (kk:Int)).f1.length c2) B3.out GX.out
     generalize hw:((wx.setCell ⟨gx,0,none⟩ (.slice A1 (rd_T27 s.L (kk:Int)).f0.length c1)).setCell ⟨gx,1,none⟩ (.slice A2 (rd_T27 s.L (kk:Int)).f1.length c2)) = wv at hbox hkp hB2 ⊢
     clear hw hcf0 hcf1 hff0 hff1
     replace HI1:=A_ (cD_ HI1.out hB2)
     replace HI2:=A_ (cD_ HI2.out hB2)
     replace RL:=A_ (And.intro RL.out.1 (cD_ RL.out.2 hB2))
     replace HB:=A_ (bE_ HB.out hB2)
     replace BX:=A_ (show wv.heap[gx]? = some (.cells #[.slice A1 (rd_T27 s.L (kk:Int)).f0.length c1,.slice A2 (rd_T27 s.L (kk:Int)).f1.length c2] 27 (0,0)) from hbox)
     clear hbox hkp hB2 B3 hx1 hx2
     obtain ⟨hcx0,hcx1,hfx0,hfx1⟩:=c2_ BX
     go_wp2_with (first | (go_at_call 30;(with_reducible refine (Z36.calls k _ _ (rd_T27 s.L (kk:Int)).f0 _ _ (rd_T27 s.L (kk:Int)).f1 a1 false _ HI1.out HL1.out HI2.out HL2.out Hb.out).mono ?_);rintro e wj ⟨rfl,hb⟩;replace RL:=A_ (And.intro RL.out.1 (cD_ RL.out.2 hb));replace HB:=b1_ hb;clear hb))
     go_roundg (s.L.length - (kk + 1))
     case measure=>have:=HG.out;omega
     case rel=>exact ⟨n,kk + 1,rfl,by congr 1,⟨by omega⟩,⟨by omega⟩,H2,RL,HB⟩
   ·have hltz:¬ (kk:Int) < (s.L.length:Int):=by omega
    have H:=HA.out
    rw [List.drop_eq_nil_of_le (by omega)] at H
    simp only [Z18.l0] at H
    obtain rfl:=Option.some.inj H
    clear H
    go_wp2
    go_ret
    exact ⟨rfl,HB.out⟩
def Z17.f (k:Nat) (l0_0:List Int) (l0_1:List Int):Option (Int):=(Z18.f k l0_0 l0_1 (⟨#[83]⟩:ByteArray)).bind fun t758=>(some t758)
theorem Z17.mono:∀ a0 a1 k,LeO (Z17.f k a0 a1) (Z17.f (k + 1) a0 a1):=by
 intro a0 a1 k
 unfold Z17.f
 repeat' first|exact Z18.mono _ _ _ _|exact lo_|refine LeO.ite ?_ ?_|refine LeO.bind ?_ (fun _=>?_)
set_option maxHeartbeats 8000000 in
set_option maxRecDepth 100000 in
theorem Z17.calls (k:Nat) (A0_0:Option Addr) (c0_0:Nat) (l0_0:List Int) (A0_1:Option Addr) (c0_1:Nat) (l0_1:List Int) (r:Int) (w:World) (hr0_0:Kd.C (Kd.int .i64) w A0_0 l0_0.length l0_0) (hc0_0:l0_0.length≤c0_0) (hr0_1:Kd.C (Kd.int .i64) w A0_1 l0_1.length l0_1) (hc0_1:l0_1.length≤c0_1) (h:Z17.f k l0_0 l0_1 = some r) :
  Calls Tryz.prog 19 #[.agg #[.slice A0_0 l0_0.length c0_0,.slice A0_1 l0_1.length c0_1]] w fun e w'=>e = .returned (.int .i64 r)∧Below w.heap.size w w':=by
 have hu27:=Tryz.underlying27
 have HR0_0:=A_ hr0_0
 have HC0_0:=A_ hc0_0
 clear hr0_0 hc0_0
 have HR0_1:=A_ hr0_1
 have HC0_1:=A_ hc0_1
 clear hr0_1 hc0_1
 have HB:=A_ (Below.refl w.heap.size w)
 have H:=h
 unfold Z17.f at H
 clear h
 obtain ⟨t758,A2,H⟩:=bi_ H
 obtain rfl:=Option.some.inj H
 go_enter Tryz.func19,Tryz.ntmps19
 go_wp2_with (first | ((with_reducible refine gB_ (N:=1) rfl ?_);refine bx_ 1 #[.slice A0_0 l0_0.length c0_0,.slice A0_1 l0_1.length c0_1] 27 ?_;intro gb757 hg w3 hbox hb;have BK757:=A_ hbox;have GW757:=gw_ w hg;have GE757:=GW757;replace HB:=b1_ hb;clear hb hbox hg;obtain ⟨hcz4_0,hcz4_1,hfz4_0,hfz4_1⟩:=c2_ BK757) | ((with_reducible refine gA_ (f:=31) rfl ?_);refine gL_ (some 4) Tryz.func31 #[.agg #[.slice A0_0 l0_0.length c0_0,.slice A0_1 l0_1.length c0_1],.string (⟨#[83]⟩:ByteArray)] rfl qa_ ?_;(with_reducible refine (Z18.calls k _ _ l0_0 _ _ l0_1 (⟨#[83]⟩:ByteArray) t758 _ (cb_ HR0_0) HC0_0.out (cb_ HR0_1) HC0_1.out A2.out).mono ?_);rintro e w5 ⟨rfl,hb⟩;refine ⟨_,rfl,?_⟩;replace BK757:=bb_ BK757 hb;replace HB:=b1_ hb;clear hb))
 go_ret
 exact ⟨qb_,hB_⟩
def Z9.f (k:Nat) (l0_0:List Int) (l0_1:List Int):Option (Int):=(Z18.f k l0_0 l0_1 (⟨#[84,83]⟩:ByteArray)).bind fun t760=>(some t760)
theorem Z9.mono:∀ a0 a1 k,LeO (Z9.f k a0 a1) (Z9.f (k + 1) a0 a1):=by
 intro a0 a1 k
 unfold Z9.f
 repeat' first|exact Z18.mono _ _ _ _|exact lo_|refine LeO.ite ?_ ?_|refine LeO.bind ?_ (fun _=>?_)
set_option maxHeartbeats 8000000 in
set_option maxRecDepth 100000 in
theorem Z9.calls (k:Nat) (A0_0:Option Addr) (c0_0:Nat) (l0_0:List Int) (A0_1:Option Addr) (c0_1:Nat) (l0_1:List Int) (r:Int) (w:World) (hr0_0:Kd.C (Kd.int .i64) w A0_0 l0_0.length l0_0) (hc0_0:l0_0.length≤c0_0) (hr0_1:Kd.C (Kd.int .i64) w A0_1 l0_1.length l0_1) (hc0_1:l0_1.length≤c0_1) (h:Z9.f k l0_0 l0_1 = some r) :
  Calls Tryz.prog 20 #[.agg #[.slice A0_0 l0_0.length c0_0,.slice A0_1 l0_1.length c0_1]] w fun e w'=>e = .returned (.int .i64 r)∧Below w.heap.size w w':=by
 have hu27:=Tryz.underlying27
 have HR0_0:=A_ hr0_0
 have HC0_0:=A_ hc0_0
 clear hr0_0 hc0_0
 have HR0_1:=A_ hr0_1
 have HC0_1:=A_ hc0_1
 clear hr0_1 hc0_1
 have HB:=A_ (Below.refl w.heap.size w)
 have H:=h
 unfold Z9.f at H
 clear h
 obtain ⟨t760,A2,H⟩:=bi_ H
 obtain rfl:=Option.some.inj H
 go_enter Tryz.func20,Tryz.ntmps20
 go_wp2_with (first | ((with_reducible refine gB_ (N:=1) rfl ?_);refine bx_ 1 #[.slice A0_0 l0_0.length c0_0,.slice A0_1 l0_1.length c0_1] 27 ?_;intro gb759 hg w3 hbox hb;have BK759:=A_ hbox;have GW759:=gw_ w hg;have GE759:=GW759;replace HB:=b1_ hb;clear hb hbox hg;obtain ⟨hcz4_0,hcz4_1,hfz4_0,hfz4_1⟩:=c2_ BK759) | ((with_reducible refine gA_ (f:=31) rfl ?_);refine gL_ (some 4) Tryz.func31 #[.agg #[.slice A0_0 l0_0.length c0_0,.slice A0_1 l0_1.length c0_1],.string (⟨#[84,83]⟩:ByteArray)] rfl qa_ ?_;(with_reducible refine (Z18.calls k _ _ l0_0 _ _ l0_1 (⟨#[84,83]⟩:ByteArray) t760 _ (cb_ HR0_0) HC0_0.out (cb_ HR0_1) HC0_1.out A2.out).mono ?_);rintro e w5 ⟨rfl,hb⟩;refine ⟨_,rfl,?_⟩;replace BK759:=bb_ BK759 hb;replace HB:=b1_ hb;clear hb))
 go_ret
 exact ⟨qb_,hB_⟩
def Z30.j0:Nat→List Int→Bool→List Int→List Int→Option (Int)
 | 0,_,_,_,_=>none
 | k + 1,x3,x16,x762000,x762001=>if x16 = true then (some (-1)) else ((Z64.f k x762000 x762001).bind fun t767=>((Z17.f k x762000 x762001).bind fun t768=>((Z9.f k x762000 x762001).bind fun t769=>(some (wrap64 (Int.tdiv (wrap64 ((wrap64 ((wrap64 ((wrap64 (12 + t767)) - (wrap64 (3 * t768)))) - (wrap64 (4 * t769)))) - (wrap64 (6 * (x3.length:Int))))) 12))))))
def Z30.f (k:Nat) (l0_0:List Int) (l0_1:List Int):Option (Int):=(Z63.f k l0_0 l0_1).bind fun bt762=>((Z22.f k l0_0 l0_1).bind fun t766=>(if t766 = true then (Z30.j0 k bt762.1 (!bt762.2) l0_0 l0_1) else (Z30.j0 k bt762.1 true l0_0 l0_1)))
theorem Z30.mono_l:∀ k,(∀ y0 y1 y2 y3,LeO (Z30.j0 k y0 y1 y2 y3) (Z30.j0 (k + 1) y0 y1 y2 y3))
 | 0=>fun _ _ _ _ r h=>by simp [Z30.j0] at h
 | k + 1=>by
  have ih0:=Z30.mono_l k
  ·intro y0 y1 y2 y3
   unfold Z30.j0
   repeat' first|exact ih0 _ _ _ _|exact Z63.mono _ _ _|exact Z22.mono _ _ _|exact Z64.mono _ _ _|exact Z9.mono _ _ _|exact Z17.mono _ _ _|exact lo_|refine LeO.ite ?_ ?_|refine LeO.bind ?_ (fun _=>?_)
theorem Z30.mono:∀ a0 a1 k,LeO (Z30.f k a0 a1) (Z30.f (k + 1) a0 a1):=by
 intro a0 a1 k
 have ih0:=Z30.mono_l k
 unfold Z30.f
 repeat' first|exact ih0 _ _ _ _|exact Z63.mono _ _ _|exact Z22.mono _ _ _|exact Z64.mono _ _ _|exact Z9.mono _ _ _|exact Z17.mono _ _ _|exact lo_|refine LeO.ite ?_ ?_|refine LeO.bind ?_ (fun _=>?_)
def Z30.T4:Bool × List (List Nat × List Nat):=(true,[([],[]),([0],[0]),([1],[1]),([],[]),([3,1],[3]),([4],[4]),([2,5],[2,5]),([],[]),([7,4],[7]),([8],[8]),([6,9],[6,9]),([],[]),([11],[11]),([12],[12]),([10,13],[10,13]),([14],[14]),([15,8,0,1,2,3,4,5,6,7,8,9,10,11,12,13,14,15],[15])])
def Z30.B4:List Nat:=[0,1,3,0,11,27,63,0,155,411,1023,0,2048,6144,16383,32767,65535]
theorem Z30.tab4:rtab .any (opsOf Tryz.f7 4) = Z30.T4:=by kernel_rfl
theorem Z30.bits4:waitsOk Z30.T4.2 Z30.B4 = true:=by kernel_rfl
set_option maxHeartbeats 8000000 in
set_option maxRecDepth 100000 in
theorem Z30.calls (k:Nat) (A0_0:Option Addr) (c0_0:Nat) (l0_0:List Int) (A0_1:Option Addr) (c0_1:Nat) (l0_1:List Int) (r:Int) (w:World) (hr0_0:Kd.C (Kd.int .i64) w A0_0 l0_0.length l0_0) (hc0_0:l0_0.length≤c0_0) (hr0_1:Kd.C (Kd.int .i64) w A0_1 l0_1.length l0_1) (hc0_1:l0_1.length≤c0_1) (h:Z30.f k l0_0 l0_1 = some r) :
  Calls Tryz.prog 7 #[.agg #[.slice A0_0 l0_0.length c0_0,.slice A0_1 l0_1.length c0_1]] w fun e w'=>e = .returned (.int .i64 r)∧Below w.heap.size w w':=by
 have hu27:=Tryz.underlying27
 have HR0_0:=A_ hr0_0
 have HC0_0:=A_ hc0_0
 clear hr0_0 hc0_0
 have HR0_1:=A_ hr0_1
 have HC0_1:=A_ hc0_1
 clear hr0_1 hc0_1
 have HB:=A_ (Below.refl w.heap.size w)
 have H:=h
 unfold Z30.f at H
 clear h
 obtain ⟨⟨t762,t765⟩,A2,H⟩:=bi_ H
 try dsimp only at H
 have HC3:=A_ H
 clear H
 go_enter Tryz.func7,Tryz.ntmps7
 go_upto_region 2 with (first | ((with_reducible refine gB_ (N:=1) rfl ?_);refine bx_ 1 #[.slice A0_0 l0_0.length c0_0,.slice A0_1 l0_1.length c0_1] 27 ?_;intro gb761 hg w4 hbox hb;have BK761:=A_ hbox;have GW761:=gw_ w hg;have GE761:=GW761;replace HB:=b1_ hb;clear hb hbox hg;obtain ⟨hcz5_0,hcz5_1,hfz5_0,hfz5_1⟩:=c2_ BK761) | ((with_reducible refine gA_ (f:=16) rfl ?_);refine gL_ (some 7) Tryz.func16 #[.agg #[.slice A0_0 l0_0.length c0_0,.slice A0_1 l0_1.length c0_1]] rfl qa_ ?_;(with_reducible refine (Z63.calls k _ _ l0_0 _ _ l0_1 t762 t765 _ (cb_ HR0_0) HC0_0.out (cb_ HR0_1) HC0_1.out A2.out).mono ?_);rintro e w6 ⟨v763,rfl,ho0,hb⟩;refine ⟨_,rfl,?_⟩;have HO764:=rl_ w ho0;replace BK761:=bb_ BK761 hb;replace HB:=b1_ hb;clear hb ho0))
 (try simp only [Act.put,sA_,sB_,sC_])
 go_cut [16] (fun v16 wc=>∃ (kq:Nat) (x16_2:Bool),v16 = .bool x16_2∧Aside0 (Z30.j0 kq t762 x16_2 l0_0 l0_1 = some r)∧Aside0 (kq≤k)∧Aside0 (Kd.R (Kd.int .i64) 3 wc w.heap.size (fun _=>True) v763 t762)∧Aside0 (wc.heap[gb761]? = some (.cells #[(.slice A0_0 l0_0.length c0_0),(.slice A0_1 l0_1.length c0_1)] 27 (0,0)))∧Aside0 (Below w.heap.size w wc))
 case first =>
  have H:=HC3.out
  clear HC3
  obtain ⟨t766,A7,H⟩:=bi_ H
  by_cases c8:t766 = true
  ·subst c8
   rw [if_pos rfl] at H
   have H':=A_ H
   clear H
   obtain ⟨hcz9_0,hcz9_1,hfz9_0,hfz9_1⟩:=c2_ BK761
   go_wp2_with (first | ((with_reducible refine gA_ (f:=17) rfl ?_);refine gL_ (some 11) Tryz.func17 #[.agg #[.slice A0_0 l0_0.length c0_0,.slice A0_1 l0_1.length c0_1]] rfl qa_ ?_;(with_reducible refine (Z22.calls k _ _ l0_0 _ _ l0_1 true _ (cb_ HR0_0) HC0_0.out (cb_ HR0_1) HC0_1.out A7.out).mono ?_);rintro e w10 ⟨rfl,hb⟩;refine ⟨_,rfl,?_⟩;replace HO764:=rb_ HO764 hb;replace BK761:=bb_ BK761 hb;replace HB:=b1_ hb;clear hb))
   go_meet
   case rel=>exact ⟨_,(!t765),qc_,H',⟨qd_⟩,⟨(rr_ HO764)⟩,⟨(kk_ BK761)⟩,⟨hB_⟩⟩
  ·replace c8:=Bool.eq_false_iff.mpr c8
   subst c8
   have H1:(Z30.j0 k t762 true l0_0 l0_1) = some r:=by rw [if_neg (show ¬ (false = true) by decide)] at H;exact H
   clear H
   have H:=H1
   clear H1
   have H':=A_ H
   clear H
   obtain ⟨hcz11_0,hcz11_1,hfz11_0,hfz11_1⟩:=c2_ BK761
   go_wp2_with (first | ((with_reducible refine gA_ (f:=17) rfl ?_);refine gL_ (some 11) Tryz.func17 #[.agg #[.slice A0_0 l0_0.length c0_0,.slice A0_1 l0_1.length c0_1]] rfl qa_ ?_;(with_reducible refine (Z22.calls k _ _ l0_0 _ _ l0_1 false _ (cb_ HR0_0) HC0_0.out (cb_ HR0_1) HC0_1.out A7.out).mono ?_);rintro e w12 ⟨rfl,hb⟩;refine ⟨_,rfl,?_⟩;replace HO764:=rb_ HO764 hb;replace BK761:=bb_ BK761 hb;replace HB:=b1_ hb;clear hb))
   go_meet
   case rel=>exact ⟨_,(true),qc_,H',⟨qd_⟩,⟨(rr_ HO764)⟩,⟨(kk_ BK761)⟩,⟨hB_⟩⟩
 case rest =>
  clear HC3
  obtain ⟨kq,x16_2,rfl,HA,HJ2,HO_3,BK761,HB⟩:=hcut
  cases kq with
  | zero=>exact absurd HA.out (by simp [Z30.j0])
  | succ kj2 =>
   have H:=HA.out
   clear HA
   simp only [Z30.j0] at H
   by_cases c13:x16_2 = true
   ·subst c13
    rw [if_pos rfl] at H
    obtain rfl:=Option.some.inj H
    go_wp2
    go_ret
    exact ⟨qb_,hB_⟩
   ·replace c13:=Bool.eq_false_iff.mpr c13
    subst c13
    have H1:((Z64.f kj2 l0_0 l0_1).bind fun t767=>((Z17.f kj2 l0_0 l0_1).bind fun t768=>((Z9.f kj2 l0_0 l0_1).bind fun t769=>(some (wrap64 (Int.tdiv (wrap64 ((wrap64 ((wrap64 ((wrap64 (12 + t767)) - (wrap64 (3 * t768)))) - (wrap64 (4 * t769)))) - (wrap64 (6 * (t762.length:Int))))) 12)))))) = some r:=by rw [if_neg (show ¬ (false = true) by decide)] at H;exact H
    clear H
    have H:=H1
    clear H1
    obtain ⟨t767,A14,H⟩:=bi_ H
    obtain ⟨t768,A15,H⟩:=bi_ H
    obtain ⟨t769,A16,H⟩:=bi_ H
    obtain rfl:=Option.some.inj H
    try go_wp2
    replace HO_3:=A_ (rC_ HO_3.out)
    replace BK761:=A_ (kB_ BK761.out)
    replace HB:=A_ (bC_ HB.out)
    obtain ⟨Ao18,co18,eo18⟩:=Kd.R_slice HO_3.out
    (first | subst eo18 | (injection eo18 with f1_ f2_ f3_;have f4_:=f1_.symm;have f5_:=f3_.symm;clear f1_ f2_ f3_;subst f4_;subst f5_))
    refine start_ (n:=17) (S:=fun w'=>w'.cell? ⟨gb761,0,none⟩ = some (.slice A0_0 l0_0.length c0_0)∧w'.cell? ⟨gb761,1,none⟩ = some (.slice A0_1 l0_1.length c0_1)) (ds:=[]) (bl_ 17 0) (by kernel_rfl) rfl (by kernel_rfl) ⟨cz0_ BK761,cz1_ BK761⟩ (fun hHeld=>?_);refine with_tabW Z30.tab4 Z30.bits4 (fun HT_ HW_=>?_)
    generalize wc.drew = w17 at HO_3 BK761 HB hHeld ⊢
    refine pu_ 11 (some 28) (bl_ 17 2048) HT_ ?_
    refine pu_ 12 (some 29) (bl_ 17 6144) HT_ ?_
    refine pu_ 13 (some 30) (bl_ 17 14336) HT_ ?_
    refine ta_ 0 (some 17) (bl_ 17 14337) HT_ HW_ hHeld ?_
    refine ta_ 3 (some 20) (bl_ 17 14345) HT_ HW_ hHeld ?_
    refine ta_ 7 (some 24) (bl_ 17 14473) HT_ HW_ hHeld ?_
    refine on_ 1 (some 18) (bl_ 17 14475) HT_ (fun K hK=>?_)
    refine gO_ Tryz.func18 #[.agg #[.slice A0_0 l0_0.length c0_0,.slice A0_1 l0_1.length c0_1]] (by rfl) rfl rfl qa_ ?_
    with_reducible refine (Z64.calls kj2 _ _ l0_0 _ _ l0_1 t767 _ (cb_ HR0_0) HC0_0.out (cb_ HR0_1) HC0_1.out A14.out).mono ?_
    rintro e w19 ⟨rfl,hb⟩
    refine ⟨_,rfl,?_⟩
    replace HO_3:=rb_ HO_3 hb
    replace BK761:=bb_ BK761 hb
    replace HB:=b1_ hb
    clear hb
    refine hK.out _ _ ⟨cz0_ BK761,cz1_ BK761⟩ (fun hHeld=>?_)
    clear hK K
    refine no_ (some 18) ?_
    refine pu_ 2 (some 19) (bl_ 17 14479) HT_ ?_
    refine on_ 4 (some 21) (bl_ 17 14495) HT_ (fun K hK=>?_)
    refine gO_ Tryz.func19 #[.agg #[.slice A0_0 l0_0.length c0_0,.slice A0_1 l0_1.length c0_1]] (by rfl) rfl rfl qa_ ?_
    with_reducible refine (Z17.calls kj2 _ _ l0_0 _ _ l0_1 t768 _ (cb_ HR0_0) HC0_0.out (cb_ HR0_1) HC0_1.out A15.out).mono ?_
    rintro e w20 ⟨rfl,hb⟩
    refine ⟨_,rfl,?_⟩
    replace HO_3:=rb_ HO_3 hb
    replace BK761:=bb_ BK761 hb
    replace HB:=b1_ hb
    clear hb
    refine hK.out _ _ ⟨cz0_ BK761,cz1_ BK761⟩ (fun hHeld=>?_)
    clear hK K
    refine no_ (some 21) ?_
    refine pu_ 5 (some 22) (bl_ 17 14527) HT_ ?_
    refine pu_ 6 (some 23) (bl_ 17 14591) HT_ ?_
    refine on_ 8 (some 25) (bl_ 17 14847) HT_ (fun K hK=>?_)
    refine gO_ Tryz.func20 #[.agg #[.slice A0_0 l0_0.length c0_0,.slice A0_1 l0_1.length c0_1]] (by rfl) rfl rfl qa_ ?_
    with_reducible refine (Z9.calls kj2 _ _ l0_0 _ _ l0_1 t769 _ (cb_ HR0_0) HC0_0.out (cb_ HR0_1) HC0_1.out A16.out).mono ?_
    rintro e w21 ⟨rfl,hb⟩
    refine ⟨_,rfl,?_⟩
    replace HO_3:=rb_ HO_3 hb
    replace BK761:=bb_ BK761 hb
    replace HB:=b1_ hb
    clear hb
    refine hK.out _ _ ⟨cz0_ BK761,cz1_ BK761⟩ (fun hHeld=>?_)
    clear hK K
    refine no_ (some 25) ?_
    refine pu_ 9 (some 26) (bl_ 17 15359) HT_ ?_
    refine pu_ 10 (some 27) (bl_ 17 16383) HT_ ?_
    refine pu_ 14 (some 31) (bl_ 17 32767) HT_ ?_
    refine pu_ 15 (some 32) (bl_ 17 65535) HT_ ?_
    refine pu_ 16 (some 2) (bl_ 17 131071) HT_ ?_
    refine done_ (done_of HT_.out (by kernel_rfl)) ?_
    try go_wp2
    go_ret
    exact ⟨qb_,hB_⟩
end Go.Proofs.YtcggfjpnfodbaaaGreat.A
end
