/- Lemmas for the row FnExactOrbitsWith: the program's functions told as plain functions, and plain mathematics. No conditions. -/
import Derived.Shelf.SlSortCmp.NoneTotal
import Derived.Test.YtoijcallajegfaaQFnExactOrbitsWith1
section
namespace Go.Proofs.Ytoijcallajegfaa.A
open Go.RowKit Go.Proofs.YtoijcallajegfaaW.PrintWords Go.Proofs.YtoijcallajegfaaW.PrintLast Go.Proofs.YtoijcallajegfaaW.PrintMore
attribute [local go_sem] max2_int min2_int max_two min_two max_three min_three max_four min_four
set_option linter.unusedVariables false
set_option linter.unusedSimpArgs false
def Z6.f (k:Nat) (l0_0:List Int) (l0_1:List Int):Option (List Int × List Int × Bool):=(Z35.f k l0_0 l0_1).bind fun t688=>(if t688 = true then ((Z49.f l0_0).bind fun t689=>((Z47.f k l0_0 l0_1).bind fun t692=>(some (t689,t692,true)))) else (some (([]:List Int),([]:List Int),false)))
theorem Z6.mono:∀ a0 a1 k,LeO (Z6.f k a0 a1) (Z6.f (k + 1) a0 a1):=by
 intro a0 a1 k
 unfold Z6.f
 repeat' first|exact Z35.mono _ _ _|exact Z47.mono _ _ _|exact lo_|refine LeO.ite ?_ ?_|refine LeO.bind ?_ (fun _=>?_)
def Z6.T3:Bool × List (List Nat × List Nat):=(true,[([],[]),([0],[0]),([1],[1]),([],[]),([3],[3]),([],[]),([5],[5]),([4,6,2],[4,6]),([2,7],[2,7]),([8,7,0,1,2,3,4,5,6,7,8],[8]),([9,0,1,2,3,4,5,6,7,8,9],[])])
def Z6.B3:List Nat:=[0,1,3,0,8,0,32,127,255,511,1023]
theorem Z6.tab3:rtab .any (opsOf Try.f115 3) = Z6.T3:=by kernel_rfl
theorem Z6.bits3:waitsOk Z6.T3.2 Z6.B3 = true:=by kernel_rfl
set_option maxHeartbeats 8000000 in
set_option maxRecDepth 100000 in
theorem Z6.calls (k:Nat) (A0_0:Option Addr) (c0_0:Nat) (l0_0:List Int) (A0_1:Option Addr) (c0_1:Nat) (l0_1:List Int) (r1:List Int) (r2:List Int) (r3:Bool) (w:World) (hr0_0:Kd.C (Kd.int .i64) w A0_0 l0_0.length l0_0) (hc0_0:l0_0.length≤c0_0) (hr0_1:Kd.C (Kd.int .i64) w A0_1 l0_1.length l0_1) (hc0_1:l0_1.length≤c0_1) (h:Z6.f k l0_0 l0_1 = some (r1,r2,r3)) :
  Calls Try.prog 115 #[.agg #[.slice A0_0 l0_0.length c0_0,.slice A0_1 l0_1.length c0_1]] w fun e w'=>∃ v0_ v1_:Value,e = .returned (.tuple #[.agg #[v0_,v1_],.bool r3])∧Kd.R (Kd.int .i64) 3 w' w.heap.size (fun k_=>some k_≠(v1_:Value).ownBlock) v0_ r1∧Kd.R (Kd.int .i64) 3 w' w.heap.size (fun k_=>some k_≠(v0_:Value).ownBlock) v1_ r2∧Below w.heap.size w w':=by
 have hu33:=Try.underlying33
 have HR0_0:=A_ hr0_0
 have HC0_0:=A_ hc0_0
 clear hr0_0 hc0_0
 have HR0_1:=A_ hr0_1
 have HC0_1:=A_ hc0_1
 clear hr0_1 hc0_1
 have HB:=A_ (Below.refl w.heap.size w)
 have H:=h
 unfold Z6.f at H
 clear h
 obtain ⟨t688,A2,H⟩:=bi_ H
 by_cases c3:t688 = true
 ·subst c3
  rw [if_pos rfl] at H
  obtain ⟨t689,A4,H⟩:=bi_ H
  obtain ⟨t692,A5,H⟩:=bi_ H
  simp only [Option.some.injEq,Prod.mk.injEq] at H
  obtain ⟨rfl,rfl,rfl⟩:=H
  go_enter Try.func115,Try.ntmps115
  try go_wp2_with (first | ((with_reducible refine gB_ (N:=1) rfl ?_);refine bx_ 1 #[.slice A0_0 l0_0.length c0_0,.slice A0_1 l0_1.length c0_1] 33 ?_;intro gb686 hg w6 hbox hb;have BK686:=A_ hbox;have GW686:=gw_ w hg;have GE686:=GW686;replace HB:=b1_ hb;clear hb hbox hg) | ((with_reducible refine gB_ (N:=2) rfl ?_);refine bx_ 2 #[.slice none 0 0,.slice none 0 0] 33 ?_;intro gb687 hg w7 hbox hb;have BK687:=A_ hbox;have GW687:=gw_ w hg;have GE687:=GW687;replace HB:=b1_ hb;have NB686_687:=gN_ BK686 hg;have NB687_686:=gP_ BK686 hg;replace BK686:=bb_ BK686 hb;clear hb hbox hg;have hnb8:=NB686_687.out;have hnc8:=NB687_686.out;obtain ⟨hcz9_0,hcz9_1,hfz9_0,hfz9_1⟩:=c2_ BK686) | ((with_reducible refine gA_ (f:=19) rfl ?_);refine gL_ (some 5) Try.func19 #[.agg #[.slice A0_0 l0_0.length c0_0,.slice A0_1 l0_1.length c0_1]] rfl qa_ ?_;(with_reducible refine (Z35.calls k _ _ l0_0 _ _ l0_1 true _ (cb_ HR0_0) HC0_0.out (cb_ HR0_1) HC0_1.out A2.out).mono ?_);rintro e w10 ⟨rfl,hb⟩;refine ⟨_,rfl,?_⟩;replace BK686:=bb_ BK686 hb;replace BK687:=bb_ BK687 hb;replace HB:=b1_ hb;clear hb))
  replace BK686:=A_ (kB_ BK686.out)
  replace BK687:=A_ (kB_ BK687.out)
  replace HB:=A_ (bC_ HB.out)
  refine start_ (n:=11) (S:=fun w'=>w'.cell? ⟨gb686,0,none⟩ = some (.slice A0_0 l0_0.length c0_0)∧w'.cell? ⟨gb686,1,none⟩ = some (.slice A0_1 l0_1.length c0_1)) (ds:=[]) (bl_ 11 0) (by kernel_rfl) rfl (by kernel_rfl) ⟨cz0_ BK686,cz1_ BK686⟩ (fun hHeld=>?_);refine with_tabW Z6.tab3 Z6.bits3 (fun HT_ HW_=>?_)
  generalize w10.drew = w11 at BK686 BK687 HB hHeld ⊢
  refine pu_ 0 (some 8) (bl_ 11 1) HT_ ?_
  refine pu_ 3 (some 11) (bl_ 11 9) HT_ ?_
  refine pu_ 5 (some 13) (bl_ 11 41) HT_ ?_
  refine ta_ 1 (some 9) (bl_ 11 43) HT_ HW_ hHeld ?_
  refine ta_ 4 (some 12) (bl_ 11 59) HT_ HW_ hHeld ?_
  refine ta_ 6 (some 14) (bl_ 11 123) HT_ HW_ hHeld ?_
  refine on_ 2 (some 10) (bl_ 11 127) HT_ (fun K hK=>?_)
  refine gO_ Try.func100 #[.slice A0_0 l0_0.length c0_0] (by rfl) rfl rfl qa_ ?_
  with_reducible refine (Z49.calls _ _ l0_0 t689 _ (cb_ HR0_0) HC0_0.out A4.out).mono ?_
  rintro e w12 ⟨v690,rfl,ho0,hb⟩
  refine ⟨_,rfl,?_⟩
  have HO691:=rl_ w ho0
  replace BK686:=bb_ BK686 hb
  replace BK687:=bb_ BK687 hb
  replace HB:=b1_ hb
  clear hb ho0
  refine hK.out _ _ ⟨cz0_ BK686,cz1_ BK686⟩ (fun hHeld=>?_)
  clear hK K
  refine no_ (some 10) ?_
  refine on_ 7 (some 15) (bl_ 11 255) HT_ (fun K hK=>?_)
  refine gO_ Try.func152 #[.slice A0_0 l0_0.length c0_0,.slice A0_1 l0_1.length c0_1] (by rfl) rfl rfl qa_ ?_
  with_reducible refine (Z47.calls k _ _ l0_0 _ _ l0_1 t692 _ (cb_ HR0_0) HC0_0.out (cb_ HR0_1) HC0_1.out A5.out).mono ?_
  rintro e w13 ⟨v693,rfl,ho0,hb⟩
  refine ⟨_,rfl,?_⟩
  have HO694:=A_ (rE_ (Kd.R_new' ho0 (Kd.R_lt (rr_ HO691))) (bF_ hB_))
  replace HO691:=A_ (Kd.R_elder' (rr_ HO691) (Kd.R_base ho0) hb)
  replace BK686:=bb_ BK686 hb
  replace BK687:=bb_ BK687 hb
  replace HB:=b1_ hb
  clear hb ho0
  obtain ⟨Ao14,co14,eo14⟩:=Kd.R_slice HO694.out
  (first|subst eo14|(injection eo14 with a_ b_ c_;have a_:=a_.symm;have c_:=c_.symm;clear b_;subst a_;subst c_))
  obtain ⟨Ao15,co15,eo15⟩:=Kd.R_slice HO691.out
  (first|subst eo15|(injection eo15 with a_ b_ c_;have a_:=a_.symm;have c_:=c_.symm;clear b_;subst a_;subst c_))
  refine hK.out _ _ ⟨cz0_ BK686,cz1_ BK686⟩ (fun hHeld=>?_)
  clear hK K
  refine no_ (some 15) ?_
  refine pu_ 8 (some 16) (bl_ 11 511) HT_ ?_
  refine on_ 9 (none) (bl_ 11 1023) HT_ (fun K hK=>?_)
  have hs16:w13.cell? ⟨gb687,0,none⟩ = some (.slice none 0 0):=cz0_ BK687
  have hfs16:=kD_ BK687.out 0
  have hns16_0:=NB686_687.out
  have hms16_0:=NB687_686.out
  have hs17:w13.cell? ⟨gb687,1,none⟩ = some (.slice none 0 0):=cz1_ BK687
  have hfs17:=kD_ BK687.out 1
  have hns17_0:=NB686_687.out
  have hms17_0:=NB687_686.out
  refine skip_ (w1:=?_) (by rfl) rfl ?_ ?_
  rotate_left
  ·go_simp
   rfl
  refine hK.out _ _ ⟨((cell_far (p:=⟨gb687,_,none⟩) NB686_687.out _).trans (((cell_far (p:=⟨gb687,_,none⟩) NB686_687.out _).trans (hHeld.1)))),((cell_far (p:=⟨gb687,_,none⟩) NB686_687.out _).trans (((cell_far (p:=⟨gb687,_,none⟩) NB686_687.out _).trans (hHeld.2))))⟩ (fun hHeld=>?_)
  clear hK K
  refine pu_ 10 (some 3) (bl_ 11 2047) HT_ ?_
  refine done_ (done_of HT_.out (by kernel_rfl)) ?_
  try go_wp2
  refine bodyPost_ret (results_ct rfl _ _ gb687 33 #[.slice Ao15 t689.length co15,.slice Ao14 t692.length co14] (0,0) _ rfl qp_ Try.underlying33 rfl (by kernel_rfl)) rfl ?_
  exact ⟨_,_,qb_,(rw_ (Kd.R_mono (fa_ HO691 BK687) (fun _ hk=>hk.2))),(rw_ (Kd.R_mono (fa_ HO694 BK687) (fun _ hk=>hk.2))),hB_⟩
 ·replace c3:=Bool.eq_false_iff.mpr c3
  subst c3
  have H1:(some (([]:List Int),([]:List Int),false)) = some (r1,r2,r3):=by rw [if_neg (show ¬ (false = true) by decide)] at H;exact H
  clear H
  have H:=H1
  clear H1
  simp only [Option.some.injEq,Prod.mk.injEq] at H
  obtain ⟨rfl,rfl,rfl⟩:=H
  go_enter Try.func115,Try.ntmps115
  go_wp2_with (first | ((with_reducible refine gB_ (N:=1) rfl ?_);refine bx_ 1 #[.slice A0_0 l0_0.length c0_0,.slice A0_1 l0_1.length c0_1] 33 ?_;intro gb686 hg w18 hbox hb;have BK686:=A_ hbox;have GW686:=gw_ w hg;have GE686:=GW686;replace HB:=b1_ hb;clear hb hbox hg) | ((with_reducible refine gB_ (N:=2) rfl ?_);refine bx_ 2 #[.slice none 0 0,.slice none 0 0] 33 ?_;intro gb687 hg w19 hbox hb;have BK687:=A_ hbox;have GW687:=gw_ w hg;have GE687:=GW687;replace HB:=b1_ hb;have NB686_687:=gN_ BK686 hg;have NB687_686:=gP_ BK686 hg;replace BK686:=bb_ BK686 hb;clear hb hbox hg;have hnb20:=NB686_687.out;have hnc20:=NB687_686.out;obtain ⟨hcz21_0,hcz21_1,hfz21_0,hfz21_1⟩:=c2_ BK686) | ((with_reducible refine gA_ (f:=19) rfl ?_);refine gL_ (some 5) Try.func19 #[.agg #[.slice A0_0 l0_0.length c0_0,.slice A0_1 l0_1.length c0_1]] rfl qa_ ?_;(with_reducible refine (Z35.calls k _ _ l0_0 _ _ l0_1 false _ (cb_ HR0_0) HC0_0.out (cb_ HR0_1) HC0_1.out A2.out).mono ?_);rintro e w22 ⟨rfl,hb⟩;refine ⟨_,rfl,?_⟩;replace BK686:=bb_ BK686 hb;replace BK687:=bb_ BK687 hb;replace HB:=b1_ hb;clear hb;obtain ⟨hcz23_0,hcz23_1,hfz23_0,hfz23_1⟩:=c2_ BK687))
  refine bodyPost_ret (results_ct rfl _ _ gb687 33 #[.slice none 0 0,.slice none 0 0] (0,0) _ rfl qp_ Try.underlying33 rfl (by kernel_rfl)) rfl ?_
  exact ⟨_,_,qb_,by first | exact Kd.R_nil _ _ _ _ _ | exact Kd.N_nil _ _ _ _ _ | exact Kd.V_nil _ _ _ _ _ | exact Kd.Q_nil _ _ _ _ _ | exact Kd.S_nil _ _ _ _ _,by first | exact Kd.R_nil _ _ _ _ _ | exact Kd.N_nil _ _ _ _ _ | exact Kd.V_nil _ _ _ _ _ | exact Kd.Q_nil _ _ _ _ _ | exact Kd.S_nil _ _ _ _ _,hB_⟩
def Z23.f (k:Nat) (l0_0:List Int) (l0_1:List Int):Option (List Int × List Int × Bool):=(Z35.f k l0_0 l0_1).bind fun t697=>(if t697 = true then ((Z21.f k l0_1).bind fun t698=>((Z49.f l0_0).bind fun t701=>(some (t698,t701,true)))) else (some (([]:List Int),([]:List Int),false)))
theorem Z23.mono:∀ a0 a1 k,LeO (Z23.f k a0 a1) (Z23.f (k + 1) a0 a1):=by
 intro a0 a1 k
 unfold Z23.f
 repeat' first|exact Z21.mono _ _|exact Z35.mono _ _ _|exact lo_|refine LeO.ite ?_ ?_|refine LeO.bind ?_ (fun _=>?_)
def Z23.T3:Bool × List (List Nat × List Nat):=(true,[([],[]),([0],[0]),([1],[1]),([],[]),([3],[3]),([4,2],[4]),([2,5],[2,5]),([6,5,0,1,2,3,4,5,6],[6]),([7,0,1,2,3,4,5,6,7],[])])
def Z23.B3:List Nat:=[0,1,3,0,8,31,63,127,255]
theorem Z23.tab3:rtab .any (opsOf Try.f116 3) = Z23.T3:=by kernel_rfl
theorem Z23.bits3:waitsOk Z23.T3.2 Z23.B3 = true:=by kernel_rfl
set_option maxHeartbeats 8000000 in
set_option maxRecDepth 100000 in
theorem Z23.calls (k:Nat) (A0_0:Option Addr) (c0_0:Nat) (l0_0:List Int) (A0_1:Option Addr) (c0_1:Nat) (l0_1:List Int) (r1:List Int) (r2:List Int) (r3:Bool) (w:World) (hr0_0:Kd.C (Kd.int .i64) w A0_0 l0_0.length l0_0) (hc0_0:l0_0.length≤c0_0) (hr0_1:Kd.C (Kd.int .i64) w A0_1 l0_1.length l0_1) (hc0_1:l0_1.length≤c0_1) (h:Z23.f k l0_0 l0_1 = some (r1,r2,r3)) :
  Calls Try.prog 116 #[.agg #[.slice A0_0 l0_0.length c0_0,.slice A0_1 l0_1.length c0_1]] w fun e w'=>∃ v0_ v1_:Value,e = .returned (.tuple #[.agg #[v0_,v1_],.bool r3])∧Kd.R (Kd.int .i64) 3 w' w.heap.size (fun k_=>some k_≠(v1_:Value).ownBlock) v0_ r1∧Kd.R (Kd.int .i64) 3 w' w.heap.size (fun k_=>some k_≠(v0_:Value).ownBlock) v1_ r2∧Below w.heap.size w w':=by
 have hu33:=Try.underlying33
 have HR0_0:=A_ hr0_0
 have HC0_0:=A_ hc0_0
 clear hr0_0 hc0_0
 have HR0_1:=A_ hr0_1
 have HC0_1:=A_ hc0_1
 clear hr0_1 hc0_1
 have HB:=A_ (Below.refl w.heap.size w)
 have H:=h
 unfold Z23.f at H
 clear h
 obtain ⟨t697,A2,H⟩:=bi_ H
 by_cases c3:t697 = true
 ·subst c3
  rw [if_pos rfl] at H
  obtain ⟨t698,A4,H⟩:=bi_ H
  obtain ⟨t701,A5,H⟩:=bi_ H
  simp only [Option.some.injEq,Prod.mk.injEq] at H
  obtain ⟨rfl,rfl,rfl⟩:=H
  go_enter Try.func116,Try.ntmps116
  try go_wp2_with (first | ((with_reducible refine gB_ (N:=1) rfl ?_);refine bx_ 1 #[.slice A0_0 l0_0.length c0_0,.slice A0_1 l0_1.length c0_1] 33 ?_;intro gb695 hg w6 hbox hb;have BK695:=A_ hbox;have GW695:=gw_ w hg;have GE695:=GW695;replace HB:=b1_ hb;clear hb hbox hg) | ((with_reducible refine gB_ (N:=2) rfl ?_);refine bx_ 2 #[.slice none 0 0,.slice none 0 0] 33 ?_;intro gb696 hg w7 hbox hb;have BK696:=A_ hbox;have GW696:=gw_ w hg;have GE696:=GW696;replace HB:=b1_ hb;have NB695_696:=gN_ BK695 hg;have NB696_695:=gP_ BK695 hg;replace BK695:=bb_ BK695 hb;clear hb hbox hg;have hnb8:=NB695_696.out;have hnc8:=NB696_695.out;obtain ⟨hcz9_0,hcz9_1,hfz9_0,hfz9_1⟩:=c2_ BK695) | ((with_reducible refine gA_ (f:=19) rfl ?_);refine gL_ (some 5) Try.func19 #[.agg #[.slice A0_0 l0_0.length c0_0,.slice A0_1 l0_1.length c0_1]] rfl qa_ ?_;(with_reducible refine (Z35.calls k _ _ l0_0 _ _ l0_1 true _ (cb_ HR0_0) HC0_0.out (cb_ HR0_1) HC0_1.out A2.out).mono ?_);rintro e w10 ⟨rfl,hb⟩;refine ⟨_,rfl,?_⟩;replace BK695:=bb_ BK695 hb;replace BK696:=bb_ BK696 hb;replace HB:=b1_ hb;clear hb))
  replace BK695:=A_ (kB_ BK695.out)
  replace BK696:=A_ (kB_ BK696.out)
  replace HB:=A_ (bC_ HB.out)
  refine start_ (n:=9) (S:=fun w'=>w'.cell? ⟨gb695,0,none⟩ = some (.slice A0_0 l0_0.length c0_0)∧w'.cell? ⟨gb695,1,none⟩ = some (.slice A0_1 l0_1.length c0_1)) (ds:=[]) (bl_ 9 0) (by kernel_rfl) rfl (by kernel_rfl) ⟨cz0_ BK695,cz1_ BK695⟩ (fun hHeld=>?_);refine with_tabW Z23.tab3 Z23.bits3 (fun HT_ HW_=>?_)
  generalize w10.drew = w11 at BK695 BK696 HB hHeld ⊢
  refine pu_ 0 (some 8) (bl_ 9 1) HT_ ?_
  refine pu_ 3 (some 11) (bl_ 9 9) HT_ ?_
  refine ta_ 1 (some 9) (bl_ 9 11) HT_ HW_ hHeld ?_
  refine ta_ 4 (some 12) (bl_ 9 27) HT_ HW_ hHeld ?_
  refine on_ 2 (some 10) (bl_ 9 31) HT_ (fun K hK=>?_)
  refine gO_ Try.func122 #[.slice A0_1 l0_1.length c0_1] (by rfl) rfl rfl qa_ ?_
  with_reducible refine (Z21.calls k _ _ l0_1 t698 _ (cb_ HR0_1) HC0_1.out A4.out).mono ?_
  rintro e w12 ⟨v699,rfl,ho0,hb⟩
  refine ⟨_,rfl,?_⟩
  have HO700:=rl_ w ho0
  replace BK695:=bb_ BK695 hb
  replace BK696:=bb_ BK696 hb
  replace HB:=b1_ hb
  clear hb ho0
  refine hK.out _ _ ⟨cz0_ BK695,cz1_ BK695⟩ (fun hHeld=>?_)
  clear hK K
  refine no_ (some 10) ?_
  refine on_ 5 (some 13) (bl_ 9 63) HT_ (fun K hK=>?_)
  refine gO_ Try.func100 #[.slice A0_0 l0_0.length c0_0] (by rfl) rfl rfl qa_ ?_
  with_reducible refine (Z49.calls _ _ l0_0 t701 _ (cb_ HR0_0) HC0_0.out A5.out).mono ?_
  rintro e w13 ⟨v702,rfl,ho0,hb⟩
  refine ⟨_,rfl,?_⟩
  have HO703:=A_ (rE_ (Kd.R_new' ho0 (Kd.R_lt (rr_ HO700))) (bF_ hB_))
  replace HO700:=A_ (Kd.R_elder' (rr_ HO700) (Kd.R_base ho0) hb)
  replace BK695:=bb_ BK695 hb
  replace BK696:=bb_ BK696 hb
  replace HB:=b1_ hb
  clear hb ho0
  obtain ⟨Ao14,co14,eo14⟩:=Kd.R_slice HO703.out
  (first|subst eo14|(injection eo14 with a_ b_ c_;have a_:=a_.symm;have c_:=c_.symm;clear b_;subst a_;subst c_))
  obtain ⟨Ao15,co15,eo15⟩:=Kd.R_slice HO700.out
  (first|subst eo15|(injection eo15 with a_ b_ c_;have a_:=a_.symm;have c_:=c_.symm;clear b_;subst a_;subst c_))
  refine hK.out _ _ ⟨cz0_ BK695,cz1_ BK695⟩ (fun hHeld=>?_)
  clear hK K
  refine no_ (some 13) ?_
  refine pu_ 6 (some 14) (bl_ 9 127) HT_ ?_
  refine on_ 7 (none) (bl_ 9 255) HT_ (fun K hK=>?_)
  have hs16:w13.cell? ⟨gb696,0,none⟩ = some (.slice none 0 0):=cz0_ BK696
  have hfs16:=kD_ BK696.out 0
  have hns16_0:=NB695_696.out
  have hms16_0:=NB696_695.out
  have hs17:w13.cell? ⟨gb696,1,none⟩ = some (.slice none 0 0):=cz1_ BK696
  have hfs17:=kD_ BK696.out 1
  have hns17_0:=NB695_696.out
  have hms17_0:=NB696_695.out
  refine skip_ (w1:=?_) (by rfl) rfl ?_ ?_
  rotate_left
  ·go_simp
   rfl
  refine hK.out _ _ ⟨((cell_far (p:=⟨gb696,_,none⟩) NB695_696.out _).trans (((cell_far (p:=⟨gb696,_,none⟩) NB695_696.out _).trans (hHeld.1)))),((cell_far (p:=⟨gb696,_,none⟩) NB695_696.out _).trans (((cell_far (p:=⟨gb696,_,none⟩) NB695_696.out _).trans (hHeld.2))))⟩ (fun hHeld=>?_)
  clear hK K
  refine pu_ 8 (some 3) (bl_ 9 511) HT_ ?_
  refine done_ (done_of HT_.out (by kernel_rfl)) ?_
  try go_wp2
  refine bodyPost_ret (results_ct rfl _ _ gb696 33 #[.slice Ao15 t698.length co15,.slice Ao14 t701.length co14] (0,0) _ rfl qp_ Try.underlying33 rfl (by kernel_rfl)) rfl ?_
  exact ⟨_,_,qb_,(rw_ (Kd.R_mono (fa_ HO700 BK696) (fun _ hk=>hk.2))),(rw_ (Kd.R_mono (fa_ HO703 BK696) (fun _ hk=>hk.2))),hB_⟩
 ·replace c3:=Bool.eq_false_iff.mpr c3
  subst c3
  have H1:(some (([]:List Int),([]:List Int),false)) = some (r1,r2,r3):=by rw [if_neg (show ¬ (false = true) by decide)] at H;exact H
  clear H
  have H:=H1
  clear H1
  simp only [Option.some.injEq,Prod.mk.injEq] at H
  obtain ⟨rfl,rfl,rfl⟩:=H
  go_enter Try.func116,Try.ntmps116
  go_wp2_with (first | ((with_reducible refine gB_ (N:=1) rfl ?_);refine bx_ 1 #[.slice A0_0 l0_0.length c0_0,.slice A0_1 l0_1.length c0_1] 33 ?_;intro gb695 hg w18 hbox hb;have BK695:=A_ hbox;have GW695:=gw_ w hg;have GE695:=GW695;replace HB:=b1_ hb;clear hb hbox hg) | ((with_reducible refine gB_ (N:=2) rfl ?_);refine bx_ 2 #[.slice none 0 0,.slice none 0 0] 33 ?_;intro gb696 hg w19 hbox hb;have BK696:=A_ hbox;have GW696:=gw_ w hg;have GE696:=GW696;replace HB:=b1_ hb;have NB695_696:=gN_ BK695 hg;have NB696_695:=gP_ BK695 hg;replace BK695:=bb_ BK695 hb;clear hb hbox hg;have hnb20:=NB695_696.out;have hnc20:=NB696_695.out;obtain ⟨hcz21_0,hcz21_1,hfz21_0,hfz21_1⟩:=c2_ BK695) | ((with_reducible refine gA_ (f:=19) rfl ?_);refine gL_ (some 5) Try.func19 #[.agg #[.slice A0_0 l0_0.length c0_0,.slice A0_1 l0_1.length c0_1]] rfl qa_ ?_;(with_reducible refine (Z35.calls k _ _ l0_0 _ _ l0_1 false _ (cb_ HR0_0) HC0_0.out (cb_ HR0_1) HC0_1.out A2.out).mono ?_);rintro e w22 ⟨rfl,hb⟩;refine ⟨_,rfl,?_⟩;replace BK695:=bb_ BK695 hb;replace BK696:=bb_ BK696 hb;replace HB:=b1_ hb;clear hb;obtain ⟨hcz23_0,hcz23_1,hfz23_0,hfz23_1⟩:=c2_ BK696))
  refine bodyPost_ret (results_ct rfl _ _ gb696 33 #[.slice none 0 0,.slice none 0 0] (0,0) _ rfl qp_ Try.underlying33 rfl (by kernel_rfl)) rfl ?_
  exact ⟨_,_,qb_,by first | exact Kd.R_nil _ _ _ _ _ | exact Kd.N_nil _ _ _ _ _ | exact Kd.V_nil _ _ _ _ _ | exact Kd.Q_nil _ _ _ _ _ | exact Kd.S_nil _ _ _ _ _,by first | exact Kd.R_nil _ _ _ _ _ | exact Kd.N_nil _ _ _ _ _ | exact Kd.V_nil _ _ _ _ _ | exact Kd.Q_nil _ _ _ _ _ | exact Kd.S_nil _ _ _ _ _,hB_⟩
def Z8.f (k:Nat) (l0_0:List Int) (l0_1:List Int):Option (List Int × List Int × Bool):=(Z35.f k l0_0 l0_1).bind fun t706=>(if t706 = true then ((Z49.f l0_1).bind fun t707=>((Z21.f k l0_0).bind fun t710=>(some (t707,t710,true)))) else (some (([]:List Int),([]:List Int),false)))
theorem Z8.mono:∀ a0 a1 k,LeO (Z8.f k a0 a1) (Z8.f (k + 1) a0 a1):=by
 intro a0 a1 k
 unfold Z8.f
 repeat' first|exact Z21.mono _ _|exact Z35.mono _ _ _|exact lo_|refine LeO.ite ?_ ?_|refine LeO.bind ?_ (fun _=>?_)
def Z8.T3:Bool × List (List Nat × List Nat):=(true,[([],[]),([0],[0]),([1],[1]),([],[]),([3],[3]),([4,2],[4]),([2,5],[2,5]),([6,5,0,1,2,3,4,5,6],[6]),([7,0,1,2,3,4,5,6,7],[])])
def Z8.B3:List Nat:=[0,1,3,0,8,31,63,127,255]
theorem Z8.tab3:rtab .any (opsOf Try.f117 3) = Z8.T3:=by kernel_rfl
theorem Z8.bits3:waitsOk Z8.T3.2 Z8.B3 = true:=by kernel_rfl
set_option maxHeartbeats 8000000 in
set_option maxRecDepth 100000 in
theorem Z8.calls (k:Nat) (A0_0:Option Addr) (c0_0:Nat) (l0_0:List Int) (A0_1:Option Addr) (c0_1:Nat) (l0_1:List Int) (r1:List Int) (r2:List Int) (r3:Bool) (w:World) (hr0_0:Kd.C (Kd.int .i64) w A0_0 l0_0.length l0_0) (hc0_0:l0_0.length≤c0_0) (hr0_1:Kd.C (Kd.int .i64) w A0_1 l0_1.length l0_1) (hc0_1:l0_1.length≤c0_1) (h:Z8.f k l0_0 l0_1 = some (r1,r2,r3)) :
  Calls Try.prog 117 #[.agg #[.slice A0_0 l0_0.length c0_0,.slice A0_1 l0_1.length c0_1]] w fun e w'=>∃ v0_ v1_:Value,e = .returned (.tuple #[.agg #[v0_,v1_],.bool r3])∧Kd.R (Kd.int .i64) 3 w' w.heap.size (fun k_=>some k_≠(v1_:Value).ownBlock) v0_ r1∧Kd.R (Kd.int .i64) 3 w' w.heap.size (fun k_=>some k_≠(v0_:Value).ownBlock) v1_ r2∧Below w.heap.size w w':=by
 have hu33:=Try.underlying33
 have HR0_0:=A_ hr0_0
 have HC0_0:=A_ hc0_0
 clear hr0_0 hc0_0
 have HR0_1:=A_ hr0_1
 have HC0_1:=A_ hc0_1
 clear hr0_1 hc0_1
 have HB:=A_ (Below.refl w.heap.size w)
 have H:=h
 unfold Z8.f at H
 clear h
 obtain ⟨t706,A2,H⟩:=bi_ H
 by_cases c3:t706 = true
 ·subst c3
  rw [if_pos rfl] at H
  obtain ⟨t707,A4,H⟩:=bi_ H
  obtain ⟨t710,A5,H⟩:=bi_ H
  simp only [Option.some.injEq,Prod.mk.injEq] at H
  obtain ⟨rfl,rfl,rfl⟩:=H
  go_enter Try.func117,Try.ntmps117
  try go_wp2_with (first | ((with_reducible refine gB_ (N:=1) rfl ?_);refine bx_ 1 #[.slice A0_0 l0_0.length c0_0,.slice A0_1 l0_1.length c0_1] 33 ?_;intro gb704 hg w6 hbox hb;have BK704:=A_ hbox;have GW704:=gw_ w hg;have GE704:=GW704;replace HB:=b1_ hb;clear hb hbox hg) | ((with_reducible refine gB_ (N:=2) rfl ?_);refine bx_ 2 #[.slice none 0 0,.slice none 0 0] 33 ?_;intro gb705 hg w7 hbox hb;have BK705:=A_ hbox;have GW705:=gw_ w hg;have GE705:=GW705;replace HB:=b1_ hb;have NB704_705:=gN_ BK704 hg;have NB705_704:=gP_ BK704 hg;replace BK704:=bb_ BK704 hb;clear hb hbox hg;have hnb8:=NB704_705.out;have hnc8:=NB705_704.out;obtain ⟨hcz9_0,hcz9_1,hfz9_0,hfz9_1⟩:=c2_ BK704) | ((with_reducible refine gA_ (f:=19) rfl ?_);refine gL_ (some 5) Try.func19 #[.agg #[.slice A0_0 l0_0.length c0_0,.slice A0_1 l0_1.length c0_1]] rfl qa_ ?_;(with_reducible refine (Z35.calls k _ _ l0_0 _ _ l0_1 true _ (cb_ HR0_0) HC0_0.out (cb_ HR0_1) HC0_1.out A2.out).mono ?_);rintro e w10 ⟨rfl,hb⟩;refine ⟨_,rfl,?_⟩;replace BK704:=bb_ BK704 hb;replace BK705:=bb_ BK705 hb;replace HB:=b1_ hb;clear hb))
  replace BK704:=A_ (kB_ BK704.out)
  replace BK705:=A_ (kB_ BK705.out)
  replace HB:=A_ (bC_ HB.out)
  refine start_ (n:=9) (S:=fun w'=>w'.cell? ⟨gb704,0,none⟩ = some (.slice A0_0 l0_0.length c0_0)∧w'.cell? ⟨gb704,1,none⟩ = some (.slice A0_1 l0_1.length c0_1)) (ds:=[]) (bl_ 9 0) (by kernel_rfl) rfl (by kernel_rfl) ⟨cz0_ BK704,cz1_ BK704⟩ (fun hHeld=>?_);refine with_tabW Z8.tab3 Z8.bits3 (fun HT_ HW_=>?_)
  generalize w10.drew = w11 at BK704 BK705 HB hHeld ⊢
  refine pu_ 0 (some 8) (bl_ 9 1) HT_ ?_
  refine pu_ 3 (some 11) (bl_ 9 9) HT_ ?_
  refine ta_ 1 (some 9) (bl_ 9 11) HT_ HW_ hHeld ?_
  refine ta_ 4 (some 12) (bl_ 9 27) HT_ HW_ hHeld ?_
  refine on_ 2 (some 10) (bl_ 9 31) HT_ (fun K hK=>?_)
  refine gO_ Try.func100 #[.slice A0_1 l0_1.length c0_1] (by rfl) rfl rfl qa_ ?_
  with_reducible refine (Z49.calls _ _ l0_1 t707 _ (cb_ HR0_1) HC0_1.out A4.out).mono ?_
  rintro e w12 ⟨v708,rfl,ho0,hb⟩
  refine ⟨_,rfl,?_⟩
  have HO709:=rl_ w ho0
  replace BK704:=bb_ BK704 hb
  replace BK705:=bb_ BK705 hb
  replace HB:=b1_ hb
  clear hb ho0
  refine hK.out _ _ ⟨cz0_ BK704,cz1_ BK704⟩ (fun hHeld=>?_)
  clear hK K
  refine no_ (some 10) ?_
  refine on_ 5 (some 13) (bl_ 9 63) HT_ (fun K hK=>?_)
  refine gO_ Try.func122 #[.slice A0_0 l0_0.length c0_0] (by rfl) rfl rfl qa_ ?_
  with_reducible refine (Z21.calls k _ _ l0_0 t710 _ (cb_ HR0_0) HC0_0.out A5.out).mono ?_
  rintro e w13 ⟨v711,rfl,ho0,hb⟩
  refine ⟨_,rfl,?_⟩
  have HO712:=A_ (rE_ (Kd.R_new' ho0 (Kd.R_lt (rr_ HO709))) (bF_ hB_))
  replace HO709:=A_ (Kd.R_elder' (rr_ HO709) (Kd.R_base ho0) hb)
  replace BK704:=bb_ BK704 hb
  replace BK705:=bb_ BK705 hb
  replace HB:=b1_ hb
  clear hb ho0
  obtain ⟨Ao14,co14,eo14⟩:=Kd.R_slice HO712.out
  (first|subst eo14|(injection eo14 with a_ b_ c_;have a_:=a_.symm;have c_:=c_.symm;clear b_;subst a_;subst c_))
  obtain ⟨Ao15,co15,eo15⟩:=Kd.R_slice HO709.out
  (first|subst eo15|(injection eo15 with a_ b_ c_;have a_:=a_.symm;have c_:=c_.symm;clear b_;subst a_;subst c_))
  refine hK.out _ _ ⟨cz0_ BK704,cz1_ BK704⟩ (fun hHeld=>?_)
  clear hK K
  refine no_ (some 13) ?_
  refine pu_ 6 (some 14) (bl_ 9 127) HT_ ?_
  refine on_ 7 (none) (bl_ 9 255) HT_ (fun K hK=>?_)
  have hs16:w13.cell? ⟨gb705,0,none⟩ = some (.slice none 0 0):=cz0_ BK705
  have hfs16:=kD_ BK705.out 0
  have hns16_0:=NB704_705.out
  have hms16_0:=NB705_704.out
  have hs17:w13.cell? ⟨gb705,1,none⟩ = some (.slice none 0 0):=cz1_ BK705
  have hfs17:=kD_ BK705.out 1
  have hns17_0:=NB704_705.out
  have hms17_0:=NB705_704.out
  refine skip_ (w1:=?_) (by rfl) rfl ?_ ?_
  rotate_left
  ·go_simp
   rfl
  refine hK.out _ _ ⟨((cell_far (p:=⟨gb705,_,none⟩) NB704_705.out _).trans (((cell_far (p:=⟨gb705,_,none⟩) NB704_705.out _).trans (hHeld.1)))),((cell_far (p:=⟨gb705,_,none⟩) NB704_705.out _).trans (((cell_far (p:=⟨gb705,_,none⟩) NB704_705.out _).trans (hHeld.2))))⟩ (fun hHeld=>?_)
  clear hK K
  refine pu_ 8 (some 3) (bl_ 9 511) HT_ ?_
  refine done_ (done_of HT_.out (by kernel_rfl)) ?_
  try go_wp2
  refine bodyPost_ret (results_ct rfl _ _ gb705 33 #[.slice Ao15 t707.length co15,.slice Ao14 t710.length co14] (0,0) _ rfl qp_ Try.underlying33 rfl (by kernel_rfl)) rfl ?_
  exact ⟨_,_,qb_,(rw_ (Kd.R_mono (fa_ HO709 BK705) (fun _ hk=>hk.2))),(rw_ (Kd.R_mono (fa_ HO712 BK705) (fun _ hk=>hk.2))),hB_⟩
 ·replace c3:=Bool.eq_false_iff.mpr c3
  subst c3
  have H1:(some (([]:List Int),([]:List Int),false)) = some (r1,r2,r3):=by rw [if_neg (show ¬ (false = true) by decide)] at H;exact H
  clear H
  have H:=H1
  clear H1
  simp only [Option.some.injEq,Prod.mk.injEq] at H
  obtain ⟨rfl,rfl,rfl⟩:=H
  go_enter Try.func117,Try.ntmps117
  go_wp2_with (first | ((with_reducible refine gB_ (N:=1) rfl ?_);refine bx_ 1 #[.slice A0_0 l0_0.length c0_0,.slice A0_1 l0_1.length c0_1] 33 ?_;intro gb704 hg w18 hbox hb;have BK704:=A_ hbox;have GW704:=gw_ w hg;have GE704:=GW704;replace HB:=b1_ hb;clear hb hbox hg) | ((with_reducible refine gB_ (N:=2) rfl ?_);refine bx_ 2 #[.slice none 0 0,.slice none 0 0] 33 ?_;intro gb705 hg w19 hbox hb;have BK705:=A_ hbox;have GW705:=gw_ w hg;have GE705:=GW705;replace HB:=b1_ hb;have NB704_705:=gN_ BK704 hg;have NB705_704:=gP_ BK704 hg;replace BK704:=bb_ BK704 hb;clear hb hbox hg;have hnb20:=NB704_705.out;have hnc20:=NB705_704.out;obtain ⟨hcz21_0,hcz21_1,hfz21_0,hfz21_1⟩:=c2_ BK704) | ((with_reducible refine gA_ (f:=19) rfl ?_);refine gL_ (some 5) Try.func19 #[.agg #[.slice A0_0 l0_0.length c0_0,.slice A0_1 l0_1.length c0_1]] rfl qa_ ?_;(with_reducible refine (Z35.calls k _ _ l0_0 _ _ l0_1 false _ (cb_ HR0_0) HC0_0.out (cb_ HR0_1) HC0_1.out A2.out).mono ?_);rintro e w22 ⟨rfl,hb⟩;refine ⟨_,rfl,?_⟩;replace BK704:=bb_ BK704 hb;replace BK705:=bb_ BK705 hb;replace HB:=b1_ hb;clear hb;obtain ⟨hcz23_0,hcz23_1,hfz23_0,hfz23_1⟩:=c2_ BK705))
  refine bodyPost_ret (results_ct rfl _ _ gb705 33 #[.slice none 0 0,.slice none 0 0] (0,0) _ rfl qp_ Try.underlying33 rfl (by kernel_rfl)) rfl ?_
  exact ⟨_,_,qb_,by first | exact Kd.R_nil _ _ _ _ _ | exact Kd.N_nil _ _ _ _ _ | exact Kd.V_nil _ _ _ _ _ | exact Kd.Q_nil _ _ _ _ _ | exact Kd.S_nil _ _ _ _ _,by first | exact Kd.R_nil _ _ _ _ _ | exact Kd.N_nil _ _ _ _ _ | exact Kd.V_nil _ _ _ _ _ | exact Kd.Q_nil _ _ _ _ _ | exact Kd.S_nil _ _ _ _ _,hB_⟩
def Z9.f (k:Nat) (l0_0:List Int) (l0_1:List Int) (a1:Int):Option (List Int × List Int):=if a1 = 84 then ((Z14.f k l0_0 l0_1).bind fun bt716=>(some (bt716.1,bt716.2.1))) else (if a1 = 116 then ((Z6.f k l0_0 l0_1).bind fun bt723=>(some (bt723.1,bt723.2.1))) else (if a1 = 83 then ((Z23.f k l0_0 l0_1).bind fun bt730=>(some (bt730.1,bt730.2.1))) else (if a1 = 115 then ((Z8.f k l0_0 l0_1).bind fun bt737=>(some (bt737.1,bt737.2.1))) else (some (([]:List Int),([]:List Int))))))
theorem Z9.mono:∀ a0 a1 a2 k,LeO (Z9.f k a0 a1 a2) (Z9.f (k + 1) a0 a1 a2):=by
 intro a0 a1 a2 k
 unfold Z9.f
 repeat' first|exact Z14.mono _ _ _|exact Z23.mono _ _ _|exact Z6.mono _ _ _|exact Z8.mono _ _ _|exact lo_|refine LeO.ite ?_ ?_|refine LeO.bind ?_ (fun _=>?_)
set_option maxHeartbeats 8000000 in
set_option maxRecDepth 100000 in
theorem Z9.calls (k:Nat) (A0_0:Option Addr) (c0_0:Nat) (l0_0:List Int) (A0_1:Option Addr) (c0_1:Nat) (l0_1:List Int) (a1:Int) (r1:List Int) (r2:List Int) (w:World) (hr0_0:Kd.C (Kd.int .i64) w A0_0 l0_0.length l0_0) (hc0_0:l0_0.length≤c0_0) (hr0_1:Kd.C (Kd.int .i64) w A0_1 l0_1.length l0_1) (hc0_1:l0_1.length≤c0_1) (h:Z9.f k l0_0 l0_1 a1 = some (r1,r2)) :
  Calls Try.prog 70 #[.agg #[.slice A0_0 l0_0.length c0_0,.slice A0_1 l0_1.length c0_1],.int .u8 a1] w fun e w'=>∃ v0_ v1_:Value,e = .returned (.agg #[v0_,v1_])∧Kd.R (Kd.int .i64) 3 w' w.heap.size (fun k_=>some k_≠(v1_:Value).ownBlock) v0_ r1∧Kd.R (Kd.int .i64) 3 w' w.heap.size (fun k_=>some k_≠(v0_:Value).ownBlock) v1_ r2∧Below w.heap.size w w':=by
 have hu33:=Try.underlying33
 have HR0_0:=A_ hr0_0
 have HC0_0:=A_ hc0_0
 clear hr0_0 hc0_0
 have HR0_1:=A_ hr0_1
 have HC0_1:=A_ hc0_1
 clear hr0_1 hc0_1
 have HB:=A_ (Below.refl w.heap.size w)
 have H:=h
 unfold Z9.f at H
 clear h
 by_cases c3:a1 = 84
 ·rw [if_pos c3] at H
  have c3b0:(a1 == 84) = true:=beq_iff_eq.mpr c3
  have c3b1:(a1 != 84) = false:=bne_eq_false_iff_eq.mpr c3
  clear c3
  obtain ⟨⟨t716,t719,t722⟩,A4,H⟩:=bi_ H
  try dsimp only at H
  simp only [Option.some.injEq,Prod.mk.injEq] at H
  obtain ⟨rfl,rfl⟩:=H
  go_enter Try.func70,Try.ntmps70
  go_wp2_with (first | ((with_reducible refine gB_ (N:=2) rfl ?_);refine bx_ 2 #[.slice A0_0 l0_0.length c0_0,.slice A0_1 l0_1.length c0_1] 33 ?_;intro gb713 hg w5 hbox hb;have BK713:=A_ hbox;have GW713:=gw_ w hg;have GE713:=GW713;replace HB:=b1_ hb;clear hb hbox hg) | ((with_reducible refine gB_ (N:=4) rfl ?_);refine bx_ 4 #[.slice none 0 0,.slice none 0 0] 33 ?_;intro gb714 hg w6 hbox hb;have BK714:=A_ hbox;have GW714:=gw_ w hg;have GE714:=GW714;replace HB:=b1_ hb;have NB713_714:=gN_ BK713 hg;have NB714_713:=gP_ BK713 hg;replace BK713:=bb_ BK713 hb;clear hb hbox hg) | ((with_reducible refine gB_ (N:=5) rfl ?_);refine bx_ 5 #[.slice none 0 0,.slice none 0 0] 33 ?_;intro gb715 hg w7 hbox hb;have BK715:=A_ hbox;have GW715:=gw_ w hg;have GE715:=GW715;replace HB:=b1_ hb;have NB713_715:=gN_ BK713 hg;have NB715_713:=gP_ BK713 hg;replace BK713:=bb_ BK713 hb;have NB714_715:=gN_ BK714 hg;have NB715_714:=gP_ BK714 hg;replace BK714:=bb_ BK714 hb;clear hb hbox hg;have hnb8:=NB715_713.out;have hnc8:=NB713_715.out;have hnb9:=NB715_714.out;have hnc9:=NB714_715.out;obtain ⟨hcz10_0,hcz10_1,hfz10_0,hfz10_1⟩:=c2_ BK715;have hnb11:=NB713_714.out;have hnc11:=NB714_713.out;obtain ⟨hcz12_0,hcz12_1,hfz12_0,hfz12_1⟩:=c2_ BK713) | ((with_reducible refine gA_ (f:=114) rfl ?_);refine gL_ (some 12) Try.func114 #[.agg #[.slice A0_0 l0_0.length c0_0,.slice A0_1 l0_1.length c0_1]] rfl qa_ ?_;(with_reducible refine (Z14.calls k _ _ l0_0 _ _ l0_1 t716 t719 t722 _ (cD_ HR0_0.out hB_) HC0_0.out (cD_ HR0_1.out hB_) HC0_1.out A4.out).mono ?_);rintro e w13 ⟨v717,v720,rfl,ho0,ho1,hb⟩;refine ⟨_,rfl,?_⟩;have HO718:=rl_ w ho0;have HO721:=rl_ w ho1;replace BK713:=A_ (kE_ (g:=gb713) (o:=.cells #[.slice A0_0 l0_0.length c0_0,.slice A0_1 l0_1.length c0_1] 33 (0,0)) (by (with_reducible repeat (first | refine kA_ ?_ _ | refine kB_ ?_ | refine kC_ ?_ _));refine blk_far ?_ NB713_715.out _;(with_reducible repeat (first | refine kA_ ?_ _ | refine kB_ ?_ | refine kC_ ?_ _));refine blk_far ?_ NB713_715.out _;(with_reducible repeat (first | refine kA_ ?_ _ | refine kB_ ?_ | refine kC_ ?_ _));exact BK713.out) hb);replace BK714:=A_ (kE_ (g:=gb714) (o:=.cells #[.slice none 0 0,.slice none 0 0] 33 (0,0)) (by (with_reducible repeat (first | refine kA_ ?_ _ | refine kB_ ?_ | refine kC_ ?_ _));refine blk_far ?_ NB714_715.out _;(with_reducible repeat (first | refine kA_ ?_ _ | refine kB_ ?_ | refine kC_ ?_ _));refine blk_far ?_ NB714_715.out _;(with_reducible repeat (first | refine kA_ ?_ _ | refine kB_ ?_ | refine kC_ ?_ _));exact BK714.out) hb);replace BK715:=A_ (kE_ (g:=gb715) (o:=.cells #[.slice none 0 0,.slice none 0 0] 33 (0,0)) qp_ hb);replace HB:=b1_ hb;clear hb ho0 ho1;obtain ⟨Ao14,co14,eo14⟩:=Kd.R_slice HO718.out;subst eo14;obtain ⟨hcz15_0,hcz15_1,hfz15_0,hfz15_1⟩:=c2_ BK715;obtain ⟨Ao16,co16,eo16⟩:=Kd.R_slice HO721.out;subst eo16;obtain ⟨hcz17_0,hcz17_1,hfz17_0,hfz17_1⟩:=c2_ BK714))
  refine bodyPost_ret (results_cell_row rfl _ _ gb714 33 #[.slice Ao14 t716.length co14,.slice Ao16 t719.length co16] (0,0) _ rfl (by (with_reducible repeat (first | refine kA_ ?_ _ | refine kB_ ?_ | refine kC_ ?_ _));refine blk_put (cs:=#[.slice Ao14 t716.length co14,.slice none 0 0]) ?_ 1 _ rfl;(with_reducible repeat (first | refine kA_ ?_ _ | refine kB_ ?_ | refine kC_ ?_ _));refine blk_put (cs:=#[.slice none 0 0,.slice none 0 0]) ?_ 0 _ rfl;(with_reducible repeat (first | refine kA_ ?_ _ | refine kB_ ?_ | refine kC_ ?_ _));refine blk_far ?_ NB714_715.out _;(with_reducible repeat (first | refine kA_ ?_ _ | refine kB_ ?_ | refine kC_ ?_ _));refine blk_far ?_ NB714_715.out _;(with_reducible repeat (first | refine kA_ ?_ _ | refine kB_ ?_ | refine kC_ ?_ _));exact BK714.out) Try.underlying33 rfl (by kernel_rfl)) rfl ?_
  exact ⟨_,_,qb_,(rw_ (Kd.R_mono (Kd.R_far (p:=⟨gb714,1,none⟩) (Kd.R_far (p:=⟨gb714,0,none⟩) (Kd.R_far (p:=⟨gb715,1,none⟩) (Kd.R_far (p:=⟨gb715,0,none⟩) (Kd.R_types (Kd.R_types HO718.out BK715.out (by decide)) BK714.out (by decide)) (fun _ hk=>hk.1.2) (.slice Ao14 t716.length co14)) (fun _ hk=>hk.1.2) (.slice Ao16 t719.length co16)) (fun _ hk=>hk.2) (.slice Ao14 t716.length co14)) (fun _ hk=>hk.2) (.slice Ao16 t719.length co16)) (fun _ hk=>hk.1.1))),(rw_ (Kd.R_mono (Kd.R_far (p:=⟨gb714,1,none⟩) (Kd.R_far (p:=⟨gb714,0,none⟩) (Kd.R_far (p:=⟨gb715,1,none⟩) (Kd.R_far (p:=⟨gb715,0,none⟩) (Kd.R_types (Kd.R_types HO721.out BK715.out (by decide)) BK714.out (by decide)) (fun _ hk=>hk.1.2) (.slice Ao14 t716.length co14)) (fun _ hk=>hk.1.2) (.slice Ao16 t719.length co16)) (fun _ hk=>hk.2) (.slice Ao14 t716.length co14)) (fun _ hk=>hk.2) (.slice Ao16 t719.length co16)) (fun _ hk=>hk.1.1))),hB_⟩
 ·rw [if_neg c3] at H
  have c3b0:(a1 == 84) = false:=beq_eq_false_iff_ne.mpr c3
  have c3b1:(a1 != 84) = true:=bne_iff_ne.mpr c3
  by_cases c18:a1 = 116
  ·rw [if_pos c18] at H
   have c18b0:(a1 == 116) = true:=beq_iff_eq.mpr c18
   have c18b1:(a1 != 116) = false:=bne_eq_false_iff_eq.mpr c18
   clear c18
   obtain ⟨⟨t723,t726,t729⟩,A19,H⟩:=bi_ H
   try dsimp only at H
   simp only [Option.some.injEq,Prod.mk.injEq] at H
   obtain ⟨rfl,rfl⟩:=H
   go_enter Try.func70,Try.ntmps70
   go_wp2_with (first | ((with_reducible refine gB_ (N:=2) rfl ?_);refine bx_ 2 #[.slice A0_0 l0_0.length c0_0,.slice A0_1 l0_1.length c0_1] 33 ?_;intro gb713 hg w20 hbox hb;have BK713:=A_ hbox;have GW713:=gw_ w hg;have GE713:=GW713;replace HB:=b1_ hb;clear hb hbox hg) | ((with_reducible refine gB_ (N:=4) rfl ?_);refine bx_ 4 #[.slice none 0 0,.slice none 0 0] 33 ?_;intro gb714 hg w21 hbox hb;have BK714:=A_ hbox;have GW714:=gw_ w hg;have GE714:=GW714;replace HB:=b1_ hb;have NB713_714:=gN_ BK713 hg;have NB714_713:=gP_ BK713 hg;replace BK713:=bb_ BK713 hb;clear hb hbox hg) | ((with_reducible refine gB_ (N:=5) rfl ?_);refine bx_ 5 #[.slice none 0 0,.slice none 0 0] 33 ?_;intro gb715 hg w22 hbox hb;have BK715:=A_ hbox;have GW715:=gw_ w hg;have GE715:=GW715;replace HB:=b1_ hb;have NB713_715:=gN_ BK713 hg;have NB715_713:=gP_ BK713 hg;replace BK713:=bb_ BK713 hb;have NB714_715:=gN_ BK714 hg;have NB715_714:=gP_ BK714 hg;replace BK714:=bb_ BK714 hb;clear hb hbox hg;have hnb23:=NB715_713.out;have hnc23:=NB713_715.out;have hnb24:=NB715_714.out;have hnc24:=NB714_715.out;obtain ⟨hcz25_0,hcz25_1,hfz25_0,hfz25_1⟩:=c2_ BK715;have hnb26:=NB713_714.out;have hnc26:=NB714_713.out;obtain ⟨hcz27_0,hcz27_1,hfz27_0,hfz27_1⟩:=c2_ BK713) | ((with_reducible refine gA_ (f:=115) rfl ?_);refine gL_ (some 19) Try.func115 #[.agg #[.slice A0_0 l0_0.length c0_0,.slice A0_1 l0_1.length c0_1]] rfl qa_ ?_;(with_reducible refine (Z6.calls k _ _ l0_0 _ _ l0_1 t723 t726 t729 _ (cD_ HR0_0.out hB_) HC0_0.out (cD_ HR0_1.out hB_) HC0_1.out A19.out).mono ?_);rintro e w28 ⟨v724,v727,rfl,ho0,ho1,hb⟩;refine ⟨_,rfl,?_⟩;have HO725:=rl_ w ho0;have HO728:=rl_ w ho1;replace BK713:=A_ (kE_ (g:=gb713) (o:=.cells #[.slice A0_0 l0_0.length c0_0,.slice A0_1 l0_1.length c0_1] 33 (0,0)) (by (with_reducible repeat (first | refine kA_ ?_ _ | refine kB_ ?_ | refine kC_ ?_ _));refine blk_far ?_ NB713_715.out _;(with_reducible repeat (first | refine kA_ ?_ _ | refine kB_ ?_ | refine kC_ ?_ _));refine blk_far ?_ NB713_715.out _;(with_reducible repeat (first | refine kA_ ?_ _ | refine kB_ ?_ | refine kC_ ?_ _));exact BK713.out) hb);replace BK714:=A_ (kE_ (g:=gb714) (o:=.cells #[.slice none 0 0,.slice none 0 0] 33 (0,0)) (by (with_reducible repeat (first | refine kA_ ?_ _ | refine kB_ ?_ | refine kC_ ?_ _));refine blk_far ?_ NB714_715.out _;(with_reducible repeat (first | refine kA_ ?_ _ | refine kB_ ?_ | refine kC_ ?_ _));refine blk_far ?_ NB714_715.out _;(with_reducible repeat (first | refine kA_ ?_ _ | refine kB_ ?_ | refine kC_ ?_ _));exact BK714.out) hb);replace BK715:=A_ (kE_ (g:=gb715) (o:=.cells #[.slice none 0 0,.slice none 0 0] 33 (0,0)) qp_ hb);replace HB:=b1_ hb;clear hb ho0 ho1;obtain ⟨Ao29,co29,eo29⟩:=Kd.R_slice HO725.out;subst eo29;obtain ⟨hcz30_0,hcz30_1,hfz30_0,hfz30_1⟩:=c2_ BK715;obtain ⟨Ao31,co31,eo31⟩:=Kd.R_slice HO728.out;subst eo31;obtain ⟨hcz32_0,hcz32_1,hfz32_0,hfz32_1⟩:=c2_ BK714))
   refine bodyPost_ret (results_cell_row rfl _ _ gb714 33 #[.slice Ao29 t723.length co29,.slice Ao31 t726.length co31] (0,0) _ rfl (by (with_reducible repeat (first | refine kA_ ?_ _ | refine kB_ ?_ | refine kC_ ?_ _));refine blk_put (cs:=#[.slice Ao29 t723.length co29,.slice none 0 0]) ?_ 1 _ rfl;(with_reducible repeat (first | refine kA_ ?_ _ | refine kB_ ?_ | refine kC_ ?_ _));refine blk_put (cs:=#[.slice none 0 0,.slice none 0 0]) ?_ 0 _ rfl;(with_reducible repeat (first | refine kA_ ?_ _ | refine kB_ ?_ | refine kC_ ?_ _));refine blk_far ?_ NB714_715.out _;(with_reducible repeat (first | refine kA_ ?_ _ | refine kB_ ?_ | refine kC_ ?_ _));refine blk_far ?_ NB714_715.out _;(with_reducible repeat (first | refine kA_ ?_ _ | refine kB_ ?_ | refine kC_ ?_ _));exact BK714.out) Try.underlying33 rfl (by kernel_rfl)) rfl ?_
   exact ⟨_,_,qb_,(rw_ (Kd.R_mono (Kd.R_far (p:=⟨gb714,1,none⟩) (Kd.R_far (p:=⟨gb714,0,none⟩) (Kd.R_far (p:=⟨gb715,1,none⟩) (Kd.R_far (p:=⟨gb715,0,none⟩) (Kd.R_types (Kd.R_types HO725.out BK715.out (by decide)) BK714.out (by decide)) (fun _ hk=>hk.1.2) (.slice Ao29 t723.length co29)) (fun _ hk=>hk.1.2) (.slice Ao31 t726.length co31)) (fun _ hk=>hk.2) (.slice Ao29 t723.length co29)) (fun _ hk=>hk.2) (.slice Ao31 t726.length co31)) (fun _ hk=>hk.1.1))),(rw_ (Kd.R_mono (Kd.R_far (p:=⟨gb714,1,none⟩) (Kd.R_far (p:=⟨gb714,0,none⟩) (Kd.R_far (p:=⟨gb715,1,none⟩) (Kd.R_far (p:=⟨gb715,0,none⟩) (Kd.R_types (Kd.R_types HO728.out BK715.out (by decide)) BK714.out (by decide)) (fun _ hk=>hk.1.2) (.slice Ao29 t723.length co29)) (fun _ hk=>hk.1.2) (.slice Ao31 t726.length co31)) (fun _ hk=>hk.2) (.slice Ao29 t723.length co29)) (fun _ hk=>hk.2) (.slice Ao31 t726.length co31)) (fun _ hk=>hk.1.1))),hB_⟩
  ·rw [if_neg c18] at H
   have c18b0:(a1 == 116) = false:=beq_eq_false_iff_ne.mpr c18
   have c18b1:(a1 != 116) = true:=bne_iff_ne.mpr c18
   by_cases c33:a1 = 83
   ·rw [if_pos c33] at H
    have c33b0:(a1 == 83) = true:=beq_iff_eq.mpr c33
    have c33b1:(a1 != 83) = false:=bne_eq_false_iff_eq.mpr c33
    clear c33
    obtain ⟨⟨t730,t733,t736⟩,A34,H⟩:=bi_ H
    try dsimp only at H
    simp only [Option.some.injEq,Prod.mk.injEq] at H
    obtain ⟨rfl,rfl⟩:=H
    go_enter Try.func70,Try.ntmps70
    go_wp2_with (first | ((with_reducible refine gB_ (N:=2) rfl ?_);refine bx_ 2 #[.slice A0_0 l0_0.length c0_0,.slice A0_1 l0_1.length c0_1] 33 ?_;intro gb713 hg w35 hbox hb;have BK713:=A_ hbox;have GW713:=gw_ w hg;have GE713:=GW713;replace HB:=b1_ hb;clear hb hbox hg) | ((with_reducible refine gB_ (N:=4) rfl ?_);refine bx_ 4 #[.slice none 0 0,.slice none 0 0] 33 ?_;intro gb714 hg w36 hbox hb;have BK714:=A_ hbox;have GW714:=gw_ w hg;have GE714:=GW714;replace HB:=b1_ hb;have NB713_714:=gN_ BK713 hg;have NB714_713:=gP_ BK713 hg;replace BK713:=bb_ BK713 hb;clear hb hbox hg) | ((with_reducible refine gB_ (N:=5) rfl ?_);refine bx_ 5 #[.slice none 0 0,.slice none 0 0] 33 ?_;intro gb715 hg w37 hbox hb;have BK715:=A_ hbox;have GW715:=gw_ w hg;have GE715:=GW715;replace HB:=b1_ hb;have NB713_715:=gN_ BK713 hg;have NB715_713:=gP_ BK713 hg;replace BK713:=bb_ BK713 hb;have NB714_715:=gN_ BK714 hg;have NB715_714:=gP_ BK714 hg;replace BK714:=bb_ BK714 hb;clear hb hbox hg;have hnb38:=NB715_713.out;have hnc38:=NB713_715.out;have hnb39:=NB715_714.out;have hnc39:=NB714_715.out;obtain ⟨hcz40_0,hcz40_1,hfz40_0,hfz40_1⟩:=c2_ BK715;have hnb41:=NB713_714.out;have hnc41:=NB714_713.out;obtain ⟨hcz42_0,hcz42_1,hfz42_0,hfz42_1⟩:=c2_ BK713) | ((with_reducible refine gA_ (f:=116) rfl ?_);refine gL_ (some 26) Try.func116 #[.agg #[.slice A0_0 l0_0.length c0_0,.slice A0_1 l0_1.length c0_1]] rfl qa_ ?_;(with_reducible refine (Z23.calls k _ _ l0_0 _ _ l0_1 t730 t733 t736 _ (cD_ HR0_0.out hB_) HC0_0.out (cD_ HR0_1.out hB_) HC0_1.out A34.out).mono ?_);rintro e w43 ⟨v731,v734,rfl,ho0,ho1,hb⟩;refine ⟨_,rfl,?_⟩;have HO732:=rl_ w ho0;have HO735:=rl_ w ho1;replace BK713:=A_ (kE_ (g:=gb713) (o:=.cells #[.slice A0_0 l0_0.length c0_0,.slice A0_1 l0_1.length c0_1] 33 (0,0)) (by (with_reducible repeat (first | refine kA_ ?_ _ | refine kB_ ?_ | refine kC_ ?_ _));refine blk_far ?_ NB713_715.out _;(with_reducible repeat (first | refine kA_ ?_ _ | refine kB_ ?_ | refine kC_ ?_ _));refine blk_far ?_ NB713_715.out _;(with_reducible repeat (first | refine kA_ ?_ _ | refine kB_ ?_ | refine kC_ ?_ _));exact BK713.out) hb);replace BK714:=A_ (kE_ (g:=gb714) (o:=.cells #[.slice none 0 0,.slice none 0 0] 33 (0,0)) (by (with_reducible repeat (first | refine kA_ ?_ _ | refine kB_ ?_ | refine kC_ ?_ _));refine blk_far ?_ NB714_715.out _;(with_reducible repeat (first | refine kA_ ?_ _ | refine kB_ ?_ | refine kC_ ?_ _));refine blk_far ?_ NB714_715.out _;(with_reducible repeat (first | refine kA_ ?_ _ | refine kB_ ?_ | refine kC_ ?_ _));exact BK714.out) hb);replace BK715:=A_ (kE_ (g:=gb715) (o:=.cells #[.slice none 0 0,.slice none 0 0] 33 (0,0)) qp_ hb);replace HB:=b1_ hb;clear hb ho0 ho1;obtain ⟨Ao44,co44,eo44⟩:=Kd.R_slice HO732.out;subst eo44;obtain ⟨hcz45_0,hcz45_1,hfz45_0,hfz45_1⟩:=c2_ BK715;obtain ⟨Ao46,co46,eo46⟩:=Kd.R_slice HO735.out;subst eo46;obtain ⟨hcz47_0,hcz47_1,hfz47_0,hfz47_1⟩:=c2_ BK714))
    refine bodyPost_ret (results_cell_row rfl _ _ gb714 33 #[.slice Ao44 t730.length co44,.slice Ao46 t733.length co46] (0,0) _ rfl (by (with_reducible repeat (first | refine kA_ ?_ _ | refine kB_ ?_ | refine kC_ ?_ _));refine blk_put (cs:=#[.slice Ao44 t730.length co44,.slice none 0 0]) ?_ 1 _ rfl;(with_reducible repeat (first | refine kA_ ?_ _ | refine kB_ ?_ | refine kC_ ?_ _));refine blk_put (cs:=#[.slice none 0 0,.slice none 0 0]) ?_ 0 _ rfl;(with_reducible repeat (first | refine kA_ ?_ _ | refine kB_ ?_ | refine kC_ ?_ _));refine blk_far ?_ NB714_715.out _;(with_reducible repeat (first | refine kA_ ?_ _ | refine kB_ ?_ | refine kC_ ?_ _));refine blk_far ?_ NB714_715.out _;(with_reducible repeat (first | refine kA_ ?_ _ | refine kB_ ?_ | refine kC_ ?_ _));exact BK714.out) Try.underlying33 rfl (by kernel_rfl)) rfl ?_
    exact ⟨_,_,qb_,(rw_ (Kd.R_mono (Kd.R_far (p:=⟨gb714,1,none⟩) (Kd.R_far (p:=⟨gb714,0,none⟩) (Kd.R_far (p:=⟨gb715,1,none⟩) (Kd.R_far (p:=⟨gb715,0,none⟩) (Kd.R_types (Kd.R_types HO732.out BK715.out (by decide)) BK714.out (by decide)) (fun _ hk=>hk.1.2) (.slice Ao44 t730.length co44)) (fun _ hk=>hk.1.2) (.slice Ao46 t733.length co46)) (fun _ hk=>hk.2) (.slice Ao44 t730.length co44)) (fun _ hk=>hk.2) (.slice Ao46 t733.length co46)) (fun _ hk=>hk.1.1))),(rw_ (Kd.R_mono (Kd.R_far (p:=⟨gb714,1,none⟩) (Kd.R_far (p:=⟨gb714,0,none⟩) (Kd.R_far (p:=⟨gb715,1,none⟩) (Kd.R_far (p:=⟨gb715,0,none⟩) (Kd.R_types (Kd.R_types HO735.out BK715.out (by decide)) BK714.out (by decide)) (fun _ hk=>hk.1.2) (.slice Ao44 t730.length co44)) (fun _ hk=>hk.1.2) (.slice Ao46 t733.length co46)) (fun _ hk=>hk.2) (.slice Ao44 t730.length co44)) (fun _ hk=>hk.2) (.slice Ao46 t733.length co46)) (fun _ hk=>hk.1.1))),hB_⟩
   ·rw [if_neg c33] at H
    have c33b0:(a1 == 83) = false:=beq_eq_false_iff_ne.mpr c33
    have c33b1:(a1 != 83) = true:=bne_iff_ne.mpr c33
    by_cases c48:a1 = 115
    ·rw [if_pos c48] at H
     have c48b0:(a1 == 115) = true:=beq_iff_eq.mpr c48
     have c48b1:(a1 != 115) = false:=bne_eq_false_iff_eq.mpr c48
     clear c48
     obtain ⟨⟨t737,t740,t743⟩,A49,H⟩:=bi_ H
     try dsimp only at H
     simp only [Option.some.injEq,Prod.mk.injEq] at H
     obtain ⟨rfl,rfl⟩:=H
     go_enter Try.func70,Try.ntmps70
     go_wp2_with (first | ((with_reducible refine gB_ (N:=2) rfl ?_);refine bx_ 2 #[.slice A0_0 l0_0.length c0_0,.slice A0_1 l0_1.length c0_1] 33 ?_;intro gb713 hg w50 hbox hb;have BK713:=A_ hbox;have GW713:=gw_ w hg;have GE713:=GW713;replace HB:=b1_ hb;clear hb hbox hg) | ((with_reducible refine gB_ (N:=4) rfl ?_);refine bx_ 4 #[.slice none 0 0,.slice none 0 0] 33 ?_;intro gb714 hg w51 hbox hb;have BK714:=A_ hbox;have GW714:=gw_ w hg;have GE714:=GW714;replace HB:=b1_ hb;have NB713_714:=gN_ BK713 hg;have NB714_713:=gP_ BK713 hg;replace BK713:=bb_ BK713 hb;clear hb hbox hg) | ((with_reducible refine gB_ (N:=5) rfl ?_);refine bx_ 5 #[.slice none 0 0,.slice none 0 0] 33 ?_;intro gb715 hg w52 hbox hb;have BK715:=A_ hbox;have GW715:=gw_ w hg;have GE715:=GW715;replace HB:=b1_ hb;have NB713_715:=gN_ BK713 hg;have NB715_713:=gP_ BK713 hg;replace BK713:=bb_ BK713 hb;have NB714_715:=gN_ BK714 hg;have NB715_714:=gP_ BK714 hg;replace BK714:=bb_ BK714 hb;clear hb hbox hg;have hnb53:=NB715_713.out;have hnc53:=NB713_715.out;have hnb54:=NB715_714.out;have hnc54:=NB714_715.out;obtain ⟨hcz55_0,hcz55_1,hfz55_0,hfz55_1⟩:=c2_ BK715;have hnb56:=NB713_714.out;have hnc56:=NB714_713.out;obtain ⟨hcz57_0,hcz57_1,hfz57_0,hfz57_1⟩:=c2_ BK713) | ((with_reducible refine gA_ (f:=117) rfl ?_);refine gL_ (some 33) Try.func117 #[.agg #[.slice A0_0 l0_0.length c0_0,.slice A0_1 l0_1.length c0_1]] rfl qa_ ?_;(with_reducible refine (Z8.calls k _ _ l0_0 _ _ l0_1 t737 t740 t743 _ (cD_ HR0_0.out hB_) HC0_0.out (cD_ HR0_1.out hB_) HC0_1.out A49.out).mono ?_);rintro e w58 ⟨v738,v741,rfl,ho0,ho1,hb⟩;refine ⟨_,rfl,?_⟩;have HO739:=rl_ w ho0;have HO742:=rl_ w ho1;replace BK713:=A_ (kE_ (g:=gb713) (o:=.cells #[.slice A0_0 l0_0.length c0_0,.slice A0_1 l0_1.length c0_1] 33 (0,0)) (by (with_reducible repeat (first | refine kA_ ?_ _ | refine kB_ ?_ | refine kC_ ?_ _));refine blk_far ?_ NB713_715.out _;(with_reducible repeat (first | refine kA_ ?_ _ | refine kB_ ?_ | refine kC_ ?_ _));refine blk_far ?_ NB713_715.out _;(with_reducible repeat (first | refine kA_ ?_ _ | refine kB_ ?_ | refine kC_ ?_ _));exact BK713.out) hb);replace BK714:=A_ (kE_ (g:=gb714) (o:=.cells #[.slice none 0 0,.slice none 0 0] 33 (0,0)) (by (with_reducible repeat (first | refine kA_ ?_ _ | refine kB_ ?_ | refine kC_ ?_ _));refine blk_far ?_ NB714_715.out _;(with_reducible repeat (first | refine kA_ ?_ _ | refine kB_ ?_ | refine kC_ ?_ _));refine blk_far ?_ NB714_715.out _;(with_reducible repeat (first | refine kA_ ?_ _ | refine kB_ ?_ | refine kC_ ?_ _));exact BK714.out) hb);replace BK715:=A_ (kE_ (g:=gb715) (o:=.cells #[.slice none 0 0,.slice none 0 0] 33 (0,0)) qp_ hb);replace HB:=b1_ hb;clear hb ho0 ho1;obtain ⟨Ao59,co59,eo59⟩:=Kd.R_slice HO739.out;subst eo59;obtain ⟨hcz60_0,hcz60_1,hfz60_0,hfz60_1⟩:=c2_ BK715;obtain ⟨Ao61,co61,eo61⟩:=Kd.R_slice HO742.out;subst eo61;obtain ⟨hcz62_0,hcz62_1,hfz62_0,hfz62_1⟩:=c2_ BK714))
     refine bodyPost_ret (results_cell_row rfl _ _ gb714 33 #[.slice Ao59 t737.length co59,.slice Ao61 t740.length co61] (0,0) _ rfl (by (with_reducible repeat (first | refine kA_ ?_ _ | refine kB_ ?_ | refine kC_ ?_ _));refine blk_put (cs:=#[.slice Ao59 t737.length co59,.slice none 0 0]) ?_ 1 _ rfl;(with_reducible repeat (first | refine kA_ ?_ _ | refine kB_ ?_ | refine kC_ ?_ _));refine blk_put (cs:=#[.slice none 0 0,.slice none 0 0]) ?_ 0 _ rfl;(with_reducible repeat (first | refine kA_ ?_ _ | refine kB_ ?_ | refine kC_ ?_ _));refine blk_far ?_ NB714_715.out _;(with_reducible repeat (first | refine kA_ ?_ _ | refine kB_ ?_ | refine kC_ ?_ _));refine blk_far ?_ NB714_715.out _;(with_reducible repeat (first | refine kA_ ?_ _ | refine kB_ ?_ | refine kC_ ?_ _));exact BK714.out) Try.underlying33 rfl (by kernel_rfl)) rfl ?_
     exact ⟨_,_,qb_,(rw_ (Kd.R_mono (Kd.R_far (p:=⟨gb714,1,none⟩) (Kd.R_far (p:=⟨gb714,0,none⟩) (Kd.R_far (p:=⟨gb715,1,none⟩) (Kd.R_far (p:=⟨gb715,0,none⟩) (Kd.R_types (Kd.R_types HO739.out BK715.out (by decide)) BK714.out (by decide)) (fun _ hk=>hk.1.2) (.slice Ao59 t737.length co59)) (fun _ hk=>hk.1.2) (.slice Ao61 t740.length co61)) (fun _ hk=>hk.2) (.slice Ao59 t737.length co59)) (fun _ hk=>hk.2) (.slice Ao61 t740.length co61)) (fun _ hk=>hk.1.1))),(rw_ (Kd.R_mono (Kd.R_far (p:=⟨gb714,1,none⟩) (Kd.R_far (p:=⟨gb714,0,none⟩) (Kd.R_far (p:=⟨gb715,1,none⟩) (Kd.R_far (p:=⟨gb715,0,none⟩) (Kd.R_types (Kd.R_types HO742.out BK715.out (by decide)) BK714.out (by decide)) (fun _ hk=>hk.1.2) (.slice Ao59 t737.length co59)) (fun _ hk=>hk.1.2) (.slice Ao61 t740.length co61)) (fun _ hk=>hk.2) (.slice Ao59 t737.length co59)) (fun _ hk=>hk.2) (.slice Ao61 t740.length co61)) (fun _ hk=>hk.1.1))),hB_⟩
    ·rw [if_neg c48] at H
     have c48b0:(a1 == 115) = false:=beq_eq_false_iff_ne.mpr c48
     have c48b1:(a1 != 115) = true:=bne_iff_ne.mpr c48
     simp only [Option.some.injEq,Prod.mk.injEq] at H
     obtain ⟨rfl,rfl⟩:=H
     go_enter Try.func70,Try.ntmps70
     go_wp2_with (first | ((with_reducible refine gB_ (N:=2) rfl ?_);refine bx_ 2 #[.slice A0_0 l0_0.length c0_0,.slice A0_1 l0_1.length c0_1] 33 ?_;intro gb713 hg w63 hbox hb;have BK713:=A_ hbox;have GW713:=gw_ w hg;have GE713:=GW713;replace HB:=b1_ hb;clear hb hbox hg) | ((with_reducible refine gB_ (N:=4) rfl ?_);refine bx_ 4 #[.slice none 0 0,.slice none 0 0] 33 ?_;intro gb714 hg w64 hbox hb;have BK714:=A_ hbox;have GW714:=gw_ w hg;have GE714:=GW714;replace HB:=b1_ hb;have NB713_714:=gN_ BK713 hg;have NB714_713:=gP_ BK713 hg;replace BK713:=bb_ BK713 hb;clear hb hbox hg) | ((with_reducible refine gB_ (N:=5) rfl ?_);refine bx_ 5 #[.slice none 0 0,.slice none 0 0] 33 ?_;intro gb715 hg w65 hbox hb;have BK715:=A_ hbox;have GW715:=gw_ w hg;have GE715:=GW715;replace HB:=b1_ hb;have NB713_715:=gN_ BK713 hg;have NB715_713:=gP_ BK713 hg;replace BK713:=bb_ BK713 hb;have NB714_715:=gN_ BK714 hg;have NB715_714:=gP_ BK714 hg;replace BK714:=bb_ BK714 hb;clear hb hbox hg;have hnb66:=NB715_713.out;have hnc66:=NB713_715.out;have hnb67:=NB715_714.out;have hnc67:=NB714_715.out;obtain ⟨hcz68_0,hcz68_1,hfz68_0,hfz68_1⟩:=c2_ BK715;have hnb69:=NB714_713.out;have hnc69:=NB713_714.out;obtain ⟨hcz70_0,hcz70_1,hfz70_0,hfz70_1⟩:=c2_ BK714))
     refine bodyPost_ret (results_cell_row rfl _ _ gb714 33 #[.slice none 0 0,.slice none 0 0] (0,0) _ rfl (by (with_reducible repeat (first | refine kA_ ?_ _ | refine kB_ ?_ | refine kC_ ?_ _));refine blk_put (cs:=#[.slice none 0 0,.slice none 0 0]) ?_ 1 _ rfl;(with_reducible repeat (first | refine kA_ ?_ _ | refine kB_ ?_ | refine kC_ ?_ _));refine blk_put (cs:=#[.slice none 0 0,.slice none 0 0]) ?_ 0 _ rfl;(with_reducible repeat (first | refine kA_ ?_ _ | refine kB_ ?_ | refine kC_ ?_ _));refine blk_far ?_ NB714_715.out _;(with_reducible repeat (first | refine kA_ ?_ _ | refine kB_ ?_ | refine kC_ ?_ _));refine blk_far ?_ NB714_715.out _;(with_reducible repeat (first | refine kA_ ?_ _ | refine kB_ ?_ | refine kC_ ?_ _));exact BK714.out) Try.underlying33 rfl (by kernel_rfl)) rfl ?_
     exact ⟨_,_,qb_,by first | exact Kd.R_nil _ _ _ _ _ | exact Kd.N_nil _ _ _ _ _ | exact Kd.V_nil _ _ _ _ _ | exact Kd.Q_nil _ _ _ _ _ | exact Kd.S_nil _ _ _ _ _,by first | exact Kd.R_nil _ _ _ _ _ | exact Kd.N_nil _ _ _ _ _ | exact Kd.V_nil _ _ _ _ _ | exact Kd.Q_nil _ _ _ _ _ | exact Kd.S_nil _ _ _ _ _,hB_⟩
end Go.Proofs.Ytoijcallajegfaa.A
end
section
/- The orbit: what finding it comes to, and how it lies in memory. No conditions. -/
namespace Go.Proofs.Ytoijcallajegfaa.M
set_option linter.unusedVariables false
set_option linter.unusedSimpArgs false
open Go Go.RowKit Go.Proofs.YtoijcallajegfaaW.PrintWords Go.Proofs.YtoijcallajegfaaW.PrintLast Go.Proofs.YtoijcallajegfaaW.PrintMore Go.Proofs.Ytoijcallajegfaa.A
structure Orb where
 L:List S33
 W:List ByteArray
 F:List Int
 B:List Int
 T:List Int
 S:List Int
def stpO (k:Nat) (i c:Int) (s:Orb):Option (Option Orb) :=
 if 0≤i then (if i < (s.L.length:Int) then ((Z9.f k (rd_T33 s.L i).f0 (rd_T33 s.L i).f1 c).bind fun x=>((Z59.f k x.1 x.2).bind fun y=>((indexO k s.L y.1 y.2.1).bind fun j =>
  (if j < 0 then (if (s.L.length:Int) = 120 then some none else (if s.L.length < 1000000∧s.W.length < 1000000∧s.F.length < 1000000∧s.B.length < 1000000∧s.T.length < 1000000∧s.S.length < 1000000 then (if i < (s.W.length:Int) then (if (rdOf ByteArray.empty s.W i).size + 1≤9223372036854775807 then
   some (some ⟨s.L ++ [⟨y.1,y.2.1⟩],s.W ++ [rdOf ByteArray.empty s.W i ++ strOfNums [c]],s.F ++ [i],s.B ++ [c],if c = 84 then s.T ++ [(s.L.length:Int)] else s.T,if c = 84 then s.S else s.S ++ [(s.L.length:Int)]⟩) else none) else none) else none))
  else (if s.T.length < 1000000∧s.S.length < 1000000 then some (some ⟨s.L,s.W,s.F,s.B,if c = 84 then s.T ++ [j] else s.T,if c = 84 then s.S else s.S ++ [j]⟩) else none))))) else none) else none
def innerO (k:Nat) (i:Int):List Int→Orb→Option (Option Orb)
 | [],s=>some (some s)
 | c :: cs,s=>(stpO k i c s).bind fun z=>match z with | none=>some none | some s'=>innerO k i cs s'
def loopO:Nat→Orb→Int→Option (Option Orb)
 | 0,_,_=>none
 | k + 1,s,i=>if i < (s.L.length:Int) then ((innerO k i [84,83] s).bind fun z=>match z with | none=>some none | some s'=>loopO k s' (wrap64 (i + 1))) else some (some s)
def orbitO (k:Nat) (r u:List Int):Option (Option Orb):=(Z59.f k r u).bind fun y=>if y.2.2 = true then loopO k ⟨[⟨y.1,y.2.1⟩],[⟨#[]⟩],[-1],[0],[],[]⟩ 0 else some none
structure OrbH (base:Nat) (col:Nat→Nat) (W:World) (gO gM n:Nat) (vL vW vF vB vT vS:Value) (s:Orb):Prop where
 hO:W.heap[gO]? = some (.cells #[vL,vW,vF,vB,.map (some gM)] 97 (0,0))
 hM:W.heap[gM]? = some (mapO n vT vS)
 cO:col gO = 6
 cM:col gM = 7
 bO:base≤gO
 bM:base≤gM
 nT:n = 0→vT = .slice none 0 0
 nS:n≤1→vS = .slice none 0 0
 hL:Kd.S k33 33 W base (fun k=>col k = 0) vL s.L
 hW:Kd.R Kd.string 9 W base (fun k=>col k = 1) vW s.W
 hF:Kd.R (Kd.int .i64) 3 W base (fun k=>col k = 2) vF s.F
 hB:Kd.R (Kd.int .u8) 5 W base (fun k=>col k = 3) vB s.B
 hT:Kd.R (Kd.int .i64) 3 W base (fun k=>col k = 4) vT s.T
 hS:Kd.R (Kd.int .i64) 3 W base (fun k=>col k = 5) vS s.S
def rcl (n:Nat) (col:Nat→Nat) (c:Nat):Nat→Nat:=fun k=>if k < n then col k else c
theorem rcl_new {n:Nat} {col:Nat→Nat} {c k:Nat} (h:n≤k):rcl n col c k = c:=if_neg (by omega)
theorem rcl_old {n:Nat} {col:Nat→Nat} {c k:Nat} (h:k < n):rcl n col c k = col k:=if_pos h
section
variable {α:Type} {d:Kd α} {e base c c2:Nat} {col col':Nat→Nat} {W w1:World} {v:Value} {xs:List α} {row:Option Nat}
theorem R_col (h:d.R e W base (fun k=>col k = c) v xs) (hc:∀ k,k < W.heap.size→col' k = col k):d.R e W base (fun k=>col' k = c) v xs:=Kd.R_mono (Kd.R_bound h) (fun k hk=>(hc k hk.2.2.1).trans hk.1)
theorem S_col (h:Kd.S d e W base (fun k=>col k = c) v xs) (hc:∀ k,k < W.heap.size→col' k = col k):Kd.S d e W base (fun k=>col' k = c) v xs:=Kd.S_mono (Kd.S_bound h) (fun k hk=>(hc k hk.2.2.1).trans hk.1)
theorem R_gr (h:d.R e W base (fun k=>col k = c2) v xs) (hg:W.grownBy w1 row) (hr:∀ k,row = some k→col k = c) (hne:c≠c2):d.R e w1 base (fun k=>rcl W.heap.size col c k = c2) v xs :=
 Kd.R_grown (R_col h (fun k hk=>rcl_old hk)) hg (fun k hk he=>by
  have h1:=hr k he.symm
  unfold rcl at hk
  split at hk
  ·exact hne (h1.symm.trans hk)
  ·exact hne hk)
theorem S_gr (h:Kd.S d e W base (fun k=>col k = c2) v xs) (hg:W.grownBy w1 row) (hr:∀ k,row = some k→col k = c) (hne:c≠c2):Kd.S d e w1 base (fun k=>rcl W.heap.size col c k = c2) v xs :=
 Kd.S_grown (S_col h (fun k hk=>rcl_old hk)) hg (fun k hk he=>by
  have h1:=hr k he.symm
  unfold rcl at hk
  split at hk
  ·exact hne (h1.symm.trans hk)
  ·exact hne hk)
theorem B_gr {g:Nat} {o:Obj} (h:W.heap[g]? = some o) (hcg:col g = c2) (hg:W.grownBy w1 row) (hr:∀ k,row = some k→col k = c) (hne:c≠c2):w1.heap[g]? = some o∧rcl W.heap.size col c g = c2 :=
 ⟨(hg.block g (Array.getElem?_eq_some_iff.1 h).1 (fun he=>hne ((hr g he.symm).symm.trans hcg))).trans h,(rcl_old (Array.getElem?_eq_some_iff.1 h).1).trans hcg⟩
end
theorem put_at {w:World} {g t:Nat} {cs:Array Value} (hb:w.heap[g]? = some (.cells cs t (0,0))) (j:Nat) (v:Value):(w.setCell ⟨g,j,none⟩ v).heap[g]? = some (.cells (cs.setIfInBounds j v) t (0,0)):=blk_set hb j v
theorem put_far {w:World} {g g':Nat} {o:Obj} (hb:w.heap[g']? = some o) (h:g'≠g) (j:Nat) (v:Value):(w.setCell ⟨g,j,none⟩ v).heap[g']? = some o:=(Below.heap_setCell w ⟨g,j,none⟩ v g' h).trans hb
section
variable {base:Nat} {col col':Nat→Nat} {W w1:World} {gO gM n:Nat} {vL vW vF vB vT vS:Value} {s:Orb}
theorem OrbH.below (h:OrbH base col W gO gM n vL vW vF vB vT vS s) (hb:Below W.heap.size W w1):OrbH base col w1 gO gM n vL vW vF vB vT vS s :=
 ⟨blk_below h.hO hb,blk_below h.hM hb,h.cO,h.cM,h.bO,h.bM,h.nT,h.nS,Kd.S_below h.hL hb,Kd.R_below h.hW hb,Kd.R_below h.hF hb,Kd.R_below h.hB hb,Kd.R_below h.hT hb,Kd.R_below h.hS hb⟩
theorem OrbH.recol (h:OrbH base col W gO gM n vL vW vF vB vT vS s) (hc:∀ k,k < W.heap.size→col' k = col k):OrbH base col' W gO gM n vL vW vF vB vT vS s :=
 ⟨h.hO,h.hM,(hc _ (Array.getElem?_eq_some_iff.1 h.hO).1).trans h.cO,(hc _ (Array.getElem?_eq_some_iff.1 h.hM).1).trans h.cM,h.bO,h.bM,h.nT,h.nS,S_col h.hL hc,R_col h.hW hc,R_col h.hF hc,R_col h.hB hc,R_col h.hT hc,R_col h.hS hc⟩
theorem OrbH.ne (h:OrbH base col W gO gM n vL vW vF vB vT vS s):gO≠gM:=fun e=>by have h1:=h.cO;have h2:=h.cM;rw [e] at h1;omega
theorem OrbH.look (h:OrbH base col W gO gM n vL vW vF vB vT vS s):mapV n 84 vT vS = vT∧mapV n 83 vT vS = vS:=by
 unfold mapV
 constructor
 ·rw [if_pos rfl]
  split
  ·rfl
  ·exact (h.nT (by omega)).symm
 ·rw [if_neg (by decide)]
  split
  ·rfl
  ·exact (h.nS (by omega)).symm
theorem OrbH.putL {v1:Value} {L1:List S33} (h:OrbH base col W gO gM n vL vW vF vB vT vS s) (hg:W.grownBy w1 vL.ownBlock) (h1:Kd.S k33 33 w1 base (fun k=>rcl W.heap.size col 0 k = 0) v1 L1) :
  OrbH base (rcl W.heap.size col 0) (w1.setCell ⟨gO,0,none⟩ v1) gO gM n v1 vW vF vB vT vS { s with L:=L1 }:=by
 have hr:∀ k,vL.ownBlock = some k→col k = 0:=(Kd.S_R h.hL).1
 have bO:=B_gr h.hO h.cO hg hr (by decide)
 have bM:=B_gr h.hM h.cM hg hr (by decide)
 have far:∀ c,c≠6→∀ k,rcl W.heap.size col 0 k = c→k≠(⟨gO,0,none⟩:Addr).block:=fun c hc k hk e=>by
  have:k = gO:=e
  rw [this,bO.2] at hk
  exact hc hk.symm
 exact ⟨put_at bO.1 0 v1,put_far bM.1 h.ne.symm 0 v1,bO.2,bM.2,h.bO,h.bM,h.nT,h.nS,Kd.S_far h1 (far 0 (by decide)) v1,Kd.R_far (R_gr h.hW hg hr (by decide)) (far 1 (by decide)) v1,Kd.R_far (R_gr h.hF hg hr (by decide)) (far 2 (by decide)) v1,Kd.R_far (R_gr h.hB hg hr (by decide)) (far 3 (by decide)) v1,Kd.R_far (R_gr h.hT hg hr (by decide)) (far 4 (by decide)) v1,Kd.R_far (R_gr h.hS hg hr (by decide)) (far 5 (by decide)) v1⟩
theorem OrbH.putW {v1:Value} {L1:List ByteArray} (h:OrbH base col W gO gM n vL vW vF vB vT vS s) (hg:W.grownBy w1 vW.ownBlock) (h1:Kd.R Kd.string 9 w1 base (fun k=>rcl W.heap.size col 1 k = 1) v1 L1) :
  OrbH base (rcl W.heap.size col 1) (w1.setCell ⟨gO,1,none⟩ v1) gO gM n vL v1 vF vB vT vS { s with W:=L1 }:=by
 have hr:∀ k,vW.ownBlock = some k→col k = 1:=h.hW.1
 have bO:=B_gr h.hO h.cO hg hr (by decide)
 have bM:=B_gr h.hM h.cM hg hr (by decide)
 have far:∀ c,c≠6→∀ k,rcl W.heap.size col 1 k = c→k≠(⟨gO,1,none⟩:Addr).block:=fun c hc k hk e=>by
  have:k = gO:=e
  rw [this,bO.2] at hk
  exact hc hk.symm
 exact ⟨put_at bO.1 1 v1,put_far bM.1 h.ne.symm 1 v1,bO.2,bM.2,h.bO,h.bM,h.nT,h.nS,Kd.S_far (S_gr h.hL hg hr (by decide)) (far 0 (by decide)) v1,Kd.R_far h1 (far 1 (by decide)) v1,Kd.R_far (R_gr h.hF hg hr (by decide)) (far 2 (by decide)) v1,Kd.R_far (R_gr h.hB hg hr (by decide)) (far 3 (by decide)) v1,Kd.R_far (R_gr h.hT hg hr (by decide)) (far 4 (by decide)) v1,Kd.R_far (R_gr h.hS hg hr (by decide)) (far 5 (by decide)) v1⟩
theorem OrbH.putF {v1:Value} {L1:List Int} (h:OrbH base col W gO gM n vL vW vF vB vT vS s) (hg:W.grownBy w1 vF.ownBlock) (h1:Kd.R (Kd.int .i64) 3 w1 base (fun k=>rcl W.heap.size col 2 k = 2) v1 L1) :
  OrbH base (rcl W.heap.size col 2) (w1.setCell ⟨gO,2,none⟩ v1) gO gM n vL vW v1 vB vT vS { s with F:=L1 }:=by
 have hr:∀ k,vF.ownBlock = some k→col k = 2:=h.hF.1
 have bO:=B_gr h.hO h.cO hg hr (by decide)
 have bM:=B_gr h.hM h.cM hg hr (by decide)
 have far:∀ c,c≠6→∀ k,rcl W.heap.size col 2 k = c→k≠(⟨gO,2,none⟩:Addr).block:=fun c hc k hk e=>by
  have:k = gO:=e
  rw [this,bO.2] at hk
  exact hc hk.symm
 exact ⟨put_at bO.1 2 v1,put_far bM.1 h.ne.symm 2 v1,bO.2,bM.2,h.bO,h.bM,h.nT,h.nS,Kd.S_far (S_gr h.hL hg hr (by decide)) (far 0 (by decide)) v1,Kd.R_far (R_gr h.hW hg hr (by decide)) (far 1 (by decide)) v1,Kd.R_far h1 (far 2 (by decide)) v1,Kd.R_far (R_gr h.hB hg hr (by decide)) (far 3 (by decide)) v1,Kd.R_far (R_gr h.hT hg hr (by decide)) (far 4 (by decide)) v1,Kd.R_far (R_gr h.hS hg hr (by decide)) (far 5 (by decide)) v1⟩
theorem OrbH.putB {v1:Value} {L1:List Int} (h:OrbH base col W gO gM n vL vW vF vB vT vS s) (hg:W.grownBy w1 vB.ownBlock) (h1:Kd.R (Kd.int .u8) 5 w1 base (fun k=>rcl W.heap.size col 3 k = 3) v1 L1) :
  OrbH base (rcl W.heap.size col 3) (w1.setCell ⟨gO,3,none⟩ v1) gO gM n vL vW vF v1 vT vS { s with B:=L1 }:=by
 have hr:∀ k,vB.ownBlock = some k→col k = 3:=h.hB.1
 have bO:=B_gr h.hO h.cO hg hr (by decide)
 have bM:=B_gr h.hM h.cM hg hr (by decide)
 have far:∀ c,c≠6→∀ k,rcl W.heap.size col 3 k = c→k≠(⟨gO,3,none⟩:Addr).block:=fun c hc k hk e=>by
  have:k = gO:=e
  rw [this,bO.2] at hk
  exact hc hk.symm
 exact ⟨put_at bO.1 3 v1,put_far bM.1 h.ne.symm 3 v1,bO.2,bM.2,h.bO,h.bM,h.nT,h.nS,Kd.S_far (S_gr h.hL hg hr (by decide)) (far 0 (by decide)) v1,Kd.R_far (R_gr h.hW hg hr (by decide)) (far 1 (by decide)) v1,Kd.R_far (R_gr h.hF hg hr (by decide)) (far 2 (by decide)) v1,Kd.R_far h1 (far 3 (by decide)) v1,Kd.R_far (R_gr h.hT hg hr (by decide)) (far 4 (by decide)) v1,Kd.R_far (R_gr h.hS hg hr (by decide)) (far 5 (by decide)) v1⟩
theorem OrbH.putT {v1:Value} {L1:List Int} (h:OrbH base col W gO gM n vL vW vF vB vT vS s) (hg:W.grownBy w1 vT.ownBlock) (h1:Kd.R (Kd.int .i64) 3 w1 base (fun k=>rcl W.heap.size col 4 k = 4) v1 L1) :
  w1.heap[gM]? = some (mapO n vT vS)∧OrbH base (rcl W.heap.size col 4) (setMap w1 gM (max n 1) v1 vS) gO gM (max n 1) vL vW vF vB v1 vS { s with T:=L1 }:=by
 have hr:∀ k,vT.ownBlock = some k→col k = 4:=h.hT.1
 have bO:=B_gr h.hO h.cO hg hr (by decide)
 have bM:=B_gr h.hM h.cM hg hr (by decide)
 have hgm:w1.grownBy (setMap w1 gM (max n 1) v1 vS) (some gM):=setMap_grown v1 vS
 have far:∀ c,c≠7→∀ k,rcl W.heap.size col 4 k = c→some k≠some gM:=fun c hc k hk e=>by
  injection e with e
  rw [e,bM.2] at hk
  exact hc hk.symm
 exact ⟨bM.1,(setMap_far v1 vS h.ne).trans bO.1,setMap_at bM.1 v1 vS,bO.2,bM.2,h.bO,h.bM,fun e=>by omega,fun e=>h.nS (by omega),Kd.S_grown (S_gr h.hL hg hr (by decide)) hgm (far 0 (by decide)),Kd.R_grown (R_gr h.hW hg hr (by decide)) hgm (far 1 (by decide)),Kd.R_grown (R_gr h.hF hg hr (by decide)) hgm (far 2 (by decide)),Kd.R_grown (R_gr h.hB hg hr (by decide)) hgm (far 3 (by decide)),Kd.R_grown h1 hgm (far 4 (by decide)),Kd.R_grown (R_gr h.hS hg hr (by decide)) hgm (far 5 (by decide))⟩
theorem OrbH.putS {v1:Value} {L1:List Int} (h:OrbH base col W gO gM n vL vW vF vB vT vS s) (hn:n = 1 ∨ n = 2) (hg:W.grownBy w1 vS.ownBlock) (h1:Kd.R (Kd.int .i64) 3 w1 base (fun k=>rcl W.heap.size col 5 k = 5) v1 L1) :
  w1.heap[gM]? = some (mapO n vT vS)∧OrbH base (rcl W.heap.size col 5) (setMap w1 gM 2 vT v1) gO gM 2 vL vW vF vB vT v1 { s with S:=L1 }:=by
 have hr:∀ k,vS.ownBlock = some k→col k = 5:=h.hS.1
 have bO:=B_gr h.hO h.cO hg hr (by decide)
 have bM:=B_gr h.hM h.cM hg hr (by decide)
 have hgm:w1.grownBy (setMap w1 gM 2 vT v1) (some gM):=setMap_grown vT v1
 have far:∀ c,c≠7→∀ k,rcl W.heap.size col 5 k = c→some k≠some gM:=fun c hc k hk e=>by
  injection e with e
  rw [e,bM.2] at hk
  exact hc hk.symm
 exact ⟨bM.1,(setMap_far vT v1 h.ne).trans bO.1,setMap_at bM.1 vT v1,bO.2,bM.2,h.bO,h.bM,fun e=>by omega,fun e=>by omega,Kd.S_grown (S_gr h.hL hg hr (by decide)) hgm (far 0 (by decide)),Kd.R_grown (R_gr h.hW hg hr (by decide)) hgm (far 1 (by decide)),Kd.R_grown (R_gr h.hF hg hr (by decide)) hgm (far 2 (by decide)),Kd.R_grown (R_gr h.hB hg hr (by decide)) hgm (far 3 (by decide)),Kd.R_grown (R_gr h.hT hg hr (by decide)) hgm (far 4 (by decide)),Kd.R_grown h1 hgm (far 5 (by decide))⟩
end
end Go.Proofs.Ytoijcallajegfaa.M
end
section
/- What a call made lies apart from what was there. No conditions. -/
namespace Go.Proofs.Ytoijcallajegfaa.M
open Go.RowKit Go.Proofs.YtoijcallajegfaaW.PrintWords Go.Proofs.YtoijcallajegfaaW.PrintLast Go.Proofs.YtoijcallajegfaaW.PrintMore
theorem fresh_S {α:Type} {d:Kd α} {e b b0:Nat} {w:World} {ok:Nat→Prop} {v:Value} {xs:List α} (h:Kd.S d e w b ok v xs) (hb:b0≤b):Kd.S d e w b0 (fun k=>b≤k∧k < w.heap.size) v xs :=
 Kd.S_lower (Kd.S_mono (Kd.S_bound h) (fun _ hk=>⟨hk.2.1,hk.2.2.1⟩)) hb
theorem box_store {w0 W:World} {g t:Nat} {cs:Array Value} (hb:W.heap[g]? = some (.cells cs t (0,0))) (x y:Value) (hB:Below w0.heap.size w0 W) (hg:w0.heap.size≤g) :
  ((W.setCell ⟨g,0,none⟩ x).setCell ⟨g,1,none⟩ y).heap[g]? = some (.cells ((cs.setIfInBounds 0 x).setIfInBounds 1 y) t (0,0))∧Kept W ((W.setCell ⟨g,0,none⟩ x).setCell ⟨g,1,none⟩ y) (fun k=>k = g)∧Below w0.heap.size w0 ((W.setCell ⟨g,0,none⟩ x).setCell ⟨g,1,none⟩ y) :=
 ⟨blk_set (blk_set hb 0 x) 1 y,Kept.setCell (p:=⟨g,1,none⟩) (Kept.setCell (p:=⟨g,0,none⟩) (Kept.refl W (fun k=>k = g)) (.inl rfl) x) (.inl rfl) y,below_set (below_set hB hg) hg⟩
end Go.Proofs.Ytoijcallajegfaa.M
end
section
/- Finding the orbit: the program's walk. No conditions. -/
namespace Go.Proofs.Ytoijcallajegfaa.M
set_option linter.unusedVariables false
set_option linter.unusedSimpArgs false
open Go Go.RowKit Go.Proofs.YtoijcallajegfaaW.PrintWords Go.Proofs.YtoijcallajegfaaW.PrintLast Go.Proofs.YtoijcallajegfaaW.PrintMore Go.Proofs.Ytoijcallajegfaa.A
def OrbPost (w w':World) (e:Ending):Option Orb→Prop
 | none=>e = .returned (.tuple #[.pointer none,.bool false])∧Below w.heap.size w w'
 | some s=>∃ gO gM n col vL vW vF vB vT vS,e = .returned (.tuple #[.pointer (some ⟨gO,0,none⟩),.bool true])∧OrbH w.heap.size col w' gO gM n vL vW vF vB vT vS s∧Below w.heap.size w w'
set_option maxHeartbeats 8000000 in
set_option maxRecDepth 100000 in
theorem orbit_no (k:Nat) (A0:Option Addr) (c0:Nat) (l0:List Int) (A1:Option Addr) (c1:Nat) (l1:List Int) (y1 y2:List Int) (w:World) (h0:Kd.C (Kd.int .i64) w A0 l0.length l0) (g0:l0.length≤c0) (h1:Kd.C (Kd.int .i64) w A1 l1.length l1) (g1:l1.length≤c1) (h:Z59.f k l0 l1 = some (y1,y2,false)) :
  Calls Try.prog 95 #[.agg #[.slice A0 l0.length c0,.slice A1 l1.length c1]] w fun e w'=>OrbPost w w' e none:=by
 have hu:=Try.underlying33
 have H0:=Aside0.mk h0;have H1:=Aside0.mk h1;have G0:=Aside0.mk g0;have G1:=Aside0.mk g1;have HA:=Aside0.mk h
 clear h0 h1 g0 g1 h
 have HB:=Aside0.mk (Below.refl w.heap.size w)
 go_enter Try.func95,Try.ntmps95
 go_wp2_with (first | ((with_reducible refine gate_dst (N:=1) rfl ?_);refine bx_ 1 #[.slice A0 l0.length c0,.slice A1 l1.length c1] 33 ?_;intro gs hg w2 hbox hb;have BS:=Aside0.mk hbox;replace HB:=b1_ hb;clear hb hbox hg;obtain ⟨hcz0,hcz1,hfz0,hfz1⟩:=c2_ BS) | ((with_reducible refine gate_callee (f:=17) rfl ?_);refine gL_ (some 15) Try.func17 #[.agg #[.slice A0 l0.length c0,.slice A1 l1.length c1]] rfl qa_ ?_;(with_reducible refine (Z59.calls k _ _ l0 _ _ l1 y1 y2 false _ (cb_ H0) G0.out (cb_ H1) G1.out HA.out).mono ?_);rintro e w3 ⟨v0,v1,rfl,ho0,ho1,hb⟩;refine ⟨_,rfl,?_⟩;replace HB:=b1_ hb;clear hb;obtain ⟨Ay0,cy0,ey0⟩:=Kd.R_slice ho0;subst ey0;obtain ⟨Ay1,cy1,ey1⟩:=Kd.R_slice ho1;subst ey1;clear ho0 ho1) | ((with_reducible refine gate_dst (N:=4) rfl ?_);refine bx_ 4 #[.slice none 0 0,.slice none 0 0] 33 ?_;intro gf hg w4 hbox hb;have GF:=gw_ w hg;have BF:=Aside0.mk hbox;replace HB:=b1_ hb;clear hb hbox hg;obtain ⟨hcf0,hcf1,hff0,hff1⟩:=c2_ BF))
 go_ret2
 exact ⟨qb_,hB_⟩
section
variable {P:Program} {ops:Array Oper} {rest:List Oper} {o:Oper} {a:Act} {Q:Exit→Act→World→Prop}
theorem lit_event {W:World} (N:Tmp) (cs:Array Value) (e:TypeId) (n:Nat) (h:∀ g,g = W.heap.size→∀ w1,w1.heap[g]? = some (.cells cs e (0,0))→Below W.heap.size W w1→wpList P ops Q rest (a.put o.dst (.slice (some ⟨g,0,none⟩) n n)) w1) (hgd:o.guard = none:=by rfl) (hd:o.dst = some N:=by rfl)
  (hrun:(execOp a.eval o).run P W = .ok (.value (.slice (some ⟨W.heap.size,0,none⟩) n n)) (W.alloc (.cells cs e (0,0))):=by first | (go_simp;done) | (go_simp;rfl)):wpList P ops Q (o :: rest) a W :=
 Kd.event_run hgd hrun (h _ rfl _ (blk_new W _) (below_alloc (Below.refl _ _) _))
theorem map_event {W:World} (N:Tmp) (h:∀ g,g = W.heap.size→∀ w1,w1.heap[g]? = some (.map #[] 0)→Below W.heap.size W w1→wpList P ops Q rest (a.put o.dst (.map (some g))) w1) (hgd:o.guard = none:=by rfl) (hd:o.dst = some N:=by rfl)
  (hrun:(execOp a.eval o).run P W = .ok (.value (.map (some W.heap.size))) (W.alloc (.map #[] 0)):=by first | (go_simp;done) | (go_simp;rfl)):wpList P ops Q (o :: rest) a W :=
 Kd.event_run hgd hrun (h _ rfl _ (blk_new W _) (below_alloc (Below.refl _ _) _))
end
theorem R_blk {α:Type} {enc:α→Value} {h1:∀ x:α,(enc x).oneCell' = true} {W:World} {g e base:Nat} {x:α} {ok:Nat→Prop} (hb:W.heap[g]? = some (.cells #[enc x] e (0,0))) (hg:base≤g) (hok:ok g):(Kd.scalar enc h1).R e W base ok (.slice (some ⟨g,0,none⟩) 1 1) [x] :=
 ⟨fun k hk=>(by simpa [Value.ownBlock] using hk:g = k) ▸ hok,[enc x],⟨rfl,.inr ⟨g,1,#[enc x],rfl,hg,hb,Nat.le_refl _,by decide,rfl,rfl⟩⟩,Reps.one rfl (Reps.none _ _)⟩
theorem S_blk {W:World} {g base:Nat} {u0 u1:Value} {x:S33} {ok:Nat→Prop} (hb:W.heap[g]? = some (.cells #[u0,u1] 33 (0,0))) (hg:base≤g) (hok:ok g) (h0:Kd.R (Kd.int .i64) 3 W base (fun k=>ok k∧k≠g) u0 x.f0) (h1:Kd.R (Kd.int .i64) 3 W base (fun k=>ok k∧k≠g) u1 x.f1) (ne:NeRow u0 u1):Kd.S k33 33 W base ok (.slice (some ⟨g,0,none⟩) 1 1) [x]:=by
 refine ⟨fun _=>0,fun k hk=>by
  have:g = k:=by simpa [Value.ownBlock] using hk
  exact this ▸ hok,[u0,u1],⟨rfl,.inr ⟨g,1,#[u0,u1],rfl,hg,hb,Nat.le_refl _,by decide,rfl,rfl⟩⟩,Reps.c2 ?_ (Reps.none _ _)⟩
 exact k33_mkM _ _ _ x (Kd.R_mono h0 (fun k hk=>⟨⟨hk.1,by simpa [Value.ownBlock] using hk.2⟩,rfl⟩)) (Kd.R_mono h1 (fun k hk=>⟨⟨hk.1,by simpa [Value.ownBlock] using hk.2⟩,rfl⟩)) ne
def orb_T21:Bool × List (List Nat × List Nat):=(true,[([],[]),([0],[0]),([1],[1]),([2],[2]),([],[]),([],[]),([5],[5]),([6],[6]),([7],[7]),([],[]),([8,9],[8,9]),([],[]),([11],[11]),([10,12],[10,12]),([3,4,13,13,0,1,2,3,4,5,6,7,8,9,10,11,12,13],[3,4,13])])
def orb_B21:List Nat:=[0,1,3,7,0,0,32,96,224,0,992,0,2048,8160,16383]
theorem orb_tab21:rtab .any (opsOf Try.f95 21) = orb_T21:=by kernel_rfl
theorem orb_bits21:waitsOk orb_T21.2 orb_B21 = true:=by kernel_rfl
def orb_T17:Bool × List (List Nat × List Nat):=(true,[([],[]),([],[]),([1],[1]),([2],[2]),([3],[3]),([],[]),([5],[5]),([4,6],[4,6]),([0,0,1,2,3,4,5,6,7],[0]),([8,0,1,2,3,4,5,6,7],[8]),([9,7,7,0,1,2,3,4,5,6,7],[7,9])])
def orb_B17:List Nat:=[0,0,2,6,14,0,32,126,255,511,1023]
theorem orb_tab17:rtab .any (opsOf Try.f95 17) = orb_T17:=by kernel_rfl
theorem orb_bits17:waitsOk orb_T17.2 orb_B17 = true:=by kernel_rfl
def orb_T18:Bool × List (List Nat × List Nat):=(true,[([],[]),([],[]),([1],[1]),([2],[2]),([3],[3]),([],[]),([5],[5]),([6],[6]),([7],[7]),([],[]),([8,9],[8,9]),([10],[10]),([],[]),([12],[12]),([13],[13]),([11,14],[11,14]),([15],[15]),([4,16],[4,16]),([0,0,1,2,3,4,5,6,7,8,9,10,11,12,13,14,15,16,17],[0]),([18,0,1,2,3,4,5,6,7,8,9,10,11,12,13,14,15,16,17],[18]),([19,17,17,0,1,2,3,4,5,6,7,8,9,10,11,12,13,14,15,16,17],[17,19])])
def orb_B18:List Nat:=[0,0,2,6,14,0,32,96,224,0,992,2016,0,4096,12288,32736,65504,131070,262143,524287,1048575]
theorem orb_tab18:rtab .any (opsOf Try.f95 18) = orb_T18:=by kernel_rfl
theorem orb_bits18:waitsOk orb_T18.2 orb_B18 = true:=by kernel_rfl
set_option maxHeartbeats 8000000 in
set_option maxRecDepth 100000 in
theorem orbit_yes (k:Nat) (A0:Option Addr) (c0:Nat) (l0:List Int) (A1:Option Addr) (c1:Nat) (l1:List Int) (y1 y2:List Int) (R:Option Orb) (w:World) (h0:Kd.C (Kd.int .i64) w A0 l0.length l0) (g0:l0.length≤c0) (h1:Kd.C (Kd.int .i64) w A1 l1.length l1) (g1:l1.length≤c1) (h:Z59.f k l0 l1 = some (y1,y2,true)) (hl:loopO k ⟨[⟨y1,y2⟩],[⟨#[]⟩],[-1],[0],[],[]⟩ 0 = some R) :
  Calls Try.prog 95 #[.agg #[.slice A0 l0.length c0,.slice A1 l1.length c1]] w fun e w'=>OrbPost w w' e R:=by
 have hu:=Try.underlying33
 have H0:=Aside0.mk h0;have H1:=Aside0.mk h1;have G0:=Aside0.mk g0;have G1:=Aside0.mk g1;have HA:=Aside0.mk h;have HL:=Aside0.mk hl
 clear h0 h1 g0 g1 h hl
 have HB:=Aside0.mk (Below.refl w.heap.size w)
 go_enter Try.func95,Try.ntmps95
 go_upto_region 4 with (first | ((with_reducible refine gate_dst (N:=1) rfl ?_);refine bx_ 1 #[.slice A0 l0.length c0,.slice A1 l1.length c1] 33 ?_;intro gs hg w2 hbox hb;have BS:=Aside0.mk hbox;replace HB:=b1_ hb;clear hb hbox hg;obtain ⟨hcz0,hcz1,hfz0,hfz1⟩:=c2_ BS) | ((with_reducible refine gate_callee (f:=17) rfl ?_);refine gL_ (some 15) Try.func17 #[.agg #[.slice A0 l0.length c0,.slice A1 l1.length c1]] rfl qa_ ?_;(with_reducible refine (Z59.calls k _ _ l0 _ _ l1 y1 y2 true _ (cb_ H0) G0.out (cb_ H1) G1.out HA.out).mono ?_);rintro e w3 ⟨v0,v1,rfl,ho0,ho1,hb⟩;refine ⟨_,rfl,?_⟩;have ZB:=Aside0.mk (below_size hB_:w.heap.size≤w2.heap.size);replace HB:=b1_ hb;clear hb;obtain ⟨Ay0,cy0,ey0⟩:=Kd.R_slice ho0;subst ey0;obtain ⟨Ay1,cy1,ey1⟩:=Kd.R_slice ho1;subst ey1;have Y0:=Aside0.mk ho0;have Y1:=Aside0.mk ho1;clear ho0 ho1) | ((with_reducible refine gate_dst (N:=4) rfl ?_);refine bx_ 4 #[.slice none 0 0,.slice none 0 0] 33 ?_;intro gf hg w4 hbox hb;have GF:=gw_ w hg;have GF2:=Aside0.mk (show w3.heap.size≤gf from Nat.le_of_eq hg.symm);have BF:=Aside0.mk hbox;have B3:=Aside0.mk hb;replace HB:=b1_ hb;clear hb hbox hg;obtain ⟨hcf0,hcf1,hff0,hff1⟩:=c2_ BF))
 obtain ⟨hbox,hkp,hB2⟩:=box_store BF.out (.slice Ay0 y1.length cy0) (.slice Ay1 y2.length cy1) HB.out GF.out
 generalize hw:((w4.setCell ⟨gf,0,none⟩ (.slice Ay0 y1.length cy0)).setCell ⟨gf,1,none⟩ (.slice Ay1 y2.length cy1)) = w5 at hbox hkp hB2 ⊢
 clear hw hcf0 hcf1 hff0 hff1 hcz0 hcz1 hfz0 hfz1 HB
 have NE:=Aside0.mk (show NeRow (.slice Ay0 y1.length cy0) (.slice Ay1 y2.length cy1) from fun k_ e1_ e2_=>(Y0.out.1 k_ e1_) e2_.symm)
 replace Y0:=Aside0.mk (Kd.R_kept (Kd.R_below (Kd.R_bound Y0.out) B3.out) hkp (fun k_ hk hs=>by have h2:=hk.2.2.1;have h3:=GF2.out;omega))
 replace Y1:=Aside0.mk (Kd.R_kept (Kd.R_below (Kd.R_bound Y1.out) B3.out) hkp (fun k_ hk hs=>by have h2:=hk.2.2.1;have h3:=GF2.out;omega))
 have HB:=Aside0.mk hB2
 replace BF:=Aside0.mk (show w5.heap[gf]? = some (.cells #[.slice Ay0 y1.length cy0,.slice Ay1 y2.length cy1] 33 (0,0)) from hbox)
 have Z5:=Aside0.mk hkp.1
 have HB5:=HB
 clear hbox hkp hB2
 obtain ⟨hcf0,hcf1,hff0,hff1⟩:=c2_ BF
 replace Y0:=Aside0.mk (Kd.R_bound Y0.out)
 replace Y1:=Aside0.mk (Kd.R_bound Y1.out)
 go_wp2_with (first | ((with_reducible refine gate_dst (N:=21) rfl ?_);refine lit_event 21 #[.slice Ay0 y1.length cy0,.slice Ay1 y2.length cy1] 33 1 ?_;intro g1 hg w6 hbox hb;have Kg1:=Aside0.mk hbox;have Sg1:=Aside0.mk (show w5.heap.size≤g1∧g1 < w6.heap.size from ⟨Nat.le_of_eq hg.symm,(Array.getElem?_eq_some_iff.1 hbox).1⟩);replace Y0:=Aside0.mk (Kd.R_below Y0.out hb);replace Y1:=Aside0.mk (Kd.R_below Y1.out hb);replace HB:=b1_ hb;clear hb hbox hg) | ((with_reducible refine gate_dst (N:=22) rfl ?_);refine lit_event 22 #[.string ⟨#[]⟩] 9 1 ?_;intro g2 hg w7 hbox hb;have Kg2:=Aside0.mk hbox;have Sg2:=Aside0.mk (show w6.heap.size≤g2∧g2 < w7.heap.size from ⟨Nat.le_of_eq hg.symm,(Array.getElem?_eq_some_iff.1 hbox).1⟩);replace Kg1:=bb_ Kg1 hb;replace Y0:=Aside0.mk (Kd.R_below Y0.out hb);replace Y1:=Aside0.mk (Kd.R_below Y1.out hb);replace HB:=b1_ hb;clear hb hbox hg) | ((with_reducible refine gate_dst (N:=23) rfl ?_);refine lit_event 23 #[.int .i64 (-1)] 3 1 ?_;intro g3 hg w8 hbox hb;have Kg3:=Aside0.mk hbox;have Sg3:=Aside0.mk (show w7.heap.size≤g3∧g3 < w8.heap.size from ⟨Nat.le_of_eq hg.symm,(Array.getElem?_eq_some_iff.1 hbox).1⟩);replace Kg1:=bb_ Kg1 hb;replace Kg2:=bb_ Kg2 hb;replace Y0:=Aside0.mk (Kd.R_below Y0.out hb);replace Y1:=Aside0.mk (Kd.R_below Y1.out hb);replace HB:=b1_ hb;clear hb hbox hg) | ((with_reducible refine gate_dst (N:=24) rfl ?_);refine lit_event 24 #[.int .u8 0] 5 1 ?_;intro g4 hg w9 hbox hb;have Kg4:=Aside0.mk hbox;have Sg4:=Aside0.mk (show w8.heap.size≤g4∧g4 < w9.heap.size from ⟨Nat.le_of_eq hg.symm,(Array.getElem?_eq_some_iff.1 hbox).1⟩);replace Kg1:=bb_ Kg1 hb;replace Kg2:=bb_ Kg2 hb;replace Kg3:=bb_ Kg3 hb;replace Y0:=Aside0.mk (Kd.R_below Y0.out hb);replace Y1:=Aside0.mk (Kd.R_below Y1.out hb);replace HB:=b1_ hb;clear hb hbox hg) | ((with_reducible refine gate_dst (N:=25) rfl ?_);refine map_event 25 ?_;intro gM hg w10 hbox hb;have KgM:=Aside0.mk hbox;have SgM:=Aside0.mk (show w9.heap.size≤gM∧gM < w10.heap.size from ⟨Nat.le_of_eq hg.symm,(Array.getElem?_eq_some_iff.1 hbox).1⟩);replace Kg1:=bb_ Kg1 hb;replace Kg2:=bb_ Kg2 hb;replace Kg3:=bb_ Kg3 hb;replace Kg4:=bb_ Kg4 hb;replace Y0:=Aside0.mk (Kd.R_below Y0.out hb);replace Y1:=Aside0.mk (Kd.R_below Y1.out hb);replace HB:=b1_ hb;clear hb hbox hg) | ((with_reducible refine gate_dst (N:=27) rfl ?_);refine bx_ 27 #[.slice (some ⟨g1,0,none⟩) 1 1,.slice (some ⟨g2,0,none⟩) 1 1,.slice (some ⟨g3,0,none⟩) 1 1,.slice (some ⟨g4,0,none⟩) 1 1,.map (some gM)] 97 ?_;intro gO hg w11 hbox hb;have KgO:=Aside0.mk hbox;have SgO:=Aside0.mk (show w10.heap.size≤gO∧gO < w11.heap.size from ⟨Nat.le_of_eq hg.symm,(Array.getElem?_eq_some_iff.1 hbox).1⟩);replace Kg1:=bb_ Kg1 hb;replace Kg2:=bb_ Kg2 hb;replace Kg3:=bb_ Kg3 hb;replace Kg4:=bb_ Kg4 hb;replace KgM:=bb_ KgM hb;replace Y0:=Aside0.mk (Kd.R_below Y0.out hb);replace Y1:=Aside0.mk (Kd.R_below Y1.out hb);replace HB:=b1_ hb;clear hb hbox hg))
 have HH:Aside0 (OrbH w.heap.size (fun k=>if k = g2 then 1 else if k = g3 then 2 else if k = g4 then 3 else if k = gO then 6 else if k = gM then 7 else 0) w11 gO gM 0 (.slice (some ⟨g1,0,none⟩) 1 1) (.slice (some ⟨g2,0,none⟩) 1 1) (.slice (some ⟨g3,0,none⟩) 1 1) (.slice (some ⟨g4,0,none⟩) 1 1) (.slice none 0 0) (.slice none 0 0) ⟨[⟨y1,y2⟩],[⟨#[]⟩],[-1],[0],[],[]⟩):=by
  have q1:=Sg1.out;have q2:=Sg2.out;have q3:=Sg3.out;have q4:=Sg4.out;have q5:=SgM.out;have q6:=SgO.out
  have z5:=Z5.out;have z2:=ZB.out;have zf:=GF.out;have zg:=GF2.out
  have bz:w.heap.size≤w5.heap.size:=HB5.out.size
  refine ⟨⟨KgO.out,KgM.out,?_,?_,by omega,by omega,fun _=>rfl,fun _=>rfl,?_,?_,?_,?_,Kd.R_nil _ _ _ _ _,Kd.R_nil _ _ _ _ _⟩⟩
  ·show (if gO = g2 then 1 else if gO = g3 then 2 else if gO = g4 then 3 else if gO = gO then 6 else if gO = gM then 7 else 0) = 6
   rw [if_neg (by omega),if_neg (by omega),if_neg (by omega),if_pos rfl]
  ·show (if gM = g2 then 1 else if gM = g3 then 2 else if gM = g4 then 3 else if gM = gO then 6 else if gM = gM then 7 else 0) = 7
   rw [if_neg (by omega),if_neg (by omega),if_neg (by omega),if_neg (by omega),if_pos rfl]
  ·refine S_blk (x:=⟨y1,y2⟩) Kg1.out (by omega) ?_ ?_ ?_ NE.out
   ·show (if g1 = g2 then 1 else if g1 = g3 then 2 else if g1 = g4 then 3 else if g1 = gO then 6 else if g1 = gM then 7 else 0) = 0
    rw [if_neg (by omega),if_neg (by omega),if_neg (by omega),if_neg (by omega),if_neg (by omega)]
   ·refine Kd.R_mono (Kd.R_lower Y0.out (by omega)) (fun k hk=>?_)
    have hk2:=hk.2.2.1
    show (if k = g2 then 1 else if k = g3 then 2 else if k = g4 then 3 else if k = gO then 6 else if k = gM then 7 else 0) = 0∧k≠g1
    rw [if_neg (by omega),if_neg (by omega),if_neg (by omega),if_neg (by omega),if_neg (by omega)]
    exact ⟨rfl,by omega⟩
   ·refine Kd.R_mono (Kd.R_lower Y1.out (by omega)) (fun k hk=>?_)
    have hk2:=hk.2.2.1
    show (if k = g2 then 1 else if k = g3 then 2 else if k = g4 then 3 else if k = gO then 6 else if k = gM then 7 else 0) = 0∧k≠g1
    rw [if_neg (by omega),if_neg (by omega),if_neg (by omega),if_neg (by omega),if_neg (by omega)]
    exact ⟨rfl,by omega⟩
  ·exact R_blk Kg2.out (by omega) (if_pos rfl)
  ·refine R_blk Kg3.out (by omega) ?_
   show (if g3 = g2 then 1 else if g3 = g3 then 2 else if g3 = g4 then 3 else if g3 = gO then 6 else if g3 = gM then 7 else 0) = 2
   rw [if_neg (by omega),if_pos rfl]
  ·refine R_blk Kg4.out (by omega) ?_
   show (if g4 = g2 then 1 else if g4 = g3 then 2 else if g4 = g4 then 3 else if g4 = gO then 6 else if g4 = gM then 7 else 0) = 3
   rw [if_neg (by omega),if_neg (by omega),if_pos rfl]
 clear Kg1 Kg2 Kg3 Kg4 KgM KgO Sg1 Sg2 Sg3 Sg4 SgM SgO Y0 Y1 NE BF GF GF2 Z5 ZB B3 BS H0 H1 G0 G1 HA hcf0 hcf1 hff0 hff1 HB5
 go_loopg [7] k (fun kq v7 w'=>∃ (x7:Int) (n:Nat) (col:Nat→Nat) (vL vW vF vB vT vS:Value) (s:Orb),v7 = .int .i64 x7∧Aside0 (loopO kq s x7 = some R)∧Aside0 (kq≤k)∧Aside0 (n = 0 ∨ n = 2)∧Aside0 (OrbH w.heap.size col w' gO gM n vL vW vF vB vT vS s)∧Aside0 (Below w.heap.size w w'))
 case atStart=>exact ⟨0,0,_,_,_,_,_,_,_,_,rfl,HL,⟨Nat.le_refl _⟩,⟨.inl rfl⟩,HH,HB⟩
 case round =>
  clear HL HH HB
  obtain ⟨x7,n,col,vL,vW,vF,vB,vT,vS,s,rfl,HA,HK,HN,HH,HB⟩:=hrel
  cases gk with
  | zero=>exact absurd HA.out (by simp [loopO])
  | succ k1 =>
   have H:=HA.out
   clear HA
   simp only [loopO] at H
   obtain ⟨AL,cL,eL⟩:=Kd.S_slice HH.out.hL
   subst eL
   have hco0:wr.cell? ⟨gO,0,none⟩ = some (.slice AL s.L.length cL):=(blk_cell HH.out.hO 0).trans rfl
   have hfo0:=blk_frozen HH.out.hO 0
   by_cases hq1:x7 < (s.L.length:Int)
   ·rw [if_pos hq1] at H
    have c1b:=decide_eq_true hq1
    obtain ⟨z,AZ,H⟩:=bi_ H
    have HR:=Aside0.mk H
    clear H
    obtain ⟨wo,hwo⟩:∃ wo:World,wo = wr:=⟨_,rfl⟩
    subst hwo
    go_wp2_with (first | ((with_reducible refine gate_dst (N:=37) rfl ?_);refine lit_event 37 #[.int .u8 84,.int .u8 83] 5 2 ?_;intro gl hg w12 hbox hb;have SL:=Aside0.mk (show wo.heap.size≤gl from Nat.le_of_eq hg.symm);have BL:=Aside0.mk hbox;have HH2:=Aside0.mk ((HH.out.recol (col':=fun k=>if k = gl then 8 else col k) (fun k hk=>if_neg (by have:=SL.out;omega))).below hb);replace HB:=b1_ hb;clear hb hbox hg))
    clear hco0 hfo0 c1b HH
    have SLG:=SL
    go_loopg [39] 2 (fun gi v39 w'=>∃ (jj n':Nat) (col':Nat→Nat) (vL vW vF vB vT vS:Value) (s':Orb),v39 = .int .i64 (jj:Int)∧Aside0 (jj≤2)∧Aside0 (2 - jj≤gi)∧Aside0 (innerO k1 x7 (([84,83]:List Int).drop jj) s' = some z)∧Aside0 ((jj = 0→n' = 0 ∨ n' = 2)∧(jj = 1→n' = 1 ∨ n' = 2)∧(jj = 2→n' = 2))∧Aside0 (col' gl = 8)∧Aside0 (w'.heap[gl]? = some (.cells #[.int .u8 84,.int .u8 83] 5 (0,0)))∧Aside0 (OrbH w.heap.size col' w' gO gM n' vL vW vF vB vT vS s')∧Aside0 (Below w.heap.size w w'))
    case atStart=>exact ⟨0,n,(fun k=>if k = gl then 8 else col k),_,_,_,_,_,_,s,rfl,⟨by omega⟩,⟨by omega⟩,AZ,⟨⟨fun _=>HN.out,fun e=>absurd e (by decide),fun e=>absurd e (by decide)⟩⟩,⟨if_pos rfl⟩,BL,HH2,HB⟩
    case round =>
     clear AZ HH2 HB BL SL HN
     obtain ⟨jj,n',col',vL',vW',vF',vB',vT',vS',s',rfl,HJ,HG,AZ,HN,HC,BL,HH,HB⟩:=hrel
     have hj:=HJ.out
     obtain ⟨AL',cL',eL'⟩:=Kd.S_slice HH.out.hL
     subst eL'
     have hcl0:wr.cell? ⟨gl,0,none⟩ = some (.int .u8 84):=(blk_cell BL.out 0).trans rfl
     have hcl1:wr.cell? ⟨gl,1,none⟩ = some (.int .u8 83):=(blk_cell BL.out 1).trans rfl
     have hfl0:=blk_frozen BL.out 0
     have hfl1:=blk_frozen BL.out 1
     have hco0:wr.cell? ⟨gO,0,none⟩ = some (.slice AL' s'.L.length cL'):=(blk_cell HH.out.hO 0).trans rfl
     have hfo0:=blk_frozen HH.out.hO 0
     rcases Nat.lt_or_ge jj 2 with hj2 | hj2
     ·have hq3:jj = 0 ∨ jj = 1:=by omega
      rcases hq3 with rfl | rfl
      ·skip
       have hn0:=Aside0.mk (HN.out.1 rfl)
       have H:=AZ.out
       clear AZ
       change innerO k1 x7 (84 :: [83]) s' = some z at H
       simp only [innerO] at H
       obtain ⟨zz,AS,H⟩:=bi_ H
       have HT:=Aside0.mk H
       have H:=AS.out
       clear AS
       unfold stpO at H
       have hi0:=cp_ H
       replace H:=ca_ H
       have hi1:=cp_ H
       replace H:=ca_ H
       obtain ⟨⟨x1,x2⟩,AX,H⟩:=bi_ H
       obtain ⟨⟨y1',y2',yb⟩,AY,H⟩:=bi_ H
       obtain ⟨j,AJ,H⟩:=bi_ H
       dsimp only at H AY AJ
       have HS:=Aside0.mk H
       clear H
       obtain ⟨adx,Ax0,cx0,Ax1,cx1,ex,hx0,hx1,hlx0,hix0,hlx1,hix1⟩:=at_T33 (Kd.S_reads' HH.out.hL).2.2 x7 hi0 hi1
       cases ex
       have X0:=Aside0.mk hix0;have X1:=Aside0.mk hix1;have LX0:=Aside0.mk hlx0;have LX1:=Aside0.mk hlx1
       clear hix0 hix1 hlx0 hlx1
       have ti0:=eq_true hi0
       have ti1:=eq_true hi1
       have td1:=decide_eq_true hi1
       go_upto_region 12 with (first | ((with_reducible refine gate_callee (f:=70) rfl ?_);refine gL_ (some 52) Try.func70 #[.agg #[.slice Ax0 (rd_T33 s'.L x7).f0.length cx0,.slice Ax1 (rd_T33 s'.L x7).f1.length cx1],.int .u8 84] rfl qa_ ?_;(with_reducible refine (Z9.calls k1 _ _ (rd_T33 s'.L x7).f0 _ _ (rd_T33 s'.L x7).f1 84 x1 x2 _ X0.out LX0.out X1.out LX1.out AX.out).mono ?_);rintro e w13 ⟨v0,v1,rfl,ho0,ho1,hb⟩;refine ⟨_,rfl,?_⟩;replace HH:=Aside0.mk (HH.out.below hb);replace BL:=bb_ BL hb;replace HB:=b1_ hb;clear hb;obtain ⟨Al0,cl0,el0⟩:=Kd.R_slice ho0;subst el0;obtain ⟨Al1,cl1,el1⟩:=Kd.R_slice ho1;subst el1;have LT0:=Aside0.mk (Kd.R_reads' ho0).2;have LT1:=Aside0.mk (Kd.R_reads' ho1).2;clear ho0 ho1) | ((with_reducible refine gate_callee (f:=17) rfl ?_);refine gL_ (some 53) Try.func17 #[.agg #[.slice Al0 x1.length cl0,.slice Al1 x2.length cl1]] rfl qa_ ?_;(with_reducible refine (Z59.calls k1 _ _ x1 _ _ x2 y1' y2' yb _ LT0.out.2 LT0.out.1 LT1.out.2 LT1.out.1 AY.out).mono ?_);rintro e w14 ⟨v0,v1,rfl,ho0,ho1,hb⟩;refine ⟨_,rfl,?_⟩;have ZC:=Aside0.mk (below_size hB_:w.heap.size≤w13.heap.size);have ZD:=Aside0.mk hb.size;have SL13:=Aside0.mk (Kd.S_below (Kd.S_mono (ok':=fun k_=>col' k_ = 0∧k_ < w13.heap.size) (Kd.S_bound HH.out.hL) (fun k_ hk_=>⟨hk_.1,hk_.2.2.1⟩)) hb);replace HH:=Aside0.mk ((HH.out.recol (col':=rcl w13.heap.size col' 0) (fun k hk=>rcl_old hk)).below hb);replace HC:=Aside0.mk ((rcl_old (blk_lt BL.out)).trans HC.out:rcl w13.heap.size col' 0 gl = 8);replace BL:=bb_ BL hb;replace HB:=b1_ hb;clear hb;obtain ⟨Ay0,cy0,ey0⟩:=Kd.R_slice ho0;subst ey0;obtain ⟨Ay1,cy1,ey1⟩:=Kd.R_slice ho1;subst ey1;have Y0:=Aside0.mk ho0;have Y1:=Aside0.mk ho1;clear ho0 ho1) | ((with_reducible refine gate_dst (N:=10) rfl ?_);refine bx_ 10 #[.slice none 0 0,.slice none 0 0] 33 ?_;intro gx hg w15 hbox hb;have GX:=Aside0.mk (show w14.heap.size≤gx from Nat.le_of_eq hg.symm);have BX:=Aside0.mk hbox;have B3:=Aside0.mk hb;clear hb hbox hg;obtain ⟨hcf0,hcf1,hff0,hff1⟩:=c2_ BX))
       obtain ⟨hbox,hkp,hB2⟩:=box_store (w0:=w14) BX.out (.slice Ay0 y1'.length cy0) (.slice Ay1 y2'.length cy1) B3.out GX.out
       generalize hw:((w15.setCell ⟨gx,0,none⟩ (.slice Ay0 y1'.length cy0)).setCell ⟨gx,1,none⟩ (.slice Ay1 y2'.length cy1)) = w16 at hbox hkp hB2 ⊢
       clear hw hcf0 hcf1 hff0 hff1 hcl0 hcl1 hfl0 hfl1 hco0 hfo0 hx0 hx1 X0 X1 LX0 LX1 LT0 LT1
       have NE:=Aside0.mk (show NeRow (.slice Ay0 y1'.length cy0) (.slice Ay1 y2'.length cy1) from fun k_ e1_ e2_=>(Y0.out.1 k_ e1_) e2_.symm)
       replace HH:=Aside0.mk (HH.out.below hB2)
       replace BL:=Aside0.mk (blk_below BL.out hB2)
       replace Y0:=Aside0.mk (Kd.R_below (Kd.R_bound Y0.out) hB2)
       replace Y1:=Aside0.mk (Kd.R_below (Kd.R_bound Y1.out) hB2)
       replace SL13:=Aside0.mk (Kd.S_below SL13.out hB2)
       replace HB:=Aside0.mk (below_step HB.out hB2)
       replace BX:=Aside0.mk (show w16.heap[gx]? = some (.cells #[.slice Ay0 y1'.length cy0,.slice Ay1 y2'.length cy1] 33 (0,0)) from hbox)
       have ZE:=Aside0.mk hB2.size
       clear hbox hkp hB2 B3
       obtain ⟨hcx0,hcx1,hfx0,hfx1⟩:=c2_ BX
       have hLr:=(Kd.S_reads' HH.out.hL).2
       have RL:=Aside0.mk hLr
       clear hLr
       go_upto_region 13 with (first | ((with_reducible refine gate_callee (f:=133) rfl ?_);refine gL_ (some 58) Try.func133 #[.pointer (some ⟨gO,0,none⟩),.agg #[.slice Ay0 y1'.length cy0,.slice Ay1 y2'.length cy1]] rfl qa_ ?_;(with_reducible refine (index_calls k1 gO _ _ s'.L _ _ _ _ _ _ y1' _ _ y2' j _ RL.out.2 RL.out.1 (Kd.R_reads' Y0.out).2.2 (Kd.R_reads' Y0.out).2.1 (Kd.R_reads' Y1.out).2.2 (Kd.R_reads' Y1.out).2.1 HH.out.hO AJ.out).mono ?_);rintro e w17 ⟨rfl,hb⟩;refine ⟨_,rfl,?_⟩;have ZF:=Aside0.mk hb.size;replace HH:=Aside0.mk (HH.out.below hb);replace BL:=bb_ BL hb;replace BX:=bb_ BX hb;replace Y0:=Aside0.mk (Kd.R_below Y0.out hb);replace Y1:=Aside0.mk (Kd.R_below Y1.out hb);replace SL13:=Aside0.mk (Kd.S_below SL13.out hb);replace HB:=b1_ hb;clear hb))
       clear hcx0 hcx1 hfx0 hfx1 RL
       have ZW:=Aside0.mk (show w13.heap.size≤w17.heap.size from Nat.le_trans ZD.out (Nat.le_trans ZE.out ZF.out))
       clear ZD ZE ZF
       by_cases hj0:j < 0
       ·have H:=HS.out
        clear HS
        rw [if_pos hj0] at H
        have hjb:=decide_eq_true hj0
        have hco0:w17.cell? ⟨gO,0,none⟩ = some (.slice (some adx) s'.L.length cL'):=(blk_cell HH.out.hO 0).trans rfl
        have hfo0:=blk_frozen HH.out.hO 0
        by_cases hq5:(s'.L.length:Int) = 120
        ·rw [if_pos hq5] at H
         obtain rfl:=Option.some.inj H
         clear H
         have hzn:z = none:=(Option.some.inj HT.out).symm
         subst hzn
         have hRn:R = none:=(Option.some.inj HR.out).symm
         subst hRn
         have e5b:((s'.L.length:Int) == 120) = true:=beq_iff_eq.mpr hq5
         clear hq5
         go_wp2
         go_ret2
         exact ⟨qb_,hB_⟩
        ·rw [if_neg hq5] at H
         have e5b:((s'.L.length:Int) == 120) = false:=beq_eq_false_iff_ne.mpr hq5
         clear hq5
         have hlen:=cp_ H
         replace H:=ca_ H
         have hiW:=cp_ H
         replace H:=ca_ H
         have hsz:=cp_ H
         replace H:=Option.some.inj (ca_ H)
         subst H
         rw [if_pos rfl,if_pos rfl] at HT
         have LN:=Aside0.mk hlen
         have LS:=Aside0.mk hsz
         clear hlen hsz
         go_upto_region 17 with (fail)
         clear hco0 hfo0 e5b
         replace HH:=Aside0.mk (HH.out.below (below_drew1 (Below.refl _ _)))
         replace BL:=Aside0.mk (blk_drew BL.out)
         replace BX:=Aside0.mk (blk_drew BX.out)
         replace HB:=Aside0.mk (below_drew1 HB.out)
         replace Y0:=Aside0.mk (Kd.R_bound (Kd.R_drew Y0.out))
         replace Y1:=Aside0.mk (Kd.R_bound (Kd.R_drew Y1.out))
         replace SL13:=Aside0.mk (Kd.S_drew SL13.out)
         replace ZW:=Aside0.mk (show w13.heap.size≤w17.drew.heap.size from ZW.out)
         refine start_ (n:=11) (S:=fun w'=>w'.cell? ⟨gO,0,none⟩ = some (.slice (some adx) s'.L.length cL')∧w'.cell? ⟨gx,0,none⟩ = some (.slice Ay0 y1'.length cy0)∧w'.cell? ⟨gx,1,none⟩ = some (.slice Ay1 y2'.length cy1)) (ds:=[7,10]) (bl_ 11 0) (by kernel_rfl) rfl (by kernel_rfl) ⟨(blk_cell HH.out.hO 0).trans rfl,(blk_cell BX.out 0).trans rfl,(blk_cell BX.out 1).trans rfl⟩ (fun hHeld=>?_)
         refine with_tabW orb_tab17 orb_bits17 (fun HT_ HW_=>?_)
         generalize w17.drew = wa at HH BL BX HB Y0 Y1 SL13 ZW hHeld ⊢
         refine pu_ 0 (some 68) (bl_ 11 1) HT_ ?_
         refine pu_ 1 (some 69) (bl_ 11 3) HT_ ?_
         refine pu_ 2 (some 70) (bl_ 11 7) HT_ ?_
         refine pu_ 3 (some 71) (bl_ 11 15) HT_ ?_
         refine ta_ 4 (some 72) (bl_ 11 31) HT_ HW_ hHeld ?_
         refine ta_ 5 (some 73) (bl_ 11 63) HT_ HW_ hHeld ?_
         refine on_ 6 (some 74) (bl_ 11 127) HT_ (fun K hK=>?_)
         refine value_ (w1:=?_) (v:=?_) (by rfl) rfl ?_ ?_
         rotate_left 2
         ·go_simp
          constructor
          ·rfl
          ·rfl
         refine hK.out _ _ ⟨((below_alloc (Below.refl _ _) _).cell (World.block_lt_of_cell? _ _ hHeld.1)).trans hHeld.1,((below_alloc (Below.refl _ _) _).cell (World.block_lt_of_cell? _ _ hHeld.2.1)).trans hHeld.2.1,((below_alloc (Below.refl _ _) _).cell (World.block_lt_of_cell? _ _ hHeld.2.2)).trans hHeld.2.2⟩ (fun hHeld=>?_)
         clear hK K
         refine no_ (some 74) ?_
         refine last_ (i:=7) (N:=some 75) (bl_ 11 255) rfl rfl (one_of HT_.out (by kernel_rfl)) (by decide) (fun K hK=>?_)
         refine Kd.S_append_step k33 (w0:=w) w.heap.size (by rfl) (.tmp 72) (.tmp 74) 25 33 (.agg #[(.slice none 0 0),(.slice none 0 0)]) 48 rfl Try.underlying25 info33 rfl (by decide) (by omega) (.slice (some adx) s'.L.length cL') s'.L (⟨y1',y2'⟩:S33) [.slice Ay0 y1'.length cy0,.slice Ay1 y2'.length cy1] (fun k_=>rcl wa.heap.size (rcl w13.heap.size col' 0) 0 k_ = 0) (fun k_=>w13.heap.size≤k_∧k_ < wa.heap.size) rfl rfl ?aP ?aQ (fun k_ hk=>rcl_new hk) ?aO HB.out HB.out.size (by have:=LN.out;omega) ?_
         case aP=>exact k33_mkM _ _ _ (⟨y1',y2'⟩:S33) (Kd.R_mono (Kd.R_lower Y0.out ZC.out) (fun k_ hk=>⟨hk.2.1,hk.2.2.1⟩)) (Kd.R_mono (Kd.R_lower Y1.out ZC.out) (fun k_ hk=>⟨hk.2.1,hk.2.2.1⟩)) NE.out
         case aQ=>exact fun k_ hk=>⟨(rcl_old hk.2).trans (rcl_new hk.1),fun e=>by have:=((Kd.S_R SL13.out).1 k_ e.symm).2;have:=hk.1;omega⟩
         case aO=>exact Kd.S_mono SL13.out (fun k_ hk=>⟨(rcl_old (Nat.lt_of_lt_of_le hk.2 ZW.out)).trans ((rcl_old hk.2).trans hk.1),fun h_=>by have:=hk.2;have:=h_.1;omega⟩)
         intro v1 wb ho hb hg hat
         obtain ⟨An1,cn1,en1⟩:=Kd.S_slice ho
         subst en1
         have HO19:=(B_gr HH.out.hO HH.out.cO hg (Kd.S_R HH.out.hL).1 (by decide)).1
         have HC3:=Aside0.mk (B_gr BL.out HC.out hg (Kd.S_R HH.out.hL).1 (by decide))
         have HP:=HH.out.putL hg ho
         have HB2:=Aside0.mk hb
         refine hK.out _ _ ?_
         clear hK K ho hb hg hat SL13 Y0 Y1 BX NE GX
         refine no_ (some 75) ?_
         refine pu_ 8 (some 76) (bl_ 11 511) HT_ ?_
         refine pu_ 9 (some 77) (bl_ 11 1023) HT_ ?_
         refine last_ (i:=10) (N:=none) (bl_ 11 2047) rfl rfl (one_of HT_.out (by kernel_rfl)) (by decide) (fun K hK=>?_)
         have hs19:wb.cell? ⟨gO,0,none⟩ = some (.slice (some adx) s'.L.length cL'):=(blk_cell HO19 0).trans rfl
         have hf19:=blk_frozen HO19 0
         refine skip_ (w1:=wb.setCell ⟨gO,0,none⟩ (.slice An1 (s'.L ++ [(⟨y1',y2'⟩:S33)]).length cn1)) (by rfl) rfl ?_ ?_
         ·go_simp
         refine hK.out _ _ ?_
         clear hK K hs19 hf19
         refine done_ (done_of HT_.out (by kernel_rfl)) ?_
         have hne_:gl≠gO:=fun e=>by have a1:=HC3.out.2;have a2:=HP.cO;rw [e] at a1;omega
         have HB3:=Aside0.mk (below_set (g:=gO) (j:=0) (v:=(.slice An1 (s'.L ++ [(⟨y1',y2'⟩:S33)]).length cn1)) HB2.out HP.bO)
         have BL2:=Aside0.mk (put_far HC3.out.1 hne_ 0 (.slice An1 (s'.L ++ [(⟨y1',y2'⟩:S33)]).length cn1))
         have HCN:=HC3.out.2
         clear HH BL HB HC HC3 HB2 HO19
         generalize hwc:wb.setCell ⟨gO,0,none⟩ (.slice An1 (s'.L ++ [(⟨y1',y2'⟩:S33)]).length cn1) = wc at HP HB3 BL2 ⊢
         clear hwc
         obtain ⟨colwc,hh_,hc_⟩:∃ c_,OrbH w.heap.size c_ wc gO gM n' _ _ _ _ _ _ _∧c_ gl = 8:=⟨_,HP,HCN⟩
         have HH:=Aside0.mk hh_;have HC:=Aside0.mk hc_;have BL:=BL2;have HB:=HB3
         clear hh_ hc_ BL2 HB3 HP HCN hne_
         obtain ⟨AW,cW,eW⟩:=Kd.R_slice HH.out.hW
         subst eW
         go_upto_region 18 with (fail)
         replace HH:=Aside0.mk (HH.out.below (below_drew1 (Below.refl _ _)))
         replace BL:=Aside0.mk (blk_drew BL.out)
         replace HB:=Aside0.mk (below_drew1 HB.out)
         obtain ⟨adw,ew,hxw⟩:=Kd.at_string (Kd.R_reads' HH.out.hW).2.2 x7 hi0 hiW
         cases ew
         have tw1:=eq_true hiW
         have tw2:=decide_eq_true hiW
         refine start_ (n:=21) (S:=fun w'=>w'.cell? ⟨gO,1,none⟩ = some (.slice (some adw) s'.W.length cW)∧w'.cell? (adw.add (x7).toNat) = some (.string (rdOf ByteArray.empty s'.W x7))) (ds:=[17,20]) (bl_ 21 0) (by kernel_rfl) rfl (by kernel_rfl) ⟨(blk_cell HH.out.hO 1).trans rfl,hxw⟩ (fun hHeld=>?_)
         refine with_tabW orb_tab18 orb_bits18 (fun HT_ HW_=>?_)
         clear hxw
         generalize wc.drew = wd at HH BL HB hHeld ⊢
         refine pu_ 0 (some 78) (bl_ 21 1) HT_ ?_
         refine pu_ 1 (some 79) (bl_ 21 3) HT_ ?_
         refine pu_ 2 (some 80) (bl_ 21 7) HT_ ?_
         refine pu_ 3 (some 81) (bl_ 21 15) HT_ ?_
         refine ta_ 4 (some 82) (bl_ 21 31) HT_ HW_ hHeld ?_
         refine pu_ 5 (some 83) (bl_ 21 63) HT_ ?_
         refine pu_ 6 (some 84) (bl_ 21 127) HT_ ?_
         refine pu_ 7 (some 85) (bl_ 21 255) HT_ ?_
         refine ta_ 8 (some 86) (bl_ 21 511) HT_ HW_ hHeld ?_
         refine pu_ 9 (some 87) (bl_ 21 1023) HT_ ?_
         refine pu_ 10 (some 88) (bl_ 21 2047) HT_ ?_
         refine ta_ 11 (some 89) (bl_ 21 4095) HT_ HW_ hHeld ?_
         refine pu_ 12 (some 90) (bl_ 21 8191) HT_ ?_
         refine on_ 13 (some 91) (bl_ 21 16383) HT_ (fun K hK=>?_)
         refine Kd.R_lit_step (Kd.int .u8) _ 5 ?hg (N:=91) ?hd (xs:=([84]:List Int)) (inner:=[.int .u8 84]) (ok:=fun _=>True) (okp:=fun _=>True) ?hr ?hp (fun _ hk=>hk) trivial (Below.refl _ _) (Nat.le_refl _) (by simp) ?_;(case hd=>rfl);(case hg=>rfl);(case hr=>first | (go_simp;done) | (go_simp;rfl));(case hp=>exact (Reps.one (show Kd.M (Kd.int .u8) _ _ _ 84 [.int .u8 84] from rfl) (Reps.none _ _)))
         intro vq we hoq hb hg_ hnew_
         have hS1_:=(hb.cell (World.block_lt_of_cell? _ _ hHeld.1)).trans hHeld.1
         have hS2_:=(hb.cell (World.block_lt_of_cell? _ _ hHeld.2)).trans hHeld.2
         replace HH:=Aside0.mk (HH.out.below hb)
         replace BL:=bb_ BL hb
         replace HB:=b1_ hb
         have HOq:=Aside0.mk hoq
         clear hg_ hnew_ hb hoq
         refine hK.out _ _ ⟨hS1_,hS2_⟩ (fun hHeld=>?_)
         clear hK K hS1_ hS2_
         refine no_ (some 91) ?_
         refine on_ 14 (some 92) (bl_ 21 32767) HT_ (fun K hK=>?_)
         have hcv47:=own_string (P:=Try.prog) Try.underlying22 Try.underlying5 Try.underlying9 (Kd.own_of_R HOq.out)
         refine value_ (w1:=?_) (v:=?_) (by rfl) rfl ?_ ?_
         rotate_left 2
         ·go_simp
          constructor
          ·rfl
          ·rfl
         clear hcv47 HOq
         refine hK.out _ _ hHeld (fun hHeld=>?_)
         clear hK K
         refine no_ (some 92) ?_
         have hs1_:(strOfNums [(84:Int)]).size = 1:=by decide +kernel
         have tw3:(9223372036854775807 < (rdOf ByteArray.empty s'.W x7).size + (strOfNums [(84:Int)]).size) = False:=eq_false (by rw [hs1_];have:=LS.out;omega)
         clear hs1_
         refine pu_ 15 (some 93) (bl_ 21 65535) HT_ ?_
         clear tw3
         refine on_ 16 (some 94) (bl_ 21 131071) HT_ (fun K hK=>?_)
         refine value_ (w1:=?_) (v:=?_) (by rfl) rfl ?_ ?_
         rotate_left 2
         ·go_simp
          constructor
          ·rfl
          ·rfl
         refine hK.out _ _ ⟨((below_alloc (Below.refl _ _) _).cell (World.block_lt_of_cell? _ _ hHeld.1)).trans hHeld.1,((below_alloc (Below.refl _ _) _).cell (World.block_lt_of_cell? _ _ hHeld.2)).trans hHeld.2⟩ (fun hHeld=>?_)
         clear hK K
         refine no_ (some 94) ?_
         refine last_ (i:=17) (N:=some 95) (bl_ 21 262143) rfl rfl (one_of HT_.out (by kernel_rfl)) (by decide) (fun K hK=>?_)
         refine Kd.R_append_step Kd.string (w0:=w) w.heap.size (by rfl) (.tmp 82) (.tmp 94) 94 9 (.string ⟨#[]⟩) 16 rfl Try.underlying94 info9 rfl (by decide) (by omega) (.slice (some adw) s'.W.length cW) s'.W ((rdOf ByteArray.empty s'.W x7) ++ (strOfNums [84])) [.string ((rdOf ByteArray.empty s'.W x7) ++ (strOfNums [84]))] (fun k_=>rcl we.heap.size colwc 1 k_ = 1) (fun _=>False) rfl rfl rfl (fun _ hk=>hk.elim) (fun k_ hk=>rcl_new hk) (R_col HH.out.hW (fun k_ hk=>rcl_old hk)) HB.out HB.out.size (by have:=LN.out;omega) ?_
         intro v2 wf ho hb hg hat
         obtain ⟨An2,cn2,en2⟩:=Kd.R_slice ho
         subst en2
         have HO19:=(B_gr HH.out.hO HH.out.cO hg HH.out.hW.1 (by decide)).1
         have HC3:=Aside0.mk (B_gr BL.out HC.out hg HH.out.hW.1 (by decide))
         have HP:=HH.out.putW hg ho
         have HB2:=Aside0.mk hb
         refine hK.out _ _ ?_
         clear hK K ho hb hg hat
         refine no_ (some 95) ?_
         refine pu_ 18 (some 96) (bl_ 21 524287) HT_ ?_
         refine pu_ 19 (some 97) (bl_ 21 1048575) HT_ ?_
         refine last_ (i:=20) (N:=none) (bl_ 21 2097151) rfl rfl (one_of HT_.out (by kernel_rfl)) (by decide) (fun K hK=>?_)
         have hs19:wf.cell? ⟨gO,1,none⟩ = some (.slice (some adw) s'.W.length cW):=(blk_cell HO19 1).trans rfl
         have hf19:=blk_frozen HO19 1
         refine skip_ (w1:=wf.setCell ⟨gO,1,none⟩ (.slice An2 (s'.W ++ [(rdOf ByteArray.empty s'.W x7) ++ (strOfNums [84])]).length cn2)) (by rfl) rfl ?_ ?_
         ·go_simp
         refine hK.out _ _ ?_
         clear hK K hs19 hf19
         refine done_ (done_of HT_.out (by kernel_rfl)) ?_
         have hne_:gl≠gO:=fun e=>by have a1:=HC3.out.2;have a2:=HP.cO;rw [e] at a1;omega
         have HB3:=Aside0.mk (below_set (g:=gO) (j:=1) (v:=(.slice An2 (s'.W ++ [(rdOf ByteArray.empty s'.W x7) ++ (strOfNums [84])]).length cn2)) HB2.out HP.bO)
         have BL2:=Aside0.mk (put_far HC3.out.1 hne_ 1 (.slice An2 (s'.W ++ [(rdOf ByteArray.empty s'.W x7) ++ (strOfNums [84])]).length cn2))
         have HCN:=HC3.out.2
         clear HH BL HB HC HC3 HB2 HO19
         generalize hwc:wf.setCell ⟨gO,1,none⟩ (.slice An2 (s'.W ++ [(rdOf ByteArray.empty s'.W x7) ++ (strOfNums [84])]).length cn2) = wg at HP HB3 BL2 ⊢
         clear hwc
         obtain ⟨colwg,hh_,hc_⟩:∃ c_,OrbH w.heap.size c_ wg gO gM n' _ _ _ _ _ _ _∧c_ gl = 8:=⟨_,HP,HCN⟩
         have HH:=Aside0.mk hh_;have HC:=Aside0.mk hc_;have BL:=BL2;have HB:=HB3
         clear hh_ hc_ BL2 HB3 HP HCN hne_
         obtain ⟨AF,cF,eF⟩:=Kd.R_slice HH.out.hF
         subst eF
         go_upto_region 19 with (fail)
         have hco_:wg.cell? ⟨gO,2,none⟩ = some (.slice AF s'.F.length cF):=(blk_cell HH.out.hO 2).trans rfl
         have hfo_:=blk_frozen HH.out.hO 2
         go_upto_region 20 with (first | ((with_reducible refine gate_builtin (b:=.append) (xs:=#[.tmp 102,.tmp 104]) rfl ?_);at_builtin;refine Kd.R_append (Kd.int .i64) (w0:=w) w.heap.size rfl (.tmp 102) (.tmp 104) 23 3 (.int .i64 0) 8 rfl Try.underlying23 info3 rfl (by decide) (by omega) (.slice AF s'.F.length cF) s'.F (x7) [.int .i64 (x7)] (fun k_=>rcl wg.heap.size colwg 2 k_ = 2) (fun _=>False) rfl rfl rfl (fun _ hk=>hk.elim) (fun k_ hk=>rcl_new hk) (R_col HH.out.hF (fun k_ hk=>rcl_old hk)) HB.out HB.out.size (by have:=LN.out;omega) ?_;intro v3 wh ho hb hg hat;obtain ⟨Anv3,cnv3,env3⟩:=Kd.R_slice ho;subst env3;rw [List.length_append,List.length_singleton] at ho;have HO19:=(B_gr HH.out.hO HH.out.cO hg HH.out.hF.1 (by decide)).1;have HC3:=Aside0.mk (B_gr BL.out HC.out hg HH.out.hF.1 (by decide));have HP:=HH.out.putF hg ho;have HB2:=Aside0.mk hb;clear ho hb hg hat hco_ hfo_;have hs19:wh.cell? ⟨gO,2,none⟩ = some (.slice AF s'.F.length cF):=(blk_cell HO19 2).trans rfl;have hf19:=blk_frozen HO19 2))
         clear hs19 hf19
         have hne_:gl≠gO:=fun e=>by have a1:=HC3.out.2;have a2:=HP.cO;rw [e] at a1;omega
         have HB3:=Aside0.mk (below_set (g:=gO) (j:=2) (v:=(.slice Anv3 (s'.F.length + 1) cnv3)) HB2.out HP.bO)
         have BL2:=Aside0.mk (put_far HC3.out.1 hne_ 2 (.slice Anv3 (s'.F.length + 1) cnv3))
         have HCN:=HC3.out.2
         clear HH BL HB HC HC3 HB2 HO19
         generalize hwc:wh.setCell ⟨gO,2,none⟩ (.slice Anv3 (s'.F.length + 1) cnv3) = wi at HP HB3 BL2 ⊢
         clear hwc
         obtain ⟨colwi,hh_,hc_⟩:∃ c_,OrbH w.heap.size c_ wi gO gM n' _ _ _ _ _ _ _∧c_ gl = 8:=⟨_,HP,HCN⟩
         have HH:=Aside0.mk hh_;have HC:=Aside0.mk hc_;have BL:=BL2;have HB:=HB3
         clear hh_ hc_ BL2 HB3 HP HCN hne_
         obtain ⟨AB,cB,eB⟩:=Kd.R_slice HH.out.hB
         subst eB
         have hco_:wi.cell? ⟨gO,3,none⟩ = some (.slice AB s'.B.length cB):=(blk_cell HH.out.hO 3).trans rfl
         have hfo_:=blk_frozen HH.out.hO 3
         go_upto_region 21 with (first | ((with_reducible refine gate_builtin (b:=.append) (xs:=#[.tmp 112,.tmp 114]) rfl ?_);at_builtin;refine Kd.R_append (Kd.int .u8) (w0:=w) w.heap.size rfl (.tmp 112) (.tmp 114) 22 5 (.int .u8 0) 1 rfl Try.underlying22 info5 rfl (by decide) (by omega) (.slice AB s'.B.length cB) s'.B (84) [.int .u8 (84)] (fun k_=>rcl wi.heap.size colwi 3 k_ = 3) (fun _=>False) rfl rfl rfl (fun _ hk=>hk.elim) (fun k_ hk=>rcl_new hk) (R_col HH.out.hB (fun k_ hk=>rcl_old hk)) HB.out HB.out.size (by have:=LN.out;omega) ?_;intro v4 wj ho hb hg hat;obtain ⟨Anv4,cnv4,env4⟩:=Kd.R_slice ho;subst env4;rw [List.length_append,List.length_singleton] at ho;have HO19:=(B_gr HH.out.hO HH.out.cO hg HH.out.hB.1 (by decide)).1;have HC3:=Aside0.mk (B_gr BL.out HC.out hg HH.out.hB.1 (by decide));have HP:=HH.out.putB hg ho;have HB2:=Aside0.mk hb;clear ho hb hg hat hco_ hfo_;have hs19:wj.cell? ⟨gO,3,none⟩ = some (.slice AB s'.B.length cB):=(blk_cell HO19 3).trans rfl;have hf19:=blk_frozen HO19 3))
         clear hs19 hf19
         have hne_:gl≠gO:=fun e=>by have a1:=HC3.out.2;have a2:=HP.cO;rw [e] at a1;omega
         have HB3:=Aside0.mk (below_set (g:=gO) (j:=3) (v:=(.slice Anv4 (s'.B.length + 1) cnv4)) HB2.out HP.bO)
         have BL2:=Aside0.mk (put_far HC3.out.1 hne_ 3 (.slice Anv4 (s'.B.length + 1) cnv4))
         have HCN:=HC3.out.2
         clear HH BL HB HC HC3 HB2 HO19
         generalize hwc:wj.setCell ⟨gO,3,none⟩ (.slice Anv4 (s'.B.length + 1) cnv4) = wk at HP HB3 BL2 ⊢
         clear hwc
         obtain ⟨colwk,hh_,hc_⟩:∃ c_,OrbH w.heap.size c_ wk gO gM n' _ _ _ _ _ _ _∧c_ gl = 8:=⟨_,HP,HCN⟩
         have HH:=Aside0.mk hh_;have HC:=Aside0.mk hc_;have BL:=BL2;have HB:=HB3
         clear hh_ hc_ BL2 HB3 HP HCN hne_
         generalize hcc:colwk = colc at HH HC
         clear hcc
         go_upto_region 21 with (fail)
         replace HH:=Aside0.mk (HH.out.below (below_drew1 (Below.refl _ _)))
         replace BL:=Aside0.mk (blk_drew BL.out)
         replace HB:=Aside0.mk (below_drew1 HB.out)
         refine start_ (n:=15) (S:=fun w'=>w'.cell? ⟨gO,4,none⟩ = some (.map (some gM))∧w'.heap[gM]? = some (mapO n' vT' vS')) (ds:=[14]) (bl_ 15 0) (by kernel_rfl) rfl (by kernel_rfl) ⟨(blk_cell HH.out.hO 4).trans rfl,HH.out.hM⟩ (fun hHeld=>?_)
         refine with_tabW orb_tab21 orb_bits21 (fun HT_ HW_=>?_)
         generalize wk.drew = wl at HH BL HB hHeld ⊢
         refine pu_ 0 (some 118) (bl_ 15 1) HT_ ?_
         refine pu_ 1 (some 119) (bl_ 15 3) HT_ ?_
         refine pu_ 2 (some 120) (bl_ 15 7) HT_ ?_
         refine ta_ 3 (some 121) (bl_ 15 15) HT_ HW_ hHeld ?_
         refine pu_ 4 (some 122) (bl_ 15 31) HT_ ?_
         refine pu_ 5 (some 123) (bl_ 15 63) HT_ ?_
         refine pu_ 6 (some 124) (bl_ 15 127) HT_ ?_
         refine pu_ 7 (some 125) (bl_ 15 255) HT_ ?_
         refine ta_ 8 (some 126) (bl_ 15 511) HT_ HW_ hHeld ?_
         refine pu_ 9 (some 127) (bl_ 15 1023) HT_ ?_
         have hlk:∀ w',w'.heap[gM]? = some (mapO n' vT' vS')→(Instr.lookup 95 (.map (some gM)) (.int .u8 84) false).run Try.prog w' = .ok vT' w':=fun w' h_=>by
          have hn:=hn0.out
          have:=look_T h_ (by omega)
          rw [HH.out.look.1] at this
          exact this
         refine ta_ 10 (some 128) (v:=vT') (bl_ 15 2047) HT_ HW_ hHeld ?_ (hy:=Or.inl ⟨by rfl,fun w' hs_=>?_⟩)
         rotate_left
         ·have hq:=hlk w' hs_.2
          go_simp
         clear hlk
         refine pu_ 11 (some 129) (bl_ 15 4095) HT_ ?_
         refine on_ 12 (some 130) (bl_ 15 8191) HT_ (fun K hK=>?_)
         refine value_ (w1:=?_) (v:=?_) (by rfl) rfl ?_ ?_
         rotate_left 2
         ·go_simp
          constructor
          ·rfl
          ·rfl
         refine hK.out _ _ ⟨((below_alloc (Below.refl _ _) _).cell (World.block_lt_of_cell? _ _ hHeld.1)).trans hHeld.1,blk_alloc hHeld.2 _⟩ (fun hHeld=>?_)
         clear hK K
         refine no_ (some 130) ?_
         refine on_ 13 (some 131) (bl_ 15 16383) HT_ (fun K hK=>?_)
         refine Kd.R_append_step (Kd.int .i64) (w0:=w) w.heap.size (by rfl) (.tmp 128) (.tmp 130) 23 3 (.int .i64 0) 8 rfl Try.underlying23 info3 rfl (by decide) (by omega) vT' s'.T ((s'.L.length:Int)) [.int .i64 ((s'.L.length:Int))] (fun k_=>rcl wl.heap.size colc 4 k_ = 4) (fun _=>False) rfl rfl rfl (fun _ hk=>hk.elim) (fun k_ hk=>rcl_new hk) (R_col HH.out.hT (fun k_ hk=>rcl_old hk)) HB.out HB.out.size (by have:=LN.out;omega) ?_
         intro v1 wlb ho hb hg hat
         have HP:=HH.out.putT hg ho
         have HM:=Aside0.mk HP.1
         have HO19:=(B_gr HH.out.hO HH.out.cO hg HH.out.hT.1 (by decide)).1
         have HC3:=Aside0.mk (B_gr BL.out HC.out hg HH.out.hT.1 (by decide))
         replace HH:=Aside0.mk HP.2
         clear HP
         have HB2:=Aside0.mk hb
         refine hK.out _ _ ⟨(blk_cell HO19 4).trans rfl,HM.out⟩ (fun hHeld=>?_)
         clear hK K ho hb hg hat HO19
         refine no_ (some 131) ?_
         refine last_ (i:=14) (N:=none) (bl_ 15 32767) rfl rfl (one_of HT_.out (by kernel_rfl)) (by decide) (fun K hK=>?_)
         have hput:(Instr.mapUpdate 95 (.map (some gM)) (.int .u8 84) v1).run Try.prog wlb = .ok () (setMap wlb gM (max n' 1) v1 vS'):=put_T HM.out hn0.out v1
         refine skip_ (w1:=setMap wlb gM (max n' 1) v1 vS') (by rfl) rfl ?_ ?_
         ·go_simp
         refine hK.out _ _ ?_
         clear hK K hput
         refine done_ (done_of HT_.out (by kernel_rfl)) ?_
         try go_wp2
         have hgm:gl≠gM:=fun e=>by have a1:=HC3.out.2;have a2:=HH.out.cM;rw [e] at a1;omega
         have BL2:=Aside0.mk ((setMap_far (n:=max n' 1) v1 vS' hgm).trans HC3.out.1)
         have HB3:=Aside0.mk (setMap_below (n:=max n' 1) v1 vS' HB2.out HH.out.bM)
         go_roundg 1
         case measure=>have:=HG.out;omega
         case rel=>exact ⟨1,max n' 1,_,_,_,_,_,_,_,_,(by first | rfl | (simp;done) | (simp [*];done)),⟨by omega⟩,⟨by omega⟩,HT,⟨⟨fun e=>absurd e (by decide),fun _=>by have:=hn0.out;omega,fun e=>absurd e (by decide)⟩⟩,⟨HC3.out.2⟩,BL2,HH,HB3⟩
       ·have H:=HS.out
        clear HS
        rw [if_neg hj0] at H
        have hjb:=decide_eq_false hj0
        have hlen:=cp_ H
        replace H:=Option.some.inj (ca_ H)
        subst H
        rw [if_pos rfl,if_pos rfl] at HT
        have LN:=Aside0.mk hlen
        clear hlen SL13 Y0 Y1 BX NE GX
        generalize hcc:rcl w13.heap.size col' 0 = colc at HH HC
        clear hcc
        go_upto_region 21 with (fail)
        replace HH:=Aside0.mk (HH.out.below (below_drew1 (Below.refl _ _)))
        replace BL:=Aside0.mk (blk_drew BL.out)
        replace HB:=Aside0.mk (below_drew1 HB.out)
        refine start_ (n:=15) (S:=fun w'=>w'.cell? ⟨gO,4,none⟩ = some (.map (some gM))∧w'.heap[gM]? = some (mapO n' vT' vS')) (ds:=[14]) (bl_ 15 0) (by kernel_rfl) rfl (by kernel_rfl) ⟨(blk_cell HH.out.hO 4).trans rfl,HH.out.hM⟩ (fun hHeld=>?_)
        refine with_tabW orb_tab21 orb_bits21 (fun HT_ HW_=>?_)
        generalize w17.drew = w18 at HH BL HB hHeld ⊢
        refine pu_ 0 (some 118) (bl_ 15 1) HT_ ?_
        refine pu_ 1 (some 119) (bl_ 15 3) HT_ ?_
        refine pu_ 2 (some 120) (bl_ 15 7) HT_ ?_
        refine ta_ 3 (some 121) (bl_ 15 15) HT_ HW_ hHeld ?_
        refine pu_ 4 (some 122) (bl_ 15 31) HT_ ?_
        refine pu_ 5 (some 123) (bl_ 15 63) HT_ ?_
        refine pu_ 6 (some 124) (bl_ 15 127) HT_ ?_
        refine pu_ 7 (some 125) (bl_ 15 255) HT_ ?_
        refine ta_ 8 (some 126) (bl_ 15 511) HT_ HW_ hHeld ?_
        refine pu_ 9 (some 127) (bl_ 15 1023) HT_ ?_
        have hlk:∀ w',w'.heap[gM]? = some (mapO n' vT' vS')→(Instr.lookup 95 (.map (some gM)) (.int .u8 84) false).run Try.prog w' = .ok vT' w':=fun w' h_=>by
         have hn:=hn0.out
         have:=look_T h_ (by omega)
         rw [HH.out.look.1] at this
         exact this
        refine ta_ 10 (some 128) (v:=vT') (bl_ 15 2047) HT_ HW_ hHeld ?_ (hy:=Or.inl ⟨by rfl,fun w' hs_=>?_⟩)
        rotate_left
        ·have hq:=hlk w' hs_.2
         go_simp
        clear hlk
        refine pu_ 11 (some 129) (bl_ 15 4095) HT_ ?_
        refine on_ 12 (some 130) (bl_ 15 8191) HT_ (fun K hK=>?_)
        refine value_ (w1:=?_) (v:=?_) (by rfl) rfl ?_ ?_
        rotate_left 2
        ·go_simp
         constructor
         ·rfl
         ·rfl
        refine hK.out _ _ ⟨((below_alloc (Below.refl _ _) _).cell (World.block_lt_of_cell? _ _ hHeld.1)).trans hHeld.1,blk_alloc hHeld.2 _⟩ (fun hHeld=>?_)
        clear hK K
        refine no_ (some 130) ?_
        refine on_ 13 (some 131) (bl_ 15 16383) HT_ (fun K hK=>?_)
        refine Kd.R_append_step (Kd.int .i64) (w0:=w) w.heap.size (by rfl) (.tmp 128) (.tmp 130) 23 3 (.int .i64 0) 8 rfl Try.underlying23 info3 rfl (by decide) (by omega) vT' s'.T (j) [.int .i64 (j)] (fun k_=>rcl w18.heap.size colc 4 k_ = 4) (fun _=>False) rfl rfl rfl (fun _ hk=>hk.elim) (fun k_ hk=>rcl_new hk) (R_col HH.out.hT (fun k_ hk=>rcl_old hk)) HB.out HB.out.size (by have:=LN.out;omega) ?_
        intro v1 w18b ho hb hg hat
        have HP:=HH.out.putT hg ho
        have HM:=Aside0.mk HP.1
        have HO19:=(B_gr HH.out.hO HH.out.cO hg HH.out.hT.1 (by decide)).1
        have HC3:=Aside0.mk (B_gr BL.out HC.out hg HH.out.hT.1 (by decide))
        replace HH:=Aside0.mk HP.2
        clear HP
        have HB2:=Aside0.mk hb
        refine hK.out _ _ ⟨(blk_cell HO19 4).trans rfl,HM.out⟩ (fun hHeld=>?_)
        clear hK K ho hb hg hat HO19
        refine no_ (some 131) ?_
        refine last_ (i:=14) (N:=none) (bl_ 15 32767) rfl rfl (one_of HT_.out (by kernel_rfl)) (by decide) (fun K hK=>?_)
        have hput:(Instr.mapUpdate 95 (.map (some gM)) (.int .u8 84) v1).run Try.prog w18b = .ok () (setMap w18b gM (max n' 1) v1 vS'):=put_T HM.out hn0.out v1
        refine skip_ (w1:=setMap w18b gM (max n' 1) v1 vS') (by rfl) rfl ?_ ?_
        ·go_simp
        refine hK.out _ _ ?_
        clear hK K hput
        refine done_ (done_of HT_.out (by kernel_rfl)) ?_
        try go_wp2
        have hgm:gl≠gM:=fun e=>by have a1:=HC3.out.2;have a2:=HH.out.cM;rw [e] at a1;omega
        have BL2:=Aside0.mk ((setMap_far (n:=max n' 1) v1 vS' hgm).trans HC3.out.1)
        have HB3:=Aside0.mk (setMap_below (n:=max n' 1) v1 vS' HB2.out HH.out.bM)
        go_roundg 1
        case measure=>have:=HG.out;omega
        case rel=>exact ⟨1,max n' 1,_,_,_,_,_,_,_,_,(by first | rfl | (simp;done) | (simp [*];done)),⟨by omega⟩,⟨by omega⟩,HT,⟨⟨fun e=>absurd e (by decide),fun _=>by have:=hn0.out;omega,fun e=>absurd e (by decide)⟩⟩,⟨HC3.out.2⟩,BL2,HH,HB3⟩
      ·skip
       have hn0:=Aside0.mk (HN.out.2.1 rfl)
       have H:=AZ.out
       clear AZ
       change innerO k1 x7 (83 :: []) s' = some z at H
       simp only [innerO] at H
       obtain ⟨zz,AS,H⟩:=bi_ H
       have HT:=Aside0.mk H
       have H:=AS.out
       clear AS
       unfold stpO at H
       have hi0:=cp_ H
       replace H:=ca_ H
       have hi1:=cp_ H
       replace H:=ca_ H
       obtain ⟨⟨x1,x2⟩,AX,H⟩:=bi_ H
       obtain ⟨⟨y1',y2',yb⟩,AY,H⟩:=bi_ H
       obtain ⟨j,AJ,H⟩:=bi_ H
       dsimp only at H AY AJ
       have HS:=Aside0.mk H
       clear H
       obtain ⟨adx,Ax0,cx0,Ax1,cx1,ex,hx0,hx1,hlx0,hix0,hlx1,hix1⟩:=at_T33 (Kd.S_reads' HH.out.hL).2.2 x7 hi0 hi1
       cases ex
       have X0:=Aside0.mk hix0;have X1:=Aside0.mk hix1;have LX0:=Aside0.mk hlx0;have LX1:=Aside0.mk hlx1
       clear hix0 hix1 hlx0 hlx1
       have ti0:=eq_true hi0
       have ti1:=eq_true hi1
       have td1:=decide_eq_true hi1
       go_upto_region 12 with (first | ((with_reducible refine gate_callee (f:=70) rfl ?_);refine gL_ (some 52) Try.func70 #[.agg #[.slice Ax0 (rd_T33 s'.L x7).f0.length cx0,.slice Ax1 (rd_T33 s'.L x7).f1.length cx1],.int .u8 83] rfl qa_ ?_;(with_reducible refine (Z9.calls k1 _ _ (rd_T33 s'.L x7).f0 _ _ (rd_T33 s'.L x7).f1 83 x1 x2 _ X0.out LX0.out X1.out LX1.out AX.out).mono ?_);rintro e w13 ⟨v0,v1,rfl,ho0,ho1,hb⟩;refine ⟨_,rfl,?_⟩;replace HH:=Aside0.mk (HH.out.below hb);replace BL:=bb_ BL hb;replace HB:=b1_ hb;clear hb;obtain ⟨Al0,cl0,el0⟩:=Kd.R_slice ho0;subst el0;obtain ⟨Al1,cl1,el1⟩:=Kd.R_slice ho1;subst el1;have LT0:=Aside0.mk (Kd.R_reads' ho0).2;have LT1:=Aside0.mk (Kd.R_reads' ho1).2;clear ho0 ho1) | ((with_reducible refine gate_callee (f:=17) rfl ?_);refine gL_ (some 53) Try.func17 #[.agg #[.slice Al0 x1.length cl0,.slice Al1 x2.length cl1]] rfl qa_ ?_;(with_reducible refine (Z59.calls k1 _ _ x1 _ _ x2 y1' y2' yb _ LT0.out.2 LT0.out.1 LT1.out.2 LT1.out.1 AY.out).mono ?_);rintro e w14 ⟨v0,v1,rfl,ho0,ho1,hb⟩;refine ⟨_,rfl,?_⟩;have ZC:=Aside0.mk (below_size hB_:w.heap.size≤w13.heap.size);have ZD:=Aside0.mk hb.size;have SL13:=Aside0.mk (Kd.S_below (Kd.S_mono (ok':=fun k_=>col' k_ = 0∧k_ < w13.heap.size) (Kd.S_bound HH.out.hL) (fun k_ hk_=>⟨hk_.1,hk_.2.2.1⟩)) hb);replace HH:=Aside0.mk ((HH.out.recol (col':=rcl w13.heap.size col' 0) (fun k hk=>rcl_old hk)).below hb);replace HC:=Aside0.mk ((rcl_old (blk_lt BL.out)).trans HC.out:rcl w13.heap.size col' 0 gl = 8);replace BL:=bb_ BL hb;replace HB:=b1_ hb;clear hb;obtain ⟨Ay0,cy0,ey0⟩:=Kd.R_slice ho0;subst ey0;obtain ⟨Ay1,cy1,ey1⟩:=Kd.R_slice ho1;subst ey1;have Y0:=Aside0.mk ho0;have Y1:=Aside0.mk ho1;clear ho0 ho1) | ((with_reducible refine gate_dst (N:=10) rfl ?_);refine bx_ 10 #[.slice none 0 0,.slice none 0 0] 33 ?_;intro gx hg w15 hbox hb;have GX:=Aside0.mk (show w14.heap.size≤gx from Nat.le_of_eq hg.symm);have BX:=Aside0.mk hbox;have B3:=Aside0.mk hb;clear hb hbox hg;obtain ⟨hcf0,hcf1,hff0,hff1⟩:=c2_ BX))
       obtain ⟨hbox,hkp,hB2⟩:=box_store (w0:=w14) BX.out (.slice Ay0 y1'.length cy0) (.slice Ay1 y2'.length cy1) B3.out GX.out
       generalize hw:((w15.setCell ⟨gx,0,none⟩ (.slice Ay0 y1'.length cy0)).setCell ⟨gx,1,none⟩ (.slice Ay1 y2'.length cy1)) = w16 at hbox hkp hB2 ⊢
       clear hw hcf0 hcf1 hff0 hff1 hcl0 hcl1 hfl0 hfl1 hco0 hfo0 hx0 hx1 X0 X1 LX0 LX1 LT0 LT1
       have NE:=Aside0.mk (show NeRow (.slice Ay0 y1'.length cy0) (.slice Ay1 y2'.length cy1) from fun k_ e1_ e2_=>(Y0.out.1 k_ e1_) e2_.symm)
       replace HH:=Aside0.mk (HH.out.below hB2)
       replace BL:=Aside0.mk (blk_below BL.out hB2)
       replace Y0:=Aside0.mk (Kd.R_below (Kd.R_bound Y0.out) hB2)
       replace Y1:=Aside0.mk (Kd.R_below (Kd.R_bound Y1.out) hB2)
       replace SL13:=Aside0.mk (Kd.S_below SL13.out hB2)
       replace HB:=Aside0.mk (below_step HB.out hB2)
       replace BX:=Aside0.mk (show w16.heap[gx]? = some (.cells #[.slice Ay0 y1'.length cy0,.slice Ay1 y2'.length cy1] 33 (0,0)) from hbox)
       have ZE:=Aside0.mk hB2.size
       clear hbox hkp hB2 B3
       obtain ⟨hcx0,hcx1,hfx0,hfx1⟩:=c2_ BX
       have hLr:=(Kd.S_reads' HH.out.hL).2
       have RL:=Aside0.mk hLr
       clear hLr
       go_upto_region 13 with (first | ((with_reducible refine gate_callee (f:=133) rfl ?_);refine gL_ (some 58) Try.func133 #[.pointer (some ⟨gO,0,none⟩),.agg #[.slice Ay0 y1'.length cy0,.slice Ay1 y2'.length cy1]] rfl qa_ ?_;(with_reducible refine (index_calls k1 gO _ _ s'.L _ _ _ _ _ _ y1' _ _ y2' j _ RL.out.2 RL.out.1 (Kd.R_reads' Y0.out).2.2 (Kd.R_reads' Y0.out).2.1 (Kd.R_reads' Y1.out).2.2 (Kd.R_reads' Y1.out).2.1 HH.out.hO AJ.out).mono ?_);rintro e w17 ⟨rfl,hb⟩;refine ⟨_,rfl,?_⟩;have ZF:=Aside0.mk hb.size;replace HH:=Aside0.mk (HH.out.below hb);replace BL:=bb_ BL hb;replace BX:=bb_ BX hb;replace Y0:=Aside0.mk (Kd.R_below Y0.out hb);replace Y1:=Aside0.mk (Kd.R_below Y1.out hb);replace SL13:=Aside0.mk (Kd.S_below SL13.out hb);replace HB:=b1_ hb;clear hb))
       clear hcx0 hcx1 hfx0 hfx1 RL
       have ZW:=Aside0.mk (show w13.heap.size≤w17.heap.size from Nat.le_trans ZD.out (Nat.le_trans ZE.out ZF.out))
       clear ZD ZE ZF
       by_cases hj0:j < 0
       ·have H:=HS.out
        clear HS
        rw [if_pos hj0] at H
        have hjb:=decide_eq_true hj0
        have hco0:w17.cell? ⟨gO,0,none⟩ = some (.slice (some adx) s'.L.length cL'):=(blk_cell HH.out.hO 0).trans rfl
        have hfo0:=blk_frozen HH.out.hO 0
        by_cases hq5:(s'.L.length:Int) = 120
        ·rw [if_pos hq5] at H
         obtain rfl:=Option.some.inj H
         clear H
         have hzn:z = none:=(Option.some.inj HT.out).symm
         subst hzn
         have hRn:R = none:=(Option.some.inj HR.out).symm
         subst hRn
         have e5b:((s'.L.length:Int) == 120) = true:=beq_iff_eq.mpr hq5
         clear hq5
         go_wp2
         go_ret2
         exact ⟨qb_,hB_⟩
        ·rw [if_neg hq5] at H
         have e5b:((s'.L.length:Int) == 120) = false:=beq_eq_false_iff_ne.mpr hq5
         clear hq5
         have hlen:=cp_ H
         replace H:=ca_ H
         have hiW:=cp_ H
         replace H:=ca_ H
         have hsz:=cp_ H
         replace H:=Option.some.inj (ca_ H)
         subst H
         rw [if_neg (by decide),if_neg (by decide)] at HT
         have LN:=Aside0.mk hlen
         have LS:=Aside0.mk hsz
         clear hlen hsz
         go_upto_region 17 with (fail)
         clear hco0 hfo0 e5b
         replace HH:=Aside0.mk (HH.out.below (below_drew1 (Below.refl _ _)))
         replace BL:=Aside0.mk (blk_drew BL.out)
         replace BX:=Aside0.mk (blk_drew BX.out)
         replace HB:=Aside0.mk (below_drew1 HB.out)
         replace Y0:=Aside0.mk (Kd.R_bound (Kd.R_drew Y0.out))
         replace Y1:=Aside0.mk (Kd.R_bound (Kd.R_drew Y1.out))
         replace SL13:=Aside0.mk (Kd.S_drew SL13.out)
         replace ZW:=Aside0.mk (show w13.heap.size≤w17.drew.heap.size from ZW.out)
         refine start_ (n:=11) (S:=fun w'=>w'.cell? ⟨gO,0,none⟩ = some (.slice (some adx) s'.L.length cL')∧w'.cell? ⟨gx,0,none⟩ = some (.slice Ay0 y1'.length cy0)∧w'.cell? ⟨gx,1,none⟩ = some (.slice Ay1 y2'.length cy1)) (ds:=[7,10]) (bl_ 11 0) (by kernel_rfl) rfl (by kernel_rfl) ⟨(blk_cell HH.out.hO 0).trans rfl,(blk_cell BX.out 0).trans rfl,(blk_cell BX.out 1).trans rfl⟩ (fun hHeld=>?_)
         refine with_tabW orb_tab17 orb_bits17 (fun HT_ HW_=>?_)
         generalize w17.drew = wa at HH BL BX HB Y0 Y1 SL13 ZW hHeld ⊢
         refine pu_ 0 (some 68) (bl_ 11 1) HT_ ?_
         refine pu_ 1 (some 69) (bl_ 11 3) HT_ ?_
         refine pu_ 2 (some 70) (bl_ 11 7) HT_ ?_
         refine pu_ 3 (some 71) (bl_ 11 15) HT_ ?_
         refine ta_ 4 (some 72) (bl_ 11 31) HT_ HW_ hHeld ?_
         refine ta_ 5 (some 73) (bl_ 11 63) HT_ HW_ hHeld ?_
         refine on_ 6 (some 74) (bl_ 11 127) HT_ (fun K hK=>?_)
         refine value_ (w1:=?_) (v:=?_) (by rfl) rfl ?_ ?_
         rotate_left 2
         ·go_simp
          constructor
          ·rfl
          ·rfl
         refine hK.out _ _ ⟨((below_alloc (Below.refl _ _) _).cell (World.block_lt_of_cell? _ _ hHeld.1)).trans hHeld.1,((below_alloc (Below.refl _ _) _).cell (World.block_lt_of_cell? _ _ hHeld.2.1)).trans hHeld.2.1,((below_alloc (Below.refl _ _) _).cell (World.block_lt_of_cell? _ _ hHeld.2.2)).trans hHeld.2.2⟩ (fun hHeld=>?_)
         clear hK K
         refine no_ (some 74) ?_
         refine last_ (i:=7) (N:=some 75) (bl_ 11 255) rfl rfl (one_of HT_.out (by kernel_rfl)) (by decide) (fun K hK=>?_)
         refine Kd.S_append_step k33 (w0:=w) w.heap.size (by rfl) (.tmp 72) (.tmp 74) 25 33 (.agg #[(.slice none 0 0),(.slice none 0 0)]) 48 rfl Try.underlying25 info33 rfl (by decide) (by omega) (.slice (some adx) s'.L.length cL') s'.L (⟨y1',y2'⟩:S33) [.slice Ay0 y1'.length cy0,.slice Ay1 y2'.length cy1] (fun k_=>rcl wa.heap.size (rcl w13.heap.size col' 0) 0 k_ = 0) (fun k_=>w13.heap.size≤k_∧k_ < wa.heap.size) rfl rfl ?aP ?aQ (fun k_ hk=>rcl_new hk) ?aO HB.out HB.out.size (by have:=LN.out;omega) ?_
         case aP=>exact k33_mkM _ _ _ (⟨y1',y2'⟩:S33) (Kd.R_mono (Kd.R_lower Y0.out ZC.out) (fun k_ hk=>⟨hk.2.1,hk.2.2.1⟩)) (Kd.R_mono (Kd.R_lower Y1.out ZC.out) (fun k_ hk=>⟨hk.2.1,hk.2.2.1⟩)) NE.out
         case aQ=>exact fun k_ hk=>⟨(rcl_old hk.2).trans (rcl_new hk.1),fun e=>by have:=((Kd.S_R SL13.out).1 k_ e.symm).2;have:=hk.1;omega⟩
         case aO=>exact Kd.S_mono SL13.out (fun k_ hk=>⟨(rcl_old (Nat.lt_of_lt_of_le hk.2 ZW.out)).trans ((rcl_old hk.2).trans hk.1),fun h_=>by have:=hk.2;have:=h_.1;omega⟩)
         intro v1 wb ho hb hg hat
         obtain ⟨An1,cn1,en1⟩:=Kd.S_slice ho
         subst en1
         have HO19:=(B_gr HH.out.hO HH.out.cO hg (Kd.S_R HH.out.hL).1 (by decide)).1
         have HC3:=Aside0.mk (B_gr BL.out HC.out hg (Kd.S_R HH.out.hL).1 (by decide))
         have HP:=HH.out.putL hg ho
         have HB2:=Aside0.mk hb
         refine hK.out _ _ ?_
         clear hK K ho hb hg hat SL13 Y0 Y1 BX NE GX
         refine no_ (some 75) ?_
         refine pu_ 8 (some 76) (bl_ 11 511) HT_ ?_
         refine pu_ 9 (some 77) (bl_ 11 1023) HT_ ?_
         refine last_ (i:=10) (N:=none) (bl_ 11 2047) rfl rfl (one_of HT_.out (by kernel_rfl)) (by decide) (fun K hK=>?_)
         have hs19:wb.cell? ⟨gO,0,none⟩ = some (.slice (some adx) s'.L.length cL'):=(blk_cell HO19 0).trans rfl
         have hf19:=blk_frozen HO19 0
         refine skip_ (w1:=wb.setCell ⟨gO,0,none⟩ (.slice An1 (s'.L ++ [(⟨y1',y2'⟩:S33)]).length cn1)) (by rfl) rfl ?_ ?_
         ·go_simp
         refine hK.out _ _ ?_
         clear hK K hs19 hf19
         refine done_ (done_of HT_.out (by kernel_rfl)) ?_
         have hne_:gl≠gO:=fun e=>by have a1:=HC3.out.2;have a2:=HP.cO;rw [e] at a1;omega
         have HB3:=Aside0.mk (below_set (g:=gO) (j:=0) (v:=(.slice An1 (s'.L ++ [(⟨y1',y2'⟩:S33)]).length cn1)) HB2.out HP.bO)
         have BL2:=Aside0.mk (put_far HC3.out.1 hne_ 0 (.slice An1 (s'.L ++ [(⟨y1',y2'⟩:S33)]).length cn1))
         have HCN:=HC3.out.2
         clear HH BL HB HC HC3 HB2 HO19
         generalize hwc:wb.setCell ⟨gO,0,none⟩ (.slice An1 (s'.L ++ [(⟨y1',y2'⟩:S33)]).length cn1) = wc at HP HB3 BL2 ⊢
         clear hwc
         obtain ⟨colwc,hh_,hc_⟩:∃ c_,OrbH w.heap.size c_ wc gO gM n' _ _ _ _ _ _ _∧c_ gl = 8:=⟨_,HP,HCN⟩
         have HH:=Aside0.mk hh_;have HC:=Aside0.mk hc_;have BL:=BL2;have HB:=HB3
         clear hh_ hc_ BL2 HB3 HP HCN hne_
         obtain ⟨AW,cW,eW⟩:=Kd.R_slice HH.out.hW
         subst eW
         go_upto_region 18 with (fail)
         replace HH:=Aside0.mk (HH.out.below (below_drew1 (Below.refl _ _)))
         replace BL:=Aside0.mk (blk_drew BL.out)
         replace HB:=Aside0.mk (below_drew1 HB.out)
         obtain ⟨adw,ew,hxw⟩:=Kd.at_string (Kd.R_reads' HH.out.hW).2.2 x7 hi0 hiW
         cases ew
         have tw1:=eq_true hiW
         have tw2:=decide_eq_true hiW
         refine start_ (n:=21) (S:=fun w'=>w'.cell? ⟨gO,1,none⟩ = some (.slice (some adw) s'.W.length cW)∧w'.cell? (adw.add (x7).toNat) = some (.string (rdOf ByteArray.empty s'.W x7))) (ds:=[17,20]) (bl_ 21 0) (by kernel_rfl) rfl (by kernel_rfl) ⟨(blk_cell HH.out.hO 1).trans rfl,hxw⟩ (fun hHeld=>?_)
         refine with_tabW orb_tab18 orb_bits18 (fun HT_ HW_=>?_)
         clear hxw
         generalize wc.drew = wd at HH BL HB hHeld ⊢
         refine pu_ 0 (some 78) (bl_ 21 1) HT_ ?_
         refine pu_ 1 (some 79) (bl_ 21 3) HT_ ?_
         refine pu_ 2 (some 80) (bl_ 21 7) HT_ ?_
         refine pu_ 3 (some 81) (bl_ 21 15) HT_ ?_
         refine ta_ 4 (some 82) (bl_ 21 31) HT_ HW_ hHeld ?_
         refine pu_ 5 (some 83) (bl_ 21 63) HT_ ?_
         refine pu_ 6 (some 84) (bl_ 21 127) HT_ ?_
         refine pu_ 7 (some 85) (bl_ 21 255) HT_ ?_
         refine ta_ 8 (some 86) (bl_ 21 511) HT_ HW_ hHeld ?_
         refine pu_ 9 (some 87) (bl_ 21 1023) HT_ ?_
         refine pu_ 10 (some 88) (bl_ 21 2047) HT_ ?_
         refine ta_ 11 (some 89) (bl_ 21 4095) HT_ HW_ hHeld ?_
         refine pu_ 12 (some 90) (bl_ 21 8191) HT_ ?_
         refine on_ 13 (some 91) (bl_ 21 16383) HT_ (fun K hK=>?_)
         refine Kd.R_lit_step (Kd.int .u8) _ 5 ?hg (N:=91) ?hd (xs:=([83]:List Int)) (inner:=[.int .u8 83]) (ok:=fun _=>True) (okp:=fun _=>True) ?hr ?hp (fun _ hk=>hk) trivial (Below.refl _ _) (Nat.le_refl _) (by simp) ?_;(case hd=>rfl);(case hg=>rfl);(case hr=>first | (go_simp;done) | (go_simp;rfl));(case hp=>exact (Reps.one (show Kd.M (Kd.int .u8) _ _ _ 83 [.int .u8 83] from rfl) (Reps.none _ _)))
         intro vq we hoq hb hg_ hnew_
         have hS1_:=(hb.cell (World.block_lt_of_cell? _ _ hHeld.1)).trans hHeld.1
         have hS2_:=(hb.cell (World.block_lt_of_cell? _ _ hHeld.2)).trans hHeld.2
         replace HH:=Aside0.mk (HH.out.below hb)
         replace BL:=bb_ BL hb
         replace HB:=b1_ hb
         have HOq:=Aside0.mk hoq
         clear hg_ hnew_ hb hoq
         refine hK.out _ _ ⟨hS1_,hS2_⟩ (fun hHeld=>?_)
         clear hK K hS1_ hS2_
         refine no_ (some 91) ?_
         refine on_ 14 (some 92) (bl_ 21 32767) HT_ (fun K hK=>?_)
         have hcv47:=own_string (P:=Try.prog) Try.underlying22 Try.underlying5 Try.underlying9 (Kd.own_of_R HOq.out)
         refine value_ (w1:=?_) (v:=?_) (by rfl) rfl ?_ ?_
         rotate_left 2
         ·go_simp
          constructor
          ·rfl
          ·rfl
         clear hcv47 HOq
         refine hK.out _ _ hHeld (fun hHeld=>?_)
         clear hK K
         refine no_ (some 92) ?_
         have hs1_:(strOfNums [(83:Int)]).size = 1:=by decide +kernel
         have tw3:(9223372036854775807 < (rdOf ByteArray.empty s'.W x7).size + (strOfNums [(83:Int)]).size) = False:=eq_false (by rw [hs1_];have:=LS.out;omega)
         clear hs1_
         refine pu_ 15 (some 93) (bl_ 21 65535) HT_ ?_
         clear tw3
         refine on_ 16 (some 94) (bl_ 21 131071) HT_ (fun K hK=>?_)
         refine value_ (w1:=?_) (v:=?_) (by rfl) rfl ?_ ?_
         rotate_left 2
         ·go_simp
          constructor
          ·rfl
          ·rfl
         refine hK.out _ _ ⟨((below_alloc (Below.refl _ _) _).cell (World.block_lt_of_cell? _ _ hHeld.1)).trans hHeld.1,((below_alloc (Below.refl _ _) _).cell (World.block_lt_of_cell? _ _ hHeld.2)).trans hHeld.2⟩ (fun hHeld=>?_)
         clear hK K
         refine no_ (some 94) ?_
         refine last_ (i:=17) (N:=some 95) (bl_ 21 262143) rfl rfl (one_of HT_.out (by kernel_rfl)) (by decide) (fun K hK=>?_)
         refine Kd.R_append_step Kd.string (w0:=w) w.heap.size (by rfl) (.tmp 82) (.tmp 94) 94 9 (.string ⟨#[]⟩) 16 rfl Try.underlying94 info9 rfl (by decide) (by omega) (.slice (some adw) s'.W.length cW) s'.W ((rdOf ByteArray.empty s'.W x7) ++ (strOfNums [83])) [.string ((rdOf ByteArray.empty s'.W x7) ++ (strOfNums [83]))] (fun k_=>rcl we.heap.size colwc 1 k_ = 1) (fun _=>False) rfl rfl rfl (fun _ hk=>hk.elim) (fun k_ hk=>rcl_new hk) (R_col HH.out.hW (fun k_ hk=>rcl_old hk)) HB.out HB.out.size (by have:=LN.out;omega) ?_
         intro v2 wf ho hb hg hat
         obtain ⟨An2,cn2,en2⟩:=Kd.R_slice ho
         subst en2
         have HO19:=(B_gr HH.out.hO HH.out.cO hg HH.out.hW.1 (by decide)).1
         have HC3:=Aside0.mk (B_gr BL.out HC.out hg HH.out.hW.1 (by decide))
         have HP:=HH.out.putW hg ho
         have HB2:=Aside0.mk hb
         refine hK.out _ _ ?_
         clear hK K ho hb hg hat
         refine no_ (some 95) ?_
         refine pu_ 18 (some 96) (bl_ 21 524287) HT_ ?_
         refine pu_ 19 (some 97) (bl_ 21 1048575) HT_ ?_
         refine last_ (i:=20) (N:=none) (bl_ 21 2097151) rfl rfl (one_of HT_.out (by kernel_rfl)) (by decide) (fun K hK=>?_)
         have hs19:wf.cell? ⟨gO,1,none⟩ = some (.slice (some adw) s'.W.length cW):=(blk_cell HO19 1).trans rfl
         have hf19:=blk_frozen HO19 1
         refine skip_ (w1:=wf.setCell ⟨gO,1,none⟩ (.slice An2 (s'.W ++ [(rdOf ByteArray.empty s'.W x7) ++ (strOfNums [83])]).length cn2)) (by rfl) rfl ?_ ?_
         ·go_simp
         refine hK.out _ _ ?_
         clear hK K hs19 hf19
         refine done_ (done_of HT_.out (by kernel_rfl)) ?_
         have hne_:gl≠gO:=fun e=>by have a1:=HC3.out.2;have a2:=HP.cO;rw [e] at a1;omega
         have HB3:=Aside0.mk (below_set (g:=gO) (j:=1) (v:=(.slice An2 (s'.W ++ [(rdOf ByteArray.empty s'.W x7) ++ (strOfNums [83])]).length cn2)) HB2.out HP.bO)
         have BL2:=Aside0.mk (put_far HC3.out.1 hne_ 1 (.slice An2 (s'.W ++ [(rdOf ByteArray.empty s'.W x7) ++ (strOfNums [83])]).length cn2))
         have HCN:=HC3.out.2
         clear HH BL HB HC HC3 HB2 HO19
         generalize hwc:wf.setCell ⟨gO,1,none⟩ (.slice An2 (s'.W ++ [(rdOf ByteArray.empty s'.W x7) ++ (strOfNums [83])]).length cn2) = wg at HP HB3 BL2 ⊢
         clear hwc
         obtain ⟨colwg,hh_,hc_⟩:∃ c_,OrbH w.heap.size c_ wg gO gM n' _ _ _ _ _ _ _∧c_ gl = 8:=⟨_,HP,HCN⟩
         have HH:=Aside0.mk hh_;have HC:=Aside0.mk hc_;have BL:=BL2;have HB:=HB3
         clear hh_ hc_ BL2 HB3 HP HCN hne_
         obtain ⟨AF,cF,eF⟩:=Kd.R_slice HH.out.hF
         subst eF
         go_upto_region 19 with (fail)
         have hco_:wg.cell? ⟨gO,2,none⟩ = some (.slice AF s'.F.length cF):=(blk_cell HH.out.hO 2).trans rfl
         have hfo_:=blk_frozen HH.out.hO 2
         go_upto_region 20 with (first | ((with_reducible refine gate_builtin (b:=.append) (xs:=#[.tmp 102,.tmp 104]) rfl ?_);at_builtin;refine Kd.R_append (Kd.int .i64) (w0:=w) w.heap.size rfl (.tmp 102) (.tmp 104) 23 3 (.int .i64 0) 8 rfl Try.underlying23 info3 rfl (by decide) (by omega) (.slice AF s'.F.length cF) s'.F (x7) [.int .i64 (x7)] (fun k_=>rcl wg.heap.size colwg 2 k_ = 2) (fun _=>False) rfl rfl rfl (fun _ hk=>hk.elim) (fun k_ hk=>rcl_new hk) (R_col HH.out.hF (fun k_ hk=>rcl_old hk)) HB.out HB.out.size (by have:=LN.out;omega) ?_;intro v3 wh ho hb hg hat;obtain ⟨Anv3,cnv3,env3⟩:=Kd.R_slice ho;subst env3;rw [List.length_append,List.length_singleton] at ho;have HO19:=(B_gr HH.out.hO HH.out.cO hg HH.out.hF.1 (by decide)).1;have HC3:=Aside0.mk (B_gr BL.out HC.out hg HH.out.hF.1 (by decide));have HP:=HH.out.putF hg ho;have HB2:=Aside0.mk hb;clear ho hb hg hat hco_ hfo_;have hs19:wh.cell? ⟨gO,2,none⟩ = some (.slice AF s'.F.length cF):=(blk_cell HO19 2).trans rfl;have hf19:=blk_frozen HO19 2))
         clear hs19 hf19
         have hne_:gl≠gO:=fun e=>by have a1:=HC3.out.2;have a2:=HP.cO;rw [e] at a1;omega
         have HB3:=Aside0.mk (below_set (g:=gO) (j:=2) (v:=(.slice Anv3 (s'.F.length + 1) cnv3)) HB2.out HP.bO)
         have BL2:=Aside0.mk (put_far HC3.out.1 hne_ 2 (.slice Anv3 (s'.F.length + 1) cnv3))
         have HCN:=HC3.out.2
         clear HH BL HB HC HC3 HB2 HO19
         generalize hwc:wh.setCell ⟨gO,2,none⟩ (.slice Anv3 (s'.F.length + 1) cnv3) = wi at HP HB3 BL2 ⊢
         clear hwc
         obtain ⟨colwi,hh_,hc_⟩:∃ c_,OrbH w.heap.size c_ wi gO gM n' _ _ _ _ _ _ _∧c_ gl = 8:=⟨_,HP,HCN⟩
         have HH:=Aside0.mk hh_;have HC:=Aside0.mk hc_;have BL:=BL2;have HB:=HB3
         clear hh_ hc_ BL2 HB3 HP HCN hne_
         obtain ⟨AB,cB,eB⟩:=Kd.R_slice HH.out.hB
         subst eB
         have hco_:wi.cell? ⟨gO,3,none⟩ = some (.slice AB s'.B.length cB):=(blk_cell HH.out.hO 3).trans rfl
         have hfo_:=blk_frozen HH.out.hO 3
         go_upto_region 21 with (first | ((with_reducible refine gate_builtin (b:=.append) (xs:=#[.tmp 112,.tmp 114]) rfl ?_);at_builtin;refine Kd.R_append (Kd.int .u8) (w0:=w) w.heap.size rfl (.tmp 112) (.tmp 114) 22 5 (.int .u8 0) 1 rfl Try.underlying22 info5 rfl (by decide) (by omega) (.slice AB s'.B.length cB) s'.B (83) [.int .u8 (83)] (fun k_=>rcl wi.heap.size colwi 3 k_ = 3) (fun _=>False) rfl rfl rfl (fun _ hk=>hk.elim) (fun k_ hk=>rcl_new hk) (R_col HH.out.hB (fun k_ hk=>rcl_old hk)) HB.out HB.out.size (by have:=LN.out;omega) ?_;intro v4 wj ho hb hg hat;obtain ⟨Anv4,cnv4,env4⟩:=Kd.R_slice ho;subst env4;rw [List.length_append,List.length_singleton] at ho;have HO19:=(B_gr HH.out.hO HH.out.cO hg HH.out.hB.1 (by decide)).1;have HC3:=Aside0.mk (B_gr BL.out HC.out hg HH.out.hB.1 (by decide));have HP:=HH.out.putB hg ho;have HB2:=Aside0.mk hb;clear ho hb hg hat hco_ hfo_;have hs19:wj.cell? ⟨gO,3,none⟩ = some (.slice AB s'.B.length cB):=(blk_cell HO19 3).trans rfl;have hf19:=blk_frozen HO19 3))
         clear hs19 hf19
         have hne_:gl≠gO:=fun e=>by have a1:=HC3.out.2;have a2:=HP.cO;rw [e] at a1;omega
         have HB3:=Aside0.mk (below_set (g:=gO) (j:=3) (v:=(.slice Anv4 (s'.B.length + 1) cnv4)) HB2.out HP.bO)
         have BL2:=Aside0.mk (put_far HC3.out.1 hne_ 3 (.slice Anv4 (s'.B.length + 1) cnv4))
         have HCN:=HC3.out.2
         clear HH BL HB HC HC3 HB2 HO19
         generalize hwc:wj.setCell ⟨gO,3,none⟩ (.slice Anv4 (s'.B.length + 1) cnv4) = wk at HP HB3 BL2 ⊢
         clear hwc
         obtain ⟨colwk,hh_,hc_⟩:∃ c_,OrbH w.heap.size c_ wk gO gM n' _ _ _ _ _ _ _∧c_ gl = 8:=⟨_,HP,HCN⟩
         have HH:=Aside0.mk hh_;have HC:=Aside0.mk hc_;have BL:=BL2;have HB:=HB3
         clear hh_ hc_ BL2 HB3 HP HCN hne_
         generalize hcc:colwk = colc at HH HC
         clear hcc
         go_upto_region 21 with (fail)
         replace HH:=Aside0.mk (HH.out.below (below_drew1 (Below.refl _ _)))
         replace BL:=Aside0.mk (blk_drew BL.out)
         replace HB:=Aside0.mk (below_drew1 HB.out)
         refine start_ (n:=15) (S:=fun w'=>w'.cell? ⟨gO,4,none⟩ = some (.map (some gM))∧w'.heap[gM]? = some (mapO n' vT' vS')) (ds:=[14]) (bl_ 15 0) (by kernel_rfl) rfl (by kernel_rfl) ⟨(blk_cell HH.out.hO 4).trans rfl,HH.out.hM⟩ (fun hHeld=>?_)
         refine with_tabW orb_tab21 orb_bits21 (fun HT_ HW_=>?_)
         generalize wk.drew = wl at HH BL HB hHeld ⊢
         refine pu_ 0 (some 118) (bl_ 15 1) HT_ ?_
         refine pu_ 1 (some 119) (bl_ 15 3) HT_ ?_
         refine pu_ 2 (some 120) (bl_ 15 7) HT_ ?_
         refine ta_ 3 (some 121) (bl_ 15 15) HT_ HW_ hHeld ?_
         refine pu_ 4 (some 122) (bl_ 15 31) HT_ ?_
         refine pu_ 5 (some 123) (bl_ 15 63) HT_ ?_
         refine pu_ 6 (some 124) (bl_ 15 127) HT_ ?_
         refine pu_ 7 (some 125) (bl_ 15 255) HT_ ?_
         refine ta_ 8 (some 126) (bl_ 15 511) HT_ HW_ hHeld ?_
         refine pu_ 9 (some 127) (bl_ 15 1023) HT_ ?_
         have hlk:∀ w',w'.heap[gM]? = some (mapO n' vT' vS')→(Instr.lookup 95 (.map (some gM)) (.int .u8 83) false).run Try.prog w' = .ok vS' w':=fun w' h_=>by
          have hn:=hn0.out
          have:=look_S h_ (by omega)
          rw [HH.out.look.2] at this
          exact this
         refine ta_ 10 (some 128) (v:=vS') (bl_ 15 2047) HT_ HW_ hHeld ?_ (hy:=Or.inl ⟨by rfl,fun w' hs_=>?_⟩)
         rotate_left
         ·have hq:=hlk w' hs_.2
          go_simp
         clear hlk
         refine pu_ 11 (some 129) (bl_ 15 4095) HT_ ?_
         refine on_ 12 (some 130) (bl_ 15 8191) HT_ (fun K hK=>?_)
         refine value_ (w1:=?_) (v:=?_) (by rfl) rfl ?_ ?_
         rotate_left 2
         ·go_simp
          constructor
          ·rfl
          ·rfl
         refine hK.out _ _ ⟨((below_alloc (Below.refl _ _) _).cell (World.block_lt_of_cell? _ _ hHeld.1)).trans hHeld.1,blk_alloc hHeld.2 _⟩ (fun hHeld=>?_)
         clear hK K
         refine no_ (some 130) ?_
         refine on_ 13 (some 131) (bl_ 15 16383) HT_ (fun K hK=>?_)
         refine Kd.R_append_step (Kd.int .i64) (w0:=w) w.heap.size (by rfl) (.tmp 128) (.tmp 130) 23 3 (.int .i64 0) 8 rfl Try.underlying23 info3 rfl (by decide) (by omega) vS' s'.S ((s'.L.length:Int)) [.int .i64 ((s'.L.length:Int))] (fun k_=>rcl wl.heap.size colc 5 k_ = 5) (fun _=>False) rfl rfl rfl (fun _ hk=>hk.elim) (fun k_ hk=>rcl_new hk) (R_col HH.out.hS (fun k_ hk=>rcl_old hk)) HB.out HB.out.size (by have:=LN.out;omega) ?_
         intro v1 wlb ho hb hg hat
         have HP:=HH.out.putS hn0.out hg ho
         have HM:=Aside0.mk HP.1
         have HO19:=(B_gr HH.out.hO HH.out.cO hg HH.out.hS.1 (by decide)).1
         have HC3:=Aside0.mk (B_gr BL.out HC.out hg HH.out.hS.1 (by decide))
         replace HH:=Aside0.mk HP.2
         clear HP
         have HB2:=Aside0.mk hb
         refine hK.out _ _ ⟨(blk_cell HO19 4).trans rfl,HM.out⟩ (fun hHeld=>?_)
         clear hK K ho hb hg hat HO19
         refine no_ (some 131) ?_
         refine last_ (i:=14) (N:=none) (bl_ 15 32767) rfl rfl (one_of HT_.out (by kernel_rfl)) (by decide) (fun K hK=>?_)
         have hput:(Instr.mapUpdate 95 (.map (some gM)) (.int .u8 83) v1).run Try.prog wlb = .ok () (setMap wlb gM 2 vT' v1):=put_S HM.out hn0.out v1
         refine skip_ (w1:=setMap wlb gM 2 vT' v1) (by rfl) rfl ?_ ?_
         ·go_simp
         refine hK.out _ _ ?_
         clear hK K hput
         refine done_ (done_of HT_.out (by kernel_rfl)) ?_
         try go_wp2
         have hgm:gl≠gM:=fun e=>by have a1:=HC3.out.2;have a2:=HH.out.cM;rw [e] at a1;omega
         have BL2:=Aside0.mk ((setMap_far (n:=2) vT' v1 hgm).trans HC3.out.1)
         have HB3:=Aside0.mk (setMap_below (n:=2) vT' v1 HB2.out HH.out.bM)
         go_roundg 0
         case measure=>have:=HG.out;omega
         case rel=>exact ⟨2,2,_,_,_,_,_,_,_,_,(by first | rfl | (simp;done) | (simp [*];done)),⟨by omega⟩,⟨by omega⟩,HT,⟨⟨fun e=>absurd e (by decide),fun e=>absurd e (by decide),fun _=>rfl⟩⟩,⟨HC3.out.2⟩,BL2,HH,HB3⟩
       ·have H:=HS.out
        clear HS
        rw [if_neg hj0] at H
        have hjb:=decide_eq_false hj0
        have hlen:=cp_ H
        replace H:=Option.some.inj (ca_ H)
        subst H
        rw [if_neg (by decide),if_neg (by decide)] at HT
        have LN:=Aside0.mk hlen
        clear hlen SL13 Y0 Y1 BX NE GX
        generalize hcc:rcl w13.heap.size col' 0 = colc at HH HC
        clear hcc
        go_upto_region 21 with (fail)
        replace HH:=Aside0.mk (HH.out.below (below_drew1 (Below.refl _ _)))
        replace BL:=Aside0.mk (blk_drew BL.out)
        replace HB:=Aside0.mk (below_drew1 HB.out)
        refine start_ (n:=15) (S:=fun w'=>w'.cell? ⟨gO,4,none⟩ = some (.map (some gM))∧w'.heap[gM]? = some (mapO n' vT' vS')) (ds:=[14]) (bl_ 15 0) (by kernel_rfl) rfl (by kernel_rfl) ⟨(blk_cell HH.out.hO 4).trans rfl,HH.out.hM⟩ (fun hHeld=>?_)
        refine with_tabW orb_tab21 orb_bits21 (fun HT_ HW_=>?_)
        generalize w17.drew = w18 at HH BL HB hHeld ⊢
        refine pu_ 0 (some 118) (bl_ 15 1) HT_ ?_
        refine pu_ 1 (some 119) (bl_ 15 3) HT_ ?_
        refine pu_ 2 (some 120) (bl_ 15 7) HT_ ?_
        refine ta_ 3 (some 121) (bl_ 15 15) HT_ HW_ hHeld ?_
        refine pu_ 4 (some 122) (bl_ 15 31) HT_ ?_
        refine pu_ 5 (some 123) (bl_ 15 63) HT_ ?_
        refine pu_ 6 (some 124) (bl_ 15 127) HT_ ?_
        refine pu_ 7 (some 125) (bl_ 15 255) HT_ ?_
        refine ta_ 8 (some 126) (bl_ 15 511) HT_ HW_ hHeld ?_
        refine pu_ 9 (some 127) (bl_ 15 1023) HT_ ?_
        have hlk:∀ w',w'.heap[gM]? = some (mapO n' vT' vS')→(Instr.lookup 95 (.map (some gM)) (.int .u8 83) false).run Try.prog w' = .ok vS' w':=fun w' h_=>by
         have hn:=hn0.out
         have:=look_S h_ (by omega)
         rw [HH.out.look.2] at this
         exact this
        refine ta_ 10 (some 128) (v:=vS') (bl_ 15 2047) HT_ HW_ hHeld ?_ (hy:=Or.inl ⟨by rfl,fun w' hs_=>?_⟩)
        rotate_left
        ·have hq:=hlk w' hs_.2
         go_simp
        clear hlk
        refine pu_ 11 (some 129) (bl_ 15 4095) HT_ ?_
        refine on_ 12 (some 130) (bl_ 15 8191) HT_ (fun K hK=>?_)
        refine value_ (w1:=?_) (v:=?_) (by rfl) rfl ?_ ?_
        rotate_left 2
        ·go_simp
         constructor
         ·rfl
         ·rfl
        refine hK.out _ _ ⟨((below_alloc (Below.refl _ _) _).cell (World.block_lt_of_cell? _ _ hHeld.1)).trans hHeld.1,blk_alloc hHeld.2 _⟩ (fun hHeld=>?_)
        clear hK K
        refine no_ (some 130) ?_
        refine on_ 13 (some 131) (bl_ 15 16383) HT_ (fun K hK=>?_)
        refine Kd.R_append_step (Kd.int .i64) (w0:=w) w.heap.size (by rfl) (.tmp 128) (.tmp 130) 23 3 (.int .i64 0) 8 rfl Try.underlying23 info3 rfl (by decide) (by omega) vS' s'.S (j) [.int .i64 (j)] (fun k_=>rcl w18.heap.size colc 5 k_ = 5) (fun _=>False) rfl rfl rfl (fun _ hk=>hk.elim) (fun k_ hk=>rcl_new hk) (R_col HH.out.hS (fun k_ hk=>rcl_old hk)) HB.out HB.out.size (by have:=LN.out;omega) ?_
        intro v1 w18b ho hb hg hat
        have HP:=HH.out.putS hn0.out hg ho
        have HM:=Aside0.mk HP.1
        have HO19:=(B_gr HH.out.hO HH.out.cO hg HH.out.hS.1 (by decide)).1
        have HC3:=Aside0.mk (B_gr BL.out HC.out hg HH.out.hS.1 (by decide))
        replace HH:=Aside0.mk HP.2
        clear HP
        have HB2:=Aside0.mk hb
        refine hK.out _ _ ⟨(blk_cell HO19 4).trans rfl,HM.out⟩ (fun hHeld=>?_)
        clear hK K ho hb hg hat HO19
        refine no_ (some 131) ?_
        refine last_ (i:=14) (N:=none) (bl_ 15 32767) rfl rfl (one_of HT_.out (by kernel_rfl)) (by decide) (fun K hK=>?_)
        have hput:(Instr.mapUpdate 95 (.map (some gM)) (.int .u8 83) v1).run Try.prog w18b = .ok () (setMap w18b gM 2 vT' v1):=put_S HM.out hn0.out v1
        refine skip_ (w1:=setMap w18b gM 2 vT' v1) (by rfl) rfl ?_ ?_
        ·go_simp
        refine hK.out _ _ ?_
        clear hK K hput
        refine done_ (done_of HT_.out (by kernel_rfl)) ?_
        try go_wp2
        have hgm:gl≠gM:=fun e=>by have a1:=HC3.out.2;have a2:=HH.out.cM;rw [e] at a1;omega
        have BL2:=Aside0.mk ((setMap_far (n:=2) vT' v1 hgm).trans HC3.out.1)
        have HB3:=Aside0.mk (setMap_below (n:=2) vT' v1 HB2.out HH.out.bM)
        go_roundg 0
        case measure=>have:=HG.out;omega
        case rel=>exact ⟨2,2,_,_,_,_,_,_,_,_,(by first | rfl | (simp;done) | (simp [*];done)),⟨by omega⟩,⟨by omega⟩,HT,⟨⟨fun e=>absurd e (by decide),fun e=>absurd e (by decide),fun _=>rfl⟩⟩,⟨HC3.out.2⟩,BL2,HH,HB3⟩
     ·have hj2':jj = 2:=by omega
      subst hj2'
      have hn2:=Aside0.mk (HN.out.2.2 rfl)
      have H:=AZ.out
      clear AZ
      change innerO k1 x7 [] s' = some z at H
      simp only [innerO] at H
      obtain rfl:=Option.some.inj H
      clear H
      clear hcl0 hcl1 hfl0 hfl1 hco0 hfo0
      go_wp2
      go_roundg k1
      case measure=>have:=HK.out;omega
      case rel=>exact ⟨wrap64 (x7 + 1),n',_,_,_,_,_,_,_,s',(by first | rfl | (simp;done) | (simp [*];done)),HR,⟨by have:=HK.out;omega⟩,⟨.inr hn2.out⟩,HH,HB⟩
   ·rw [if_neg hq1] at H
    have c1b:=decide_eq_false hq1
    obtain rfl:=Option.some.inj H
    clear H hq1
    go_wp2
    go_ret2
    exact ⟨gO,gM,n,col,_,_,_,_,_,_,rfl,HH.out,HB.out⟩
theorem orbit_calls (k:Nat) (A0:Option Addr) (c0:Nat) (l0:List Int) (A1:Option Addr) (c1:Nat) (l1:List Int) (R:Option Orb) (w:World) (h0:Kd.C (Kd.int .i64) w A0 l0.length l0) (g0:l0.length≤c0) (h1:Kd.C (Kd.int .i64) w A1 l1.length l1) (g1:l1.length≤c1) (h:orbitO k l0 l1 = some R) :
  Calls Try.prog 95 #[.agg #[.slice A0 l0.length c0,.slice A1 l1.length c1]] w fun e w'=>OrbPost w w' e R:=by
 unfold orbitO at h
 obtain ⟨⟨y1,y2,yb⟩,a,h⟩:=Option.bind_eq_some_iff.mp h
 cases yb with
 | false =>
  have e:none = R:=Option.some.inj h
  subst e
  exact orbit_no k A0 c0 l0 A1 c1 l1 y1 y2 w h0 g0 h1 g1 a
 | true=>exact orbit_yes k A0 c0 l0 A1 c1 l1 y1 y2 R w h0 g0 h1 g1 a h
end Go.Proofs.Ytoijcallajegfaa.M
end
section
/- Finding the orbit: more rounds give the same answer. No conditions. -/
namespace Go.Proofs.Ytoijcallajegfaa.M
set_option linter.unusedVariables false
set_option linter.unusedSimpArgs false
open Go Go.RowKit Go.Proofs.YtoijcallajegfaaW.PrintWords Go.Proofs.YtoijcallajegfaaW.PrintLast Go.Proofs.YtoijcallajegfaaW.PrintMore Go.Proofs.Ytoijcallajegfaa.A
theorem idxS_mono (k:Nat) (r u:List Int):∀ (l:List S33) (i:Nat),LeO (idxS k r u l i) (idxS (k + 1) r u l i):=by
 intro l
 induction l with
 | nil=>intro i;exact LeO.refl _
 | cons x l ih =>
  intro i
  unfold idxS
  refine LeO.bind (Z22.mono _ _ _ _ _) (fun b=>LeO.ite (LeO.refl _) (ih _))
theorem indexO_mono (k:Nat) (l:List S33) (r u:List Int):LeO (indexO k l r u) (indexO (k + 1) l r u):=by
 unfold indexO
 exact LeO.ite (idxS_mono _ _ _ _ _) (LeO.refl _)
theorem stpO_mono (k:Nat) (i c:Int) (s:Orb):LeO (stpO k i c s) (stpO (k + 1) i c s):=by
 unfold stpO
 refine LeO.ite (LeO.ite (LeO.bind (Z9.mono _ _ _ _) (fun x=>LeO.bind (Z59.mono _ _ _) (fun y=>LeO.bind (indexO_mono _ _ _ _) (fun j=>LeO.refl _)))) (LeO.refl _)) (LeO.refl _)
theorem innerO_mono (k:Nat) (i:Int):∀ (cs:List Int) (s:Orb),LeO (innerO k i cs s) (innerO (k + 1) i cs s):=by
 intro cs
 induction cs with
 | nil=>intro s;exact LeO.refl _
 | cons c cs ih =>
  intro s
  unfold innerO
  refine LeO.bind (stpO_mono _ _ _ _) (fun z=>?_)
  cases z with
  | none=>exact LeO.refl _
  | some s'=>exact ih s'
theorem loopO_mono:∀ (k:Nat) (s:Orb) (i:Int),LeO (loopO k s i) (loopO (k + 1) s i):=by
 intro k
 induction k with
 | zero=>intro s i;exact LeO.none _
 | succ k ih =>
  intro s i
  rw [loopO,loopO]
  refine LeO.ite (LeO.bind (innerO_mono _ _ _ _) (fun z=>?_)) (LeO.refl _)
  cases z with
  | none=>exact LeO.refl _
  | some s'=>exact ih s' _
theorem orbitO_mono (k:Nat) (r u:List Int):LeO (orbitO k r u) (orbitO (k + 1) r u):=by
 unfold orbitO
 exact LeO.bind (Z59.mono _ _ _) (fun y=>LeO.ite (loopO_mono _ _ _) (LeO.refl _))
end Go.Proofs.Ytoijcallajegfaa.M
end
section
/- Is a surface in one of the lists: the walk of the program's look-up. No conditions. -/
namespace Go.Proofs.Ytoijcallajegfaa.M
set_option linter.unusedVariables false
set_option linter.unusedSimpArgs false
open Go Go.RowKit Go.Proofs.YtoijcallajegfaaW.PrintWords Go.Proofs.YtoijcallajegfaaW.PrintLast Go.Proofs.YtoijcallajegfaaW.PrintMore Go.Proofs.Ytoijcallajegfaa.A
def idxK (k:Nat) (r u:List Int):List (List S33)→Nat→Option Int
 | [],_=>some (-1)
 | l :: ls,i=>(indexO k l r u).bind fun j=>if 0≤j then some (i:Int) else idxK k r u ls (i + 1)
def indexK (k:Nat) (ls:List (List S33)) (r u:List Int):Option Int:=if ls.length < 4611686018427387904 then idxK k r u ls 0 else none
theorem idxK_mono (k:Nat) (r u:List Int):∀ (l:List (List S33)) (i:Nat),LeO (idxK k r u l i) (idxK (k + 1) r u l i):=by
 intro l
 induction l with
 | nil=>intro i;exact LeO.refl _
 | cons x l ih =>
  intro i
  unfold idxK
  refine LeO.bind (indexO_mono _ _ _ _) (fun b=>LeO.ite (LeO.refl _) (ih _))
theorem indexK_mono (k:Nat) (l:List (List S33)) (r u:List Int):LeO (indexK k l r u) (indexK (k + 1) l r u):=by
 unfold indexK
 exact LeO.ite (idxK_mono _ _ _ _ _) (LeO.refl _)
set_option maxHeartbeats 8000000 in
set_option maxRecDepth 100000 in
theorem has_closure (k:Nat) (gs:Nat) (A0:Option Addr) (c0:Nat) (l0:List Int) (A1:Option Addr) (c1:Nat) (l1:List Int) (B0:Option Addr) (d0:Nat) (r:List Int) (B1:Option Addr) (d1:Nat) (u:List Int) (b:Bool) (w:World)
  (h0:Kd.C (Kd.int .i64) w A0 l0.length l0) (g0:l0.length≤c0) (h1:Kd.C (Kd.int .i64) w A1 l1.length l1) (g1:l1.length≤c1) (h2:Kd.C (Kd.int .i64) w B0 r.length r) (g2:r.length≤d0) (h3:Kd.C (Kd.int .i64) w B1 u.length u) (g3:u.length≤d1)
  (hs:w.heap[gs]? = some (.cells #[.slice B0 r.length d0,.slice B1 u.length d1] 33 (0,0))) (h:Z22.f k l0 l1 r u = some b) :
  Calls Try.prog 93 #[.agg #[.slice A0 l0.length c0,.slice A1 l1.length c1],.pointer (some ⟨gs,0,none⟩)] w fun e w'=>e = .returned (.bool b)∧Below w.heap.size w w':=by
 have hu:=Try.underlying33
 have H0:=Aside0.mk h0;have H1:=Aside0.mk h1;have H2:=Aside0.mk h2;have H3:=Aside0.mk h3
 have G0:=Aside0.mk g0;have G1:=Aside0.mk g1;have G2:=Aside0.mk g2;have G3:=Aside0.mk g3
 have BS:=Aside0.mk hs;have HA:=Aside0.mk h
 clear h0 h1 h2 h3 g0 g1 g2 g3 hs h
 have HB:=Aside0.mk (Below.refl w.heap.size w)
 go_enter Try.func93,Try.ntmps93
 go_wp2_with (first | ((with_reducible refine gate_dst (N:=2) rfl ?_);refine bx_ 2 #[.slice A0 l0.length c0,.slice A1 l1.length c1] 33 ?_;intro gb hg w2 hbox hb;have BK:=Aside0.mk hbox;have BT:=bb_ BS hb;replace HB:=b1_ hb;clear hb hbox hg;obtain ⟨hcz0,hcz1,hfz0,hfz1⟩:=c2_ BK;obtain ⟨hcy0,hcy1,hfy0,hfy1⟩:=c2_ BT) | ((with_reducible refine gate_callee (f:=18) rfl ?_);refine gL_ (some 6) Try.func18 #[.agg #[.slice A0 l0.length c0,.slice A1 l1.length c1],.agg #[.slice B0 r.length d0,.slice B1 u.length d1]] rfl qa_ ?_;(with_reducible refine (Z22.calls k _ _ l0 _ _ l1 _ _ r _ _ u b _ (cb_ H0) G0.out (cb_ H1) G1.out (cb_ H2) G2.out (cb_ H3) G3.out HA.out).mono ?_);rintro e w3 ⟨rfl,hb⟩;refine ⟨_,rfl,?_⟩;replace HB:=b1_ hb;clear hb))
 go_ret
 exact ⟨qb_,hB_⟩
set_option maxHeartbeats 8000000 in
set_option maxRecDepth 100000 in
theorem has_list (k:Nat) (gf:Nat) (lb:Array Value) (eg:∀ args w,(callFunc gf args).run Try.prog w = .ok (.enter gf args) w) (A0:Option Addr) (c0:Nat) (l0:List S33) (r u:List Int) (j:Int) (w:World) (hr0:Kd.C k33 w A0 l0.length l0) (hc0:l0.length≤c0) (h:indexO k l0 r u = some j)
  (hcl:∀ (A0:Option Addr) (c0:Nat) (l0:List Int) (A1:Option Addr) (c1:Nat) (l1:List Int) (b:Bool) (w1:World),Below w.heap.size w w1→Kd.C (Kd.int .i64) w1 A0 l0.length l0→l0.length≤c0→Kd.C (Kd.int .i64) w1 A1 l1.length l1→l1.length≤c1→Z22.f k l0 l1 r u = some b→Calls Try.prog gf (#[.agg #[.slice A0 l0.length c0,.slice A1 l1.length c1]] ++ lb) w1 fun e w'=>e = .returned (.bool b)∧Below w1.heap.size w1 w') :
  Calls Try.prog 92 #[.slice A0 l0.length c0,.func (.func gf) #[] lb] w fun e w'=>e = .returned (.bool (decide (0≤j)))∧Below w.heap.size w w':=by
 have H0:=Aside0.mk hr0
 have G0:=Aside0.mk hc0
 have HA:=Aside0.mk h
 have HCL:=Aside0.mk hcl
 have EG:=Aside0.mk eg
 clear hr0 hc0 h hcl eg
 have HB:=Aside0.mk (Below.refl w.heap.size w)
 go_enter Try.func92,Try.ntmps92
 go_wp2_with ((with_reducible refine gate_callee (f:=132) rfl ?_);refine gL_ (some 7) Try.func132 #[.slice A0 l0.length c0,.func (.func gf) #[] lb] rfl qa_ ?_;refine (index_main k gf lb EG.out _ _ l0 r u j _ (cb_ H0) G0.out HA.out (fun A0_ c0_ l0_ A1_ c1_ l1_ b_ w1_ hw_ q0_ q1_ q2_ q3_ q4_=>HCL.out A0_ c0_ l0_ A1_ c1_ l1_ b_ w1_ (below_step hB_ hw_) q0_ q1_ q2_ q3_ q4_)).mono ?_;rintro e w3 ⟨rfl,hb⟩;refine ⟨_,rfl,?_⟩;replace HB:=b1_ hb;clear hb)
 go_ret
 exact ⟨qb_,hB_⟩
set_option maxHeartbeats 8000000 in
set_option maxRecDepth 100000 in
theorem has_row (k:Nat) (gs:Nat) (A0:Option Addr) (c0:Nat) (l0:List S33) (B0:Option Addr) (d0:Nat) (r:List Int) (B1:Option Addr) (d1:Nat) (u:List Int) (j:Int) (w:World)
  (h0:Kd.C k33 w A0 l0.length l0) (g0:l0.length≤c0) (h2:Kd.C (Kd.int .i64) w B0 r.length r) (g2:r.length≤d0) (h3:Kd.C (Kd.int .i64) w B1 u.length u) (g3:u.length≤d1)
  (hs:w.heap[gs]? = some (.cells #[.slice B0 r.length d0,.slice B1 u.length d1] 33 (0,0))) (h:indexO k l0 r u = some j) :
  Calls Try.prog 91 #[.slice A0 l0.length c0,.pointer (some ⟨gs,0,none⟩)] w fun e w'=>e = .returned (.bool (decide (0≤j)))∧Below w.heap.size w w':=by
 have H0:=Aside0.mk h0;have H2:=Aside0.mk h2;have H3:=Aside0.mk h3
 have G0:=Aside0.mk g0;have G2:=Aside0.mk g2;have G3:=Aside0.mk g3
 have BS:=Aside0.mk hs;have HA:=Aside0.mk h
 clear h0 h2 h3 g0 g2 g3 hs h
 have HB:=Aside0.mk (Below.refl w.heap.size w)
 go_enter Try.func91,Try.ntmps91
 go_wp2_with ((with_reducible refine gate_callee (f:=92) rfl ?_);refine gL_ (some 6) Try.func92 #[.slice A0 l0.length c0,.func (.func 93) #[] #[.pointer (some ⟨gs,0,none⟩)]] rfl qa_ ?_;refine (has_list k 93 #[.pointer (some ⟨gs,0,none⟩)] (fun args w=>enters_ Try.func93 (by kernel_rfl) rfl args w) _ _ l0 r u j _ (cb_ H0) G0.out HA.out (fun A0_ c0_ l0_ A1_ c1_ l1_ b_ w1_ hw_ q0_ q1_ q2_ q3_ q4_=>has_closure k gs A0_ c0_ l0_ A1_ c1_ l1_ B0 d0 r B1 d1 u b_ w1_ q0_ q1_ q2_ q3_ (Kd.C_below (cb_ H2) hw_) G2.out (Kd.C_below (cb_ H3) hw_) G3.out (blk_below (kk_ BS) hw_) q4_)).mono ?_;rintro e w3 ⟨rfl,hb⟩;refine ⟨_,rfl,?_⟩;replace HB:=b1_ hb;clear hb)
 go_ret
 exact ⟨qb_,hB_⟩
set_option maxHeartbeats 8000000 in
set_option maxRecDepth 100000 in
theorem indexK_main (k:Nat) (gf:Nat) (lb:Array Value) (eg:∀ args w,(callFunc gf args).run Try.prog w = .ok (.enter gf args) w) (A0:Option Addr) (c0:Nat) (l0:List (List S33)) (r u:List Int) (j:Int) (w:World) (hr0:Kd.C (Kd.slice 33 k33) w A0 l0.length l0) (hc0:l0.length≤c0) (h:indexK k l0 r u = some j)
  (hcl:∀ (A0:Option Addr) (c0:Nat) (l0:List S33) (j:Int) (w1:World),Below w.heap.size w w1→Kd.C k33 w1 A0 l0.length l0→l0.length≤c0→indexO k l0 r u = some j→Calls Try.prog gf (#[.slice A0 l0.length c0] ++ lb) w1 fun e w'=>e = .returned (.bool (decide (0≤j)))∧Below w1.heap.size w1 w') :
  Calls Try.prog 131 #[.slice A0 l0.length c0,.func (.func gf) #[] lb] w fun e w'=>e = .returned (.int .i64 j)∧Below w.heap.size w w':=by
 have HR0:=Aside0.mk hr0
 have HC0:=Aside0.mk hc0
 have HB:=Aside0.mk (Below.refl w.heap.size w)
 have hsm:l0.length < 4611686018427387904:=by
  unfold indexK at h
  split at h
  ·assumption
  ·cases h
 have H':Aside0 (idxK k r u (l0.drop 0) 0 = some j):=⟨by
  unfold indexK at h
  rw [if_pos hsm] at h
  exact h⟩
 clear hr0 hc0 h
 replace hcl:=Aside0.mk hcl
 go_enter Try.func131,Try.ntmps131
 go_wp2
 go_loopg [5,8] l0.length (fun gg _ s8 wr=>∃ kk:Nat,s8 = .int .i64 kk∧Aside0 (kk≤l0.length)∧Aside0 (l0.length - kk≤gg)∧Aside0 (idxK k r u (l0.drop kk) kk = some j)∧Aside0 (Below w.heap.size w wr))
 case atStart=>exact ⟨0,rfl,⟨Nat.zero_le _⟩,⟨by omega⟩,H',⟨by repeat (first | (with_reducible first | exact HB.out | apply below_alloc | apply pw_below_drewN | apply below_drew1) | exact HB.out)⟩⟩
 case round =>
  clear H' HB
  obtain ⟨kk,rfl,HK,HG,HA,HB⟩:=hrel
  by_cases hlt:kk < l0.length
  ·have hltz:(kk:Int) < (l0.length:Int):=by omega
   have h0z:(0:Int)≤(kk:Int):=Int.natCast_nonneg kk
   have H:=HA.out
   have hdr:l0.drop kk = rd_L8 l0 (kk:Int) :: l0.drop (kk + 1):=by
    rw [List.drop_eq_getElem_cons hlt]
    congr 1
    simp [rd_L8,hlt]
   rw [hdr] at H
   simp only [idxK] at H
   obtain ⟨q,Hq,H⟩:=bi_ H
   obtain ⟨ad1,A1,c1,e1,hx1,hl1,hi1⟩:=at_L8 (Kd.C_below HR0.out HB.out) (kk:Int) h0z hltz
   cases e1
   rw [show ((kk:Int)).toNat = kk from rfl] at hx1
   have HI:=Aside0.mk hi1
   have HL:=Aside0.mk hl1
   clear hi1 hl1
   by_cases hq:0≤q
   ·rw [if_pos hq] at H
    obtain rfl:=Option.some.inj H
    have hd:=decide_eq_true hq
    clear H
    go_wp2_with (fail)
    refine (hcl.out _ _ (rd_L8 l0 (kk:Int)) q wr HB.out HI.out HL.out Hq.out).mono ?_
    rintro e w2 ⟨rfl,hb⟩
    rw [hd]
    have HB2:=Aside0.mk (below_step HB.out hb)
    clear hb
    go_wp2
    go_ret
    exact ⟨rfl,by repeat (first | (with_reducible first | exact HB2.out | apply below_alloc | apply pw_below_drewN | apply below_drew1) | exact HB2.out)⟩
   ·rw [if_neg hq] at H
    have H2:=Aside0.mk H
    clear H
    have hd:=decide_eq_false hq
    go_wp2_with (fail)
    refine (hcl.out _ _ (rd_L8 l0 (kk:Int)) q wr HB.out HI.out HL.out Hq.out).mono ?_
    rintro e w2 ⟨rfl,hb⟩
    rw [hd]
    have HB2:=Aside0.mk (below_step HB.out hb)
    clear hb
    go_wp2
    go_roundg (l0.length - (kk + 1))
    case measure=>have:=HG.out;omega
    case rel=>exact ⟨kk + 1,by congr 1,⟨by omega⟩,⟨by omega⟩,H2,⟨by repeat (first | (with_reducible first | exact HB2.out | apply below_alloc | apply pw_below_drewN | apply below_drew1) | exact HB2.out)⟩⟩
  ·have hltz:¬ (kk:Int) < (l0.length:Int):=by omega
   have H:=HA.out
   rw [List.drop_eq_nil_of_le (by omega)] at H
   simp only [idxK] at H
   obtain rfl:=Option.some.inj H
   clear H
   go_wp2
   go_ret
   exact ⟨rfl,by repeat (first | (with_reducible first | exact HB.out | apply below_alloc | apply pw_below_drewN | apply below_drew1) | exact HB.out)⟩
set_option maxHeartbeats 8000000 in
set_option maxRecDepth 100000 in
theorem has_lists (k:Nat) (gs:Nat) (A0:Option Addr) (c0:Nat) (l0:List (List S33)) (B0:Option Addr) (d0:Nat) (r:List Int) (B1:Option Addr) (d1:Nat) (u:List Int) (j:Int) (w:World)
  (h0:Kd.C (Kd.slice 33 k33) w A0 l0.length l0) (g0:l0.length≤c0) (h2:Kd.C (Kd.int .i64) w B0 r.length r) (g2:r.length≤d0) (h3:Kd.C (Kd.int .i64) w B1 u.length u) (g3:u.length≤d1)
  (hs:w.heap[gs]? = some (.cells #[.slice B0 r.length d0,.slice B1 u.length d1] 33 (0,0))) (h:indexK k l0 r u = some j) :
  Calls Try.prog 90 #[.slice A0 l0.length c0,.func (.func 91) #[] #[.pointer (some ⟨gs,0,none⟩)]] w fun e w'=>e = .returned (.bool (decide (0≤j)))∧Below w.heap.size w w':=by
 have H0:=Aside0.mk h0;have H2:=Aside0.mk h2;have H3:=Aside0.mk h3
 have G0:=Aside0.mk g0;have G2:=Aside0.mk g2;have G3:=Aside0.mk g3
 have BS:=Aside0.mk hs;have HA:=Aside0.mk h
 clear h0 h2 h3 g0 g2 g3 hs h
 have HB:=Aside0.mk (Below.refl w.heap.size w)
 go_enter Try.func90,Try.ntmps90
 go_wp2_with ((with_reducible refine gate_callee (f:=131) rfl ?_);refine gL_ (some 7) Try.func131 #[.slice A0 l0.length c0,.func (.func 91) #[] #[.pointer (some ⟨gs,0,none⟩)]] rfl qa_ ?_;refine (indexK_main k 91 #[.pointer (some ⟨gs,0,none⟩)] (fun args w=>enters_ Try.func91 (by kernel_rfl) rfl args w) _ _ l0 r u j _ (cb_ H0) G0.out HA.out (fun A0_ c0_ l0_ j_ w1_ hw_ q0_ q1_ q2_=>has_row k gs A0_ c0_ l0_ B0 d0 r B1 d1 u j_ w1_ q0_ q1_ (Kd.C_below (cb_ H2) hw_) G2.out (Kd.C_below (cb_ H3) hw_) G3.out (blk_below (kk_ BS) hw_) q2_)).mono ?_;rintro e w3 ⟨rfl,hb⟩;refine ⟨_,rfl,?_⟩;replace HB:=b1_ hb;clear hb)
 go_ret
 exact ⟨qb_,hB_⟩
end Go.Proofs.Ytoijcallajegfaa.M
end
section
/- A kind: lists whose elements' blocks are apart from each other. No conditions. -/
namespace Go.Proofs.Ytoijcallajegfaa.M
set_option linter.unusedVariables false
open Go Go.RowKit Go.Proofs.YtoijcallajegfaaW.PrintWords Go.Proofs.YtoijcallajegfaaW.PrintLast Go.Proofs.YtoijcallajegfaaW.PrintMore Go.Proofs.Ytoijcallajegfaa.A
def sliceS {α:Type} (e:Nat) (d:Kd α):Kd (List α) where
 sz:=1
 E:=e :: d.E
 K:=(Kd.slice e d).K
 M:=fun w base ok xs cs=>∃ v,cs = [v]∧Kd.S d e w base ok v xs
 K_len:=(Kd.slice e d).K_len
 K_one:=(Kd.slice e d).K_one
 K_below:=(Kd.slice e d).K_below
 K_of_M:=by
  rintro w base ok x cs ⟨v,rfl,h⟩
  obtain ⟨A,c,rfl,hl,hr⟩:=Kd.S_reads h
  exact ⟨A,c,rfl,hl,hr⟩
 M_mono:=by
  rintro w base ok ok' x cs hok ⟨v,rfl,h⟩
  exact ⟨v,rfl,Kd.S_mono h hok⟩
 M_bound:=by
  rintro w base ok x cs ⟨v,rfl,h⟩
  exact ⟨v,rfl,Kd.S_bound h⟩
 M_move:=by
  rintro w w1 base ok x cs hm ⟨v,rfl,h⟩
  exact ⟨v,rfl,Kd.S_move h hm⟩
 M_lower:=by
  rintro w base base' ok x cs hb ⟨v,rfl,h⟩
  exact ⟨v,rfl,Kd.S_lower h hb⟩
theorem sliceS_C {α:Type} {e:Nat} {d:Kd α} {w:World} {A:Option Addr} {n:Nat} {xs:List (List α)} (h:Kd.C (sliceS e d) w A n xs):Kd.C (Kd.slice e d) w A n xs:=h
end Go.Proofs.Ytoijcallajegfaa.M
end
section
namespace Go.Proofs.Ytoijcallajegfaa.A
open Go.RowKit Go.Proofs.YtoijcallajegfaaW.PrintWords Go.Proofs.YtoijcallajegfaaW.PrintLast Go.Proofs.YtoijcallajegfaaW.PrintMore
attribute [local go_sem] max2_int min2_int max_two min_two max_three min_three max_four min_four
set_option linter.unusedVariables false
set_option linter.unusedSimpArgs false
def Z5.l0:Nat→List Int→Int→Int→Int→Option (Int)
 | 0,_,_,_,_=>none
 | k + 1,x0,x1,x7,x8=>if x8 < x7 then (if 0≤x8 then (if x8 < (x0.length:Int) then (if x1 = (rd x0 x8) then (some x8) else (Z5.l0 k x0 x1 x7 (wrap64 (x8 + 1)))) else (none)) else (none)) else (some (-1))
def Z5.f (k:Nat) (l0:List Int) (a1:Int):Option (Int):=Z5.l0 k l0 a1 (l0.length:Int) 0
theorem Z5.mono_l:∀ k,(∀ y0 y1 y2 y3,LeO (Z5.l0 k y0 y1 y2 y3) (Z5.l0 (k + 1) y0 y1 y2 y3))
 | 0=>fun _ _ _ _ r h=>by simp [Z5.l0] at h
 | k + 1=>by
  have ih0:=Z5.mono_l k
  ·intro y0 y1 y2 y3
   unfold Z5.l0
   repeat' first|exact ih0 _ _ _ _|exact lo_|refine LeO.ite ?_ ?_|refine LeO.bind ?_ (fun _=>?_)
theorem Z5.mono:∀ a0 a1 k,LeO (Z5.f k a0 a1) (Z5.f (k + 1) a0 a1):=by
 intro a0 a1 k
 have ih0:=Z5.mono_l k
 unfold Z5.f
 repeat' first|exact ih0 _ _ _ _|exact lo_|refine LeO.ite ?_ ?_|refine LeO.bind ?_ (fun _=>?_)
set_option maxHeartbeats 8000000 in
set_option maxRecDepth 100000 in
theorem Z5.calls (k:Nat) (A0:Option Addr) (c0:Nat) (l0:List Int) (a1:Int) (r:Int) (w:World) (hr0:Kd.C (Kd.int .i64) w A0 l0.length l0) (hc0:l0.length≤c0) (h:Z5.f k l0 a1 = some r) :
  Calls Try.prog 137 #[.slice A0 l0.length c0,.int .i64 a1] w fun e w'=>e = .returned (.int .i64 r)∧Drawn0 w w':=by
 have HR0:=A_ hr0
 have HC0:=A_ hc0
 clear hr0 hc0
 have H:=h
 unfold Z5.f at H
 clear h
 have H':=A_ H
 clear H
 go_enter Try.func137,Try.ntmps137
 go_wp2
 go_loopg [8] k (fun kq v8 w'=>∃ (x8_1:Int),v8 = .int .i64 x8_1∧Aside0 (Z5.l0 kq l0 a1 (l0.length:Int) x8_1 = some r)∧Aside0 (kq≤k)∧Drawn0 w w')
 case atStart=>exact ⟨(0),qc_,H',⟨nA_ _⟩,by repeat (first | exact Drawn0.refl _ | apply Drawn0.step)⟩
 case round =>
  clear H'
  obtain ⟨x8_1,rfl,HA,HK1,⟨m1,rfl⟩⟩:=hrel
  cases gk with
  | zero=>exact absurd HA.out (by simp [Z5.l0])
  | succ k1 =>
   have H:=HA.out
   clear HA
   simp only [Z5.l0] at H
   by_cases c3:x8_1 < (l0.length:Int)
   ·rw [if_pos c3] at H
    have c3b0:=oC_ c3
    clear c3
    replace H:=cx_ H;obtain ⟨c4b0,H⟩:=H
    replace H:=cx_ H;obtain ⟨c5b0,H⟩:=H
    by_cases c6:a1 = (rd l0 x8_1)
    ·rw [if_pos c6] at H
     have c6b0:(a1 == (rd l0 x8_1)) = true:=beq_iff_eq.mpr c6
     have c6b1:(a1 != (rd l0 x8_1)) = false:=bne_eq_false_iff_eq.mpr c6
     clear c6
     obtain rfl:=Option.some.inj H
     have p228:0≤(x8_1:Int):=oB_ qe_
     have q228:x8_1 < (l0.length:Int):=oB_ qe_
     obtain ⟨ad228,e228,hx228_0⟩:=Kd.at_int HR0.out x8_1 p228 q228
     cases e228
     replace p228:=eq_true p228
     replace q228:=eq_true q228
     go_wp2
     go_ret
     exact ⟨qc_,by repeat (first | exact Drawn0.refl _ | apply Drawn0.step)⟩
    ·rw [if_neg c6] at H
     have c6b0:(a1 == (rd l0 x8_1)) = false:=beq_eq_false_iff_ne.mpr c6
     have c6b1:(a1 != (rd l0 x8_1)) = true:=bne_iff_ne.mpr c6
     have H':=A_ H
     clear H
     have p228:0≤(x8_1:Int):=oB_ qe_
     have q228:x8_1 < (l0.length:Int):=oB_ qe_
     obtain ⟨ad228,e228,hx228_0⟩:=Kd.at_int HR0.out x8_1 p228 q228
     cases e228
     replace p228:=eq_true p228
     replace q228:=eq_true q228
     go_wp2
     go_roundg k1
     case measure=>have:=HK1.out;omega
     case rel=>exact ⟨(wrap64 (x8_1 + 1)),qc_,H',⟨by have:=HK1.out;omega⟩,by repeat (first | exact Drawn0.refl _ | apply Drawn0.step)⟩
   ·rw [if_neg c3] at H
    have c3b0:=oD_ c3
    clear c3
    obtain rfl:=Option.some.inj H
    go_wp2
    go_ret
    exact ⟨qc_,by repeat (first | exact Drawn0.refl _ | apply Drawn0.step)⟩
def Z0.f (k:Nat) (l0:List Int) (a1:Int):Option (Bool):=(Z5.f k l0 a1).bind fun t229=>(some (decide (t229 ≥ 0)))
theorem Z0.mono:∀ a0 a1 k,LeO (Z0.f k a0 a1) (Z0.f (k + 1) a0 a1):=by
 intro a0 a1 k
 unfold Z0.f
 repeat' first|exact Z5.mono _ _ _|exact lo_|refine LeO.ite ?_ ?_|refine LeO.bind ?_ (fun _=>?_)
set_option maxHeartbeats 8000000 in
set_option maxRecDepth 100000 in
theorem Z0.calls (k:Nat) (A0:Option Addr) (c0:Nat) (l0:List Int) (a1:Int) (r:Bool) (w:World) (hr0:Kd.C (Kd.int .i64) w A0 l0.length l0) (hc0:l0.length≤c0) (h:Z0.f k l0 a1 = some r) :
  Calls Try.prog 99 #[.slice A0 l0.length c0,.int .i64 a1] w fun e w'=>e = .returned (.bool r)∧Drawn0 w w':=by
 have HR0:=A_ hr0
 have HC0:=A_ hc0
 clear hr0 hc0
 have H:=h
 unfold Z0.f at H
 clear h
 obtain ⟨t229,A3,H⟩:=bi_ H
 obtain rfl:=Option.some.inj H
 go_enter Try.func99,Try.ntmps99
 go_wp2_with (first | ((with_reducible refine gA_ (f:=137) rfl ?_);refine gL_ (some 7) Try.func137 #[.slice A0 l0.length c0,.int .i64 a1] rfl qa_ ?_;(with_reducible refine (Z5.calls k _ _ l0 a1 t229 _ (cc_ HR0) HC0.out A3.out).mono ?_);rintro e w' ⟨rfl,⟨nd,rfl⟩⟩;refine ⟨_,rfl,?_⟩))
 go_ret
 exact ⟨qc_,by repeat (first | exact Drawn0.refl _ | apply Drawn0.step)⟩
end Go.Proofs.Ytoijcallajegfaa.A
end
section
namespace Go.Proofs.Ytoijcallajegfaa.A
open Go.RowKit Go.Proofs.YtoijcallajegfaaW.PrintWords Go.Proofs.YtoijcallajegfaaW.PrintLast Go.Proofs.YtoijcallajegfaaW.PrintMore
attribute [local go_sem] max2_int min2_int max_two min_two max_three min_three max_four min_four
set_option linter.unusedVariables false
set_option linter.unusedSimpArgs false
mutual
def Z48.l0:Nat→Int→List (List Int)→Int→Option ((List (List Int)))
 | 0,_,_,_=>none
 | k + 1,x0,x3,x4=>if x4 < x0 then (Z48.l1 k x0 x4 (([]:List (List Int))) x3 (x3.length:Int) 0) else (some x3)
def Z48.l1:Nat→Int→Int→List (List Int)→List (List Int)→Int→Int→Option ((List (List Int)))
 | 0,_,_,_,_,_,_=>none
 | k + 1,x0,x4,x5,x17,x18,x19=>if x19 < x18 then (if 0≤x19 then (if x19 < (x17.length:Int) then (Z48.l2 k x0 x4 x5 (rd_L5 x17 x19) 0 x17 x18 x19) else (none)) else (none)) else (Z48.l0 k x0 x5 (wrap64 (x4 + 1)))
def Z48.l2:Nat→Int→Int→List (List Int)→List Int→Int→List (List Int)→Int→Int→Option ((List (List Int)))
 | 0,_,_,_,_,_,_,_,_=>none
 | k + 1,x0,x4,x5,x7,x8,x17,x18,x19=>if x8 < x0 then ((Z0.f k x7 x8).bind fun t246=>(if t246 = true then (Z48.l2 k x0 x4 x5 x7 (wrap64 (x8 + 1)) x17 x18 x19) else ((Z49.f x7).bind fun t247=>(if t247.length < 17592186044416 then (if x5.length < 5864062014805 then (Z48.l2 k x0 x4 (x5 ++ [(t247 ++ [x8])]) x7 (wrap64 (x8 + 1)) x17 x18 x19) else (none)) else (none))))) else (Z48.l1 k x0 x4 x5 x17 x18 (wrap64 (x19 + 1)))
end
def Z48.f (k:Nat) (a0:Int):Option ((List (List Int))):=Z48.l0 k a0 (([(([]:List Int))]:List (List Int))) 0
theorem Z48.mono_l:∀ k,(∀ y0 y1 y2,LeO (Z48.l0 k y0 y1 y2) (Z48.l0 (k + 1) y0 y1 y2))∧(∀ y0 y1 y2 y3 y4 y5,LeO (Z48.l1 k y0 y1 y2 y3 y4 y5) (Z48.l1 (k + 1) y0 y1 y2 y3 y4 y5))∧(∀ y0 y1 y2 y3 y4 y5 y6 y7,LeO (Z48.l2 k y0 y1 y2 y3 y4 y5 y6 y7) (Z48.l2 (k + 1) y0 y1 y2 y3 y4 y5 y6 y7))
 | 0=>⟨fun _ _ _ r h=>by simp [Z48.l0] at h,fun _ _ _ _ _ _ r h=>by simp [Z48.l1] at h,fun _ _ _ _ _ _ _ _ r h=>by simp [Z48.l2] at h⟩
 | k + 1=>by
  obtain ⟨ih0,ih1,ih2⟩:=Z48.mono_l k
  refine ⟨?_,?_,?_⟩
  ·intro y0 y1 y2
   unfold Z48.l0
   repeat' first|exact ih0 _ _ _|exact ih1 _ _ _ _ _ _|exact ih2 _ _ _ _ _ _ _ _|exact Z0.mono _ _ _|exact lo_|refine LeO.ite ?_ ?_|refine LeO.bind ?_ (fun _=>?_)
  ·intro y0 y1 y2 y3 y4 y5
   unfold Z48.l1
   repeat' first|exact ih0 _ _ _|exact ih1 _ _ _ _ _ _|exact ih2 _ _ _ _ _ _ _ _|exact Z0.mono _ _ _|exact lo_|refine LeO.ite ?_ ?_|refine LeO.bind ?_ (fun _=>?_)
  ·intro y0 y1 y2 y3 y4 y5 y6 y7
   unfold Z48.l2
   repeat' first|exact ih0 _ _ _|exact ih1 _ _ _ _ _ _|exact ih2 _ _ _ _ _ _ _ _|exact Z0.mono _ _ _|exact lo_|refine LeO.ite ?_ ?_|refine LeO.bind ?_ (fun _=>?_)
theorem Z48.mono:∀ a0 k,LeO (Z48.f k a0) (Z48.f (k + 1) a0):=by
 intro a0 k
 obtain ⟨ih0,ih1,ih2⟩:=Z48.mono_l k
 unfold Z48.f
 repeat' first|exact ih0 _ _ _|exact ih1 _ _ _ _ _ _|exact ih2 _ _ _ _ _ _ _ _|exact Z0.mono _ _ _|exact lo_|refine LeO.ite ?_ ?_|refine LeO.bind ?_ (fun _=>?_)
set_option maxHeartbeats 8000000 in
set_option maxRecDepth 100000 in
theorem Z48.calls (k:Nat) (a0:Int) (r:List (List Int)) (w:World) (h:Z48.f k a0 = some r) :
  Calls Try.prog 50 #[.int .i64 a0] w fun e w'=>∃ v0_:Value,e = .returned (v0_)∧Kd.N (Kd.slice 3 (Kd.int .i64)) 23 w' w.heap.size (fun k_=>(w.heap.size≤k_)) v0_ r∧Below w.heap.size w w':=by
 have HB:=A_ (Below.refl w.heap.size w)
 have H:=h
 unfold Z48.f at H
 clear h
 obtain ⟨y236,hy236⟩:∃ y_:List Int,y_ = (([]:List Int)):=⟨_,rfl⟩
 replace H:(Z48.l0 k a0 (([y236]:List (List Int))) 0) = some r:=by first | (rw [hy236];exact H) | exact H
 have Ny236:=A_ hy236
 clear hy236
 obtain ⟨y239,hy239⟩:∃ y_:List (List Int),y_ = (([y236]:List (List Int))):=⟨_,rfl⟩
 replace H:(Z48.l0 k a0 y239 0) = some r:=by first | (rw [hy239];exact H) | exact H
 have Ny239:=A_ hy239
 clear hy239
 have H':=A_ H
 clear H
 go_enter Try.func50,Try.ntmps50
 go_wp2_with (first | ((with_reducible refine gB_ (N:=9) rfl ?_);refine Kd.R_lit (Kd.int .i64) _ 3 ?hg (N:=9) ?hd (xs:=([]:List Int)) (inner:=[]) (ok:=fun _=>True) (okp:=fun _=>True) ?hr ?hp (fun _ hk=>hk) trivial (Below.refl _ _) (nA_ _) (by simp) ?_;(case hd=>rfl);(case hg=>rfl);(case hr=>first | (go_simp;done) | (go_simp;rfl));(case hp=>exact (Reps.none _ _));intro v237 w2 ho3 hb hg_ hnew_;clear hg_ hnew_;(first | rw [← Ny236.out] at ho3 | (simp only [Int.reduceToNat] at ho3;rw [← Ny236.out] at ho3));have HO238:=A_ (rE_ (Kd.R_newM (M:=fun k_=>(w.heap.size≤k_)) ho3 (bF_ hB_) (fun k_ h_=>h_)) (bF_ hB_));replace HB:=b1_ hb;clear hb ho3;obtain ⟨Ao4,co4,eo4⟩:=Kd.R_slice HO238.out;subst eo4) | ((with_reducible refine gB_ (N:=10) rfl ?_);refine Kd.N_lit (Kd.slice 3 (Kd.int .i64)) _ 23 ?hg (N':=10) ?hd (xs:=([y236]:List (List Int))) (inner:=[.slice Ao4 y236.length co4]) (ok:=(fun k_=>(w.heap.size≤k_))) (okp:=(fun k_=>(w.heap.size≤k_))) ?hr ?hp (fun _ hk=>hk) ((show ∀ k_,w2.heap.size≤k_→(fun k_=>(w.heap.size≤k_)) k_ from fun k_ hk=>(Nat.le_trans (bF_ hB_) hk)) _ (nA_ _)) (Below.refl _ _) (nA_ _) (by simp) ?_;(case hd=>rfl);(case hg=>rfl);(case hr=>first | (go_simp;done) | (go_simp;rfl));(case hp=>exact (Reps.one (show Kd.FK (Kd.slice 3 (Kd.int .i64)) _ _ y236 [.slice Ao4 y236.length co4] from (Kd.FK_slice_mk (Kd.R_reads' (Kd.R_mono (ok':=(fun k_=>(w.heap.size≤k_))) (HO238.out) (fun k_ hk=>hk.1))).2.1 (Kd.R_F (Kd.R_mono (ok':=(fun k_=>(w.heap.size≤k_))) (HO238.out) (fun k_ hk=>hk.1))))) (Reps.none _ _)));intro v240 w5 ho6 hb hg_ hnew_;clear hg_ hnew_;(first | rw [← Ny239.out] at ho6 | (simp only [Int.reduceToNat] at ho6;rw [← Ny239.out] at ho6));have HO241:=A_ (Kd.N_lower ho6 (bF_ hB_));replace HB:=b1_ hb;clear HO238;clear hb ho6))
 go_loopg [3,4] k (fun kq v3 v4 w'=>∃ (x3_1:List (List Int)) (x4_1:Int),v4 = .int .i64 x4_1∧Aside0 (Z48.l0 kq a0 x3_1 x4_1 = some r)∧Aside0 (kq≤k)∧Aside0 (Kd.N (Kd.slice 3 (Kd.int .i64)) 23 w' w.heap.size (fun k_=>(w.heap.size≤k_)) v3 x3_1)∧Aside0 (Below w.heap.size w w'))
 case atStart=>exact ⟨(y239),(0),qc_,H',⟨nA_ _⟩,⟨by (with_reducible repeat (first | apply Kd.N_alloc | apply Kd.N_drewN | apply Kd.N_drew));exact HO241.out⟩,⟨hB_⟩⟩
 case round =>
  clear H'
  obtain ⟨x3_1,x4_1,rfl,HA,HK1,HO_3,HB⟩:=hrel
  cases gk with
  | zero=>exact absurd HA.out (by simp [Z48.l0])
  | succ k1 =>
   have H:=HA.out
   clear HA
   simp only [Z48.l0] at H
   by_cases c7:x4_1 < a0
   ·rw [if_pos c7] at H
    have c7b0:=oC_ c7
    clear c7
    obtain ⟨y242,hy242⟩:∃ y_:List (List Int),y_ = (([]:List (List Int))):=⟨_,rfl⟩
    replace H:(Z48.l1 k1 a0 x4_1 y242 x3_1 (x3_1.length:Int) 0) = some r:=by first | (rw [hy242];exact H) | exact H
    have Ny242:=A_ hy242
    clear hy242
    have H':=A_ H
    clear H
    go_wp2_with (first | ((with_reducible refine gB_ (N:=16) rfl ?_);refine Kd.N_lit (Kd.slice 3 (Kd.int .i64)) _ 23 ?hg (N':=16) ?hd (xs:=([]:List (List Int))) (inner:=[]) (ok:=(fun k_=>(w.heap.size≤k_)∧some k_≠(u3:Value).ownBlock)) (okp:=(fun k_=>(w.heap.size≤k_)∧some k_≠(u3:Value).ownBlock)) ?hr ?hp (fun _ hk=>hk) ((show ∀ k_,wr.heap.size≤k_→(fun k_=>(w.heap.size≤k_)∧some k_≠(u3:Value).ownBlock) k_ from fun k_ hk=>⟨(Nat.le_trans (bF_ hB_) hk),Kd.fresh' (Kd.N_lt (by (with_reducible repeat (first | apply Kd.N_alloc | apply Kd.N_drewN | apply Kd.N_drew));exact HO_3.out)) k_ hk⟩) _ (nA_ _)) (Below.refl _ _) (nA_ _) (by simp) ?_;(case hd=>rfl);(case hg=>rfl);(case hr=>first | (go_simp;done) | (go_simp;rfl));(case hp=>exact (Reps.none _ _));intro v243 w8 ho9 hb hg_ hnew_;clear hg_ hnew_;(first | rw [← Ny242.out] at ho9 | (simp only [Int.reduceToNat] at ho9;rw [← Ny242.out] at ho9));replace HO_3:=A_ (Kd.N_elder' (by (with_reducible repeat (first | apply Kd.N_alloc | apply Kd.N_drewN | apply Kd.N_drew));exact HO_3.out) (Kd.N_base ho9) hb);have HO244:=A_ (Kd.N_lower ho9 (bF_ hB_));replace HB:=b1_ hb;clear hb ho9;obtain ⟨Ao10,co10,eo10⟩:=Kd.N_slice HO_3.out;subst eo10))
    go_loopg [5,19] k1 (fun kq v5 v19 w'=>∃ (x5_2:List (List Int)) (x19_2:Int),v19 = .int .i64 x19_2∧Aside0 (Z48.l1 kq a0 x4_1 x5_2 x3_1 (x3_1.length:Int) x19_2 = some r)∧Aside0 (kq≤k1)∧Aside0 (Kd.N (Kd.slice 3 (Kd.int .i64)) 23 w' w.heap.size (fun k_=>(w.heap.size≤k_)∧some k_≠((.slice Ao10 x3_1.length co10):Value).ownBlock) v5 x5_2)∧Aside0 (Kd.N (Kd.slice 3 (Kd.int .i64)) 23 w' w.heap.size (fun k_=>(w.heap.size≤k_)∧some k_≠(v5:Value).ownBlock) (.slice Ao10 x3_1.length co10) x3_1)∧Aside0 (Below w.heap.size w w'))
    case atStart=>exact ⟨(y242),(0),qc_,H',⟨nA_ _⟩,⟨by (with_reducible repeat (first | apply Kd.N_alloc | apply Kd.N_drewN | apply Kd.N_drew));exact HO244.out⟩,⟨by (with_reducible repeat (first | apply Kd.N_alloc | apply Kd.N_drewN | apply Kd.N_drew));exact HO_3.out⟩,⟨hB_⟩⟩
    case round =>
     clear H'
     obtain ⟨x5_2,x19_2,rfl,HA,HK2,HO_5,HO_17,HB⟩:=hrel
     cases gk with
     | zero=>exact absurd HA.out (by simp [Z48.l1])
     | succ k2 =>
      have H:=HA.out
      clear HA
      simp only [Z48.l1] at H
      by_cases c11:x19_2 < (x3_1.length:Int)
      ·rw [if_pos c11] at H
       have c11b0:=oC_ c11
       clear c11
       replace H:=cx_ H;obtain ⟨c12b0,H⟩:=H
       replace H:=cx_ H;obtain ⟨c13b0,H⟩:=H
       have H':=A_ H
       clear H
       have p245:0≤(x19_2:Int):=oB_ qe_
       have q245:x19_2 < (x3_1.length:Int):=oB_ qe_
       obtain ⟨ad245,A245_0,c245_0,e245,hx245_0,hl245_0,hi245_0⟩:=at_L5 (Kd.N_reads' HO_17.out).2.2 x19_2 p245 q245
       cases e245
       obtain ⟨ce245,hce245,hMe245,hcc245⟩:=Kd.N_get HO_17.out [] x19_2 p245 (by first | exact q245 | exact oB_ qe_ | (have e_:=(Kd.N_reads' HO_17.out).1;omega))
       obtain ⟨ua245_0,uc245_0,rfl,ul245_0,ge245_0⟩:=Kd.FK_slice_open hMe245
       have hv245_0:=hcc245 0 _ rfl
       rw [Nat.add_zero,show ((Kd.slice 3 (Kd.int .i64))).sz = 1 from rfl,Nat.mul_one] at hv245_0
       replace hv245_0:=Option.some.inj (hv245_0.symm.trans hx245_0)
       injection hv245_0 with hva_ hvn_ hvc_
       rw [hva_] at ge245_0
       rw [hvc_] at ul245_0
       have HL245_0:=A_ (show Kd.V (Kd.int .i64) 3 _ w.heap.size _ _ (rd_L5 x3_1 x19_2) from Kd.V_mk ul245_0 ge245_0)
       clear hva_ hvn_ hvc_ ge245_0 ul245_0
       clear hcc245 hce245
       have HR245_0:=A_ hi245_0
       have HC245_0:=A_ hl245_0
       clear hi245_0 hl245_0
       replace p245:=eq_true p245
       replace q245:=eq_true q245
       go_wp2
       go_loopg [5,8] k2 (fun kq v5 v8 w'=>∃ (x5_3:List (List Int)) (x8_3:Int),v8 = .int .i64 x8_3∧Aside0 (Z48.l2 kq a0 x4_1 x5_3 (rd_L5 x3_1 x19_2) x8_3 x3_1 (x3_1.length:Int) x19_2 = some r)∧Aside0 (kq≤k2)∧Aside0 (Kd.N (Kd.slice 3 (Kd.int .i64)) 23 w' w.heap.size (fun k_=>(w.heap.size≤k_)∧some k_≠((.slice (some ad245) x3_1.length co10):Value).ownBlock) v5 x5_3)∧Aside0 (Kd.V (Kd.int .i64) 3 w' w.heap.size (fun k_=>(w.heap.size≤k_)∧some k_≠(v5:Value).ownBlock∧some k_≠((.slice (some ad245) x3_1.length co10):Value).ownBlock) (.slice A245_0 (rd_L5 x3_1 x19_2).length c245_0) (rd_L5 x3_1 x19_2))∧Aside0 (Kd.N (Kd.slice 3 (Kd.int .i64)) 23 w' w.heap.size (fun k_=>(w.heap.size≤k_)∧some k_≠(v5:Value).ownBlock) (.slice (some ad245) x3_1.length co10) x3_1)∧Aside0 (Below w.heap.size w w'))
       case atStart=>exact ⟨(x5_2),(0),qc_,H',⟨nA_ _⟩,⟨by (with_reducible repeat (first | apply Kd.N_alloc | apply Kd.N_drewN | apply Kd.N_drew));exact HO_5.out⟩,⟨by (with_reducible repeat (first | apply Kd.V_alloc | apply Kd.V_drewN | apply Kd.V_drew));exact Kd.V_mono HL245_0.out (fun _ hk=>⟨hk.1.1,⟨hk.1.2,hk.2⟩⟩)⟩,⟨by (with_reducible repeat (first | apply Kd.N_alloc | apply Kd.N_drewN | apply Kd.N_drew));exact HO_17.out⟩,⟨hB_⟩⟩
       case round =>
        clear H'
        obtain ⟨x5_3,x8_3,rfl,HA,HK3,HO_5,HO_7,HO_17,HB⟩:=hrel
        cases gk with
        | zero=>exact absurd HA.out (by simp [Z48.l2])
        | succ k3 =>
         have H:=HA.out
         clear HA
         simp only [Z48.l2] at H
         by_cases c14:x8_3 < a0
         ·rw [if_pos c14] at H
          have c14b0:=oC_ c14
          clear c14
          obtain ⟨t246,A15,H⟩:=bi_ H
          by_cases c16:t246 = true
          ·subst c16
           rw [if_pos rfl] at H
           have H':=A_ H
           clear H
           go_wp2_with (first | ((with_reducible refine gA_ (f:=99) rfl ?_);refine gL_ (some 30) Try.func99 #[.slice A245_0 (rd_L5 x3_1 x19_2).length c245_0,.int .i64 x8_3] rfl qa_ ?_;(with_reducible refine (Z0.calls k3 _ _ (rd_L5 x3_1 x19_2) x8_3 true _ (cw_ ((Kd.V_reads' HO_7.out).2.2)) ((Kd.V_reads' HO_7.out).2.1) A15.out).mono ?_);rintro e w' ⟨rfl,⟨nd,rfl⟩⟩;refine ⟨_,rfl,?_⟩))
           go_roundg k3
           case measure=>have:=HK1.out;have:=HK2.out;have:=HK3.out;omega
           case rel=>exact ⟨(x5_3),(wrap64 (x8_3 + 1)),qc_,H',⟨by have:=HK1.out;have:=HK2.out;have:=HK3.out;omega⟩,⟨by (with_reducible repeat (first | apply Kd.N_alloc | apply Kd.N_drewN | apply Kd.N_drew));exact HO_5.out⟩,⟨by (with_reducible repeat (first | apply Kd.V_alloc | apply Kd.V_drewN | apply Kd.V_drew));exact HO_7.out⟩,⟨by (with_reducible repeat (first | apply Kd.N_alloc | apply Kd.N_drewN | apply Kd.N_drew));exact HO_17.out⟩,⟨hB_⟩⟩
          ·replace c16:=Bool.eq_false_iff.mpr c16
           subst c16
           have H1:((Z49.f (rd_L5 x3_1 x19_2)).bind fun t247=>(if t247.length < 17592186044416 then (if x5_3.length < 5864062014805 then (Z48.l2 k3 a0 x4_1 (x5_3 ++ [(t247 ++ [x8_3])]) (rd_L5 x3_1 x19_2) (wrap64 (x8_3 + 1)) x3_1 (x3_1.length:Int) x19_2) else (none)) else (none))) = some r:=by rw [if_neg (show ¬ (false = true) by decide)] at H;exact H
           clear H
           have H:=H1
           clear H1
           obtain ⟨t247,A17,H⟩:=bi_ H
           have c18:=cp_ H
           replace H:=ca_ H
           have LMc18:=A_ c18
           clear c18
           obtain ⟨y250,hy250⟩:∃ y_:List Int,y_ = (t247 ++ [x8_3]):=⟨_,rfl⟩
           replace H:(if x5_3.length < 5864062014805 then (Z48.l2 k3 a0 x4_1 (x5_3 ++ [y250]) (rd_L5 x3_1 x19_2) (wrap64 (x8_3 + 1)) x3_1 (x3_1.length:Int) x19_2) else (none)) = some r:=by first | (rw [hy250];exact H) | exact H
           have Ny250:=A_ hy250
           clear hy250
           have c19:=cp_ H
           replace H:=ca_ H
           have LMc19:=A_ c19
           clear c19
           obtain ⟨y253,hy253⟩:∃ y_:List (List Int),y_ = (x5_3 ++ [y250]):=⟨_,rfl⟩
           replace H:(Z48.l2 k3 a0 x4_1 y253 (rd_L5 x3_1 x19_2) (wrap64 (x8_3 + 1)) x3_1 (x3_1.length:Int) x19_2) = some r:=by first | (rw [hy253];exact H) | exact H
           have Ny253:=A_ hy253
           clear hy253
           have H':=A_ H
           clear H
           go_wp2_with (first | ((with_reducible refine gA_ (f:=99) rfl ?_);refine gL_ (some 30) Try.func99 #[.slice A245_0 (rd_L5 x3_1 x19_2).length c245_0,.int .i64 x8_3] rfl qa_ ?_;(with_reducible refine (Z0.calls k3 _ _ (rd_L5 x3_1 x19_2) x8_3 false _ (cw_ ((Kd.V_reads' HO_7.out).2.2)) ((Kd.V_reads' HO_7.out).2.1) A15.out).mono ?_);rintro e w' ⟨rfl,⟨nd,rfl⟩⟩;refine ⟨_,rfl,?_⟩) | ((with_reducible refine gA_ (f:=100) rfl ?_);refine gL_ (some 34) Try.func100 #[.slice A245_0 (rd_L5 x3_1 x19_2).length c245_0] rfl qa_ ?_;(with_reducible refine (Z49.calls _ _ (rd_L5 x3_1 x19_2) t247 _ (cw_ ((Kd.V_reads' HO_7.out).2.2)) ((Kd.V_reads' HO_7.out).2.1) A17.out).mono ?_);rintro e w20 ⟨v248,rfl,ho0,hb⟩;refine ⟨_,rfl,?_⟩;replace HO_5:=A_ (Kd.N_elder' (by (with_reducible repeat (first | apply Kd.N_alloc | apply Kd.N_drewN | apply Kd.N_drew));exact HO_5.out) (Kd.R_base ho0) hb);replace HO_7:=A_ (Kd.V_elder' (by (with_reducible repeat (first | apply Kd.V_alloc | apply Kd.V_drewN | apply Kd.V_drew));exact HO_7.out) (Kd.R_base ho0) hb);replace HO_17:=A_ (Kd.N_elder' (by (with_reducible repeat (first | apply Kd.N_alloc | apply Kd.N_drewN | apply Kd.N_drew));exact HO_17.out) (Kd.R_base ho0) hb);have HO249:=A_ (rE_ (Kd.R_newM (M:=fun k_=>(w.heap.size≤k_)) ho0 (bF_ hB_) (fun k_ h_=>h_)) (bF_ hB_));replace HB:=b1_ hb;clear hb ho0) | ((with_reducible refine gate_builtin (b:=.append) (xs:=#[.tmp 34,.tmp 36]) rfl ?_);at_builtin;refine Kd.R_append (Kd.int .i64) (w0:=w) w.heap.size rfl (.tmp 34) (.tmp 36) 23 3 (.int .i64 0) 8 rfl Try.underlying23 info3 rfl (by decide) (by omega) v248 t247 x8_3 [.int .i64 x8_3] (fun k_=>(w.heap.size≤k_)) (fun _=>False) rfl rfl ?aP (fun _ hk=>hk.elim) ?aF ?aO ?aB ?aS ?aL ?_;(case aP=>exact rfl);(case aB=>exact hB_);(case aF=>exact (fun k_ hk=>(Nat.le_trans (bF_ hB_) hk)));(case aO=>exact (rw_ (Kd.R_mono HO249.out (fun _ hk=>hk.1))));(case aS=>exact (bF_ hB_));(case aL=>have:=LMc18.out;omega);intro v251 w21 ho hb hg hat;rw [← Ny250.out] at ho;replace HO_5:=A_ (Kd.N_afterv (ok:=(fun k_=>(w.heap.size≤k_)∧some k_≠(.slice (some ad245) x3_1.length co10:Value).ownBlock)) (by (with_reducible repeat (first | apply Kd.N_alloc | apply Kd.N_drewN | apply Kd.N_drew));exact HO_5.out) hg hat);replace HO_7:=A_ (Kd.V_afterv (ok:=(fun k_=>(w.heap.size≤k_)∧some k_≠(u5:Value).ownBlock∧some k_≠(.slice (some ad245) x3_1.length co10:Value).ownBlock)) (by (with_reducible repeat (first | apply Kd.V_alloc | apply Kd.V_drewN | apply Kd.V_drew));exact HO_7.out) hg hat);replace HO_17:=A_ (Kd.N_afterv (ok:=(fun k_=>(w.heap.size≤k_)∧some k_≠(u5:Value).ownBlock)) (by (with_reducible repeat (first | apply Kd.N_alloc | apply Kd.N_drewN | apply Kd.N_drew));exact HO_17.out) hg hat);replace HB:=A_ hb;have HO252:=A_ ho;clear HO249;clear ho hb hg hat;obtain ⟨Ao23,co23,eo23⟩:=Kd.R_slice HO252.out;subst eo23) | ((with_reducible refine gate_builtin (b:=.append) (xs:=#[.tmp 32,.tmp 38]) rfl ?_);at_builtin;refine Kd.N_append (Kd.slice 3 (Kd.int .i64)) (w0:=w) w.heap.size rfl (.tmp 32) (.tmp 38) 28 23 (.slice none 0 0) 24 rfl Try.underlying28 info23 rfl (by decide) (by omega) u5 x5_3 y250 [.slice Ao23 y250.length co23] (fun k_=>(w.heap.size≤k_)∧some k_≠(.slice (some ad245) x3_1.length co10:Value).ownBlock) (fun k_=>((fun k_=>(w.heap.size≤k_)∧some k_≠(.slice (some ad245) x3_1.length co10:Value).ownBlock)) k_∧some k_≠(u5:Value).ownBlock) rfl rfl ?aP (fun _ hk=>hk) ?aF ?aO ?aB ?aS ?aL ?_;(case aP=>exact (Kd.FK_slice_mk (Kd.R_reads' (Kd.R_mono (ok':=(fun k_=>((fun k_=>(w.heap.size≤k_)∧some k_≠(.slice (some ad245) x3_1.length co10:Value).ownBlock)) k_∧some k_≠(u5:Value).ownBlock)) (Kd.R_apart' (Kd.R_apart' (HO252.out) (Kd.N_typed HO_17.out) (by decide)) (Kd.N_typed HO_5.out) (by decide)) (fun k_ hk=>⟨⟨hk.1.1,hk.1.2⟩,hk.2⟩))).2.1 (Kd.R_F (Kd.R_mono (ok':=(fun k_=>((fun k_=>(w.heap.size≤k_)∧some k_≠(.slice (some ad245) x3_1.length co10:Value).ownBlock)) k_∧some k_≠(u5:Value).ownBlock)) (Kd.R_apart' (Kd.R_apart' (HO252.out) (Kd.N_typed HO_17.out) (by decide)) (Kd.N_typed HO_5.out) (by decide)) (fun k_ hk=>⟨⟨hk.1.1,hk.1.2⟩,hk.2⟩)))));(case aB=>exact hB_);(case aF=>exact (fun k_ hk=>⟨(Nat.le_trans (bF_ hB_) hk),Kd.fresh' (Kd.N_lt (by (with_reducible repeat (first | apply Kd.N_alloc | apply Kd.N_drewN | apply Kd.N_drew));exact HO_17.out)) k_ hk⟩));(case aO=>exact (by (with_reducible repeat (first | apply Kd.N_alloc | apply Kd.N_drewN | apply Kd.N_drew));exact Kd.N_mono HO_5.out (fun _ hk=>⟨hk.1.1,hk.1.2⟩)));(case aS=>exact (bF_ hB_));(case aL=>have:=LMc19.out;omega);intro v254 w22 ho hb hg hat;rw [← Ny253.out] at ho;replace HO_7:=A_ (Kd.V_afterv (ok:=(fun k_=>(w.heap.size≤k_)∧some k_≠(.slice (some ad245) x3_1.length co10:Value).ownBlock∧some k_≠(.slice Ao23 y250.length co23:Value).ownBlock)) (by (with_reducible repeat (first | apply Kd.V_alloc | apply Kd.V_drewN | apply Kd.V_drew));exact Kd.V_mono HO_7.out (fun _ hk=>⟨⟨hk.1.1,⟨hk.1.2.2,hk.2⟩⟩,hk.1.2.1⟩)) hg hat);replace HO_17:=A_ (Kd.N_afterv (ok:=(fun k_=>(w.heap.size≤k_)∧some k_≠(.slice Ao23 y250.length co23:Value).ownBlock)) (by (with_reducible repeat (first | apply Kd.N_alloc | apply Kd.N_drewN | apply Kd.N_drew));exact Kd.N_mono HO_17.out (fun _ hk=>⟨⟨hk.1.1,hk.2⟩,hk.1.2⟩)) hg hat);replace HB:=A_ hb;have HO255:=A_ ho;clear HO_5 HO252;clear ho hb hg hat))
           go_roundg k3
           case measure=>have:=HK1.out;have:=HK2.out;have:=HK3.out;omega
           case rel=>exact ⟨(y253),(wrap64 (x8_3 + 1)),qc_,H',⟨by have:=HK1.out;have:=HK2.out;have:=HK3.out;omega⟩,⟨by (with_reducible repeat (first | apply Kd.N_alloc | apply Kd.N_drewN | apply Kd.N_drew));exact HO255.out⟩,⟨by (with_reducible repeat (first | apply Kd.V_alloc | apply Kd.V_drewN | apply Kd.V_drew));exact Kd.V_mono HO_7.out (fun _ hk=>⟨hk.1.1,⟨hk.2,hk.1.2.1⟩⟩)⟩,⟨by (with_reducible repeat (first | apply Kd.N_alloc | apply Kd.N_drewN | apply Kd.N_drew));exact Kd.N_mono HO_17.out (fun _ hk=>⟨hk.1.1,hk.2⟩)⟩,⟨hB_⟩⟩
         ·rw [if_neg c14] at H
          have c14b0:=oD_ c14
          clear c14
          have H':=A_ H
          clear H
          go_wp2
          go_roundg k3
          case measure=>have:=HK1.out;have:=HK2.out;have:=HK3.out;omega
          case rel=>exact ⟨(x5_3),(wrap64 (x19_2 + 1)),qc_,H',⟨by have:=HK1.out;have:=HK2.out;have:=HK3.out;omega⟩,⟨by (with_reducible repeat (first | apply Kd.N_alloc | apply Kd.N_drewN | apply Kd.N_drew));exact HO_5.out⟩,⟨by (with_reducible repeat (first | apply Kd.N_alloc | apply Kd.N_drewN | apply Kd.N_drew));exact HO_17.out⟩,⟨hB_⟩⟩
      ·rw [if_neg c11] at H
       have c11b0:=oD_ c11
       clear c11
       have H':=A_ H
       clear H
       go_wp2
       go_roundg k2
       case measure=>have:=HK1.out;have:=HK2.out;omega
       case rel=>exact ⟨(x5_2),(wrap64 (x4_1 + 1)),qc_,H',⟨by have:=HK1.out;have:=HK2.out;omega⟩,⟨by (with_reducible repeat (first | apply Kd.N_alloc | apply Kd.N_drewN | apply Kd.N_drew));exact Kd.N_mono HO_5.out (fun _ hk=>hk.1)⟩,⟨hB_⟩⟩
   ·rw [if_neg c7] at H
    have c7b0:=oD_ c7
    clear c7
    obtain rfl:=Option.some.inj H
    go_wp2
    go_ret
    exact ⟨_,qb_,by (with_reducible repeat (first | apply Kd.N_alloc | apply Kd.N_drewN | apply Kd.N_drew));exact HO_3.out,hB_⟩
end Go.Proofs.Ytoijcallajegfaa.A
end
section
/- Sorting a row of the call's own: what slices.SortFunc leaves. No conditions. -/
namespace Go.Proofs.Ytoijcallajegfaa.M
set_option linter.unusedVariables false
set_option linter.unusedSimpArgs false
open Go Go.RowKit Go.Proofs.YtoijcallajegfaaW.PrintWords.Kd Go.Proofs.YtoijcallajegfaaW.PrintWords Go.Proofs.YtoijcallajegfaaW.PrintLast Go.Proofs.YtoijcallajegfaaW.PrintMore Go.Shelf Go.Lib Go.Sort Go.Proofs
structure Cel {α:Type} (d:Kd α) (Q:α→Prop) (w:World) (base:Nat) (ok:Nat→Prop) where
 x:α
 c:List Value
 h:d.M w base ok x c
 q:Q x
section
variable {α:Type} {d:Kd α} {Q:α→Prop} {w W:World} {ok:Nat→Prop} {e base g cap:Nat} {v:Value} {xs:List α}
theorem Cel.len (z:Cel d Q w base ok):z.c.length = d.sz:=d.K_len (d.K_of_M z.h)
theorem Cel.one (z:Cel d Q w base ok):∀ u ∈ z.c,u.oneCell' = true:=d.K_one (d.K_of_M z.h)
theorem Cel.move (z:Cel d Q w base ok) (hm:∀ k,ok k→k < w.heap.size→W.heap[k]? = w.heap[k]?):d.M W base ok z.x z.c :=
 d.M_mono (fun _ hk=>hk.1) (d.M_move (fun k hk=>hm k hk.1 hk.2.2.1) (d.M_bound z.h))
theorem cels_of:∀ (xs:List α) (rows:List (List Value)),rows.length = xs.length→(∀ x ∈ xs,Q x)→(∀ (j:Nat) (x:α) (c:List Value),xs[j]? = some x→rows[j]? = some c→d.M w base ok x c) →
  ∃ l:List (Cel d Q w base ok),l.map (·.x) = xs∧l.map (·.c) = rows
 | [],[],_,_,_=>⟨[],rfl,rfl⟩
 | [],_ :: _,h,_,_=>by simp at h
 | _ :: _,[],h,_,_=>by simp at h
 | x :: xs,c :: rows,h,hq,hf=>by
  obtain ⟨l,h1,h2⟩:=cels_of xs rows (by simpa using h) (fun y hy=>hq y (List.mem_cons_of_mem _ hy)) (fun j y c' hy hc=>hf (j + 1) y c' (by simpa using hy) (by simpa using hc))
  exact ⟨⟨x,c,hf 0 x c rfl rfl,hq x List.mem_cons_self⟩ :: l,by simp [h1],by simp [h2]⟩
theorem flat_lenK {sz:Nat}:∀ {rows:List (List Value)},(∀ c ∈ rows,c.length = sz)→rows.flatten.length = rows.length * sz
 | [],_=>by simp
 | c :: rows,h=>by
  rw [List.flatten_cons,List.length_append,flat_lenK (fun c' hc=>h c' (List.mem_cons_of_mem _ hc)),h c List.mem_cons_self,List.length_cons,Nat.add_mul,Nat.one_mul,Nat.add_comm]
theorem flat_chunk {sz:Nat}:∀ {rows:List (List Value)} (j:Nat) (c:List Value),(∀ c ∈ rows,c.length = sz)→rows[j]? = some c→(rows.flatten.drop (j * sz)).take sz = c
 | [],j,c,_,h=>by simp at h
 | r :: rows,0,c,hl,h=>by
  simp only [List.getElem?_cons_zero,Option.some.injEq] at h
  subst h
  have:=hl r List.mem_cons_self
  rw [Nat.zero_mul,List.drop_zero,List.flatten_cons,List.take_append_of_le_length (by omega),List.take_of_length_le (by omega)]
 | r :: rows,j + 1,c,hl,h=>by
  have h0:=hl r List.mem_cons_self
  have hd:r.drop sz = []:=List.drop_of_length_le (by omega)
  rw [List.flatten_cons,Nat.add_mul,Nat.one_mul,Nat.add_comm,← List.drop_drop,List.drop_append_of_le_length (by omega),hd,List.nil_append]
  exact flat_chunk j c (fun c' hc=>hl c' (List.mem_cons_of_mem _ hc)) (by simpa using h)
theorem flat_at {sz:Nat} {rows:List (List Value)} (hl:∀ c ∈ rows,c.length = sz) {t:Nat} (ht:t < rows.length * sz) {c:List Value} (hc:rows[t / sz]? = some c):rows.flatten[t]? = c[t % sz]?:=by
 have h:=flat_chunk (t / sz) c hl hc
 have hsz:0 < sz:=by
  rcases Nat.eq_zero_or_pos sz with h0 | h0
  ·subst h0;simp at ht
  ·exact h0
 have hm:=Nat.mod_lt t hsz
 rw [← h,List.getElem?_take,if_pos hm,List.getElem?_drop,Nat.mul_comm,Nat.div_add_mod]
theorem R_of_cells {l:List (Cel d Q w base ok)} {okk:Nat→Prop} {cur:Array Value} (hg0:okk g) (hbase:base≤g) (hW:∀ k,k≠g→k < w.heap.size→W.heap[k]? = w.heap[k]?)
  (hg:W.heap[g]? = some (.cells cur e (0,0))) (hn:l.length≤cap) (hm:cap≤maxLen) (hs:cur.size = cap * d.sz) (ht:cur.toList.take (l.length * d.sz) = (l.map (·.c)).flatten) (hok2:∀ k,ok k→okk k∧k≠g) :
  d.R e W base okk (.slice (some ⟨g,0,none⟩) l.length cap) (l.map (·.x)):=by
 have hl:∀ c ∈ l.map (·.c),c.length = d.sz:=by
  intro c hc
  obtain ⟨z,_,rfl⟩:=List.mem_map.1 hc
  exact z.len
 refine ⟨fun k hk=>?_,(l.map (·.c)).flatten,?_,?_,?_⟩
 ·simp only [Value.ownBlock,Option.some.injEq] at hk;rw [← hk];exact hg0
 ·show World.ownsRow W base e d.sz _ _ _
  rw [List.length_map]
  exact ⟨by rw [flat_lenK hl,List.length_map],.inr ⟨g,cap,cur,rfl,hbase,hg,hn,hm,hs,ht⟩⟩
 ·rw [flat_lenK hl,List.length_map,List.length_map]
 ·intro j p hj
  rw [List.getElem?_map] at hj
  cases hz:l[j]? with
  | none=>rw [hz] at hj;simp at hj
  | some z =>
   rw [hz] at hj
   simp only [Option.map_some,Option.some.injEq] at hj
   subst hj
   rw [flat_chunk j z.c hl (by rw [List.getElem?_map,hz];rfl)]
   exact d.M_mono (fun k hk=>⟨(hok2 k hk).1,fun e_=>(hok2 k hk).2 (by simpa [Value.ownBlock] using e_)⟩) (z.move (fun k hk hlt=>hW k (hok2 k hk).2 hlt))
theorem R_cells (h:d.R e w base ok v xs) (hq:∀ x ∈ xs,Q x) (hp:0 < xs.length):∃ g cap cur,v = .slice (some ⟨g,0,none⟩) xs.length cap∧ok g∧base≤g∧g < w.heap.size∧w.heap[g]? = some (.cells cur e (0,0))∧xs.length≤cap∧cap≤maxLen∧cur.size = cap * d.sz ∧
  ∃ l:List (Cel d Q w base (fun k=>ok k∧k≠g)),l.map (·.x) = xs∧cur.toList.take (xs.length * d.sz) = (l.map (·.c)).flatten:=by
 obtain ⟨h0,inner,ho,hr⟩:=h
 obtain ⟨hlen,ho⟩:=ho
 rcases ho with ⟨rfl,hz⟩ | ⟨g,cap,cur,rfl,hb,hg,hn,hm,hs,ht⟩
 ·omega
 ·have hgl:g < w.heap.size:=by
   rcases Nat.lt_or_ge g w.heap.size with h | h
   ·exact h
   ·rw [Array.getElem?_eq_none h] at hg;cases hg
  obtain ⟨l,h1,h2⟩:=cels_of (d:=d) (w:=w) (base:=base) (Q:=Q) (ok:=fun k=>ok k∧k≠g) xs (chunks d.sz xs.length inner) (chunks_length _ _ _) hq (fun j x c hx hc=>by
   rw [chunks_get hc]
   exact d.M_mono (fun k hk=>⟨hk.1,fun e_=>hk.2 (by rw [e_];rfl)⟩) (hr.2 j x hx))
  refine ⟨g,cap,cur,rfl,h0 g rfl,hb,hgl,hg,hn,hm,hs,l,h1,?_⟩
  have hrl:∀ c ∈ l.map (·.c),c.length = d.sz:=by
   intro c hc
   obtain ⟨z,_,rfl⟩:=List.mem_map.1 hc
   exact z.len
  rw [ht]
  apply List.ext_getElem?
  intro t
  have hll:(l.map (·.c)).length = xs.length:=by rw [List.length_map,← h1,List.length_map]
  by_cases htl:t < xs.length * d.sz
  ·have hsz:0 < d.sz:=by
    rcases Nat.eq_zero_or_pos d.sz with h | h
    ·rw [h] at htl;simp at htl
    ·exact h
   have hdiv:t / d.sz < xs.length:=(Nat.div_lt_iff_lt_mul hsz).2 htl
   have hc:=chunks_at (sz:=d.sz) (inner:=inner) hdiv
   rw [← h2] at hc
   rw [flat_at hrl (by rw [hll];exact htl) hc]
   have hmod:=Nat.mod_lt t hsz
   rw [List.getElem?_take,if_pos hmod,List.getElem?_drop,Nat.mul_comm,Nat.div_add_mod]
  ·rw [List.getElem?_eq_none (by rw [hlen];omega),List.getElem?_eq_none (by rw [flat_lenK hrl,hll];omega)]
theorem row_after {cur F:Array Value} {m:Nat} {os:Array Obj} (hg:w.heap[g]? = some (.cells cur e (0,0))) (hF:F.size≤cur.size) (hW:W = grow (putRow id (Sort.ahead w m) g 0 F) os) :
  W.heap[g]? = some (.cells (putCells id 0 F cur) e (0,0))∧(∀ k,k≠g→k < w.heap.size→W.heap[k]? = w.heap[k]?)∧w.heap.size≤W.heap.size∧W.os = w.os∧W.tape = w.tape∧W.output = w.output∧(putCells id 0 F cur).size = cur.size∧(putCells id 0 F cur).toList.take F.size = F.toList:=by
 subst hW
 have hgl:g < w.heap.size:=by
  rcases Nat.lt_or_ge g w.heap.size with h | h
  ·exact h
  ·rw [Array.getElem?_eq_none h] at hg;cases hg
 have hp:∀ k,k < w.heap.size→(grow (putRow id (Sort.ahead w m) g 0 F) os).heap[k]? = (w.heap.modify g (onCells (putCells id 0 F)))[k]?:=by
  intro k hk
  show ((w.heap.modify g (onCells (putCells id 0 F))) ++ os)[k]? = _
  rw [Array.getElem?_append_left (by simpa using hk)]
 refine ⟨?_,?_,?_,rfl,rfl,rfl,by simp [putCells],?_⟩
 ·rw [hp g hgl,Array.getElem?_modify,if_pos rfl,hg];rfl
 ·intro k hk hlt
  rw [hp k hlt,Array.getElem?_modify,if_neg (fun e_=>hk e_.symm)]
 ·show w.heap.size≤((w.heap.modify g (onCells (putCells id 0 F))) ++ os).size
  simp
 ·apply List.ext_getElem?
  intro t
  by_cases ht:t < F.size
  ·rw [List.getElem?_take,if_pos ht,Array.getElem?_toList,Array.getElem?_toList]
   have htc:t < cur.size:=by omega
   simp only [putCells,Array.getElem?_mapIdx,Array.getElem?_eq_getElem htc,Array.getElem?_eq_getElem ht,Option.map_some,Nat.zero_le,true_and,Nat.zero_add,ht,if_true,Nat.sub_zero,id]
   rw [getElem!_pos F t ht]
  ·rw [List.getElem?_eq_none (by simp;omega),List.getElem?_eq_none (by simp;omega)]
theorem flatK_list [Inhabited (Cel d Q w base ok)] (D:Array (Cel d Q w base ok)):(flatK (·.c) d.sz D).toList = (D.toList.map (·.c)).flatten:=by
 have hl:∀ c ∈ D.toList.map (·.c),c.length = d.sz:=by
  intro c hc
  obtain ⟨z,_,rfl⟩:=List.mem_map.1 hc
  exact z.len
 apply List.ext_getElem?
 intro t
 by_cases ht:t < D.size * d.sz
 ·have hsz:0 < d.sz:=by
   rcases Nat.eq_zero_or_pos d.sz with h | h
   ·rw [h] at ht;simp at ht
   ·exact h
  have hdiv:t / d.sz < D.size:=(Nat.div_lt_iff_lt_mul hsz).2 ht
  have hmod:=Nat.mod_lt t hsz
  rw [flat_at hl (by simpa using ht) (c:=D[t / d.sz].c) (by rw [List.getElem?_map,Array.getElem?_toList,Array.getElem?_eq_getElem hdiv];rfl),Array.getElem?_toList]
  rw [Array.getElem?_eq_getElem (by rw [size_flatK];exact ht)]
  have hg:=get_flatK (fun z:Cel d Q w base ok=>z.c) d.sz D t ht
  rw [getElem!_pos _ t (by rw [size_flatK];exact ht),getElem!_pos D _ hdiv] at hg
  have hlen:=D[t / d.sz].len
  rw [hg,getElem!_pos _ _ (by omega),List.getElem?_eq_getElem (by omega)]
 ·rw [List.getElem?_eq_none (by simp;omega),List.getElem?_eq_none (by rw [flat_lenK hl];simp;omega)]
theorem perm_list {β:Type} [Inhabited β] {D D':Array β} (h:PermIn 0 D.size D D'):D'.toList.Perm D.toList:=by
 obtain ⟨hs,_,hp⟩:=h
 have h1:D.extract 0 D.size = D:=by simp
 have h2:D'.extract 0 D.size = D':=by rw [← hs];simp
 rw [h1,h2] at hp
 exact hp
theorem sorted_list {β:Type} [Inhabited β] {lt:β→β→Bool} {D D':Array β} (hs:D'.size = D.size) (h:SortedIn lt 0 D.size D'):D'.toList.Pairwise (fun a b=>lt b a = false):=by
 rw [List.pairwise_iff_getElem]
 intro i j hi hj hij
 have hi':i < D'.size:=by simpa using hi
 have hj':j < D'.size:=by simpa using hj
 have:=h i j (Nat.zero_le _) hij (by omega)
 rwa [getElem!_pos D' i hi',getElem!_pos D' j hj'] at this
theorem below_of {b:Nat} (hW:∀ k,k≠g→k < w.heap.size→W.heap[k]? = w.heap[k]?) (hs:w.heap.size≤W.heap.size) (h1:W.os = w.os) (h2:W.tape = w.tape) (h3:W.output = w.output) (hb:b≤g) (hg:g < w.heap.size):Go.RowKit.Below b w W :=
 ⟨h1,h2,h3,hs,fun k hk=>hW k (by omega) (by omega)⟩
structure Ord3 (Q:α→Prop) (cf:α→α→Int):Prop where
 irr:∀ x,Q x→¬ cf x x < 0
 tr:∀ x y z,Q x→Q y→Q z→cf x y < 0→cf y z < 0→cf x z < 0
 nt:∀ x y z,Q x→Q y→Q z→¬ cf x y < 0→¬ cf y z < 0→¬ cf x z < 0
theorem Ord3.swo {cf:α→α→Int} (h:Ord3 Q cf):SWO (ltOf fun p q:Cel d Q w base ok=>cf p.x q.x) where
 irrefl p:=decide_eq_false (h.irr p.x p.q)
 trans p q r h1 h2:=decide_eq_true (h.tr p.x q.x r.x p.q q.q r.q (of_decide_eq_true h1) (of_decide_eq_true h2))
 ntrans p q r h1 h2:=decide_eq_false (h.nt p.x q.x r.x p.q q.q r.q (of_decide_eq_false h1) (of_decide_eq_false h2))
def SortedTo (d:Kd α) (cf:α→α→Int) (e:Nat) (w w':World) (base:Nat) (ok:Nat→Prop) (v:Value) (xs:List α):Prop :=
 ∃ xs':List α,xs'.Perm xs∧xs'.Pairwise (fun a b=>¬ cf b a < 0)∧d.R e w' base ok v xs'∧Kept w w' (fun k=>some k = v.ownBlock)∧Go.RowKit.Below base w w'
theorem sortedTo_nil {cf:α→α→Int} (h:d.R e w base ok v []):SortedTo d cf e w w base ok v [] :=
 ⟨[],List.Perm.refl _,List.Pairwise.nil,h,Kept.refl _ _,Go.RowKit.Below.refl _ _⟩
theorem sortedTo_of {cf:α→α→Int} {D D':Array (Cel d Q w base (fun k=>ok k∧k≠g))} [Inhabited (Cel d Q w base (fun k=>ok k∧k≠g))] {cur F:Array Value} {m:Nat} {os:Array Obj} (hD:D.toList.map (·.x) = xs) (hp:PermIn 0 D.size D D') (hs:SortedIn (ltOf fun p q:Cel d Q w base (fun k=>ok k∧k≠g)=>cf p.x q.x) 0 D.size D')
  (hF:F.toList = (D'.toList.map (·.c)).flatten) (hW:W = grow (putRow id (Sort.ahead w m) g 0 F) os) (hg0:ok g) (hb:base≤g) (hgl:g < w.heap.size) (hg:w.heap[g]? = some (.cells cur e (0,0))) (hn:xs.length≤cap) (hm:cap≤maxLen) (hc:cur.size = cap * d.sz) :
  SortedTo d cf e w W base ok (.slice (some ⟨g,0,none⟩) xs.length cap) xs:=by
 have hpl:=perm_list hp
 have hlen:D'.toList.length = xs.length:=by rw [hpl.length_eq,← hD,List.length_map]
 have hFs:F.size = xs.length * d.sz:=by
  have h1:F.toList.length = _:=congrArg List.length hF
  rw [flat_lenK (fun c hc=>by obtain ⟨z,_,rfl⟩:=List.mem_map.1 hc;exact z.len),List.length_map,hlen] at h1
  simpa using h1
 obtain ⟨a1,a2,a3,a4,a5,a6,a7,a8⟩:=row_after (W:=W) hg (by rw [hFs,hc];exact Nat.mul_le_mul_right _ hn) hW
 have hN:=R_of_cells (l:=D'.toList) (okk:=ok) (base:=base) (e:=e) (cap:=cap) hg0 hb a2 a1 (by omega) hm (by omega) (by rw [hlen,← hFs,a8,hF]) (fun k hk=>hk)
 rw [hlen] at hN
 refine ⟨D'.toList.map (·.x),?_,?_,hN,⟨a3,fun k hk hne=>a2 k (fun e_=>hne (by rw [e_];rfl)) hk⟩,below_of a2 a3 a4 a5 a6 hb hgl⟩
 ·rw [← hD];exact hpl.map _
 ·rw [List.pairwise_map]
  exact (sorted_list hp.1 hs).imp (fun h=>of_decide_eq_false h)
end
section
variable {P:Program} {ρ:Ren} {α:Type} {d:Kd α} {Q:α→Prop} {w:World} {ok:Nat→Prop} {e base:Nat} {v:Value} {xs:List α}
set_option maxHeartbeats 2000000 in
theorem sortN (L:SlLaysF0.n6 P ρ) (aE:∀ w,(isAgg (ρ.t 24)).run P w = .ok true w) (zE:∀ w,(Go.sizeOf (ρ.t 24)).run P w = .ok d.sz w) {cf:α→α→Int} (hO:Ord3 Q cf) (f:Nat)
  (eg:∀ args w,(callFunc f args).run P w = .ok (.enter f args) w) (hc:∀ (W:World) (x y:α) (cx cy:List Value),Q x→Q y→d.K W x cx→d.K W y cy→Calls P f #[.agg cx.toArray,.agg cy.toArray] W fun e w'=>e = .returned (.int .i64 (cf x y))∧∃ q os',w' = grow (W.drewN q) os')
  (h:d.R e w base ok v xs) (hq:∀ x ∈ xs,Q x) (hsz:xs.length < 4611686018427387904) :
  Calls P (ρ.f 6) #[v,.func (.func f) #[] #[]] w fun e' w'=>e' = .returned (.tuple #[])∧SortedTo d cf e w w' base ok v xs:=by
 rcases Nat.eq_zero_or_pos xs.length with h0 | hp
 ·have hx:xs = []:=List.length_eq_zero_iff.1 h0
  subst hx
  obtain ⟨A,c,rfl⟩:=Kd.R_slice h
  exact (AnyF.slices_SortFunc_none L A c _ w).mono fun _ _ ⟨he,hw⟩=>⟨he,by rw [hw];exact sortedTo_nil h⟩
 ·obtain ⟨g,cap,cur,rfl,hg0,hb,hgl,hg,hn,hm,hcs,l,hl1,hl2⟩:=R_cells h hq hp
  have hll:l.length = xs.length:=by rw [← hl1,List.length_map]
  haveI:Inhabited (Cel d Q w base (fun k=>ok k∧k≠g)):=⟨l[0]'(by omega)⟩
  have hFl:=flatK_list (d:=d) (Q:=Q) (w:=w) (ok:=fun k=>ok k∧k≠g) l.toArray
  have hFs:(flatK (fun z:Cel d Q w base (fun k=>ok k∧k≠g)=>z.c) d.sz l.toArray).size = xs.length * d.sz:=by rw [size_flatK];simp [hll]
  have hcs':xs.length * d.sz≤cur.size:=by rw [hcs];exact Nat.mul_le_mul_right _ hn
  have hH:HoldsK (fun z:Cel d Q w base (fun k=>ok k∧k≠g)=>z.c) d.sz w g 0 l.toArray:=by
   intro j hj
   rw [hFs] at hj
   have h1:cur[j]? = (flatK (fun z:Cel d Q w base (fun k=>ok k∧k≠g)=>z.c) d.sz l.toArray)[j]?:=by
    rw [← Array.getElem?_toList,← Array.getElem?_toList,hFl]
    show _ = (List.map _ l).flatten[j]?
    rw [← hl2,List.getElem?_take,if_pos hj]
   refine ⟨?_,?_⟩
   ·show w.cell? ⟨g,0 + j,none⟩ = _
    rw [Nat.zero_add,getElem!_pos _ j (by rw [hFs];exact hj)]
    simp only [World.cell?,hg,Option.isSome_none,Bool.false_eq_true,if_false]
    rw [h1,Array.getElem?_eq_getElem (by rw [hFs];exact hj)]
    rfl
   ·simp [World.frozen?,hg]
  have key:=AnyQ.slices_SortFunc L d.sz aE zE (fun z:Cel d Q w base (fun k=>ok k∧k≠g)=>z.c) (fun z=>z.len) (fun z=>z.one) (fun p q=>cf p.x q.x) hO.swo f #[] g 0 cap l.toArray w eg
   (fun m os dk hs p q=>by
    have hh:∀ (z:Cel d Q w base (fun k=>ok k∧k≠g)),d.K (sortWorldK (fun z:Cel d Q w base (fun k=>ok k∧k≠g)=>z.c) d.sz w g 0 m dk os) z.x z.c:=fun z=>d.K_of_M (z.move (fun k hk hlt=>(row_after hg (F:=flatK (fun z:Cel d Q w base (fun k=>ok k∧k≠g)=>z.c) d.sz dk) (by rw [size_flatK,hs];simpa [hll] using hcs') rfl).2.1 k hk.2 hlt))
    exact hc _ p.x q.x p.c q.c p.q q.q (hh p) (hh q)) hH hgl (by simpa [hll] using hsz)
  have hsz':l.toArray.size = xs.length:=by simp [hll]
  rw [hsz'] at key
  refine key.mono ?_
  rintro e' w' ⟨rfl,D',n,os,hp',hs',rfl⟩
  rw [← hsz'] at hp' hs'
  exact ⟨rfl,sortedTo_of (D:=l.toArray) (D':=D') (by simpa using hl1) hp' hs' (flatK_list D') rfl hg0 hb hgl hg hn hm hcs⟩
end
section
variable {α:Type} {d:Kd α} {Q:α→Prop} {w W:World} {ok:Nat→Prop} {e base g cap:Nat} {v:Value} {xs:List α}
theorem idxOf_nodup:∀ (l:List Nat) (j:Nat) (a:Nat),l.Nodup→l[j]? = some a→l.idxOf a = j
 | [],j,a,_,h=>by simp at h
 | b :: l,0,a,_,h=>by simp at h;subst h;simp
 | b :: l,j + 1,a,hn,h=>by
  have h':l[j]? = some a:=by simpa using h
  have hm:=List.mem_of_getElem? h'
  have hne:b≠a:=fun e_=>(List.nodup_cons.1 hn).1 (e_ ▸ hm)
  have ih:=idxOf_nodup l j a (List.nodup_cons.1 hn).2 h'
  rw [List.idxOf_cons]
  have hb:(b == a) = false:=beq_eq_false_iff_ne.2 hne
  rw [hb,ih];rfl
theorem S_of_tag {f:Nat→Nat} {ys:List (α × Nat)} (h:(Kd.tag f d).R e w base ok v ys) (hn:(ys.map (·.2)).Nodup):Kd.S d e w base ok v (ys.map (·.1)):=by
 obtain ⟨h0,inner,ho,hr⟩:=h
 refine ⟨fun k=>(ys.map (·.2)).idxOf (f k),h0,inner,?_,?_,?_⟩
 ·rw [List.length_zipIdx,List.length_map];exact ho
 ·rw [List.length_zipIdx,List.length_map];exact hr.1
 ·intro j p hj
  rw [List.getElem?_zipIdx,List.getElem?_map] at hj
  cases hy:ys[j]? with
  | none=>rw [hy] at hj;simp at hj
  | some y =>
   rw [hy] at hj
   simp only [Option.map_some,Option.some.injEq,Nat.zero_add] at hj
   subst hj
   refine d.M_mono (fun k hk=>⟨hk.1,?_⟩) (hr.2 j y hy)
   show (ys.map (·.2)).idxOf (f k) = j
   rw [hk.2]
   exact idxOf_nodup _ j _ hn (by rw [List.getElem?_map,hy];rfl)
theorem zip_nodup (xs:List α):(xs.zipIdx.map (·.2)).Nodup:=by
 rw [List.zipIdx_map_snd]
 exact List.nodup_range'
theorem zip_fst (xs:List α):xs.zipIdx.map (·.1) = xs:=List.zipIdx_map_fst 0 xs
def SortedToS (d:Kd α) (cf:α→α→Int) (e:Nat) (w w':World) (base:Nat) (ok:Nat→Prop) (v:Value) (xs:List α):Prop :=
 ∃ xs':List α,xs'.Perm xs∧xs'.Pairwise (fun a b=>¬ cf b a < 0)∧Kd.S d e w' base ok v xs'∧Kept w w' (fun k=>some k = v.ownBlock)∧Go.RowKit.Below base w w'
theorem sortedS_of {f:Nat→Nat} {cf:α→α→Int} (h:SortedTo (Kd.tag f d) (fun p q=>cf p.1 q.1) e w W base ok v xs.zipIdx):SortedToS d cf e w W base ok v xs:=by
 obtain ⟨ys,h1,h2,h3,h4,h5⟩:=h
 refine ⟨ys.map (·.1),?_,?_,S_of_tag h3 ?_,h4,h5⟩
 ·have:=h1.map (·.1)
  rwa [zip_fst] at this
 ·rw [List.pairwise_map];exact h2
 ·exact (h1.map (·.2)).nodup_iff.2 (zip_nodup xs)
theorem Ord3.fst {cf:α→α→Int} (h:Ord3 Q cf):Ord3 (fun p:α × Nat=>Q p.1) (fun p q=>cf p.1 q.1) where
 irr p hp:=h.irr p.1 hp
 tr p q r hp hq hr:=h.tr p.1 q.1 r.1 hp hq hr
 nt p q r hp hq hr:=h.nt p.1 q.1 r.1 hp hq hr
theorem zip_all (h:∀ x ∈ xs,Q x):∀ p ∈ xs.zipIdx,Q p.1:=fun p hp=>h p.1 (by
 have:=List.mem_map_of_mem (f:=(·.1)) hp
 rwa [zip_fst] at this)
end
section
variable {α β:Type}
def cptGo (eqf:α→α→Bool):α→List α→List α
 | _,[]=>[]
 | p,y :: r=>if eqf y p then cptGo eqf y r else y :: cptGo eqf y r
def cpt (eqf:α→α→Bool):List α→List α
 | []=>[]
 | x :: r=>x :: cptGo eqf x r
theorem cptGo_sub (eqf:α→α→Bool):∀ (p:α) (l:List α),(cptGo eqf p l).Sublist l
 | _,[]=>List.Sublist.refl _
 | p,y :: r=>by
  unfold cptGo
  split
  ·exact (cptGo_sub eqf y r).cons _
  ·exact (cptGo_sub eqf y r).cons_cons _
theorem cpt_sub (eqf:α→α→Bool):∀ l:List α,(cpt eqf l).Sublist l
 | []=>List.Sublist.refl _
 | x :: r=>(cptGo_sub eqf x r).cons_cons _
theorem cptGo_map (f:β→α) (eqf:α→α→Bool):∀ (p:β) (l:List β),(cptGo (fun a b=>eqf (f a) (f b)) p l).map f = cptGo eqf (f p) (l.map f)
 | _,[]=>rfl
 | p,y :: r=>by
  simp only [cptGo,List.map_cons]
  split
  ·exact cptGo_map f eqf y r
  ·rw [List.map_cons,cptGo_map f eqf y r]
theorem cpt_map (f:β→α) (eqf:α→α→Bool):∀ l:List β,(cpt (fun a b=>eqf (f a) (f b)) l).map f = cpt eqf (l.map f)
 | []=>rfl
 | x :: r=>by simp only [cpt,List.map_cons,cptGo_map]
theorem cptGo_snoc (eqf:α→α→Bool) (x:α):∀ (p:α) (l:List α),cptGo eqf p (l ++ [x]) = cptGo eqf p l ++ (if eqf x ((p :: l).getLast (by simp)) then [] else [x])
 | p,[]=>by
  show (if eqf x p then [] else [x]) = [] ++ (if eqf x p then [] else [x])
  rw [List.nil_append]
 | p,y :: r=>by
  have e:(p :: y :: r).getLast (by simp) = (y :: r).getLast (by simp):=List.getLast_cons (by simp)
  rw [e]
  simp only [List.cons_append,cptGo]
  rw [cptGo_snoc eqf x y r]
  split <;> simp
theorem cpt_snoc (eqf:α→α→Bool) (x:α) (l:List α) (h:l≠[]):cpt eqf (l ++ [x]) = cpt eqf l ++ (if eqf x (l.getLast h) then [] else [x]):=by
 cases l with
 | nil=>exact absurd rfl h
 | cons y r=>simp only [List.cons_append,cpt];rw [cptGo_snoc]
variable [Inhabited α]
def keepsB (eqf:α→α→Bool) (d:Array α) (j:Nat):Bool:=j == 0 || !(eqf d[j]! d[j - 1]!)
theorem cpt_take (eqf:α→α→Bool) (d:Array α) (m:Nat) (h:m < d.size):cpt eqf (d.toList.take (m + 1)) = cpt eqf (d.toList.take m) ++ (if keepsB eqf d m then [d[m]!] else []):=by
 have hl:m < d.toList.length:=by simpa using h
 rw [List.take_add_one,List.getElem?_eq_getElem hl]
 have hm:d.toList[m] = d[m]!:=by rw [getElem!_pos d m h];simp
 rw [hm]
 rcases Nat.eq_zero_or_pos m with h0 | h0
 ·subst h0;simp [cpt,cptGo,keepsB]
 ·have hne:d.toList.take m≠[]:=by
   intro e_
   have h1:=congrArg List.length e_
   have h2:d.toList.length = d.size:=by simp
   rw [List.length_take,h2] at h1
   have h3:min m d.size = 0:=h1
   omega
  show cpt eqf (d.toList.take m ++ [d[m]!]) = _
  rw [cpt_snoc eqf _ _ hne]
  have hlast:(d.toList.take m).getLast hne = d[m - 1]!:=by
   rw [List.getLast_eq_getElem]
   have h1:(d.toList.take m).length - 1 = m - 1:=by rw [List.length_take];simp;omega
   simp only [h1,List.getElem_take]
   rw [getElem!_pos d (m - 1) (by omega)]
   simp
  rw [hlast]
  have:(m == 0) = false:=by simp;omega
  simp only [keepsB,this,Bool.false_or]
  cases eqf d[m]! d[m - 1]! <;> simp
structure CompB (eqf:α→α→Bool) (d:Array α) (m k:Nat) (dk:Array α):Prop where
 size:dk.size = d.size
 len:(cpt eqf (d.toList.take m)).length = k
 le:k≤m
 low:∀ j,j < k→(cpt eqf (d.toList.take m))[j]? = some dk[j]!
 high:∀ j,k≤j→dk[j]! = d[j]!
variable {eqf:α→α→Bool} {d dk:Array α} {m k:Nat}
theorem CompB.one (h:0 < d.size):CompB eqf d 1 1 d:=by
 have h0:d.toList.take 1 = [d[0]!]:=by
  have:=List.take_add_one (l:=d.toList) (i:=0)
  rw [List.getElem?_eq_getElem (by simpa using h)] at this
  rw [this,getElem!_pos d 0 h];simp
 refine ⟨rfl,by rw [h0];rfl,Nat.le_refl _,fun j hj=>?_,fun _ _=>rfl⟩
 obtain rfl:j = 0:=by omega
 rw [h0];rfl
theorem CompB.skip (h:CompB eqf d m k dk) (hm:m < d.size) (hk:keepsB eqf d m = false):CompB eqf d (m + 1) k dk where
 size:=h.size
 len:=by rw [cpt_take eqf d m hm,hk];simpa using h.len
 le:=by have:=h.le;omega
 low:=fun j hj=>by rw [cpt_take eqf d m hm,hk];simpa using h.low j hj
 high:=h.high
theorem CompB.keep (h:CompB eqf d m k dk) (hm:m < d.size) (hk:keepsB eqf d m = true):CompB eqf d (m + 1) (k + 1) (dk.setIfInBounds k d[m]!) where
 size:=by simp [h.size]
 len:=by rw [cpt_take eqf d m hm,hk];simp [h.len]
 le:=by have:=h.le;omega
 low:=fun j hj=>by
  rw [cpt_take eqf d m hm,hk,if_pos rfl]
  by_cases e_:j = k
  ·subst e_
   rw [List.getElem?_append_right (by rw [h.len];exact Nat.le_refl _),h.len,Nat.sub_self,Go.Sort.getElem!_set_same dk j _ (by have:=h.le;have:=h.size;omega)]
   rfl
  ·rw [List.getElem?_append_left (by rw [h.len];omega),h.low j (by omega),Go.Sort.getElem!_set_other dk k j _ e_]
 high:=fun j hj=>by rw [Go.Sort.getElem!_set_other dk k j _ (by omega),h.high j (by omega)]
theorem CompB.same (h:CompB eqf d m m d) (hm:m < d.size) (hk:keepsB eqf d m = true):CompB eqf d (m + 1) (m + 1) d where
 size:=rfl
 len:=by rw [cpt_take eqf d m hm,hk];simp [h.len]
 le:=Nat.le_refl _
 low:=fun j hj=>by
  rw [cpt_take eqf d m hm,hk,if_pos rfl]
  by_cases e_:j = m
  ·subst e_
   rw [List.getElem?_append_right (by rw [h.len];exact Nat.le_refl _),h.len,Nat.sub_self]
   rfl
  ·rw [List.getElem?_append_left (by rw [h.len];omega),h.low j (by omega)]
 high:=fun _ _=>rfl
theorem CompB.done (h:CompB eqf d d.size k dk):dk.toList.take k = cpt eqf d.toList∧k = (cpt eqf d.toList).length:=by
 have ht:d.toList.take d.size = d.toList:=by rw [List.take_of_length_le];simp
 have hl:=h.len
 have hlow:=h.low
 rw [ht] at hl hlow
 refine ⟨?_,hl.symm⟩
 apply List.ext_getElem?
 intro j
 have hle:=h.le
 have hsz:=h.size
 by_cases hj:j < k
 ·rw [List.getElem?_take,if_pos hj,hlow j hj,Array.getElem?_toList,Array.getElem?_eq_getElem (by omega),getElem!_pos dk j (by omega)]
 ·rw [List.getElem?_eq_none (by simp;omega),List.getElem?_eq_none (by omega)]
end
section
variable {α:Type} {d:Kd α} {Q:α→Prop} {w W W':World} {ok:Nat→Prop} {e base g cap:Nat} {v:Value} {xs:List α}
theorem after_set:∀ (vs:List Value) (o:Nat) (W:World) (cur:Array Value),W.heap[g]? = some (.cells cur e (0,0)) →
  ∃ cur',(W.setCells g o vs).heap[g]? = some (.cells cur' e (0,0))∧cur'.size = cur.size∧(∀ t,t < o→cur'[t]? = cur[t]?)∧(∀ k,k≠g→(W.setCells g o vs).heap[k]? = W.heap[k]?)∧(W.setCells g o vs).heap.size = W.heap.size∧(W.setCells g o vs).os = W.os∧(W.setCells g o vs).tape = W.tape∧(W.setCells g o vs).output = W.output
 | [],o,W,cur,h=>⟨cur,h,rfl,fun _ _=>rfl,fun _ _=>rfl,rfl,rfl,rfl,rfl⟩
 | u :: r,o,W,cur,h=>by
  have h1:(W.setCell ⟨g,o,none⟩ u).heap[g]? = some (.cells (cur.setIfInBounds o u) e (0,0)):=by
   rw [setCell_eq]
   show (W.heap.modify g (onCells _))[g]? = _
   rw [Array.getElem?_modify,if_pos rfl,h];rfl
  obtain ⟨cur',a1,a2,a3,a4,a5,a6,a7,a8⟩:=after_set r (o + 1) (W.setCell ⟨g,o,none⟩ u) _ h1
  refine ⟨cur',a1,by rw [a2];simp,fun t ht=>?_,fun k hk=>?_,?_,a6,a7,a8⟩
  ·rw [a3 t (by omega),Array.getElem?_setIfInBounds,if_neg (by omega)]
  ·rw [World.setCells,a4 k hk,setCell_eq]
   show (W.heap.modify g (onCells _))[k]? = _
   rw [Array.getElem?_modify,if_neg (fun e_=>hk e_.symm)]
  ·rw [World.setCells,a5,setCell_eq]
   show (W.heap.modify g (onCells _)).size = _
   simp
def CompactTo (d:Kd α) (eqf:α→α→Bool) (e:Nat) (w w':World) (base:Nat) (ok:Nat→Prop) (v v':Value) (xs:List α):Prop :=
 d.R e w' base ok v' (cpt eqf xs)∧Kept w w' (fun k=>some k = v.ownBlock)∧Go.RowKit.Below base w w'
theorem compR_of [Inhabited (Cel d Q w base (fun k=>ok k∧k≠g))] {D dk:Array (Cel d Q w base (fun k=>ok k∧k≠g))} {eqf:α→α→Bool} {kk m:Nat} {F cur:Array Value} {os:Array Obj} (hC:CompB (fun p q:Cel d Q w base (fun k=>ok k∧k≠g)=>eqf p.x q.x) D D.size kk dk) (hD:D.toList.map (·.x) = xs)
  (hF:F.toList = (dk.toList.map (·.c)).flatten) (hW:W = grow (putRow id (Sort.ahead w m) g 0 F) os) (hW':W' = W ∨ ∃ vs,W' = W.setCells g (kk * d.sz) vs) (hg0:ok g) (hb:base≤g) (hgl:g < w.heap.size) (hg:w.heap[g]? = some (.cells cur e (0,0))) (hn:xs.length≤cap) (hm:cap≤maxLen) (hc:cur.size = cap * d.sz) :
  CompactTo d eqf e w W' base ok (.slice (some ⟨g,0,none⟩) xs.length cap) (.slice (some ⟨g,0,none⟩) kk cap) xs:=by
 obtain ⟨hcp,hk⟩:=hC.done
 have hlen:dk.size = xs.length:=by rw [hC.size,← hD];simp
 have hlenD:D.toList.length = xs.length:=by rw [← hD];simp
 have hkk:kk≤xs.length:=by rw [hk,← hlenD];exact (cpt_sub _ _).length_le
 have hl:∀ c ∈ dk.toList.map (·.c),c.length = d.sz:=by
  intro c hc
  obtain ⟨z,_,rfl⟩:=List.mem_map.1 hc
  exact z.len
 have hFs:F.size = xs.length * d.sz:=by
  have h1:F.toList.length = _:=congrArg List.length hF
  rw [flat_lenK hl,List.length_map] at h1
  rw [← hlen]
  simpa using h1
 have hle:F.size≤cur.size:=by rw [hFs,hc];exact Nat.mul_le_mul_right _ hn
 obtain ⟨a1,a2,a3,a4,a5,a6,a7,a8⟩:=row_after (W:=W) hg hle hW
 have hkm:kk * d.sz≤xs.length * d.sz:=Nat.mul_le_mul_right _ hkk
 have hpre:∀ t,t < kk * d.sz→(putCells id 0 F cur)[t]? = ((dk.toList.take kk).map (·.c)).flatten[t]?:=by
  intro t ht
  have h1:(putCells id 0 F cur).toList[t]? = F.toList[t]?:=by
   rw [← a8,List.getElem?_take,if_pos (by omega)]
  rw [Array.getElem?_toList] at h1
  rw [h1,hF]
  conv=>lhs;rw [← List.take_append_drop kk dk.toList,List.map_append,List.flatten_append]
  rw [List.getElem?_append_left]
  rw [flat_lenK (fun c hc=>hl c (by obtain ⟨z,hz,rfl⟩:=List.mem_map.1 hc;exact List.mem_map_of_mem (List.mem_of_mem_take hz))),List.length_map,List.length_take]
  simp only [Array.length_toList]
  rw [Nat.min_eq_left (by omega)]
  exact ht
 have fin:∀ (X:World) (cur':Array Value),X.heap[g]? = some (.cells cur' e (0,0))→cur'.size = cur.size→(∀ t,t < kk * d.sz→cur'[t]? = (putCells id 0 F cur)[t]?)→(∀ k,k≠g→k < w.heap.size→X.heap[k]? = w.heap[k]?) →
   d.R e X base ok (.slice (some ⟨g,0,none⟩) kk cap) (cpt eqf xs):=by
  intro X cur' h1 h2 h3 h4
  have hll:(dk.toList.take kk).length = kk:=by rw [List.length_take];simp only [Array.length_toList];omega
  have:=R_of_cells (l:=dk.toList.take kk) (W:=X) (okk:=ok) (base:=base) (e:=e) (cap:=cap) hg0 hb h4 h1 (by omega) hm (by omega) (by
   rw [hll]
   apply List.ext_getElem?
   intro t
   by_cases ht:t < kk * d.sz
   ·rw [List.getElem?_take,if_pos ht,Array.getElem?_toList,h3 t ht,hpre t ht]
   ·rw [List.getElem?_eq_none (by simp;omega),List.getElem?_eq_none]
    rw [flat_lenK (fun c hc=>hl c (by obtain ⟨z,hz,rfl⟩:=List.mem_map.1 hc;exact List.mem_map_of_mem (List.mem_of_mem_take hz))),List.length_map,hll]
    omega) (fun k hk=>hk)
  rw [hll,hcp,cpt_map (fun z:Cel d Q w base (fun k=>ok k∧k≠g)=>z.x),hD] at this
  exact this
 rcases hW' with rfl | ⟨vs,rfl⟩
 ·exact ⟨fin _ _ a1 a7 (fun _ _=>rfl) a2,⟨a3,fun k hk hne=>a2 k (fun e_=>hne (by rw [e_];rfl)) hk⟩,below_of a2 a3 a4 a5 a6 hb hgl⟩
 ·obtain ⟨cur',b1,b2,b3,b4,b5,b6,b7,b8⟩:=after_set vs (kk * d.sz) W _ a1
  have h4:∀ k,k≠g→k < w.heap.size→(W.setCells g (kk * d.sz) vs).heap[k]? = w.heap[k]?:=fun k hk hlt=>by rw [b4 k hk,a2 k hk hlt]
  have h5:w.heap.size≤(W.setCells g (kk * d.sz) vs).heap.size:=by rw [b5];exact a3
  exact ⟨fin _ _ b1 (by rw [b2,a7]) b3 h4,⟨h5,fun k hk hne=>h4 k (fun e_=>hne (by rw [e_];rfl)) hk⟩,below_of h4 h5 (b6.trans a4) (b7.trans a5) (b8.trans a6) hb hgl⟩
end
end Go.Proofs.Ytoijcallajegfaa.M
end
section
/- Runs of equal surfaces struck out: the walk of slices.CompactFunc. No conditions. -/
namespace Go.Proofs.Ytoijcallajegfaa.M
set_option linter.unusedVariables false
set_option linter.unusedSimpArgs false
open Go Go.RowKit Go.Proofs.YtoijcallajegfaaW.PrintWords Go.Proofs.YtoijcallajegfaaW.PrintLast Go.Proofs.YtoijcallajegfaaW.PrintMore Go.Shelf Go.Lib Go.Sort Go.Proofs
theorem two_of_len {l:List Value} (h:l.length = 2):∃ a b,l = [a,b]:=by
 match l,h with
 | [a,b],_=>exact ⟨a,b,rfl⟩
theorem swk_cell {α:Type} [Inhabited α] {enc:α→List Value} {w0 W:World} {blk off:Nat} {dk d0:Array α} (h:SWK enc 2 w0 blk off dk W) (R:RowK enc 2 w0 blk off d0) (n:Nat) (os:Array Obj) {i:Nat} (hi:i < dk.size) {a b:Value} (hv:enc dk[i]! = [a,b]) (hs:dk.size = d0.size:=by first | rfl | assumption) :
  (grow (W.drewN n) os).cell? ⟨blk,off + i * 2,none⟩ = some a∧(grow (W.drewN n) os).cell? ⟨blk,off + i * 2 + 1,none⟩ = some b:=by
 have hh:=(h.grown n os).holds R.hblk R.hH hs
 have h0:=(hh.cell (c:=0) hi (by omega)).1
 have h1:=(hh.cell (c:=1) hi (by omega)).1
 rw [hv] at h0 h1
 exact ⟨h0,h1⟩
theorem run_clear_two (w:World) (t e ty:TypeId) (ht:Try.prog.underlying t = some (.slice e)) (hv:∀ w,(zeroValue e).run Try.prog w = .ok (.agg #[.slice none 0 0,.slice none 0 0]) w) (b o n c:Nat) (hn:0 < n)
  (hc:∀ j,j < n * 2→(w.cell? ⟨b,o + j,none⟩).isSome = true) (hf:∀ j,j < n * 2→w.frozen? ⟨b,o + j,none⟩ = false) :
  ∃ vs,(Builtin.clear_ #[t] ty #[.slice (some ⟨b,o,none⟩) n c]).run Try.prog w = .ok (.tuple #[]) (w.setCells b o vs):=by
 obtain ⟨vs,hvs⟩:∃ vs,vs = (Builtin.zeroCells (Value.agg #[.slice none 0 0,.slice none 0 0]).cells n).toList:=⟨_,rfl⟩
 have hl:vs.length = n * 2:=by rw [hvs];simp [Builtin.zeroCells,Value.cells]
 have h1:∀ v ∈ vs,v.oneCell' = true:=by
  intro v hv'
  rw [hvs] at hv'
  simp only [Builtin.zeroCells,Value.cells,Array.toList_map,List.mem_map] at hv'
  obtain ⟨i,_,rfl⟩:=hv'
  have h2:i % 2 = 0 ∨ i % 2 = 1:=by omega
  rcases h2 with h2 | h2 <;> simp [h2,Value.oneCell']
 have hst:=run_storeCells_cells (P:=Try.prog) b o vs 0 w (by rw [hl];simpa using hc) (by rw [hl];simpa using hf) h1
 simp only [Nat.add_zero] at hst
 refine ⟨vs,?_⟩
 obtain ⟨m,rfl⟩:∃ m,n = m + 1:=⟨n - 1,by omega⟩
 simp [Builtin.clear_,run_underlying ht,hv,← hvs,hst]
theorem setMany_put {α:Type} [Inhabited α] (enc:α→List Value) (k:Nat) (hk:∀ x,(enc x).length = k) (d:Array α) (i:Nat) (x:α) (hi:i < d.size):setMany (flatK enc k d) (i * k) (enc x) = flatK enc k (d.setIfInBounds i x):=by
 refine ext_get! (by simp) fun t ht=>?_
 have ht':t < d.size * k:=by simpa using ht
 have k0:0 < k:=by
  rcases Nat.eq_zero_or_pos k with h | h
  ·subst h;simp at ht'
  ·exact h
 rw [get_setMany _ _ _ t (by simpa using ht'),get_flatK _ _ _ t ht',get_flatK _ _ _ t (by simpa using ht'),hk]
 have m:∀ q,t / k = q→t - q * k = t % k:=fun q h=>by subst h;rw [Nat.mod_eq_sub_div_mul]
 by_cases a:t / k = i
 ·rw [if_pos ((blk_iff k i t k0).2 a),m i a,a,getElem!_set_same d i x hi]
 ·rw [if_neg (fun h=>a ((blk_iff k i t k0).1 h)),getElem!_set_other d i _ x a]
theorem swk_put {α:Type} [Inhabited α] {enc:α→List Value} {w0 W:World} {blk off:Nat} {dk:Array α} (h:SWK enc 2 w0 blk off dk W) (hk:∀ x,(enc x).length = 2) (hb:blk < w0.heap.size) {i:Nat} (hi:i < dk.size) (x:α) {a b:Value} (hx:enc x = [a,b]) :
  SWK enc 2 w0 blk off (dk.setIfInBounds i x) ((W.setCell ⟨blk,off + i * 2,none⟩ a).setCell ⟨blk,off + i * 2 + 1,none⟩ b):=by
 obtain ⟨n,os,rfl⟩:=h
 refine ⟨n,os,?_⟩
 show (sortWorldK enc 2 w0 blk off n dk os).setCells blk (off + i * 2) [a,b] = _
 unfold sortWorldK
 rw [setCells_grow os blk _ _ _ (by rw [size_putRowK];exact hb)]
 congr 1
 unfold putRowK
 have hle:=rowK_bnd dk 2 i hi
 rw [setCells_putRow _ _ _ _ _ _ (by rw [size_flatK];simpa using hle),← hx,setMany_put enc 2 hk dk i x hi]
theorem swk_frozen {α:Type} [Inhabited α] {enc:α→List Value} {w0 W:World} {blk off:Nat} {dk d0:Array α} (h:SWK enc 2 w0 blk off dk W) (R:RowK enc 2 w0 blk off d0) (hs:dk.size = d0.size) {j:Nat} (hj:j < dk.size * 2) :
  (W.cell? ⟨blk,off + j,none⟩).isSome = true∧W.frozen? ⟨blk,off + j,none⟩ = false:=by
 have hh:=h.holds R.hblk R.hH hs
 have:=hh j (by rw [size_flatK];exact hj)
 exact ⟨by rw [this.1];rfl,this.2⟩
set_option maxHeartbeats 4000000 in
set_option maxRecDepth 1000000 in
theorem compact_walk {α:Type} [Inhabited α] (enc:α→List Value) (eqf:α→α→Bool) (f blk off cap:Nat) (d:Array α) (w:World) (R:RowK enc 2 w blk off d)
  (eg:∀ args w,(callFunc f args).run Try.prog w = .ok (.enter f args) w)
  (hcmp:∀ (W:World),(∃ dk:Array α,dk.size = d.size∧SWK enc 2 w blk off dk W)→∀ x y,Calls Try.prog f #[.agg (enc x).toArray,.agg (enc y).toArray] W fun e w'=>e = .returned (.bool (eqf x y))∧∃ q os',w' = grow (W.drewN q) os')
  (h0:0 < d.size) (hsz:d.size < 4611686018427387904) (hcap:d.size≤cap) :
  Calls Try.prog 102 #[.slice (some ⟨blk,off,none⟩) d.size cap,.func (.func f) #[] #[]] w fun e w'=>∃ kk,e = .returned (.slice (some ⟨blk,off,none⟩) kk cap)∧∃ dk W,CompB eqf d d.size kk dk∧SWK enc 2 w blk off dk W∧(w' = W ∨ ∃ vs,w' = W.setCells blk (off + kk * 2) vs):=by
 have HS:Aside (SWK enc 2 w blk off d w):=SWK.start R.hH
 have HR:Aside (RowK enc 2 w blk off d):=R
 have HC:Aside _:=hcmp
 clear R hcmp
 have hmix:Try.prog.follows .mixedOrders = true:=by kernel_rfl
 go_enter Try.func102,Try.ntmps102
 by_cases h2:d.size < 2
 ·have h2z:(d.size:Int) < 2:=by omega
  go_wp2
  go_ret
  have e1:d.size = 1:=by omega
  exact ⟨1,by rw [e1];rfl,d,w,by have:=CompB.one (eqf:=eqf) h0;rw [e1];exact this,HS.out,.inl rfl⟩
 ·have h2z:¬ (d.size:Int) < 2:=by omega
  go_wp2
  go_loopg [5] d.size (fun g1 v5 wr=>∃ (kx:Nat),v5 = .int .i64 kx∧1≤kx∧kx≤d.size∧d.size - kx≤g1∧Aside (SWK enc 2 w blk off d wr)∧Hid (CompB eqf d kx kx d))
  case atStart=>exact ⟨1,by go_num,by omega,by omega,by omega,HS,CompB.one h0⟩
  case round =>
   clear HS
   obtain ⟨kx,rfl,hk1,hk2,hg1,S1,hC⟩:=hrel
   by_cases hlt:kx < d.size
   ·have hltz:(kx:Int) < (d.size:Int):=by omega
    obtain ⟨kp,rfl⟩:∃ kp,kx = kp + 1:=⟨kx - 1,by omega⟩
    obtain ⟨xk,hxk⟩:∃ x,x = d[kp + 1]!:=⟨_,rfl⟩
    obtain ⟨xp,hxp⟩:∃ x,x = d[kp]!:=⟨_,rfl⟩
    have pk:(0:Int)≤(kp:Int) + 1:=by omega
    have ek:((kp:Int) + 1).toNat = kp + 1:=by omega
    have bk:(kp:Int) + 1 < (d.size:Int):=by omega
    have bp:(kp:Int) < (d.size:Int):=by omega
    have wp:IntKind.i64.wrap (kp:Int) = (kp:Int):=by rw [IntKind.wrap_i64];omega
    obtain ⟨a0,a1,ha⟩:∃ a0 a1,enc xk = [a0,a1]:=two_of_len (HR.out.hk xk)
    obtain ⟨b0,b1,hb⟩:∃ b0 b1,enc xp = [b0,b1]:=two_of_len (HR.out.hk xp)
    have lk0:=fun n os=>swk_cell S1.out HR.out n os (i:=kp + 1) (by omega) (by rw [← hxk];exact ha)
    have lp0:=fun n os=>swk_cell S1.out HR.out n os (i:=kp) (by omega) (by rw [← hxp];exact hb)
    have lk1:=fun n os=>(lk0 n os).2
    have lp1:=fun n os=>(lp0 n os).2
    replace lk0:=fun n os=>(lk0 n os).1
    replace lp0:=fun n os=>(lp0 n os).1
    have hc:∀ n os,Calls Try.prog f #[.agg (enc xk).toArray,.agg (enc xp).toArray] (grow (wr.drewN n) os) fun e w'=>e = .returned (.bool (eqf xk xp))∧∃ q os',w' = grow ((grow (wr.drewN n) os).drewN q) os':=fun n os=>HC.out _ ⟨d,rfl,S1.out.grown n os⟩ xk xp
    have hkeep:Hid (keepsB eqf d (kp + 1) = !(eqf xk xp)):=by
     show _ = _
     unfold keepsB
     rw [hxk,hxp]
     simp
    rw [ha,hb] at hc
    clear hxk hxp
    cases hv:eqf xk xp with
    | false =>
     rw [hv] at hc
     go_wp2_with fail
     go_quiet_grown (first | (go_at_fn f;refine Calls.grown_of (hc _ _)))
     have S2:Aside (SWK enc 2 w blk off d (grow (wr.drewN nq) osq)):=S1.out.grown nq osq
     clear lk0 lk1 lp0 lp1 hc S1
     generalize grow (wr.drewN nq) osq = wu2 at S2 ⊢
     clear nq osq
     go_wp2
     go_roundg (d.size - (kp + 1 + 1))
     case measure=>omega
     case rel=>exact ⟨kp + 1 + 1,by go_num,by omega,by omega,by omega,S2,hC.out.same (by omega) (by rw [hkeep.out,hv];rfl)⟩
    | true =>
     rw [hv] at hc
     go_wp2_with fail
     go_quiet_grown (first | (go_at_fn f;refine Calls.grown_of (hc _ _)))
     have S2:Aside (SWK enc 2 w blk off d (grow (wr.drewN nq) osq)):=S1.out.grown nq osq
     clear lk0 lk1 lp0 lp1 hc S1
     generalize grow (wr.drewN nq) osq = wu2 at S2 ⊢
     clear nq osq
     have hC2:Hid (CompB eqf d (kp + 1 + 1) (kp + 1) d):=hC.out.skip (by omega) (by rw [hkeep.out,hv];rfl)
     clear hC
     clear ha hb hkeep hv
     go_wp2
     go_loopg [5,7] d.size (fun g2 v5 v7 wr2=>∃ (kk k2:Nat) (dk:Array α),v5 = .int .i64 kk∧v7 = .int .i64 k2∧1≤k2∧kp + 1 + k2≤d.size∧kk < kp + 1 + k2∧d.size - (kp + 1 + k2)≤g2∧dk.size = d.size∧Aside (SWK enc 2 w blk off dk wr2)∧Hid (CompB eqf d (kp + 1 + k2) kk dk))
     case atStart=>exact ⟨kp + 1,1,d,by go_num,by go_num,by omega,by omega,by omega,by omega,rfl,S2,hC2⟩
     case round =>
      clear S2 hC2
      obtain ⟨kk,k2,dk,rfl,rfl,h1,hle,hkk,hg2,hds,S3,hC3⟩:=hrel
      by_cases hlt2:kp + 1 + k2 < d.size
      ·obtain ⟨j,rfl⟩:∃ j,k2 = j + 1:=⟨k2 - 1,by omega⟩
       have hltz2:(j:Int) + 1 < ((d.size - (kp + 1):Nat):Int):=by omega
       obtain ⟨xu,hxu⟩:∃ x,x = dk[kp + 1 + (j + 1)]!:=⟨_,rfl⟩
       obtain ⟨xv,hxv⟩:∃ x,x = dk[kp + 1 + j]!:=⟨_,rfl⟩
       have p1:(0:Int)≤(j:Int) + 1:=by omega
       have e1:((j:Int) + 1).toNat = j + 1:=by omega
       have w1:IntKind.i64.wrap (j:Int) = (j:Int):=by rw [IntKind.wrap_i64];omega
       have p2:(j:Int) < ((d.size - (kp + 1):Nat):Int):=by omega
       obtain ⟨a0,a1,ha⟩:∃ a0 a1,enc xu = [a0,a1]:=two_of_len (HR.out.hk xu)
       obtain ⟨b0,b1,hb⟩:∃ b0 b1,enc xv = [b0,b1]:=two_of_len (HR.out.hk xv)
       have lk0:=fun n os=>swk_cell S3.out HR.out n os (i:=kp + 1 + (j + 1)) (by omega) (by rw [← hxu];exact ha) hds
       have lp0:=fun n os=>swk_cell S3.out HR.out n os (i:=kp + 1 + j) (by omega) (by rw [← hxv];exact hb) hds
       rw [show off + (kp + 1 + (j + 1)) * 2 = off + (kp + 1) * 2 + (j + 1) * 2 by omega] at lk0
       rw [show off + (kp + 1 + j) * 2 = off + (kp + 1) * 2 + j * 2 by omega] at lp0
       have lk1:=fun n os=>(lk0 n os).2
       have lp1:=fun n os=>(lp0 n os).2
       replace lk0:=fun n os=>(lk0 n os).1
       replace lp0:=fun n os=>(lp0 n os).1
       have hc:∀ n os,Calls Try.prog f #[.agg (enc xu).toArray,.agg (enc xv).toArray] (grow (wr.drewN n) os) fun e w'=>e = .returned (.bool (eqf xu xv))∧∃ q os',w' = grow ((grow (wr.drewN n) os).drewN q) os':=fun n os=>HC.out _ ⟨dk,hds,S3.out.grown n os⟩ xu xv
       have hkeep:Hid (keepsB eqf d (kp + 1 + (j + 1)) = !(eqf xu xv)):=by
        show _ = _
        unfold keepsB
        rw [hxu,hxv,hC3.out.high _ (by omega),hC3.out.high _ (by omega),show kp + 1 + (j + 1) - 1 = kp + 1 + j by omega]
        have:(kp + 1 + (j + 1) == 0) = false:=by simp
        rw [this,Bool.false_or]
       have hxd:Hid (xu = d[kp + 1 + (j + 1)]!):=by
        show _ = _
        rw [hxu,hC3.out.high _ (by omega)]
       have HA:Hid (enc xu = [a0,a1]):=ha
       rw [ha,hb] at hc
       clear hxu hxv ha hb
       cases hv:eqf xu xv with
       | true =>
        rw [hv] at hc
        go_wp2_with fail
        go_quiet_grown (first | (go_at_fn f;refine Calls.grown_of (hc _ _)))
        have S4:Aside (SWK enc 2 w blk off dk (grow (wr.drewN nq) osq)):=S3.out.grown nq osq
        clear lk0 lk1 lp0 lp1 hc S3
        generalize grow (wr.drewN nq) osq = wu2 at S4 ⊢
        clear nq osq
        go_wp2
        go_roundg (d.size - (kp + 1 + (j + 1 + 1)))
        case measure=>omega
        case rel=>exact ⟨kk,j + 1 + 1,dk,by go_num,by go_num,by omega,by omega,by omega,by omega,hds,S4,hC3.out.skip (by omega) (by rw [hkeep.out,hv];rfl)⟩
       | false =>
        rw [hv] at hc
        go_wp2_with fail
        go_quiet_grown (first | (go_at_fn f;refine Calls.grown_of (hc _ _)))
        have S4:Aside (SWK enc 2 w blk off dk (grow (wr.drewN nq) osq)):=S3.out.grown nq osq
        replace lk0:=lk0 nq osq
        replace lk1:=lk1 nq osq
        clear lp0 lp1 hc S3
        generalize grow (wr.drewN nq) osq = wu2 at S4 lk0 lk1 ⊢
        clear nq osq
        have s0:=(swk_frozen S4.out HR.out hds (j:=kk * 2) (by omega))
        have s1:=(swk_frozen S4.out HR.out hds (j:=kk * 2 + 1) (by omega))
        obtain ⟨o0,c0⟩:=Option.isSome_iff_exists.1 s0.1
        obtain ⟨o1,c1⟩:=Option.isSome_iff_exists.1 s1.1
        have f0:=s0.2
        have f1:=s1.2
        rw [← Nat.add_assoc] at c1 f1
        clear s0 s1
        have oa:=HR.out.h1 xu a0 (by rw [HA.out];simp)
        have ob:=HR.out.h1 xu a1 (by rw [HA.out];simp)
        have bk2:(kk:Int) < (d.size:Int):=by omega
        have t0:Sem.run Try.prog (store ⟨blk,off + kk * 2,none⟩ a0) wu2 = .ok () (wu2.setCell ⟨blk,off + kk * 2,none⟩ a0):=by
         rw [run_store _ _ _ _ _ oa]
         simp [c0,f0]
        have t1:Sem.run Try.prog (store ⟨blk,off + kk * 2 + 1,none⟩ a1) (wu2.setCell ⟨blk,off + kk * 2,none⟩ a0) = .ok () ((wu2.setCell ⟨blk,off + kk * 2,none⟩ a0).setCell ⟨blk,off + kk * 2 + 1,none⟩ a1):=by
         rw [run_store _ _ _ _ _ ob]
         have c1':(wu2.setCell ⟨blk,off + kk * 2,none⟩ a0).cell? ⟨blk,off + kk * 2 + 1,none⟩ = some o1:=by rw [World.cell?_setCell_other _ _ _ _ (by intro e_;injection e_ with _ h2 _;omega)];exact c1
         have f1':(wu2.setCell ⟨blk,off + kk * 2,none⟩ a0).frozen? ⟨blk,off + kk * 2 + 1,none⟩ = false:=by rw [World.frozen?_setCell];exact f1
         simp [c1',f1']
        have S5:Aside (SWK enc 2 w blk off (dk.setIfInBounds kk xu) ((wu2.setCell ⟨blk,off + kk * 2,none⟩ a0).setCell ⟨blk,off + kk * 2 + 1,none⟩ a1)):=swk_put S4.out HR.out.hk HR.out.hblk (by omega) xu HA.out
        go_wp2
        go_roundg (d.size - (kp + 1 + (j + 1 + 1)))
        case measure=>omega
        case rel=>exact ⟨kk + 1,j + 1 + 1,dk.setIfInBounds kk xu,by go_num,by go_num,by omega,by omega,by omega,by omega,by simpa using hds,S5,by rw [hxd.out];exact hC3.out.keep (by omega) (by rw [hkeep.out,hv];rfl)⟩
      ·have hend:kp + 1 + k2 = d.size:=by omega
       have hltz2:¬ (k2:Int) < ((d.size - (kp + 1):Nat):Int):=by omega
       obtain ⟨vs,hcl⟩:=run_clear_two wr 25 33 0 Try.underlying25 Try.zeroValue33 blk (off + kk * 2) (d.size - kk) (cap - kk) (by omega) (fun j hj=>by rw [Nat.add_assoc];exact (swk_frozen S3.out HR.out hds (by omega)).1) (fun j hj=>by rw [Nat.add_assoc];exact (swk_frozen S3.out HR.out hds (by omega)).2)
       go_wp2
       go_ret
       have hI:=hC3.out
       rw [hend] at hI
       exact ⟨kk,rfl,dk,hI,_,S3.out,.inr ⟨vs,rfl⟩⟩
   ·have hltz:¬ (kx:Int) < (d.size:Int):=by omega
    go_wp2
    go_ret
    have e1:kx = d.size:=by omega
    subst e1
    exact ⟨d.size,rfl,d,hC.out,_,S1.out,.inl rfl⟩
end Go.Proofs.Ytoijcallajegfaa.M
end
section
/- Plain mathematics: permutations as lists of numbers. No conditions. -/
namespace Go.Proofs.Ytoijcallajegfaa.M
set_option linter.unusedVariables false
set_option linter.unusedSimpArgs false
def I (l:List Nat):List Int:=l.map Int.ofNat
def g (p:List Nat) (i:Nat):Nat:=p.getD i 0
def tab (n:Nat) (f:Nat→Nat):List Nat:=(List.range n).map f
theorem I_len (l:List Nat):(I l).length = l.length:=by simp [I]
theorem I_inj {a b:List Nat} (h:I a = I b):a = b:=by
 unfold I at h
 exact (List.map_inj_right (fun x y hxy=>Int.ofNat.inj hxy)).mp h
theorem tab_len (n:Nat) (f:Nat→Nat):(tab n f).length = n:=by simp [tab]
theorem g_tab {n:Nat} {f:Nat→Nat} {i:Nat} (h:i < n):g (tab n f) i = f i:=by simp [g,tab,List.getD_eq_getElem?_getD,h]
theorem g_get {p:List Nat} {i:Nat} (h:i < p.length):g p i = p[i]:=by simp [g,List.getD_eq_getElem?_getD,h]
theorem g_mem {p:List Nat} {i:Nat} (h:i < p.length):g p i ∈ p:=by rw [g_get h];exact List.getElem_mem h
theorem mem_g {p:List Nat} {x:Nat} (h:x ∈ p):∃ i,i < p.length∧g p i = x:=by
 obtain ⟨i,hi,rfl⟩:=List.mem_iff_getElem.mp h
 exact ⟨i,hi,g_get hi⟩
theorem ext_g {a b:List Nat} (hl:a.length = b.length) (h:∀ i,i < a.length→g a i = g b i):a = b:=by
 apply List.ext_getElem hl
 intro i h1 h2
 rw [← g_get h1,← g_get h2]
 exact h i h1
theorem eq_tab {l:List Nat} {n:Nat} {f:Nat→Nat} (hl:l.length = n) (h:∀ i,i < n→g l i = f i):l = tab n f :=
 ext_g (by rw [tab_len,hl]) (fun i hi=>by rw [hl] at hi;rw [g_tab hi,h i hi])
theorem g_set {p:List Nat} {i x j:Nat} (h:i < p.length):g (p.set i x) j = if i = j then x else g p j:=by
 unfold g
 rw [List.getD_eq_getElem?_getD,List.getD_eq_getElem?_getD,List.getElem?_set]
 by_cases e:i = j
 ·subst e
  simp [h]
 ·simp [e]
theorem I_set (p:List Nat) (i x:Nat):(I p).set i (x:Int) = I (p.set i x):=by simp [I,List.map_set]
theorem I_snoc (p:List Nat) (x:Nat):I p ++ [(x:Int)] = I (p ++ [x]):=by simp [I]
theorem I_rep (n x:Nat):I (List.replicate n x) = List.replicate n (x:Int):=by simp [I]
structure IsP (p:List Nat):Prop where
 lt:∀ x ∈ p,x < p.length
 nd:p.Nodup
instance (p:List Nat):Decidable (IsP p):=decidable_of_iff ((∀ x ∈ p,x < p.length)∧p.Nodup) ⟨fun h=>⟨h.1,h.2⟩,fun h=>⟨h.lt,h.nd⟩⟩
theorem nodup_le (n:Nat):∀ l:List Nat,l.Nodup→(∀ x ∈ l,x < n)→l.length≤n:=by
 induction n with
 | zero =>
  intro l _ h
  cases l with
  | nil=>simp
  | cons a l=>exact absurd (h a (by simp)) (by omega)
 | succ n ih =>
  intro l hn h
  have h1:=ih (l.erase n) (hn.erase n) (fun x hx=>by
   have h2:=(List.Nodup.mem_erase_iff hn).mp hx
   have h3:=h x h2.2
   have h4:=h2.1
   omega)
  have h5:=@List.length_erase _ _ _ n l
  split at h5 <;> omega
theorem mem_all {p:List Nat} (hp:IsP p) {x:Nat} (h:x < p.length):x ∈ p:=by
 apply Classical.byContradiction
 intro hx
 have:=nodup_le p.length (x :: p) (List.nodup_cons.mpr ⟨hx,hp.nd⟩) (fun y hy=>by
  rcases List.mem_cons.mp hy with rfl | hy
  ·exact h
  ·exact hp.lt y hy)
 simp at this
 omega
theorem g_lt {p:List Nat} (hp:IsP p) {i:Nat} (h:i < p.length):g p i < p.length:=hp.lt _ (g_mem h)
theorem g_inj {p:List Nat} (hp:IsP p) {i j:Nat} (hi:i < p.length) (hj:j < p.length) (h:g p i = g p j):i = j:=by
 rw [g_get hi,g_get hj] at h
 have hw:=List.pairwise_iff_getElem.mp hp.nd
 rcases Nat.lt_trichotomy i j with hij | hij | hij
 ·exact absurd h (hw i j hi hj hij)
 ·exact hij
 ·exact absurd h.symm (hw j i hj hi hij)
def ix (p:List Nat) (x:Nat):Nat:=p.idxOf x
theorem ix_lt {p:List Nat} (hp:IsP p) {x:Nat} (h:x < p.length):ix p x < p.length:=List.idxOf_lt_length_of_mem (mem_all hp h)
theorem g_ix {p:List Nat} (hp:IsP p) {x:Nat} (h:x < p.length):g p (ix p x) = x:=by
 rw [g_get (ix_lt hp h)]
 exact List.getElem_idxOf (ix_lt hp h)
theorem ix_g {p:List Nat} (hp:IsP p) {i:Nat} (h:i < p.length):ix p (g p i) = i :=
 g_inj hp (ix_lt hp (g_lt hp h)) h (g_ix hp (g_lt hp h))
theorem ix_eq {p:List Nat} (hp:IsP p) {i x:Nat} (h:i < p.length) (e:g p i = x):ix p x = i:=by rw [← e];exact ix_g hp h
theorem isP_mk {p:List Nat} (h1:∀ i,i < p.length→g p i < p.length) (h2:∀ i j,i < p.length→j < p.length→g p i = g p j→i = j):IsP p:=by
 refine ⟨fun x hx=>?_,?_⟩
 ·obtain ⟨i,hi,rfl⟩:=mem_g hx
  exact h1 i hi
 ·refine List.pairwise_iff_getElem.mpr ?_
  intro i j hi hj hij e'
  rw [← g_get hi,← g_get hj] at e'
  have:=h2 i j hi hj e'
  omega
theorem isP_tab {n:Nat} {f:Nat→Nat} (h1:∀ i,i < n→f i < n) (h2:∀ i j,i < n→j < n→f i = f j→i = j):IsP (tab n f):=by
 refine isP_mk (fun i hi=>?_) (fun i j hi hj e=>?_)
 ·rw [tab_len] at hi ⊢;rw [g_tab hi];exact h1 i hi
 ·rw [tab_len] at hi hj;rw [g_tab hi,g_tab hj] at e;exact h2 i j hi hj e
def inv (p:List Nat):List Nat:=tab p.length (ix p)
theorem inv_len (p:List Nat):(inv p).length = p.length:=tab_len _ _
theorem g_inv {p:List Nat} {i:Nat} (h:i < p.length):g (inv p) i = ix p i:=g_tab h
theorem isP_inv {p:List Nat} (hp:IsP p):IsP (inv p):=isP_tab (fun i hi=>ix_lt hp hi) (fun i j hi hj e=>by rw [← g_ix hp hi,← g_ix hp hj,e])
def thn (p q:List Nat):List Nat:=tab p.length (fun i=>g q (g p i))
theorem thn_len (p q:List Nat):(thn p q).length = p.length:=tab_len _ _
theorem g_thn {p q:List Nat} {i:Nat} (h:i < p.length):g (thn p q) i = g q (g p i):=g_tab h
theorem isP_thn {p q:List Nat} (hp:IsP p) (hq:IsP q) (hl:p.length = q.length):IsP (thn p q) :=
 isP_tab (fun i hi=>by have h1:=g_lt hp hi;have h2:=g_lt hq (i:=g p i) (by omega);omega)
  (fun i j hi hj e=>g_inj hp hi hj (g_inj hq (by have:=g_lt hp hi;omega) (by have:=g_lt hp hj;omega) e))
def ren (p names:List Nat):List Nat:=tab p.length (fun j=>g names (g p (ix names j)))
theorem ren_len (p names:List Nat):(ren p names).length = p.length:=tab_len _ _
theorem g_ren {p names:List Nat} {j:Nat} (h:j < p.length):g (ren p names) j = g names (g p (ix names j)):=g_tab h
theorem isP_ren {p names:List Nat} (hp:IsP p) (hn:IsP names) (hl:p.length = names.length):IsP (ren p names):=by
 refine isP_tab (fun i hi=>?_) (fun i j hi hj e=>?_)
 ·have h1:=ix_lt hn (x:=i) (by omega)
  have h2:=g_lt hp (i:=ix names i) (by omega)
  have h3:=g_lt hn (i:=g p (ix names i)) (by omega)
  omega
 ·have h1:=ix_lt hn (x:=i) (by omega)
  have h2:=ix_lt hn (x:=j) (by omega)
  have h3:=g_lt hp (i:=ix names i) (by omega)
  have h4:=g_lt hp (i:=ix names j) (by omega)
  have h5:=g_inj hn (by omega) (by omega) e
  have h6:=g_inj hp (by omega) (by omega) h5
  have h7:=g_ix hn (x:=i) (by omega)
  have h8:=g_ix hn (x:=j) (by omega)
  rw [← h7,← h8,h6]
end Go.Proofs.Ytoijcallajegfaa.M
end
section
/- Plain mathematics: permutations of whole numbers, and what is reached by two of them. No conditions. -/
namespace Go.Proofs.Ytoijcallajegfaa.M
set_option linter.unusedVariables false
set_option linter.unusedSimpArgs false
open Go.RowKit Go.Proofs.YtoijcallajegfaaW.PrintWords Go.Proofs.YtoijcallajegfaaW.PrintLast Go.Proofs.YtoijcallajegfaaW.PrintMore
theorem w64 {x:Int} (h0:-9223372036854775808≤x) (h1:x≤9223372036854775807):wrap64 x = x:=by unfold wrap64;omega
theorem w64s (i:Nat) (h:i≤9000000000000000000):wrap64 ((i:Int) + 1) = ((i + 1:Nat):Int):=by rw [w64 (by omega) (by omega)];omega
theorem ev_succ {α:Type} {f:Nat→Option α} {r:α} (h:Ev (fun k=>f (k + 1)) r):Ev f r:=Ev.step (fun _=>rfl) h
theorem rdI (p:List Nat) (i:Nat):rd (I p) (i:Int) = ((g p i:Nat):Int):=by
 unfold rd g I
 simp only [Int.toNat_natCast,List.getD_eq_getElem?_getD,List.getElem?_map]
 cases p[i]? <;> rfl
theorem rd_get (l:List Int) (i:Nat) (h:i < l.length):rd l (i:Int) = l[i]:=by
 unfold rd
 simp [List.getD_eq_getElem?_getD,h]
theorem mem_I {p:List Nat} {x:Nat}:(x:Int) ∈ I p ↔ x ∈ p:=by
 unfold I
 constructor
 ·intro h
  obtain ⟨y,hy,e⟩:=List.mem_map.mp h
  have:y = x:=Int.ofNat.inj e
  exact this ▸ hy
 ·intro h
  exact List.mem_map.mpr ⟨x,h,rfl⟩
def PI (l:List Int):Prop:=l.length≤24∧(∀ x ∈ l,0≤x∧x < (l.length:Int))∧l.Nodup
instance:DecidablePred PI:=fun l=>by unfold PI;infer_instance
def permB (l:List Int):Bool:=decide (PI l)
def N (l:List Int):List Nat:=l.map Int.toNat
theorem N_I (p:List Nat):N (I p) = p:=by
 unfold N I
 rw [List.map_map]
 exact List.map_id'' (fun x=>rfl) p
theorem N_len (l:List Int):(N l).length = l.length:=by simp [N]
theorem I_N {l:List Int} (h:∀ x ∈ l,0≤x):I (N l) = l:=by
 unfold N I
 rw [List.map_map]
 conv=>rhs;rw [← List.map_id l]
 apply List.map_congr_left
 intro x hx
 have:=h x hx
 simp only [Function.comp,id]
 show ((x.toNat:Nat):Int) = x
 omega
theorem PI_nat {l:List Int} (h:PI l):∃ p,l = I p∧IsP p∧p.length≤24:=by
 obtain ⟨h1,h2,h3⟩:=h
 refine ⟨N l,(I_N (fun x hx=>(h2 x hx).1)).symm,?_,by rw [N_len];exact h1⟩
 have e:=I_N (fun x hx=>(h2 x hx).1)
 refine ⟨fun x hx=>?_,?_⟩
 ·have:=(h2 (x:Int) (by rw [← e];exact mem_I.mpr hx)).2
  rw [N_len]
  omega
 ·rw [← e] at h3
  unfold I at h3
  exact (List.pairwise_map.mp h3).imp (fun {a b} hab hh=>hab (by rw [hh]))
theorem PI_I {p:List Nat}:PI (I p) ↔ IsP p∧p.length≤24:=by
 constructor
 ·intro h
  obtain ⟨q,e,h1,h2⟩:=PI_nat h
  have:=I_inj e
  subst this
  exact ⟨h1,h2⟩
 ·intro ⟨h1,h2⟩
  refine ⟨by rw [I_len];exact h2,fun x hx=>?_,?_⟩
  ·unfold I at hx
   obtain ⟨y,hy,rfl⟩:=List.mem_map.mp hx
   have:=h1.lt y hy
   rw [I_len]
   exact ⟨Int.natCast_nonneg y,Int.ofNat_lt.mpr this⟩
  ·unfold I
   exact List.pairwise_map.mpr (h1.nd.imp (fun {a b} hab hh=>hab (Int.ofNat.inj hh)))
theorem permB_I {p:List Nat}:permB (I p) = true ↔ IsP p∧p.length≤24:=by
 unfold permB
 rw [decide_eq_true_iff]
 exact PI_I
def okFrom (l:List Int) (i:Nat):Prop:=∀ j:Nat,i≤j→j < l.length→0≤rd l (j:Int)∧rd l (j:Int) < (l.length:Int)∧rd l (j:Int) ∉ l.take j
theorem okFrom_end (l:List Int) (i:Nat) (h:l.length≤i):okFrom l i:=fun j h1 h2=>by omega
theorem okFrom_step {l:List Int} {i:Nat} (h:0≤rd l (i:Int)∧rd l (i:Int) < (l.length:Int)∧rd l (i:Int) ∉ l.take i):okFrom l i ↔ okFrom l (i + 1):=by
 constructor
 ·intro k j h1 h2
  exact k j (by omega) h2
 ·intro k j h1 h2
  by_cases e:j = i
  ·subst e
   exact h
  ·exact k j (by omega) h2
theorem okFrom_not {l:List Int} {i:Nat} (hi:i < l.length) (h:¬ (0≤rd l (i:Int)∧rd l (i:Int) < (l.length:Int)∧rd l (i:Int) ∉ l.take i)):¬ okFrom l i:=fun k=>h (k i (Nat.le_refl _) hi)
theorem okFrom_PI {l:List Int} (h:l.length≤24):okFrom l 0 ↔ PI l:=by
 constructor
 ·intro k
  refine ⟨h,fun x hx=>?_,?_⟩
  ·obtain ⟨i,hi,rfl⟩:=List.mem_iff_getElem.mp hx
   have:=k i (Nat.zero_le _) hi
   rw [rd_get l i hi] at this
   exact ⟨this.1,this.2.1⟩
  ·refine List.pairwise_iff_getElem.mpr ?_
   intro i j hi hj hij e
   have:=(k j (Nat.zero_le _) hj).2.2
   rw [rd_get l j hj,← e] at this
   exact this (List.mem_take_iff_getElem.mpr ⟨i,by omega,rfl⟩)
 ·intro ⟨_,h2,h3⟩ j _ hj
  rw [rd_get l j hj]
  refine ⟨(h2 _ (List.getElem_mem hj)).1,(h2 _ (List.getElem_mem hj)).2,fun hm=>?_⟩
  obtain ⟨i,hi,e⟩:=List.mem_take_iff_getElem.mp hm
  exact List.pairwise_iff_getElem.mp h3 i j (by omega) hj (by omega) e
theorem permB_of {l:List Int} {b:Bool} (h:l.length≤24) (hb:b = true ↔ okFrom l 0):b = permB l:=by
 rw [Bool.eq_iff_iff,hb,okFrom_PI h]
 unfold permB
 rw [decide_eq_true_iff]
theorem take_succ (l:List Int) (i:Nat) (h:i < l.length):l.take (i + 1) = l.take i ++ [rd l (i:Int)]:=by
 rw [rd_get l i h,List.take_append_getElem h]
def st1 (out:List Nat) (x:Nat):List Nat:=if x ∈ out then out else out ++ [x]
def bfs (p q:List Nat):Nat→Nat→List Nat→List Nat
 | 0,_,out=>out
 | f + 1,a,out=>if a < out.length then bfs p q f (a + 1) (st1 (st1 out (g p (g out a))) (g q (g out a))) else out
def reach (p q:List Nat) (s:Nat):List Nat:=bfs p q (p.length + 1) 0 [s]
structure RInv (n:Nat) (out:List Nat):Prop where
 nd:out.Nodup
 lt:∀ x ∈ out,x < n
theorem RInv.le {n:Nat} {out:List Nat} (h:RInv n out):out.length≤n:=nodup_le n out h.nd h.lt
theorem RInv.st {n:Nat} {out:List Nat} {x:Nat} (h:RInv n out) (hx:x < n):RInv n (st1 out x):=by
 unfold st1
 split
 ·exact h
 ·rename_i hn
  refine ⟨List.nodup_append.mpr ⟨h.nd,by simp,fun a ha b hb e=>?_⟩,fun y hy=>?_⟩
  ·have:b = x:=by simpa using hb
   subst this
   exact hn (e ▸ ha)
  ·rcases List.mem_append.mp hy with hy | hy
   ·exact h.lt y hy
   ·have:y = x:=by simpa using hy
    omega
theorem st1_len (out:List Nat) (x:Nat):out.length≤(st1 out x).length:=by
 unfold st1
 split <;> simp
theorem RInv.g {n:Nat} {out:List Nat} {a:Nat} (h:RInv n out) (ha:a < out.length):M.g out a < n:=h.lt _ (g_mem ha)
structure Sf (r u:List Nat):Prop where
 pr:IsP r
 pu:IsP u
 le:r.length≤24
 eq:u.length = r.length
 pos:0 < r.length
 all:(reach r u 0).length = r.length
def surfB (r u:List Int):Bool:=permB r && permB u && decide (r.length = u.length) && decide (0 < r.length) && ((reach (N r) (N u) 0).length == r.length)
theorem surf_nat {r u:List Int} (h:surfB r u = true):∃ r' u',r = I r'∧u = I u'∧Sf r' u':=by
 unfold surfB at h
 simp only [Bool.and_eq_true,decide_eq_true_eq,beq_iff_eq] at h
 obtain ⟨⟨⟨⟨h1,h2⟩,h3⟩,h4⟩,h5⟩:=h
 obtain ⟨r',rfl,a1,a2⟩:=PI_nat (of_decide_eq_true h1)
 obtain ⟨u',rfl,b1,b2⟩:=PI_nat (of_decide_eq_true h2)
 rw [N_I,N_I,I_len] at h5
 rw [I_len,I_len] at h3
 rw [I_len] at h4
 exact ⟨r',u',rfl,rfl,a1,b1,a2,h3.symm,h4,h5⟩
theorem surfB_I {r u:List Nat}:surfB (I r) (I u) = true ↔ Sf r u:=by
 constructor
 ·intro h
  obtain ⟨r',u',e1,e2,hs⟩:=surf_nat h
  have:=I_inj e1
  have:=I_inj e2
  subst_vars
  exact hs
 ·intro h
  unfold surfB
  simp only [Bool.and_eq_true,decide_eq_true_eq,beq_iff_eq]
  rw [N_I,N_I,I_len,I_len]
  exact ⟨⟨⟨⟨permB_I.mpr ⟨h.pr,h.le⟩,permB_I.mpr ⟨h.pu,by have:=h.le;have:=h.eq;omega⟩⟩,h.eq.symm⟩,h.pos⟩,h.all⟩
end Go.Proofs.Ytoijcallajegfaa.M
end
section
/- Plain mathematics: going round a permutation. No conditions. -/
namespace Go.Proofs.Ytoijcallajegfaa.M
set_option linter.unusedVariables false
set_option linter.unusedSimpArgs false
def itr (p:List Nat):Nat→Nat→Nat
 | 0,s=>s
 | m + 1,s=>g p (itr p m s)
theorem itr_lt {p:List Nat} (hp:IsP p) (m:Nat) {s:Nat} (hs:s < p.length):itr p m s < p.length:=by
 induction m with
 | zero=>exact hs
 | succ m ih=>exact g_lt hp ih
theorem itr_add (p:List Nat) (a b s:Nat):itr p (a + b) s = itr p a (itr p b s):=by
 induction a with
 | zero=>simp [itr]
 | succ a ih =>
  have e:a + 1 + b = (a + b) + 1:=by omega
  rw [e,itr,itr,ih]
theorem itr_back {p:List Nat} (hp:IsP p) {s:Nat} (hs:s < p.length) (i d:Nat) (h:itr p (i + d) s = itr p i s):itr p d s = s:=by
 induction i with
 | zero =>
  have e:0 + d = d:=by omega
  rw [e] at h
  exact h
 | succ i ih =>
  have e:i + 1 + d = (i + d) + 1:=by omega
  rw [e] at h
  exact ih (g_inj hp (itr_lt hp _ hs) (itr_lt hp _ hs) h)
theorem period {p:List Nat} (hp:IsP p) {s:Nat} (hs:s < p.length):∃ m,1≤m∧m≤p.length∧itr p m s = s:=by
 apply Classical.byContradiction
 intro hn
 have hd:((List.range (p.length + 1)).map (fun m=>itr p m s)).Nodup:=by
  refine List.pairwise_map.mpr ?_
  refine List.pairwise_iff_getElem.mpr ?_
  intro i j hi hj hij
  rw [List.length_range] at hi hj
  rw [List.getElem_range,List.getElem_range]
  intro e
  have:itr p (j - i) s = s:=itr_back hp hs i (j - i) (by
   have e2:i + (j - i) = j:=by omega
   rw [e2]
   exact e.symm)
  exact hn ⟨j - i,by omega,by omega,this⟩
 have:=nodup_le p.length _ hd (fun x hx=>by
  obtain ⟨m,_,rfl⟩:=List.mem_map.mp hx
  exact itr_lt hp m hs)
 simp at this
 omega
def per (p:List Nat) (s:Nat):Nat:=(((List.range p.length).find? (fun m=>itr p (m + 1) s == s)).getD 0) + 1
def orbTo (p:List Nat) (s m:Nat):List Nat:=(List.range m).map (fun k=>itr p k s)
def orb (p:List Nat) (s:Nat):List Nat:=orbTo p s (per p s)
end Go.Proofs.Ytoijcallajegfaa.M
end
section
/- Plain mathematics: surfaces, and what the four letters make of them. No conditions. -/
namespace Go.Proofs.Ytoijcallajegfaa.M
set_option linter.unusedVariables false
set_option linter.unusedSimpArgs false
theorem st1_mem {out:List Nat} {x y:Nat}:y ∈ st1 out x ↔ y ∈ out ∨ y = x:=by
 unfold st1
 split
 ·rename_i h
  constructor
  ·exact Or.inl
  ·rintro (h' | rfl)
   ·exact h'
   ·exact h
 ·simp
theorem st1_g {out:List Nat} {x i:Nat} (h:i < out.length):g (st1 out x) i = g out i:=by
 unfold st1
 split
 ·rfl
 ·unfold g
  rw [List.getD_eq_getElem?_getD,List.getD_eq_getElem?_getD,List.getElem?_append_left h]
theorem st1_le (out:List Nat) (x:Nat):out.length≤(st1 out x).length:=by
 unfold st1
 split
 ·exact Nat.le_refl _
 ·simp
theorem bfs_ind {r u:List Nat} {n:Nat} (S:Nat→Prop) (h1:∀ x,x < n→S x→S (g r x)∧g r x < n) (h2:∀ x,x < n→S x→S (g u x)∧g u x < n):∀ (F a:Nat) (out:List Nat),(∀ x ∈ out,S x∧x < n)→∀ x ∈ bfs r u F a out,S x∧x < n:=by
 intro F
 induction F with
 | zero=>intro a out h;exact h
 | succ F ih =>
  intro a out h
  unfold bfs
  split
  ·rename_i ha
   obtain ⟨s,l⟩:=h _ (g_mem ha)
   refine ih _ _ (fun x hx=>?_)
   rcases st1_mem.mp hx with hx | rfl
   ·rcases st1_mem.mp hx with hx | rfl
    ·exact h x hx
    ·exact h1 _ l s
   ·exact h2 _ l s
  ·exact h
theorem bfs_sub {r u:List Nat}:∀ (F a:Nat) (out:List Nat),∀ x ∈ out,x ∈ bfs r u F a out:=by
 intro F
 induction F with
 | zero=>intro a out x h;exact h
 | succ F ih =>
  intro a out x h
  unfold bfs
  split
  ·exact ih _ _ x (st1_mem.mpr (.inl (st1_mem.mpr (.inl h))))
  ·exact h
theorem bfs_rinv {r u:List Nat} {n:Nat} (h1:∀ x,x < n→g r x < n) (h2:∀ x,x < n→g u x < n):∀ (F a:Nat) (out:List Nat),RInv n out→RInv n (bfs r u F a out):=by
 intro F
 induction F with
 | zero=>intro a out h;exact h
 | succ F ih =>
  intro a out h
  unfold bfs
  split
  ·rename_i ha
   have hx:=h.g ha
   exact ih _ _ ((h.st (h1 _ hx)).st (h2 _ hx))
  ·exact h
theorem bfs_shut {r u:List Nat} {n:Nat} (h1:∀ x,x < n→g r x < n) (h2:∀ x,x < n→g u x < n):∀ (F a:Nat) (out:List Nat),RInv n out→a≤out.length→n < F + a→(∀ i,i < a→g r (g out i) ∈ out∧g u (g out i) ∈ out)→∀ x ∈ bfs r u F a out,g r x ∈ bfs r u F a out∧g u x ∈ bfs r u F a out:=by
 intro F
 induction F with
 | zero =>
  intro a out h ha hF
  have:=h.le
  omega
 | succ F ih =>
  intro a out h ha hF hc
  unfold bfs
  split
  ·rename_i ha'
   have hx:=h.g ha'
   have r1:=h.st (h1 _ hx)
   have l1:=st1_le out (g r (g out a))
   have l2:=st1_le (st1 out (g r (g out a))) (g u (g out a))
   refine ih _ _ (r1.st (h2 _ hx)) (by omega) (by omega) (fun i hi=>?_)
   have e:g (st1 (st1 out (g r (g out a))) (g u (g out a))) i = g out i:=by
    rw [st1_g (by omega),st1_g (by omega)]
   rw [e]
   by_cases hia:i < a
   ·exact ⟨st1_mem.mpr (.inl (st1_mem.mpr (.inl (hc i hia).1))),st1_mem.mpr (.inl (st1_mem.mpr (.inl (hc i hia).2)))⟩
   ·obtain rfl:i = a:=by omega
    exact ⟨st1_mem.mpr (.inl (st1_mem.mpr (.inr rfl))),st1_mem.mpr (.inr rfl)⟩
  ·intro x hx
   obtain ⟨i,hi,rfl⟩:=mem_g hx
   exact hc i (by omega)
theorem nodup_sub_len5:∀ (a b:List Nat),a.Nodup→(∀ x ∈ a,x ∈ b)→a.length≤b.length:=by
 intro a
 induction a with
 | nil=>intro b _ _;simp
 | cons x a ih =>
  intro b hn h
  obtain ⟨h1,h2⟩:=List.nodup_cons.mp hn
  have hx:x ∈ b:=h x (by simp)
  have:=ih (b.erase x) h2 (fun y hy=>(List.mem_erase_of_ne (fun e=>h1 (by rw [← e];exact hy))).mpr (h y (by simp [hy])))
  rw [List.length_erase_of_mem hx] at this
  have hp:=List.length_pos_of_mem hx
  simp
  omega
def Tr (r u:List Nat):Prop:=∀ S:Nat→Prop,S 0→(∀ x,x < r.length→S x→S (g r x))→(∀ x,x < r.length→S x→S (g u x))→∀ x,x < r.length→S x
theorem sf_of_tr {r u:List Nat} (pr:IsP r) (pu:IsP u) (le:r.length≤24) (eq:u.length = r.length) (pos:0 < r.length) (h:Tr r u):Sf r u:=by
 have b1:∀ x,x < r.length→g r x < r.length:=fun x hx=>g_lt pr hx
 have b2:∀ x,x < r.length→g u x < r.length:=fun x hx=>by have:=g_lt pu (i:=x) (by omega);omega
 have hri:RInv r.length (reach r u 0):=bfs_rinv b1 b2 _ _ _ ⟨by simp,by simpa using pos⟩
 have hsh:=bfs_shut b1 b2 (r.length + 1) 0 [0] ⟨by simp,by simpa using pos⟩ (by simp) (by omega) (fun i hi=>by omega)
 have hall:∀ x,x < r.length→x ∈ reach r u 0:=h (fun x=>x ∈ reach r u 0) (bfs_sub _ _ _ 0 (by simp)) (fun x _ hx=>(hsh x hx).1) (fun x _ hx=>(hsh x hx).2)
 refine ⟨pr,pu,le,eq,pos,?_⟩
 have l1:=hri.le
 have l2:=nodup_sub_len5 (List.range r.length) (reach r u 0) List.nodup_range (fun x hx=>hall x (List.mem_range.mp hx))
 rw [List.length_range] at l2
 omega
theorem Sf.tr {r u:List Nat} (hs:Sf r u):Tr r u:=by
 intro S s0 h1 h2 x hx
 have b1:∀ x,x < r.length→g r x < r.length:=fun x hx=>g_lt hs.pr hx
 have b2:∀ x,x < r.length→g u x < r.length:=fun x hx=>by have:=g_lt hs.pu (i:=x) (by rw [hs.eq];exact hx);rw [hs.eq] at this;exact this
 have hri:RInv r.length (reach r u 0):=bfs_rinv b1 b2 _ _ _ ⟨by simp,by simpa using hs.pos⟩
 have hp:IsP (reach r u 0):=⟨fun x hx=>by rw [hs.all];exact hri.lt x hx,hri.nd⟩
 have hm:=mem_all hp (x:=x) (by rw [hs.all];exact hx)
 have h0:∀ y ∈ [0],S y∧y < r.length:=by
  intro y hy
  obtain rfl:y = 0:=by simpa using hy
  exact ⟨s0,hs.pos⟩
 exact (bfs_ind S (fun x hx h=>⟨h1 x hx h,b1 x hx⟩) (fun x hx h=>⟨h2 x hx h,b2 x hx⟩) _ _ [0] h0 x hm).1
theorem closed_back {p:List Nat} (hp:IsP p) {S:Nat→Prop} (hS:∀ x,x < p.length→S x→S (g p x)) {x:Nat} (hx:x < p.length) (h:S (g p x)):S x:=by
 obtain ⟨m,h1,_,h3⟩:=period hp hx
 have H:∀ k,S (itr p k (g p x)):=by
  intro k
  induction k with
  | zero=>exact h
  | succ k ih=>exact hS _ (itr_lt hp k (g_lt hp hx)) ih
 have e:itr p (m - 1) (g p x) = itr p m x:=by
  have:=itr_add p (m - 1) 1 x
  rw [show m - 1 + 1 = m by omega] at this
  exact this.symm
 have:=H (m - 1)
 rw [e,h3] at this
 exact this
theorem reach_full {r u:List Nat} (hs:Sf r u) {s:Nat} (hb:s < r.length):RInv r.length (reach r u s)∧∀ x,x < r.length→x ∈ reach r u s:=by
 have b1:∀ x,x < r.length→g r x < r.length:=fun x hx=>g_lt hs.pr hx
 have b2:∀ x,x < r.length→g u x < r.length:=fun x hx=>by have:=g_lt hs.pu (i:=x) (by rw [hs.eq];exact hx);rw [hs.eq] at this;exact this
 have h0:RInv r.length [s]:=⟨by simp,by simpa using hb⟩
 have hsh:=bfs_shut b1 b2 (r.length + 1) 0 [s] h0 (by simp) (by omega) (fun i hi=>by omega)
 have hmem:s ∈ reach r u s:=bfs_sub _ _ _ s (by simp)
 refine ⟨bfs_rinv b1 b2 _ _ _ h0,?_⟩
 have z:(0:Nat) ∈ reach r u s:=by
  apply Classical.byContradiction
  intro hz
  refine hs.tr (fun x=>x ∉ reach r u s) hz (fun x hx hn hm=>?_) (fun x hx hn hm=>?_) s hb hmem
  ·exact hn (closed_back hs.pr (S:=fun x=>x ∈ reach r u s) (fun y _ hy=>(hsh y hy).1) hx hm)
  ·exact hn (closed_back hs.pu (S:=fun x=>x ∈ reach r u s) (fun y _ hy=>(hsh y hy).2) (by rw [hs.eq];exact hx) hm)
 exact hs.tr (fun x=>x ∈ reach r u s) z (fun x _ hx=>(hsh x hx).1) (fun x _ hx=>(hsh x hx).2)
theorem sf_T {r u:List Nat} (hs:Sf r u):Sf r (thn (inv r) u):=by
 have h1:(inv r).length = u.length:=by rw [inv_len,hs.eq]
 refine sf_of_tr hs.pr (isP_thn (isP_inv hs.pr) hs.pu h1) hs.le (by rw [thn_len,inv_len]) hs.pos (fun S s0 k1 k2=>hs.tr S s0 k1 (fun x hx hsx=>?_))
 have:=k2 (g r x) (g_lt hs.pr hx) (k1 x hx hsx)
 rw [g_thn (by rw [inv_len];exact g_lt hs.pr hx),g_inv (g_lt hs.pr hx),ix_g hs.pr hx] at this
 exact this
theorem sf_t {r u:List Nat} (hs:Sf r u):Sf r (thn r u):=by
 have h1:r.length = u.length:=hs.eq.symm
 refine sf_of_tr hs.pr (isP_thn hs.pr hs.pu h1) hs.le (by rw [thn_len]) hs.pos (fun S s0 k1 k2=>hs.tr S s0 k1 (fun y hy hsy=>?_))
 have hx:ix r y < r.length:=ix_lt hs.pr hy
 have e:g r (ix r y) = y:=g_ix hs.pr hy
 have hsx:S (ix r y):=closed_back hs.pr (S:=S) k1 hx (by rw [e];exact hsy)
 have:=k2 _ hx hsx
 rw [g_thn hx,e] at this
 exact this
theorem sf_S {r u:List Nat} (hs:Sf r u):Sf (inv u) r:=by
 have hl:(inv u).length = r.length:=by rw [inv_len,hs.eq]
 refine sf_of_tr (isP_inv hs.pu) hs.pr (by rw [hl];exact hs.le) hl.symm (by rw [hl];exact hs.pos) (fun S s0 k1 k2=>?_)
 rw [hl] at k1 k2 ⊢
 refine hs.tr S s0 k2 (fun x hx hsx=>?_)
 have hx':g u x < u.length:=g_lt hs.pu (by rw [hs.eq];exact hx)
 refine closed_back (isP_inv hs.pu) (S:=S) (fun y hy=>k1 y (by rw [← hl];exact hy)) (x:=g u x) (by rw [inv_len];exact hx') ?_
 rw [g_inv hx',ix_g hs.pu (by rw [hs.eq];exact hx)]
 exact hsx
theorem sf_s {r u:List Nat} (hs:Sf r u):Sf u (inv r):=by
 refine sf_of_tr hs.pu (isP_inv hs.pr) (by rw [hs.eq];exact hs.le) (by rw [inv_len,hs.eq]) (by rw [hs.eq];exact hs.pos) (fun S s0 k1 k2=>?_)
 rw [hs.eq] at k1 k2 ⊢
 refine hs.tr S s0 (fun x hx hsx=>?_) k1
 have hx':g r x < r.length:=g_lt hs.pr hx
 refine closed_back (isP_inv hs.pr) (S:=S) (fun y hy=>k2 y (by rw [inv_len] at hy;exact hy)) (x:=g r x) (by rw [inv_len];exact hx') ?_
 rw [g_inv hx',ix_g hs.pr hx]
 exact hsx
end Go.Proofs.Ytoijcallajegfaa.M
end
section
namespace Go.Proofs.Ytoijcallajegfaa.A
open Go.RowKit Go.Proofs.YtoijcallajegfaaW.PrintWords Go.Proofs.YtoijcallajegfaaW.PrintLast Go.Proofs.YtoijcallajegfaaW.PrintMore
attribute [local go_sem] max2_int min2_int max_two min_two max_three min_three max_four min_four
set_option linter.unusedVariables false
set_option linter.unusedSimpArgs false
def Z68.l0:Nat→Int→List Int→Int→Int→Option (Bool)
 | 0,_,_,_,_=>none
 | k + 1,x1,x7,x8,x9=>if x9 < x8 then (if 0≤x9 then (if x9 < (x7.length:Int) then (if (rd x7 x9) = x1 then (some true) else (Z68.l0 k x1 x7 x8 (wrap64 (x9 + 1)))) else (none)) else (none)) else (some false)
def Z68.f (k:Nat) (l0:List Int) (a1:Int):Option (Bool):=Z68.l0 k a1 l0 (l0.length:Int) 0
theorem Z68.mono_l:∀ k,(∀ y0 y1 y2 y3,LeO (Z68.l0 k y0 y1 y2 y3) (Z68.l0 (k + 1) y0 y1 y2 y3))
 | 0=>fun _ _ _ _ r h=>by simp [Z68.l0] at h
 | k + 1=>by
  have ih0:=Z68.mono_l k
  ·intro y0 y1 y2 y3
   unfold Z68.l0
   repeat' first|exact ih0 _ _ _ _|exact lo_|refine LeO.ite ?_ ?_|refine LeO.bind ?_ (fun _=>?_)
theorem Z68.mono:∀ a0 a1 k,LeO (Z68.f k a0 a1) (Z68.f (k + 1) a0 a1):=by
 intro a0 a1 k
 have ih0:=Z68.mono_l k
 unfold Z68.f
 repeat' first|exact ih0 _ _ _ _|exact lo_|refine LeO.ite ?_ ?_|refine LeO.bind ?_ (fun _=>?_)
set_option maxHeartbeats 8000000 in
set_option maxRecDepth 100000 in
theorem Z68.calls (k:Nat) (A0:Option Addr) (c0:Nat) (l0:List Int) (a1:Int) (r:Bool) (w:World) (hr0:Kd.C (Kd.int .i64) w A0 l0.length l0) (hc0:l0.length≤c0) (h:Z68.f k l0 a1 = some r) :
  Calls Try.prog 126 #[.slice A0 l0.length c0,.int .i64 a1] w fun e w'=>e = .returned (.bool r)∧Drawn0 w w':=by
 have HR0:=A_ hr0
 have HC0:=A_ hc0
 clear hr0 hc0
 have H:=h
 unfold Z68.f at H
 clear h
 have H':=A_ H
 clear H
 go_enter Try.func126,Try.ntmps126
 go_wp2
 go_loopg [9] k (fun kq v9 w'=>∃ (x9_1:Int),v9 = .int .i64 x9_1∧Aside0 (Z68.l0 kq a1 l0 (l0.length:Int) x9_1 = some r)∧Aside0 (kq≤k)∧Drawn0 w w')
 case atStart=>exact ⟨(0),qc_,H',⟨nA_ _⟩,by repeat (first | exact Drawn0.refl _ | apply Drawn0.step)⟩
 case round =>
  clear H'
  obtain ⟨x9_1,rfl,HA,HK1,⟨m1,rfl⟩⟩:=hrel
  cases gk with
  | zero=>exact absurd HA.out (by simp [Z68.l0])
  | succ k1 =>
   have H:=HA.out
   clear HA
   simp only [Z68.l0] at H
   by_cases c3:x9_1 < (l0.length:Int)
   ·rw [if_pos c3] at H
    have c3b0:=oC_ c3
    clear c3
    replace H:=cx_ H;obtain ⟨c4b0,H⟩:=H
    replace H:=cx_ H;obtain ⟨c5b0,H⟩:=H
    by_cases c6:(rd l0 x9_1) = a1
    ·rw [if_pos c6] at H
     have c6b0:((rd l0 x9_1) == a1) = true:=beq_iff_eq.mpr c6
     have c6b1:((rd l0 x9_1) != a1) = false:=bne_eq_false_iff_eq.mpr c6
     clear c6
     obtain rfl:=Option.some.inj H
     have p560:0≤(x9_1:Int):=oB_ qe_
     have q560:x9_1 < (l0.length:Int):=oB_ qe_
     obtain ⟨ad560,e560,hx560_0⟩:=Kd.at_int HR0.out x9_1 p560 q560
     cases e560
     replace p560:=eq_true p560
     replace q560:=eq_true q560
     go_wp2
     go_ret
     exact ⟨qc_,by repeat (first | exact Drawn0.refl _ | apply Drawn0.step)⟩
    ·rw [if_neg c6] at H
     have c6b0:((rd l0 x9_1) == a1) = false:=beq_eq_false_iff_ne.mpr c6
     have c6b1:((rd l0 x9_1) != a1) = true:=bne_iff_ne.mpr c6
     have H':=A_ H
     clear H
     have p560:0≤(x9_1:Int):=oB_ qe_
     have q560:x9_1 < (l0.length:Int):=oB_ qe_
     obtain ⟨ad560,e560,hx560_0⟩:=Kd.at_int HR0.out x9_1 p560 q560
     cases e560
     replace p560:=eq_true p560
     replace q560:=eq_true q560
     go_wp2
     go_roundg k1
     case measure=>have:=HK1.out;omega
     case rel=>exact ⟨(wrap64 (x9_1 + 1)),qc_,H',⟨by have:=HK1.out;omega⟩,by repeat (first | exact Drawn0.refl _ | apply Drawn0.step)⟩
   ·rw [if_neg c3] at H
    have c3b0:=oD_ c3
    clear c3
    obtain rfl:=Option.some.inj H
    go_wp2
    go_ret
    exact ⟨qc_,by repeat (first | exact Drawn0.refl _ | apply Drawn0.step)⟩
def Z69.f (a0:Int) (a1:Int) (a2:Int):Option (Bool):=if a0 ≥ a1 then (some (decide (a0≤a2))) else (some false)
set_option maxHeartbeats 8000000 in
set_option maxRecDepth 100000 in
theorem Z69.calls (a0:Int) (a1:Int) (a2:Int) (r:Bool) (w:World) (h:Z69.f a0 a1 a2 = some r) :
  Calls Try.prog 83 #[.int .i64 a0,.int .i64 a1,.int .i64 a2] w fun e w'=>e = .returned (.bool r)∧Drawn0 w w':=by
 have H:=h
 unfold Z69.f at H
 clear h
 by_cases c4:a0 ≥ a1
 ·rw [if_pos c4] at H
  have c4b0:decide (a1≤a0) = true:=oC_ c4
  clear c4
  obtain rfl:=Option.some.inj H
  go_enter Try.func83,Try.ntmps83
  go_wp2
  go_ret
  exact ⟨qc_,by repeat (first | exact Drawn0.refl _ | apply Drawn0.step)⟩
 ·rw [if_neg c4] at H
  have c4b0:decide (a1≤a0) = false:=oD_ c4
  clear c4
  obtain rfl:=Option.some.inj H
  go_enter Try.func83,Try.ntmps83
  go_wp2
  go_ret
  exact ⟨qc_,by repeat (first | exact Drawn0.refl _ | apply Drawn0.step)⟩
def Z67.l0:Nat→List Int→List Int→Int→Int→Option (Bool)
 | 0,_,_,_,_=>none
 | k + 1,x0,x8,x9,x10=>if x10 < x9 then (if 0≤x10 then (if x10 < (x8.length:Int) then ((Z69.f (rd x8 x10) 0 (wrap64 ((x0.length:Int) - 1))).bind fun t562=>(if t562 = true then (if x10≤(x0.length:Int) then ((Z68.f k (x0.take (x10:Int).toNat) (rd x8 x10)).bind fun t564=>(if t564 = true then (some false) else (Z67.l0 k x0 x8 x9 (wrap64 (x10 + 1))))) else (none)) else (some false))) else (none)) else (none)) else (some true)
def Z67.f (k:Nat) (l0:List Int):Option (Bool):=if (l0.length:Int) > 24 then (some false) else (Z67.l0 k l0 l0 (l0.length:Int) 0)
theorem Z67.mono_l:∀ k,(∀ y0 y1 y2 y3,LeO (Z67.l0 k y0 y1 y2 y3) (Z67.l0 (k + 1) y0 y1 y2 y3))
 | 0=>fun _ _ _ _ r h=>by simp [Z67.l0] at h
 | k + 1=>by
  have ih0:=Z67.mono_l k
  ·intro y0 y1 y2 y3
   unfold Z67.l0
   repeat' first
   | (with_reducible exact ih0 _ _ _ _)
   | (with_reducible exact Z68.mono _ _ _)
   | (with_reducible exact LeO.refl _)
   | (with_reducible exact LeO.none _)
   | (with_reducible refine LeO.ite ?_ ?_)
   | (with_reducible refine LeO.bind ?_ (fun _=>?_))
   | exact ih0 _ _ _ _
   | exact Z68.mono _ _ _
   | exact LeO.none _
   | refine LeO.ite ?_ ?_
   | refine LeO.bind ?_ (fun _=>?_)
theorem Z67.mono:∀ a0 k,LeO (Z67.f k a0) (Z67.f (k + 1) a0):=by
 intro a0 k
 have ih0:=Z67.mono_l k
 unfold Z67.f
 repeat' first
   | (with_reducible exact ih0 _ _ _ _)
   | (with_reducible exact Z68.mono _ _ _)
   | (with_reducible exact LeO.refl _)
   | (with_reducible exact LeO.none _)
   | (with_reducible refine LeO.ite ?_ ?_)
   | (with_reducible refine LeO.bind ?_ (fun _=>?_))
   | exact ih0 _ _ _ _
   | exact Z68.mono _ _ _
   | exact LeO.none _
   | refine LeO.ite ?_ ?_
   | refine LeO.bind ?_ (fun _=>?_)
set_option maxHeartbeats 8000000 in
set_option maxRecDepth 100000 in
theorem Z67.calls (k:Nat) (A0:Option Addr) (c0:Nat) (l0:List Int) (r:Bool) (w:World) (hr0:Kd.C (Kd.int .i64) w A0 l0.length l0) (hc0:l0.length≤c0) (h:Z67.f k l0 = some r) :
  Calls Try.prog 161 #[.slice A0 l0.length c0] w fun e w'=>e = .returned (.bool r)∧Drawn0 w w':=by
 have HR0:=A_ hr0
 have HC0:=A_ hc0
 clear hr0 hc0
 have H:(if (l0.length:Int) > 24 then (some false) else (Z67.l0 k l0 l0 (l0.length:Int) 0)) = some r:=h
 clear h
 by_cases c2:(l0.length:Int) > 24
 ·rw [if_pos c2] at H
  have c2b0:decide (24 < (l0.length:Int)) = true:=oC_ c2
  have c2b1:decide (24 < l0.length) = true:=oC_ (by omega)
  clear c2
  obtain rfl:=Option.some.inj H
  go_enter Try.func161,Try.ntmps161
  go_wp2
  go_ret
  exact ⟨by first | rfl | (simp;done) | (simp [*];done),by repeat (first | exact Drawn0.refl _ | apply Drawn0.step)⟩
 ·rw [if_neg c2] at H
  have c2b0:decide (24 < (l0.length:Int)) = false:=oD_ c2
  have c2b1:decide (24 < l0.length) = false:=oD_ (by omega)
  clear c2
  have H':=A_ H
  clear H
  go_enter Try.func161,Try.ntmps161
  go_wp2
  go_loopg [10] k (fun kq v10 w'=>∃ (x10_1:Int),v10 = .int .i64 x10_1∧Aside0 (Z67.l0 kq l0 l0 (l0.length:Int) x10_1 = some r)∧Aside0 (kq≤k)∧Drawn0 w w')
  case atStart=>exact ⟨(0),(by first | rfl | (simp;done) | (simp [*];done)),H',⟨nA_ _⟩,by repeat (first | exact Drawn0.refl _ | apply Drawn0.step)⟩
  case round =>
   clear H'
   (try clear c1);(try clear c2);(try clear c2b0);(try clear c2b1);(try clear p2)
   obtain ⟨x10_1,rfl,HA,HK1,⟨m1,rfl⟩⟩:=hrel
   cases gk with
   | zero=>exact absurd HA.out (by simp [Z67.l0])
   | succ k1 =>
    have H:=HA.out
    clear HA
    simp only [Z67.l0] at H
    by_cases c3:x10_1 < (l0.length:Int)
    ·rw [if_pos c3] at H
     have c3b0:decide (x10_1 < (l0.length:Int)) = true:=oC_ c3
     clear c3
     by_cases c4:0≤x10_1
     ·rw [if_pos c4] at H
      have c4b0:decide (0≤x10_1) = true:=oC_ c4
      clear c4
      by_cases c5:x10_1 < (l0.length:Int)
      ·rw [if_pos c5] at H
       have c5b0:decide (x10_1 < (l0.length:Int)) = true:=oC_ c5
       clear c5
       replace H:=Option.bind_eq_some_iff.mp H
       obtain ⟨t562,A60,H⟩:=H
       replace H:(if t562 = true then (if x10_1≤(l0.length:Int) then ((Z68.f k1 (l0.take (x10_1:Int).toNat) (rd l0 x10_1)).bind fun t564=>(if t564 = true then (some false) else (Z67.l0 k1 l0 l0 (l0.length:Int) (wrap64 (x10_1 + 1))))) else (none)) else (some false)) = some r:=H
       have A6:=A_ A60
       clear A60
       by_cases c7:t562 = true
       ·subst c7
        have H1:(if x10_1≤(l0.length:Int) then ((Z68.f k1 (l0.take (x10_1:Int).toNat) (rd l0 x10_1)).bind fun t564=>(if t564 = true then (some false) else (Z67.l0 k1 l0 l0 (l0.length:Int) (wrap64 (x10_1 + 1))))) else (none)) = some r:=by rw [if_pos rfl] at H;exact H
        clear H
        have H:=H1
        clear H1
        have c8b0:=eq_true (oB_ (by first | (with_reducible assumption) | assumption):0≤x10_1)
        by_cases c9:x10_1≤(l0.length:Int)
        ·rw [if_pos c9] at H
         have c9b0:=eq_true c9
         have c9b1:decide (x10_1≤(l0.length:Int)) = true:=oC_ c9
         clear c9
         replace H:=Option.bind_eq_some_iff.mp H
         obtain ⟨t564,A100,H⟩:=H
         replace H:(if t564 = true then (some false) else (Z67.l0 k1 l0 l0 (l0.length:Int) (wrap64 (x10_1 + 1)))) = some r:=H
         have A10:=A_ A100
         clear A100
         by_cases c11:t564 = true
         ·subst c11
          have H1:(some false) = some r:=by rw [if_pos rfl] at H;exact H
          clear H
          have H:=H1
          clear H1
          obtain rfl:=Option.some.inj H
          have p561:0≤(x10_1:Int):=oB_ (by first | (with_reducible assumption) | assumption)
          have q561:x10_1 < (l0.length:Int):=oB_ (by first | (with_reducible assumption) | assumption)
          obtain ⟨ad561,e561,hx561_0⟩:=Kd.at_int HR0.out x10_1 p561 q561
          cases e561
          replace p561:=eq_true p561
          replace q561:=eq_true q561
          have HL_:=A_ (show (x10_1:Int).toNat = (l0.take (x10_1:Int).toNat).length by rw [lB_];have:=of_eq_true q561;omega)
          go_wp2_with (first | ((with_reducible refine gA_ (f:=83) rfl ?_);refine goesL_ (some 19) rfl rfl Try.func83 (by kernel_rfl) rfl #[.int .i64 (rd l0 x10_1),.int .i64 0,.int .i64 (wrap64 ((l0.length:Int) - 1))] rfl (by (try simp only [mA_,mB_,mC_]);first | done | rfl | (simp only [lA_,lB_];rfl)) ?_;(with_reducible refine (Z69.calls (rd l0 x10_1) 0 (wrap64 ((l0.length:Int) - 1)) true _ A6.out).mono ?_);rintro e w' ⟨rfl,⟨nd,rfl⟩⟩;refine ⟨_,rfl,?_⟩;obtain ⟨i012,hi012,_,hsz12,_⟩:=info_parts info3;obtain ⟨hcut12,hA12,hC12⟩:=print_take_of (P:=Try.prog) (Value.int .i64) 0 23 3 .i64 Try.underlying23 hi012 hsz12 (some ad561) c0 l0 x10_1 (oB_ (by first | (with_reducible assumption) | assumption)) (oB_ (by first | (with_reducible assumption) | assumption)) HC0.out;have HR563:=A_ (Kd.C_of_reads (h1:=fun _=>rfl) (hA12 _ (Kd.reads_of_C HR0.out)));have HC563:=A_ hC12;clear hA12 hC12 hi012 hsz12) | (go_at_call 126;refine calls_of_args (congrArg (fun n_=>#[Value.slice _ n_ _,_]) HL_.out) ?_;(with_reducible refine (Z68.calls k1 _ _ (l0.take (x10_1:Int).toNat) (rd l0 x10_1) true _ ?side1 ?side2 A10.out).mono ?_);(case side1=>repeat (first | exact HR563.out | (with_reducible first | refine cA_ ?_ _ | refine cB_ ?_ _ | refine cC_ ?_)));(case side2=>exact HC563.out);rintro e w' ⟨rfl,⟨nd,rfl⟩⟩))
          go_ret
          exact ⟨by first | rfl | (simp;done) | (simp [*];done),by repeat (first | exact Drawn0.refl _ | apply Drawn0.step)⟩
         ·replace c11:=Bool.eq_false_iff.mpr c11
          subst c11
          have H1:(Z67.l0 k1 l0 l0 (l0.length:Int) (wrap64 (x10_1 + 1))) = some r:=by rw [if_neg (show ¬ (false = true) by decide)] at H;exact H
          clear H
          have H:=H1
          clear H1
          have H':=A_ H
          clear H
          have p561:0≤(x10_1:Int):=oB_ (by first | (with_reducible assumption) | assumption)
          have q561:x10_1 < (l0.length:Int):=oB_ (by first | (with_reducible assumption) | assumption)
          obtain ⟨ad561,e561,hx561_0⟩:=Kd.at_int HR0.out x10_1 p561 q561
          cases e561
          replace p561:=eq_true p561
          replace q561:=eq_true q561
          have HL_:=A_ (show (x10_1:Int).toNat = (l0.take (x10_1:Int).toNat).length by rw [lB_];have:=of_eq_true q561;omega)
          go_wp2_with (first | ((with_reducible refine gA_ (f:=83) rfl ?_);refine goesL_ (some 19) rfl rfl Try.func83 (by kernel_rfl) rfl #[.int .i64 (rd l0 x10_1),.int .i64 0,.int .i64 (wrap64 ((l0.length:Int) - 1))] rfl (by (try simp only [mA_,mB_,mC_]);first | done | rfl | (simp only [lA_,lB_];rfl)) ?_;(with_reducible refine (Z69.calls (rd l0 x10_1) 0 (wrap64 ((l0.length:Int) - 1)) true _ A6.out).mono ?_);rintro e w' ⟨rfl,⟨nd,rfl⟩⟩;refine ⟨_,rfl,?_⟩;obtain ⟨i013,hi013,_,hsz13,_⟩:=info_parts info3;obtain ⟨hcut13,hA13,hC13⟩:=print_take_of (P:=Try.prog) (Value.int .i64) 0 23 3 .i64 Try.underlying23 hi013 hsz13 (some ad561) c0 l0 x10_1 (oB_ (by first | (with_reducible assumption) | assumption)) (oB_ (by first | (with_reducible assumption) | assumption)) HC0.out;have HR563:=A_ (Kd.C_of_reads (h1:=fun _=>rfl) (hA13 _ (Kd.reads_of_C HR0.out)));have HC563:=A_ hC13;clear hA13 hC13 hi013 hsz13) | (go_at_call 126;refine calls_of_args (congrArg (fun n_=>#[Value.slice _ n_ _,_]) HL_.out) ?_;(with_reducible refine (Z68.calls k1 _ _ (l0.take (x10_1:Int).toNat) (rd l0 x10_1) false _ ?side1 ?side2 A10.out).mono ?_);(case side1=>repeat (first | exact HR563.out | (with_reducible first | refine cA_ ?_ _ | refine cB_ ?_ _ | refine cC_ ?_)));(case side2=>exact HC563.out);rintro e w' ⟨rfl,⟨nd,rfl⟩⟩))
          go_roundg k1
          case measure=>have:=HK1.out;omega
          case rel=>exact ⟨(wrap64 (x10_1 + 1)),(by first | rfl | (simp;done) | (simp [*];done)),H',⟨by have:=HK1.out;omega⟩,by repeat (first | exact Drawn0.refl _ | apply Drawn0.step)⟩
        ·rw [if_neg c9] at H
         exact absurd H (by simp)
       ·replace c7:=Bool.eq_false_iff.mpr c7
        subst c7
        have H1:(some false) = some r:=by rw [if_neg (show ¬ (false = true) by decide)] at H;exact H
        clear H
        have H:=H1
        clear H1
        obtain rfl:=Option.some.inj H
        have p561:0≤(x10_1:Int):=oB_ (by first | (with_reducible assumption) | assumption)
        have q561:x10_1 < (l0.length:Int):=oB_ (by first | (with_reducible assumption) | assumption)
        obtain ⟨ad561,e561,hx561_0⟩:=Kd.at_int HR0.out x10_1 p561 q561
        cases e561
        replace p561:=eq_true p561
        replace q561:=eq_true q561
        have HL_:=A_ (show (x10_1:Int).toNat = (l0.take (x10_1:Int).toNat).length by rw [lB_];have:=of_eq_true q561;omega)
        go_wp2_with (first | ((with_reducible refine gA_ (f:=83) rfl ?_);refine goesL_ (some 19) rfl rfl Try.func83 (by kernel_rfl) rfl #[.int .i64 (rd l0 x10_1),.int .i64 0,.int .i64 (wrap64 ((l0.length:Int) - 1))] rfl (by (try simp only [mA_,mB_,mC_]);first | done | rfl | (simp only [lA_,lB_];rfl)) ?_;(with_reducible refine (Z69.calls (rd l0 x10_1) 0 (wrap64 ((l0.length:Int) - 1)) false _ A6.out).mono ?_);rintro e w' ⟨rfl,⟨nd,rfl⟩⟩;refine ⟨_,rfl,?_⟩))
        go_ret
        exact ⟨by first | rfl | (simp;done) | (simp [*];done),by repeat (first | exact Drawn0.refl _ | apply Drawn0.step)⟩
      ·rw [if_neg c5] at H
       exact absurd H (by simp)
     ·rw [if_neg c4] at H
      exact absurd H (by simp)
    ·rw [if_neg c3] at H
     have c3b0:decide (x10_1 < (l0.length:Int)) = false:=oD_ c3
     clear c3
     obtain rfl:=Option.some.inj H
     go_wp2
     go_ret
     exact ⟨by first | rfl | (simp;done) | (simp [*];done),by repeat (first | exact Drawn0.refl _ | apply Drawn0.step)⟩
end Go.Proofs.Ytoijcallajegfaa.A
end
