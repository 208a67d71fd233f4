/- Lemmas for the row FnExactCurveGenus: the program's functions told as plain functions, and plain mathematics. No conditions. -/
import Derived.Test.YtcggfjpnfodbaaaGreatQFnExactCurveGenus4
section
namespace Go.Proofs.YtcggfjpnfodbaaaGreat.A
open Go.RowKit Go.Proofs.YtcggfjpnfodbaaaGreatW.PrintWords Go.Proofs.YtcggfjpnfodbaaaGreatW.PrintLast Go.Proofs.YtcggfjpnfodbaaaGreatW.PrintMore
attribute [local go_sem] max2_int min2_int max_two min_two max_three min_three max_four min_four
set_option linter.unusedVariables false
set_option linter.unusedSimpArgs false
def Z77.l0:Nat→List Int→List Int→Int→Option (Bool)
 | 0,_,_,_=>none
 | k + 1,x0,x1,x5=>if x5 < (x0.length:Int) then (if 0≤x5 then (if x5 < (x1.length:Int) then (if (rd x0 x5) = (rd x1 x5) then (Z77.l0 k x0 x1 (wrap64 (x5 + 1))) else (some false)) else (none)) else (none)) else (some true)
def Z77.f (k:Nat) (l0:List Int) (l1:List Int):Option (Bool):=if (l0.length:Int) = (l1.length:Int) then (Z77.l0 k l0 l1 0) else (some false)
theorem Z77.mono_l:∀ k,(∀ y0 y1 y2,LeO (Z77.l0 k y0 y1 y2) (Z77.l0 (k + 1) y0 y1 y2))
 | 0=>fun _ _ _ r h=>by simp [Z77.l0] at h
 | k + 1=>by
  have ih0:=Z77.mono_l k
  ·intro y0 y1 y2
   unfold Z77.l0
   repeat' first|exact ih0 _ _ _|exact lo_|refine LeO.ite ?_ ?_|refine LeO.bind ?_ (fun _=>?_)
theorem Z77.mono:∀ a0 a1 k,LeO (Z77.f k a0 a1) (Z77.f (k + 1) a0 a1):=by
 intro a0 a1 k
 have ih0:=Z77.mono_l k
 unfold Z77.f
 repeat' first|exact ih0 _ _ _|exact lo_|refine LeO.ite ?_ ?_|refine LeO.bind ?_ (fun _=>?_)
set_option maxHeartbeats 8000000 in
set_option maxRecDepth 100000 in
theorem Z77.calls (k:Nat) (A0:Option Addr) (c0:Nat) (l0:List Int) (A1:Option Addr) (c1:Nat) (l1:List Int) (r:Bool) (w:World) (hr0:Kd.C (Kd.int .i64) w A0 l0.length l0) (hc0:l0.length≤c0) (hr1:Kd.C (Kd.int .i64) w A1 l1.length l1) (hc1:l1.length≤c1) (h:Z77.f k l0 l1 = some r) :
  Calls Tryz.prog 21 #[.slice A0 l0.length c0,.slice A1 l1.length c1] w fun e w'=>e = .returned (.bool r)∧Drawn0 w w':=by
 have HR0:=A_ hr0
 have HC0:=A_ hc0
 clear hr0 hc0
 have HR1:=A_ hr1
 have HC1:=A_ hc1
 clear hr1 hc1
 have H:=h
 unfold Z77.f at H
 clear h
 by_cases c3:(l0.length:Int) = (l1.length:Int)
 ·rw [if_pos c3] at H
  have c3b0:((l0.length:Int) == (l1.length:Int)) = true:=beq_iff_eq.mpr c3
  have c3b1:((l0.length:Int) != (l1.length:Int)) = false:=bne_eq_false_iff_eq.mpr c3
  have c3b2:(l0.length == l1.length) = true:=by first | simpa using c3 | (simp at c3 ⊢;omega)
  clear c3
  have H':=A_ H
  clear H
  go_enter Tryz.func21,Tryz.ntmps21
  go_wp2
  repeat (go_quiet (fail);try go_wp2)
  go_loopg [5] k (fun kq v5 w'=>∃ (x5_1:Int),v5 = .int .i64 x5_1∧Aside0 (Z77.l0 kq l0 l1 x5_1 = some r)∧Aside0 (kq≤k)∧Drawn0 w w')
  case atStart=>exact ⟨(0),qc_,H',⟨nA_ _⟩,by repeat (first | exact Drawn0.refl _ | apply Drawn0.step)⟩
  case round =>
   clear H'
   obtain ⟨x5_1,rfl,HA,HK1,⟨m1,rfl⟩⟩:=hrel
   cases gk with
   | zero=>exact absurd HA.out (by simp [Z77.l0])
   | succ k1 =>
    have H:=HA.out
    clear HA
    simp only [Z77.l0] at H
    by_cases c4:x5_1 < (l0.length:Int)
    ·rw [if_pos c4] at H
     have c4b0:=oC_ c4
     clear c4
     have c5:=cp_ H
     replace H:=ca_ H
     have c5b0:=oC_ c5
     clear c5
     have c6:=cp_ H
     replace H:=ca_ H
     have c6b0:=oC_ c6
     clear c6
     by_cases c7:(rd l0 x5_1) = (rd l1 x5_1)
     ·rw [if_pos c7] at H
      have c7b0:((rd l0 x5_1) == (rd l1 x5_1)) = true:=beq_iff_eq.mpr c7
      have c7b1:((rd l0 x5_1) != (rd l1 x5_1)) = false:=bne_eq_false_iff_eq.mpr c7
      clear c7
      have H':=A_ H
      clear H
      have p770:0≤(x5_1:Int):=oB_ qe_
      have q770:x5_1 < (l0.length:Int):=oB_ qe_
      obtain ⟨ad770,e770,hx770_0⟩:=Kd.at_int HR0.out x5_1 p770 q770
      cases e770
      replace p770:=eq_true p770
      replace q770:=eq_true q770
      have p771:0≤(x5_1:Int):=oB_ qe_
      have q771:x5_1 < (l1.length:Int):=oB_ qe_
      obtain ⟨ad771,e771,hx771_0⟩:=Kd.at_int HR1.out x5_1 p771 q771
      cases e771
      replace p771:=eq_true p771
      replace q771:=eq_true q771
      go_wp2
      repeat (go_quiet (fail);try go_wp2)
      go_roundg k1
      case measure=>have:=HK1.out;omega
      case rel=>exact ⟨(wrap64 (x5_1 + 1)),qc_,H',⟨by have:=HK1.out;omega⟩,by repeat (first | exact Drawn0.refl _ | apply Drawn0.step)⟩
     ·rw [if_neg c7] at H
      have c7b0:((rd l0 x5_1) == (rd l1 x5_1)) = false:=beq_eq_false_iff_ne.mpr c7
      have c7b1:((rd l0 x5_1) != (rd l1 x5_1)) = true:=bne_iff_ne.mpr c7
      obtain rfl:=Option.some.inj H
      have p770:0≤(x5_1:Int):=oB_ qe_
      have q770:x5_1 < (l0.length:Int):=oB_ qe_
      obtain ⟨ad770,e770,hx770_0⟩:=Kd.at_int HR0.out x5_1 p770 q770
      cases e770
      replace p770:=eq_true p770
      replace q770:=eq_true q770
      have p771:0≤(x5_1:Int):=oB_ qe_
      have q771:x5_1 < (l1.length:Int):=oB_ qe_
      obtain ⟨ad771,e771,hx771_0⟩:=Kd.at_int HR1.out x5_1 p771 q771
      cases e771
      replace p771:=eq_true p771
      replace q771:=eq_true q771
      go_wp2
      repeat (go_quiet (fail);try go_wp2)
      go_ret
      exact ⟨qc_,by repeat (first | exact Drawn0.refl _ | apply Drawn0.step)⟩
    ·rw [if_neg c4] at H
     have c4b0:=oD_ c4
     clear c4
     obtain rfl:=Option.some.inj H
     go_wp2
     repeat (go_quiet (fail);try go_wp2)
     go_ret
     exact ⟨qc_,by repeat (first | exact Drawn0.refl _ | apply Drawn0.step)⟩
 ·rw [if_neg c3] at H
  have c3b0:((l0.length:Int) == (l1.length:Int)) = false:=beq_eq_false_iff_ne.mpr c3
  have c3b1:((l0.length:Int) != (l1.length:Int)) = true:=bne_iff_ne.mpr c3
  have c3b2:(l0.length == l1.length) = false:=by first | simpa using c3 | (simp at c3 ⊢;omega)
  obtain rfl:=Option.some.inj H
  go_enter Tryz.func21,Tryz.ntmps21
  go_wp2
  repeat (go_quiet (fail);try go_wp2)
  go_ret
  exact ⟨qc_,by repeat (first | exact Drawn0.refl _ | apply Drawn0.step)⟩
def Z40.f (k:Nat) (l0_0:List Int) (l0_1:List Int) (l1_0:List Int) (l1_1:List Int):Option (Bool):=(Z77.f k l0_0 l1_0).bind fun t774=>(if t774 = true then ((Z77.f k l0_1 l1_1).bind fun t775=>(if t775 = true then (some true) else (some false))) else (some false))
theorem Z40.mono:∀ a0 a1 a2 a3 k,LeO (Z40.f k a0 a1 a2 a3) (Z40.f (k + 1) a0 a1 a2 a3):=by
 intro a0 a1 a2 a3 k
 unfold Z40.f
 repeat' first|exact Z77.mono _ _ _|exact lo_|refine LeO.ite ?_ ?_|refine LeO.bind ?_ (fun _=>?_)
set_option maxHeartbeats 8000000 in
set_option maxRecDepth 100000 in
theorem Z40.calls (k:Nat) (A0_0:Option Addr) (c0_0:Nat) (l0_0:List Int) (A0_1:Option Addr) (c0_1:Nat) (l0_1:List Int) (A1_0:Option Addr) (c1_0:Nat) (l1_0:List Int) (A1_1:Option Addr) (c1_1:Nat) (l1_1:List Int) (r:Bool) (w:World) (hr0_0:Kd.C (Kd.int .i64) w A0_0 l0_0.length l0_0) (hc0_0:l0_0.length≤c0_0) (hr0_1:Kd.C (Kd.int .i64) w A0_1 l0_1.length l0_1) (hc0_1:l0_1.length≤c0_1) (hr1_0:Kd.C (Kd.int .i64) w A1_0 l1_0.length l1_0) (hc1_0:l1_0.length≤c1_0) (hr1_1:Kd.C (Kd.int .i64) w A1_1 l1_1.length l1_1) (hc1_1:l1_1.length≤c1_1) (h:Z40.f k l0_0 l0_1 l1_0 l1_1 = some r) :
  Calls Tryz.prog 8 #[.agg #[.slice A0_0 l0_0.length c0_0,.slice A0_1 l0_1.length c0_1],.agg #[.slice A1_0 l1_0.length c1_0,.slice A1_1 l1_1.length c1_1]] w fun e w'=>e = .returned (.bool r)∧Below w.heap.size w w':=by
 have hu27:=Tryz.underlying27
 have HR0_0:=A_ hr0_0
 have HC0_0:=A_ hc0_0
 clear hr0_0 hc0_0
 have HR0_1:=A_ hr0_1
 have HC0_1:=A_ hc0_1
 clear hr0_1 hc0_1
 have HR1_0:=A_ hr1_0
 have HC1_0:=A_ hc1_0
 clear hr1_0 hc1_0
 have HR1_1:=A_ hr1_1
 have HC1_1:=A_ hc1_1
 clear hr1_1 hc1_1
 have HB:=A_ (Below.refl w.heap.size w)
 have H:=h
 unfold Z40.f at H
 clear h
 obtain ⟨t774,A3,H⟩:=bi_ H
 by_cases c4:t774 = true
 ·subst c4
  rw [if_pos rfl] at H
  obtain ⟨t775,A5,H⟩:=bi_ H
  by_cases c6:t775 = true
  ·subst c6
   rw [if_pos rfl] at H
   obtain rfl:=Option.some.inj H
   go_enter Tryz.func8,Tryz.ntmps8
   go_wp2_with (first | ((with_reducible refine gB_ (N:=2) rfl ?_);refine bx_ 2 #[.slice A0_0 l0_0.length c0_0,.slice A0_1 l0_1.length c0_1] 27 ?_;intro gb772 hg w7 hbox hb;have BK772:=A_ hbox;have GW772:=gw_ w hg;have GE772:=GW772;replace HB:=b1_ hb;clear hb hbox hg) | ((with_reducible refine gB_ (N:=3) rfl ?_);refine bx_ 3 #[.slice A1_0 l1_0.length c1_0,.slice A1_1 l1_1.length c1_1] 27 ?_;intro gb773 hg w8 hbox hb;have BK773:=A_ hbox;have GW773:=gw_ w hg;have GE773:=GW773;replace HB:=b1_ hb;have NB772_773:=gN_ BK772 hg;have NB773_772:=gP_ BK772 hg;replace BK772:=bb_ BK772 hb;clear hb hbox hg;have hnb9:=NB772_773.out;have hnc9:=NB773_772.out;obtain ⟨hcz10_0,hcz10_1,hfz10_0,hfz10_1⟩:=c2_ BK772;obtain ⟨hcz11_0,hcz11_1,hfz11_0,hfz11_1⟩:=c2_ BK773) | ((with_reducible refine gA_ (f:=21) rfl ?_);refine gL_ (some 9) Tryz.func21 #[.slice A0_0 l0_0.length c0_0,.slice A1_0 l1_0.length c1_0] rfl qa_ ?_;(with_reducible refine (Z77.calls k _ _ l0_0 _ _ l1_0 true _ (cb_ HR0_0) HC0_0.out (cb_ HR1_0) HC1_0.out A3.out).mono ?_);rintro e w' ⟨rfl,⟨nd,rfl⟩⟩;refine ⟨_,rfl,?_⟩) | ((with_reducible refine gA_ (f:=21) rfl ?_);refine gL_ (some 15) Tryz.func21 #[.slice A0_1 l0_1.length c0_1,.slice A1_1 l1_1.length c1_1] rfl qa_ ?_;(with_reducible refine (Z77.calls k _ _ l0_1 _ _ l1_1 true _ (cw_ (cD_ HR0_1.out hB_)) HC0_1.out (cw_ (cD_ HR1_1.out hB_)) HC1_1.out A5.out).mono ?_);rintro e w' ⟨rfl,⟨nd,rfl⟩⟩;refine ⟨_,rfl,?_⟩))
   go_ret
   exact ⟨qb_,hB_⟩
  ·replace c6:=Bool.eq_false_iff.mpr c6
   subst c6
   have H1:(some false) = some r:=by rw [if_neg (show ¬ (false = true) by decide)] at H;exact H
   clear H
   have H:=H1
   clear H1
   obtain rfl:=Option.some.inj H
   go_enter Tryz.func8,Tryz.ntmps8
   go_wp2_with (first | ((with_reducible refine gB_ (N:=2) rfl ?_);refine bx_ 2 #[.slice A0_0 l0_0.length c0_0,.slice A0_1 l0_1.length c0_1] 27 ?_;intro gb772 hg w12 hbox hb;have BK772:=A_ hbox;have GW772:=gw_ w hg;have GE772:=GW772;replace HB:=b1_ hb;clear hb hbox hg) | ((with_reducible refine gB_ (N:=3) rfl ?_);refine bx_ 3 #[.slice A1_0 l1_0.length c1_0,.slice A1_1 l1_1.length c1_1] 27 ?_;intro gb773 hg w13 hbox hb;have BK773:=A_ hbox;have GW773:=gw_ w hg;have GE773:=GW773;replace HB:=b1_ hb;have NB772_773:=gN_ BK772 hg;have NB773_772:=gP_ BK772 hg;replace BK772:=bb_ BK772 hb;clear hb hbox hg;have hnb14:=NB772_773.out;have hnc14:=NB773_772.out;obtain ⟨hcz15_0,hcz15_1,hfz15_0,hfz15_1⟩:=c2_ BK772;obtain ⟨hcz16_0,hcz16_1,hfz16_0,hfz16_1⟩:=c2_ BK773) | ((with_reducible refine gA_ (f:=21) rfl ?_);refine gL_ (some 9) Tryz.func21 #[.slice A0_0 l0_0.length c0_0,.slice A1_0 l1_0.length c1_0] rfl qa_ ?_;(with_reducible refine (Z77.calls k _ _ l0_0 _ _ l1_0 true _ (cb_ HR0_0) HC0_0.out (cb_ HR1_0) HC1_0.out A3.out).mono ?_);rintro e w' ⟨rfl,⟨nd,rfl⟩⟩;refine ⟨_,rfl,?_⟩) | ((with_reducible refine gA_ (f:=21) rfl ?_);refine gL_ (some 15) Tryz.func21 #[.slice A0_1 l0_1.length c0_1,.slice A1_1 l1_1.length c1_1] rfl qa_ ?_;(with_reducible refine (Z77.calls k _ _ l0_1 _ _ l1_1 false _ (cw_ (cD_ HR0_1.out hB_)) HC0_1.out (cw_ (cD_ HR1_1.out hB_)) HC1_1.out A5.out).mono ?_);rintro e w' ⟨rfl,⟨nd,rfl⟩⟩;refine ⟨_,rfl,?_⟩))
   go_ret
   exact ⟨qb_,hB_⟩
 ·replace c4:=Bool.eq_false_iff.mpr c4
  subst c4
  have H1:(some false) = some r:=by rw [if_neg (show ¬ (false = true) by decide)] at H;exact H
  clear H
  have H:=H1
  clear H1
  obtain rfl:=Option.some.inj H
  go_enter Tryz.func8,Tryz.ntmps8
  go_wp2_with (first | ((with_reducible refine gB_ (N:=2) rfl ?_);refine bx_ 2 #[.slice A0_0 l0_0.length c0_0,.slice A0_1 l0_1.length c0_1] 27 ?_;intro gb772 hg w17 hbox hb;have BK772:=A_ hbox;have GW772:=gw_ w hg;have GE772:=GW772;replace HB:=b1_ hb;clear hb hbox hg) | ((with_reducible refine gB_ (N:=3) rfl ?_);refine bx_ 3 #[.slice A1_0 l1_0.length c1_0,.slice A1_1 l1_1.length c1_1] 27 ?_;intro gb773 hg w18 hbox hb;have BK773:=A_ hbox;have GW773:=gw_ w hg;have GE773:=GW773;replace HB:=b1_ hb;have NB772_773:=gN_ BK772 hg;have NB773_772:=gP_ BK772 hg;replace BK772:=bb_ BK772 hb;clear hb hbox hg;have hnb19:=NB772_773.out;have hnc19:=NB773_772.out;obtain ⟨hcz20_0,hcz20_1,hfz20_0,hfz20_1⟩:=c2_ BK772;obtain ⟨hcz21_0,hcz21_1,hfz21_0,hfz21_1⟩:=c2_ BK773) | ((with_reducible refine gA_ (f:=21) rfl ?_);refine gL_ (some 9) Tryz.func21 #[.slice A0_0 l0_0.length c0_0,.slice A1_0 l1_0.length c1_0] rfl qa_ ?_;(with_reducible refine (Z77.calls k _ _ l0_0 _ _ l1_0 false _ (cb_ HR0_0) HC0_0.out (cb_ HR1_0) HC1_0.out A3.out).mono ?_);rintro e w' ⟨rfl,⟨nd,rfl⟩⟩;refine ⟨_,rfl,?_⟩))
  go_ret
  exact ⟨qb_,hB_⟩
end Go.Proofs.YtcggfjpnfodbaaaGreat.A
end
section
namespace Go.Proofs.YtcggfjpnfodbaaaGreat.A
open Go.RowKit Go.Proofs.YtcggfjpnfodbaaaGreatW.PrintWords Go.Proofs.YtcggfjpnfodbaaaGreatW.PrintLast Go.Proofs.YtcggfjpnfodbaaaGreatW.PrintMore Go.Proofs.YtcggfjpnfodbaaaGreat.M
set_option linter.unusedVariables false
set_option linter.unusedSimpArgs false
def Z1.F (k:Nat) (l0_0:List Int) (l0_1:List Int):Prop:=∃ s0:Int,Z41.f l0_0 l0_1 1048576 = some s0∧(s0 < 0 ∨ (¬ s0 < 0∧(∃ (r0:Int),Z42.f k l0_0 l0_1 = some (l0_0,l0_1)∧Z40.f k l0_0 l0_1 l0_0 l0_1 = some true∧Z33.f k l0_0 l0_1 = some r0∧Z30.f k l0_0 l0_1 = some r0)))
set_option maxHeartbeats 8000000 in
set_option maxRecDepth 100000 in
theorem Z1.calls (k:Nat) (A0_0:Option Addr) (c0_0:Nat) (l0_0:List Int) (A0_1:Option Addr) (c0_1:Nat) (l0_1:List Int) (w:World) (hr0_0:Kd.C (Kd.int .i64) w A0_0 l0_0.length l0_0) (hc0_0:l0_0.length≤c0_0) (hr0_1:Kd.C (Kd.int .i64) w A0_1 l0_1.length l0_1) (hc0_1:l0_1.length≤c0_1) (h:Z1.F k l0_0 l0_1) :
  Calls Tryz.prog 3 #[.agg #[.slice A0_0 l0_0.length c0_0,.slice A0_1 l0_1.length c0_1]] w fun e w'=>e = .returned (.bool true)∧Below w.heap.size w w':=by
 have hu24:=Tryz.underlying24
 have hu27:=Tryz.underlying27
 have HR0_0:=A_ hr0_0;have HC0_0:=A_ hc0_0;clear hr0_0 hc0_0
 have HR0_1:=A_ hr0_1;have HC0_1:=A_ hc0_1;clear hr0_1 hc0_1
 have HB:=A_ (Below.refl w.heap.size w)
 unfold Z1.F at h
 obtain ⟨s0,FZ0,h⟩:=h
 replace FZ0:=A_ FZ0
 rcases h with hneg | ⟨hneg,h⟩
 ·have hq0:decide (s0 < 0) = true:=oC_ hneg
  go_enter Tryz.func3,Tryz.ntmps3
  go_upto_region 2 with (first | ((with_reducible refine gB_ (N:=1) rfl ?_);refine bx_ 1 #[.slice A0_0 l0_0.length c0_0,.slice A0_1 l0_1.length c0_1] 24 ?_;intro gbp0 hg w1 hbox hb;have HBo:=HB.out;have n_:=A_ (below_then HBo HBo.size hb);clear HB;have HB:=n_;clear n_;have HSw1:=A_ hb.size;have BKp0:=A_ hbox;have GIp0:=A_ (show w.heap.size≤gbp0∧gbp0 < w1.heap.size from ⟨by omega,blk_lt hbox⟩);have GEp0:=A_ (show w.heap.size≤gbp0 from by have:=HBo.size;omega);clear hb hbox hg HBo;obtain ⟨hczp0_0,hczp0_1,hfzp0_0,hfzp0_1⟩:=c2_ BKp0))
  go_wp2_with (first | ((with_reducible refine gA_ (f:=4) rfl ?_);refine goesL_ _ rfl rfl Tryz.func4 (by kernel_rfl) rfl #[.agg #[.slice A0_0 l0_0.length c0_0,.slice A0_1 l0_1.length c0_1],.int .i64 1048576] rfl (by (try simp only [mA_,mB_,mC_]);first | done | rfl) ?_;have HBo:=HB.out;refine (Z41.calls A0_0 c0_0 l0_0 A0_1 c0_1 l0_1 1048576 s0 _ (cD_ HR0_0.out HB.out) HC0_0.out (cD_ HR0_1.out HB.out) HC0_1.out FZ0.out).mono ?_;rintro e w2 ⟨rfl,hb0⟩;refine ⟨_,rfl,?_⟩;clear hczp0_0 hfzp0_0 hczp0_1 hfzp0_1;have n_:=A_ (kE_ BKp0.out hb0);clear BKp0;have BKp0:=n_;clear n_;have n_:=A_ (below_then HBo HBo.size hb0);clear HB;have HB:=n_;clear n_;have HSw2:=A_ hb0.size;clear hb0 HBo;obtain ⟨hczp0_0,hczp0_1,hfzp0_0,hfzp0_1⟩:=c2_ BKp0))
  go_ret
  exact ⟨rfl,HB.out⟩
 have hq0:decide (s0 < 0) = false:=oD_ hneg
 clear hneg
 obtain ⟨r0,FS0,FE0,FW,FG⟩:=h
 replace FS0:=A_ FS0
 replace FE0:=A_ FE0
 replace FW:=A_ FW
 replace FG:=A_ FG
 go_enter Tryz.func3,Tryz.ntmps3
 go_upto_region 2 with (first | ((with_reducible refine gB_ (N:=1) rfl ?_);refine bx_ 1 #[.slice A0_0 l0_0.length c0_0,.slice A0_1 l0_1.length c0_1] 24 ?_;intro gbp0 hg w1 hbox hb;have HBo:=HB.out;have n_:=A_ (below_then HBo HBo.size hb);clear HB;have HB:=n_;clear n_;have HSw1:=A_ hb.size;have BKp0:=A_ hbox;have GIp0:=A_ (show w.heap.size≤gbp0∧gbp0 < w1.heap.size from ⟨by omega,blk_lt hbox⟩);have GEp0:=A_ (show w.heap.size≤gbp0 from by have:=HBo.size;omega);clear hb hbox hg HBo;obtain ⟨hczp0_0,hczp0_1,hfzp0_0,hfzp0_1⟩:=c2_ BKp0))
 go_upto_region 5 with (first | ((with_reducible refine gA_ (f:=4) rfl ?_);refine goesL_ _ rfl rfl Tryz.func4 (by kernel_rfl) rfl #[.agg #[.slice A0_0 l0_0.length c0_0,.slice A0_1 l0_1.length c0_1],.int .i64 1048576] rfl (by (try simp only [mA_,mB_,mC_]);first | done | rfl) ?_;have HBo:=HB.out;refine (Z41.calls A0_0 c0_0 l0_0 A0_1 c0_1 l0_1 1048576 s0 _ (cD_ HR0_0.out HB.out) HC0_0.out (cD_ HR0_1.out HB.out) HC0_1.out FZ0.out).mono ?_;rintro e w2 ⟨rfl,hb0⟩;refine ⟨_,rfl,?_⟩;clear hczp0_0 hfzp0_0 hczp0_1 hfzp0_1;have n_:=A_ (kE_ BKp0.out hb0);clear BKp0;have BKp0:=n_;clear n_;have n_:=A_ (below_then HBo HBo.size hb0);clear HB;have HB:=n_;clear n_;have HSw2:=A_ hb0.size;clear hb0 HBo;obtain ⟨hczp0_0,hczp0_1,hfzp0_0,hfzp0_1⟩:=c2_ BKp0))
 go_upto_region 6 with (first | ((with_reducible refine gA_ (f:=6) rfl ?_);refine goesL_ _ rfl rfl Tryz.func6 (by kernel_rfl) rfl #[.agg #[.slice A0_0 l0_0.length c0_0,.slice A0_1 l0_1.length c0_1]] rfl (by (try simp only [mA_,mB_,mC_]);first | done | rfl) ?_;have HBo:=HB.out;refine (Z42.calls k A0_0 c0_0 l0_0 A0_1 c0_1 l0_1 l0_0 l0_1 _ (cD_ HR0_0.out HB.out) HC0_0.out (cD_ HR0_1.out HB.out) HC0_1.out FS0.out).mono ?_;rintro e w3 ⟨v0_,v1_,rfl,h0_,h1_,hb0⟩;refine ⟨_,rfl,?_⟩;clear hczp0_0 hfzp0_0 hczp0_1 hfzp0_1;have n_:=A_ (kE_ BKp0.out hb0);clear BKp0;have BKp0:=n_;clear n_;have n_:=A_ (below_then HBo HBo.size hb0);clear HB;have HB:=n_;clear n_;have HSw3:=A_ hb0.size;have NE1:=A_ h0_.1;have Hx1a:=A_ (fresh_R (b0:=w.heap.size) h0_ HBo.size);clear h0_;obtain ⟨Ax1a,cx1a,ex1a⟩:=Kd.R_slice Hx1a.out;subst ex1a;have Hx1b:=A_ (fresh_R (b0:=w.heap.size) h1_ HBo.size);clear h1_;obtain ⟨Ax1b,cx1b,ex1b⟩:=Kd.R_slice Hx1b.out;subst ex1b;clear hb0 HBo;obtain ⟨hczp0_0,hczp0_1,hfzp0_0,hfzp0_1⟩:=c2_ BKp0) | ((with_reducible refine gA_ (f:=5) rfl ?_);refine goesL_ _ rfl rfl Tryz.func5 (by kernel_rfl) rfl #[.agg #[.slice Ax1a l0_0.length cx1a,.slice Ax1b l0_1.length cx1b]] rfl (by (try simp only [mA_,mB_,mC_]);first | done | rfl) ?_;have HBo:=HB.out;refine (Z33.calls k Ax1a cx1a l0_0 Ax1b cx1b l0_1 r0 _ (Kd.R_reads' Hx1a.out).2.2 (Kd.R_reads' Hx1a.out).2.1 (Kd.R_reads' Hx1b.out).2.2 (Kd.R_reads' Hx1b.out).2.1 FW.out).mono ?_;rintro e w4 ⟨rfl,hb0⟩;refine ⟨_,rfl,?_⟩;clear hczp0_0 hfzp0_0 hczp0_1 hfzp0_1;have n_:=A_ (kE_ BKp0.out hb0);clear BKp0;have BKp0:=n_;clear n_;have n_:=A_ (rD_ Hx1a.out hb0);clear Hx1a;have Hx1a:=n_;clear n_;have n_:=A_ (rD_ Hx1b.out hb0);clear Hx1b;have Hx1b:=n_;clear n_;have n_:=A_ (below_then HBo HBo.size hb0);clear HB;have HB:=n_;clear n_;have HSw4:=A_ hb0.size;clear hb0 HBo;obtain ⟨hczp0_0,hczp0_1,hfzp0_0,hfzp0_1⟩:=c2_ BKp0;clear Hx1a Hx1b))
 go_upto_region 7 with (first | ((with_reducible refine gA_ (f:=6) rfl ?_);refine goesL_ _ rfl rfl Tryz.func6 (by kernel_rfl) rfl #[.agg #[.slice A0_0 l0_0.length c0_0,.slice A0_1 l0_1.length c0_1]] rfl (by (try simp only [mA_,mB_,mC_]);first | done | rfl) ?_;have HBo:=HB.out;refine (Z42.calls k A0_0 c0_0 l0_0 A0_1 c0_1 l0_1 l0_0 l0_1 _ (cD_ HR0_0.out HB.out) HC0_0.out (cD_ HR0_1.out HB.out) HC0_1.out FS0.out).mono ?_;rintro e w5 ⟨v0_,v1_,rfl,h0_,h1_,hb0⟩;refine ⟨_,rfl,?_⟩;clear hczp0_0 hfzp0_0 hczp0_1 hfzp0_1;have n_:=A_ (kE_ BKp0.out hb0);clear BKp0;have BKp0:=n_;clear n_;have n_:=A_ (below_then HBo HBo.size hb0);clear HB;have HB:=n_;clear n_;have HSw5:=A_ hb0.size;have NE2:=A_ h0_.1;have Hx2a:=A_ (fresh_R (b0:=w.heap.size) h0_ HBo.size);clear h0_;obtain ⟨Ax2a,cx2a,ex2a⟩:=Kd.R_slice Hx2a.out;subst ex2a;have Hx2b:=A_ (fresh_R (b0:=w.heap.size) h1_ HBo.size);clear h1_;obtain ⟨Ax2b,cx2b,ex2b⟩:=Kd.R_slice Hx2b.out;subst ex2b;clear hb0 HBo;obtain ⟨hczp0_0,hczp0_1,hfzp0_0,hfzp0_1⟩:=c2_ BKp0) | ((with_reducible refine gB_ (N:=5) rfl ?_);refine bx_ 5 #[.slice none 0 0,.slice none 0 0] 27 ?_;intro gbx0 hg w6 hbox hb;clear hczp0_0 hfzp0_0 hczp0_1 hfzp0_1;have HBo:=HB.out;have n_:=A_ (kE_ BKp0.out hb);clear BKp0;have BKp0:=n_;clear n_;have n_:=A_ (rD_ Hx2a.out hb);clear Hx2a;have Hx2a:=n_;clear n_;have n_:=A_ (rD_ Hx2b.out hb);clear Hx2b;have Hx2b:=n_;clear n_;have n_:=A_ (below_then HBo HBo.size hb);clear HB;have HB:=n_;clear n_;have HSw6:=A_ hb.size;have BKx0:=A_ hbox;have GIx0:=A_ (show w5.heap.size≤gbx0∧gbx0 < w6.heap.size from ⟨by omega,blk_lt hbox⟩);have GEx0:=A_ (show w.heap.size≤gbx0 from by have:=HBo.size;omega);clear hb hbox hg HBo;obtain ⟨hczp0_0,hczp0_1,hfzp0_0,hfzp0_1⟩:=c2_ BKp0;obtain ⟨hczx0_0,hczx0_1,hfzx0_0,hfzx0_1⟩:=c2_ BKx0) | ((with_reducible refine gate_store (t:=27) (p:=5) rfl ?_);refine store_event (t:=27) (p:=5) (v:=?vo5) (w1:=((w6.setCell ⟨gbx0,0,none⟩ (.slice Ax2a l0_0.length cx2a)).setCell ⟨gbx0,1,none⟩ (.slice Ax2b l0_1.length cx2b))) ?hg ?ho ?hn ?hr ?_;(case ho=>rfl);(case hg=>rfl);(case hn=>rfl);(case hr=>first | (go_simp;done) | (go_simp;rfl));intro wq hw;subst hw;obtain ⟨hbox,hkp,hB2⟩:=box_store BKx0.out (.slice Ax2a l0_0.length cx2a) (.slice Ax2b l0_1.length cx2b) HB.out GEx0.out;generalize hw:((w6.setCell ⟨gbx0,0,none⟩ (.slice Ax2a l0_0.length cx2a)).setCell ⟨gbx0,1,none⟩ (.slice Ax2b l0_1.length cx2b)) = w7 at hbox hkp hB2 ⊢;clear hw;clear hczp0_0 hfzp0_0 hczp0_1 hfzp0_1 hczx0_0 hfzx0_0 hczx0_1 hfzx0_1;have n_:=A_ (blk_kept (g:=gbp0) BKp0.out hkp (fun hs=>by have hk:=GIp0.out;have:=hk.1;have:=hk.2;have:=GIx0.out;have:=HSw1.out;have:=HSw2.out;have:=HSw3.out;have:=HSw4.out;have:=HSw5.out;have:=HSw6.out;omega));clear BKp0;have BKp0:=n_;clear n_;have n_:=A_ (Kd.R_kept Hx2a.out hkp (fun k_ hk hs=>by have:=hk.1;have:=hk.2;have:=GIx0.out;have:=HSw1.out;have:=HSw2.out;have:=HSw3.out;have:=HSw4.out;have:=HSw5.out;have:=HSw6.out;omega));clear Hx2a;have Hx2a:=n_;clear n_;have n_:=A_ (Kd.R_kept Hx2b.out hkp (fun k_ hk hs=>by have:=hk.1;have:=hk.2;have:=GIx0.out;have:=HSw1.out;have:=HSw2.out;have:=HSw3.out;have:=HSw4.out;have:=HSw5.out;have:=HSw6.out;omega));clear Hx2b;have Hx2b:=n_;clear n_;have n_:=A_ (hB2);clear HB;have HB:=n_;clear n_;have HSw7:=A_ hkp.1;clear BKx0;have BKx0:=A_ (show w7.heap[gbx0]? = some (.cells #[.slice Ax2a l0_0.length cx2a,.slice Ax2b l0_1.length cx2b] 27 (0,0)) from hbox);clear hbox hkp hB2;obtain ⟨hczp0_0,hczp0_1,hfzp0_0,hfzp0_1⟩:=c2_ BKp0;obtain ⟨hczx0_0,hczx0_1,hfzx0_0,hfzx0_1⟩:=c2_ BKx0))
 go_upto_region 10 with (first | ((with_reducible refine gA_ (f:=7) rfl ?_);refine goesL_ _ rfl rfl Tryz.func7 (by kernel_rfl) rfl #[.agg #[.slice Ax2a l0_0.length cx2a,.slice Ax2b l0_1.length cx2b]] rfl (by (try simp only [mA_,mB_,mC_]);first | done | rfl) ?_;have HBo:=HB.out;refine (Z30.calls k Ax2a cx2a l0_0 Ax2b cx2b l0_1 r0 _ (Kd.R_reads' Hx2a.out).2.2 (Kd.R_reads' Hx2a.out).2.1 (Kd.R_reads' Hx2b.out).2.2 (Kd.R_reads' Hx2b.out).2.1 FG.out).mono ?_;rintro e w8 ⟨rfl,hb0⟩;refine ⟨_,rfl,?_⟩;clear hczp0_0 hfzp0_0 hczp0_1 hfzp0_1 hczx0_0 hfzx0_0 hczx0_1 hfzx0_1;have n_:=A_ (kE_ BKp0.out hb0);clear BKp0;have BKp0:=n_;clear n_;have n_:=A_ (rD_ Hx2a.out hb0);clear Hx2a;have Hx2a:=n_;clear n_;have n_:=A_ (rD_ Hx2b.out hb0);clear Hx2b;have Hx2b:=n_;clear n_;have n_:=A_ (kE_ BKx0.out hb0);clear BKx0;have BKx0:=n_;clear n_;have n_:=A_ (below_then HBo HBo.size hb0);clear HB;have HB:=n_;clear n_;have HSw8:=A_ hb0.size;clear hb0 HBo;obtain ⟨hczp0_0,hczp0_1,hfzp0_0,hfzp0_1⟩:=c2_ BKp0;obtain ⟨hczx0_0,hczx0_1,hfzx0_0,hfzx0_1⟩:=c2_ BKx0))
 clear hczp0_0 hfzp0_0 hczp0_1 hfzp0_1 hczx0_0 hfzx0_0 hczx0_1 hfzx0_1
 have n_:=A_ (kB_ BKp0.out)
 clear BKp0
 have BKp0:=n_
 clear n_
 have n_:=A_ (rC_ Hx2a.out)
 clear Hx2a
 have Hx2a:=n_
 clear n_
 have n_:=A_ (rC_ Hx2b.out)
 clear Hx2b
 have Hx2b:=n_
 clear n_
 have n_:=A_ (kB_ BKx0.out)
 clear BKx0
 have BKx0:=n_
 clear n_
 have n_:=A_ (bC_ HB.out)
 clear HB
 have HB:=n_
 clear n_
 have HSw10:=A_ (show w8.heap.size≤w8.drew.heap.size from nA_ _)
 refine start_ (n:=5) (S:=fun w'=>w'.cell? ⟨gbp0,0,none⟩ = some (.slice A0_0 l0_0.length c0_0)∧w'.cell? ⟨gbp0,1,none⟩ = some (.slice A0_1 l0_1.length c0_1)∧w'.cell? ⟨gbx0,0,none⟩ = some (.slice Ax2a l0_0.length cx2a)∧w'.cell? ⟨gbx0,1,none⟩ = some (.slice Ax2b l0_1.length cx2b)) (ds:=[]) (bl_ 5 0) (by kernel_rfl) rfl (by kernel_rfl) ⟨cz0_ BKp0,cz1_ BKp0,cz0_ BKx0,cz1_ BKx0⟩ (fun hHeld=>?_)
 generalize hwd:w8.drew = w10 at BKp0 Hx2a Hx2b BKx0 HB HSw10 hHeld ⊢
 clear hwd
 refine take_ (i:=0) (N:=some 22) (v:=?_) (a':=?_) (bl_ 5 1) rfl rfl (by kernel_rfl) (fun _ _ _ h=>h) (Or.inl ⟨by rfl,?_⟩) hHeld ?_ ?_
 rotate_left
 ·rintro w' ⟨s0,s1,s2,s3⟩
  go_simp
  with_reducible rfl
 rotate_left
 ·simp only [Act.put,sA_,sB_,sC_,i64_w,i32_w]
  rfl
 refine take_ (i:=1) (N:=some 23) (v:=?_) (a':=?_) (bl_ 5 3) rfl rfl (by kernel_rfl) (fun _ _ _ h=>h) (Or.inl ⟨by rfl,?_⟩) hHeld ?_ ?_
 rotate_left
 ·rintro w' ⟨s0,s1,s2,s3⟩
  go_simp
  with_reducible rfl
 rotate_left
 ·simp only [Act.put,sA_,sB_,sC_,i64_w,i32_w]
  rfl
 refine one_ (i:=2) (N:=some 24) (bl_ 5 7) rfl rfl (by kernel_rfl) (by decide) (fun K hK=>?_)
 replace hK:=A_ hK
 refine gO_ Tryz.func6 #[.agg #[.slice A0_0 l0_0.length c0_0,.slice A0_1 l0_1.length c0_1]] (by rfl) rfl rfl (by (try simp only [mA_,mB_,mC_]);first | done | rfl) ?_
 have HBo:=HB.out
 refine (Z42.calls k A0_0 c0_0 l0_0 A0_1 c0_1 l0_1 l0_0 l0_1 _ (cD_ HR0_0.out HB.out) HC0_0.out (cD_ HR0_1.out HB.out) HC0_1.out FS0.out).mono ?_
 rintro e w11 ⟨v0_,v1_,rfl,h0_,h1_,hb0⟩
 refine ⟨_,rfl,?_⟩
 clear hHeld
 have n_:=A_ (kE_ BKp0.out hb0)
 clear BKp0
 have BKp0:=n_
 clear n_
 have n_:=A_ (rD_ Hx2a.out hb0)
 clear Hx2a
 have Hx2a:=n_
 clear n_
 have n_:=A_ (rD_ Hx2b.out hb0)
 clear Hx2b
 have Hx2b:=n_
 clear n_
 have n_:=A_ (kE_ BKx0.out hb0)
 clear BKx0
 have BKx0:=n_
 clear n_
 have n_:=A_ (below_then HBo HBo.size hb0)
 clear HB
 have HB:=n_
 clear n_
 have HSw11:=A_ hb0.size
 have NE3:=A_ h0_.1
 have Hx3a:=A_ (fresh_R (b0:=w.heap.size) h0_ HBo.size)
 clear h0_
 obtain ⟨Ax3a,cx3a,ex3a⟩:=Kd.R_slice Hx3a.out
 subst ex3a
 have Hx3b:=A_ (fresh_R (b0:=w.heap.size) h1_ HBo.size)
 clear h1_
 obtain ⟨Ax3b,cx3b,ex3b⟩:=Kd.R_slice Hx3b.out
 subst ex3b
 clear hb0 HBo
 refine hK.out _ _ ⟨cz0_ BKp0,cz1_ BKp0,cz0_ BKx0,cz1_ BKx0⟩ (fun hHeld=>?_)
 clear hK K
 refine no_ (some 24) ?_
 refine one_ (i:=3) (N:=some 25) (bl_ 5 15) rfl rfl (by kernel_rfl) (by decide) (fun K hK=>?_)
 replace hK:=A_ hK
 refine gO_ Tryz.func8 #[.agg #[.slice Ax2a l0_0.length cx2a,.slice Ax2b l0_1.length cx2b],.agg #[.slice Ax3a l0_0.length cx3a,.slice Ax3b l0_1.length cx3b]] (by rfl) rfl rfl (by (try simp only [mA_,mB_,mC_]);first | done | rfl) ?_
 have HBo:=HB.out
 refine (Z40.calls k Ax2a cx2a l0_0 Ax2b cx2b l0_1 Ax3a cx3a l0_0 Ax3b cx3b l0_1 true _ (Kd.R_reads' Hx2a.out).2.2 (Kd.R_reads' Hx2a.out).2.1 (Kd.R_reads' Hx2b.out).2.2 (Kd.R_reads' Hx2b.out).2.1 (Kd.R_reads' Hx3a.out).2.2 (Kd.R_reads' Hx3a.out).2.1 (Kd.R_reads' Hx3b.out).2.2 (Kd.R_reads' Hx3b.out).2.1 FE0.out).mono ?_
 rintro e w12 ⟨rfl,hb0⟩
 refine ⟨_,rfl,?_⟩
 clear hHeld
 have n_:=A_ (kE_ BKp0.out hb0)
 clear BKp0
 have BKp0:=n_
 clear n_
 have n_:=A_ (rD_ Hx2a.out hb0)
 clear Hx2a
 have Hx2a:=n_
 clear n_
 have n_:=A_ (rD_ Hx2b.out hb0)
 clear Hx2b
 have Hx2b:=n_
 clear n_
 have n_:=A_ (kE_ BKx0.out hb0)
 clear BKx0
 have BKx0:=n_
 clear n_
 have n_:=A_ (rD_ Hx3a.out hb0)
 clear Hx3a
 have Hx3a:=n_
 clear n_
 have n_:=A_ (rD_ Hx3b.out hb0)
 clear Hx3b
 have Hx3b:=n_
 clear n_
 have n_:=A_ (below_then HBo HBo.size hb0)
 clear HB
 have HB:=n_
 clear n_
 have HSw12:=A_ hb0.size
 clear hb0 HBo
 refine hK.out _ _ ⟨cz0_ BKp0,cz1_ BKp0,cz0_ BKx0,cz1_ BKx0⟩ (fun hHeld=>?_)
 clear hK K
 refine no_ (some 25) ?_
 refine pure_ (i:=4) (N:=some 26) (v:=?_) (a':=?_) (bl_ 5 31) rfl rfl (by kernel_rfl) (fun _ _ _ h=>h) (Or.inl ⟨by rfl,?_⟩) ?_ ?_
 rotate_left
 ·intro w'
  go_simp
  with_reducible rfl
 rotate_left
 ·simp only [Act.put,sA_,sB_,sC_,i64_w,i32_w]
  rfl
 refine done_ (by kernel_rfl) ?_
 clear hHeld
 obtain ⟨hczp0_0,hczp0_1,hfzp0_0,hfzp0_1⟩:=c2_ BKp0
 obtain ⟨hczx0_0,hczx0_1,hfzx0_0,hfzx0_1⟩:=c2_ BKx0
 clear Hx3a Hx3b
 go_wp2
 go_ret
 exact ⟨rfl,HB.out⟩
end Go.Proofs.YtcggfjpnfodbaaaGreat.A
end
section
/- Plain mathematics: permutations of whole numbers, and what is reached by two of them. No conditions. -/
namespace Go.Proofs.YtcggfjpnfodbaaaGreat.M
set_option linter.unusedVariables false
set_option linter.unusedSimpArgs false
open Go.RowKit Go.Proofs.YtcggfjpnfodbaaaGreatW.PrintWords Go.Proofs.YtcggfjpnfodbaaaGreatW.PrintLast Go.Proofs.YtcggfjpnfodbaaaGreatW.PrintMore
theorem w64 {x:Int} (h0:-9223372036854775808≤x) (h1:x≤9223372036854775807):wrap64 x = x:=by unfold wrap64;omega
theorem w64s (i:Nat) (h:i≤9000000000000000000):wrap64 ((i:Int) + 1) = ((i + 1:Nat):Int):=by rw [w64 (by omega) (by omega)];omega
theorem ev_succ {α:Type} {f:Nat→Option α} {r:α} (h:Ev (fun k=>f (k + 1)) r):Ev f r:=Ev.step (fun _=>rfl) h
theorem rdI (p:List Nat) (i:Nat):rd (I p) (i:Int) = ((g p i:Nat):Int):=by
 unfold rd g I
 simp only [Int.toNat_natCast,List.getD_eq_getElem?_getD,List.getElem?_map]
 cases p[i]? <;> rfl
theorem rd_get (l:List Int) (i:Nat) (h:i < l.length):rd l (i:Int) = l[i]:=by
 unfold rd
 simp [List.getD_eq_getElem?_getD,h]
theorem mem_I {p:List Nat} {x:Nat}:(x:Int) ∈ I p ↔ x ∈ p:=by
 unfold I
 constructor
 ·intro h
  obtain ⟨y,hy,e⟩:=List.mem_map.mp h
  have:y = x:=Int.ofNat.inj e
  exact this ▸ hy
 ·intro h
  exact List.mem_map.mpr ⟨x,h,rfl⟩
def PI (l:List Int):Prop:=l.length≤24∧(∀ x ∈ l,0≤x∧x < (l.length:Int))∧l.Nodup
instance:DecidablePred PI:=fun l=>by unfold PI;infer_instance
def permB (l:List Int):Bool:=decide (PI l)
def N (l:List Int):List Nat:=l.map Int.toNat
theorem N_I (p:List Nat):N (I p) = p:=by
 unfold N I
 rw [List.map_map]
 exact List.map_id'' (fun x=>rfl) p
theorem N_len (l:List Int):(N l).length = l.length:=by simp [N]
theorem I_N {l:List Int} (h:∀ x ∈ l,0≤x):I (N l) = l:=by
 unfold N I
 rw [List.map_map]
 conv=>rhs;rw [← List.map_id l]
 apply List.map_congr_left
 intro x hx
 have:=h x hx
 simp only [Function.comp,id]
 show ((x.toNat:Nat):Int) = x
 omega
theorem PI_nat {l:List Int} (h:PI l):∃ p,l = I p∧IsP p∧p.length≤24:=by
 obtain ⟨h1,h2,h3⟩:=h
 refine ⟨N l,(I_N (fun x hx=>(h2 x hx).1)).symm,?_,by rw [N_len];exact h1⟩
 have e:=I_N (fun x hx=>(h2 x hx).1)
 refine ⟨fun x hx=>?_,?_⟩
 ·have:=(h2 (x:Int) (by rw [← e];exact mem_I.mpr hx)).2
  rw [N_len]
  omega
 ·rw [← e] at h3
  unfold I at h3
  exact (List.pairwise_map.mp h3).imp (fun {a b} hab hh=>hab (by rw [hh]))
theorem PI_I {p:List Nat}:PI (I p) ↔ IsP p∧p.length≤24:=by
 constructor
 ·intro h
  obtain ⟨q,e,h1,h2⟩:=PI_nat h
  have:=I_inj e
  subst this
  exact ⟨h1,h2⟩
 ·intro ⟨h1,h2⟩
  refine ⟨by rw [I_len];exact h2,fun x hx=>?_,?_⟩
  ·unfold I at hx
   obtain ⟨y,hy,rfl⟩:=List.mem_map.mp hx
   have:=h1.lt y hy
   rw [I_len]
   exact ⟨Int.natCast_nonneg y,Int.ofNat_lt.mpr this⟩
  ·unfold I
   exact List.pairwise_map.mpr (h1.nd.imp (fun {a b} hab hh=>hab (Int.ofNat.inj hh)))
theorem permB_I {p:List Nat}:permB (I p) = true ↔ IsP p∧p.length≤24:=by
 unfold permB
 rw [decide_eq_true_iff]
 exact PI_I
def okFrom (l:List Int) (i:Nat):Prop:=∀ j:Nat,i≤j→j < l.length→0≤rd l (j:Int)∧rd l (j:Int) < (l.length:Int)∧rd l (j:Int) ∉ l.take j
theorem okFrom_end (l:List Int) (i:Nat) (h:l.length≤i):okFrom l i:=fun j h1 h2=>by omega
theorem okFrom_step {l:List Int} {i:Nat} (h:0≤rd l (i:Int)∧rd l (i:Int) < (l.length:Int)∧rd l (i:Int) ∉ l.take i):okFrom l i ↔ okFrom l (i + 1):=by
 constructor
 ·intro k j h1 h2
  exact k j (by omega) h2
 ·intro k j h1 h2
  by_cases e:j = i
  ·subst e
   exact h
  ·exact k j (by omega) h2
theorem okFrom_not {l:List Int} {i:Nat} (hi:i < l.length) (h:¬ (0≤rd l (i:Int)∧rd l (i:Int) < (l.length:Int)∧rd l (i:Int) ∉ l.take i)):¬ okFrom l i:=fun k=>h (k i (Nat.le_refl _) hi)
theorem okFrom_PI {l:List Int} (h:l.length≤24):okFrom l 0 ↔ PI l:=by
 constructor
 ·intro k
  refine ⟨h,fun x hx=>?_,?_⟩
  ·obtain ⟨i,hi,rfl⟩:=List.mem_iff_getElem.mp hx
   have:=k i (Nat.zero_le _) hi
   rw [rd_get l i hi] at this
   exact ⟨this.1,this.2.1⟩
  ·refine List.pairwise_iff_getElem.mpr ?_
   intro i j hi hj hij e
   have:=(k j (Nat.zero_le _) hj).2.2
   rw [rd_get l j hj,← e] at this
   exact this (List.mem_take_iff_getElem.mpr ⟨i,by omega,rfl⟩)
 ·intro ⟨_,h2,h3⟩ j _ hj
  rw [rd_get l j hj]
  refine ⟨(h2 _ (List.getElem_mem hj)).1,(h2 _ (List.getElem_mem hj)).2,fun hm=>?_⟩
  obtain ⟨i,hi,e⟩:=List.mem_take_iff_getElem.mp hm
  exact List.pairwise_iff_getElem.mp h3 i j (by omega) hj (by omega) e
theorem permB_of {l:List Int} {b:Bool} (h:l.length≤24) (hb:b = true ↔ okFrom l 0):b = permB l:=by
 rw [Bool.eq_iff_iff,hb,okFrom_PI h]
 unfold permB
 rw [decide_eq_true_iff]
theorem take_succ (l:List Int) (i:Nat) (h:i < l.length):l.take (i + 1) = l.take i ++ [rd l (i:Int)]:=by
 rw [rd_get l i h,List.take_append_getElem h]
def st1 (out:List Nat) (x:Nat):List Nat:=if x ∈ out then out else out ++ [x]
def bfs (p q:List Nat):Nat→Nat→List Nat→List Nat
 | 0,_,out=>out
 | f + 1,a,out=>if a < out.length then bfs p q f (a + 1) (st1 (st1 out (g p (g out a))) (g q (g out a))) else out
def reach (p q:List Nat) (s:Nat):List Nat:=bfs p q (p.length + 1) 0 [s]
structure RInv (n:Nat) (out:List Nat):Prop where
 nd:out.Nodup
 lt:∀ x ∈ out,x < n
theorem RInv.le {n:Nat} {out:List Nat} (h:RInv n out):out.length≤n:=nodup_le n out h.nd h.lt
theorem RInv.st {n:Nat} {out:List Nat} {x:Nat} (h:RInv n out) (hx:x < n):RInv n (st1 out x):=by
 unfold st1
 split
 ·exact h
 ·rename_i hn
  refine ⟨List.nodup_append.mpr ⟨h.nd,by simp,fun a ha b hb e=>?_⟩,fun y hy=>?_⟩
  ·have:b = x:=by simpa using hb
   subst this
   exact hn (e ▸ ha)
  ·rcases List.mem_append.mp hy with hy | hy
   ·exact h.lt y hy
   ·have:y = x:=by simpa using hy
    omega
theorem st1_len (out:List Nat) (x:Nat):out.length≤(st1 out x).length:=by
 unfold st1
 split <;> simp
theorem RInv.g {n:Nat} {out:List Nat} {a:Nat} (h:RInv n out) (ha:a < out.length):M.g out a < n:=h.lt _ (g_mem ha)
structure Sf (r u:List Nat):Prop where
 pr:IsP r
 pu:IsP u
 le:r.length≤24
 eq:u.length = r.length
 pos:0 < r.length
 all:(reach r u 0).length = r.length
def surfB (r u:List Int):Bool:=permB r && permB u && decide (r.length = u.length) && decide (0 < r.length) && ((reach (N r) (N u) 0).length == r.length)
theorem surf_nat {r u:List Int} (h:surfB r u = true):∃ r' u',r = I r'∧u = I u'∧Sf r' u':=by
 unfold surfB at h
 simp only [Bool.and_eq_true,decide_eq_true_eq,beq_iff_eq] at h
 obtain ⟨⟨⟨⟨h1,h2⟩,h3⟩,h4⟩,h5⟩:=h
 obtain ⟨r',rfl,a1,a2⟩:=PI_nat (of_decide_eq_true h1)
 obtain ⟨u',rfl,b1,b2⟩:=PI_nat (of_decide_eq_true h2)
 rw [N_I,N_I,I_len] at h5
 rw [I_len,I_len] at h3
 rw [I_len] at h4
 exact ⟨r',u',rfl,rfl,a1,b1,a2,h3.symm,h4,h5⟩
theorem surfB_I {r u:List Nat}:surfB (I r) (I u) = true ↔ Sf r u:=by
 constructor
 ·intro h
  obtain ⟨r',u',e1,e2,hs⟩:=surf_nat h
  have:=I_inj e1
  have:=I_inj e2
  subst_vars
  exact hs
 ·intro h
  unfold surfB
  simp only [Bool.and_eq_true,decide_eq_true_eq,beq_iff_eq]
  rw [N_I,N_I,I_len,I_len]
  exact ⟨⟨⟨⟨permB_I.mpr ⟨h.pr,h.le⟩,permB_I.mpr ⟨h.pu,by have:=h.le;have:=h.eq;omega⟩⟩,h.eq.symm⟩,h.pos⟩,h.all⟩
end Go.Proofs.YtcggfjpnfodbaaaGreat.M
end
section
/- Plain mathematics: surfaces, and what the four letters make of them. No conditions. -/
namespace Go.Proofs.YtcggfjpnfodbaaaGreat.M
set_option linter.unusedVariables false
set_option linter.unusedSimpArgs false
theorem st1_mem {out:List Nat} {x y:Nat}:y ∈ st1 out x ↔ y ∈ out ∨ y = x:=by
 unfold st1
 split
 ·rename_i h
  constructor
  ·exact Or.inl
  ·rintro (h' | rfl)
   ·exact h'
   ·exact h
 ·simp
theorem st1_g {out:List Nat} {x i:Nat} (h:i < out.length):g (st1 out x) i = g out i:=by
 unfold st1
 split
 ·rfl
 ·unfold g
  rw [List.getD_eq_getElem?_getD,List.getD_eq_getElem?_getD,List.getElem?_append_left h]
theorem st1_le (out:List Nat) (x:Nat):out.length≤(st1 out x).length:=by
 unfold st1
 split
 ·exact Nat.le_refl _
 ·simp
theorem bfs_ind {r u:List Nat} {n:Nat} (S:Nat→Prop) (h1:∀ x,x < n→S x→S (g r x)∧g r x < n) (h2:∀ x,x < n→S x→S (g u x)∧g u x < n):∀ (F a:Nat) (out:List Nat),(∀ x ∈ out,S x∧x < n)→∀ x ∈ bfs r u F a out,S x∧x < n:=by
 intro F
 induction F with
 | zero=>intro a out h;exact h
 | succ F ih =>
  intro a out h
  unfold bfs
  split
  ·rename_i ha
   obtain ⟨s,l⟩:=h _ (g_mem ha)
   refine ih _ _ (fun x hx=>?_)
   rcases st1_mem.mp hx with hx | rfl
   ·rcases st1_mem.mp hx with hx | rfl
    ·exact h x hx
    ·exact h1 _ l s
   ·exact h2 _ l s
  ·exact h
theorem bfs_sub {r u:List Nat}:∀ (F a:Nat) (out:List Nat),∀ x ∈ out,x ∈ bfs r u F a out:=by
 intro F
 induction F with
 | zero=>intro a out x h;exact h
 | succ F ih =>
  intro a out x h
  unfold bfs
  split
  ·exact ih _ _ x (st1_mem.mpr (.inl (st1_mem.mpr (.inl h))))
  ·exact h
theorem bfs_rinv {r u:List Nat} {n:Nat} (h1:∀ x,x < n→g r x < n) (h2:∀ x,x < n→g u x < n):∀ (F a:Nat) (out:List Nat),RInv n out→RInv n (bfs r u F a out):=by
 intro F
 induction F with
 | zero=>intro a out h;exact h
 | succ F ih =>
  intro a out h
  unfold bfs
  split
  ·rename_i ha
   have hx:=h.g ha
   exact ih _ _ ((h.st (h1 _ hx)).st (h2 _ hx))
  ·exact h
theorem bfs_shut {r u:List Nat} {n:Nat} (h1:∀ x,x < n→g r x < n) (h2:∀ x,x < n→g u x < n):∀ (F a:Nat) (out:List Nat),RInv n out→a≤out.length→n < F + a→(∀ i,i < a→g r (g out i) ∈ out∧g u (g out i) ∈ out)→∀ x ∈ bfs r u F a out,g r x ∈ bfs r u F a out∧g u x ∈ bfs r u F a out:=by
 intro F
 induction F with
 | zero =>
  intro a out h ha hF
  have:=h.le
  omega
 | succ F ih =>
  intro a out h ha hF hc
  unfold bfs
  split
  ·rename_i ha'
   have hx:=h.g ha'
   have r1:=h.st (h1 _ hx)
   have l1:=st1_le out (g r (g out a))
   have l2:=st1_le (st1 out (g r (g out a))) (g u (g out a))
   refine ih _ _ (r1.st (h2 _ hx)) (by omega) (by omega) (fun i hi=>?_)
   have e:g (st1 (st1 out (g r (g out a))) (g u (g out a))) i = g out i:=by
    rw [st1_g (by omega),st1_g (by omega)]
   rw [e]
   by_cases hia:i < a
   ·exact ⟨st1_mem.mpr (.inl (st1_mem.mpr (.inl (hc i hia).1))),st1_mem.mpr (.inl (st1_mem.mpr (.inl (hc i hia).2)))⟩
   ·obtain rfl:i = a:=by omega
    exact ⟨st1_mem.mpr (.inl (st1_mem.mpr (.inr rfl))),st1_mem.mpr (.inr rfl)⟩
  ·intro x hx
   obtain ⟨i,hi,rfl⟩:=mem_g hx
   exact hc i (by omega)
theorem nodup_sub_len5:∀ (a b:List Nat),a.Nodup→(∀ x ∈ a,x ∈ b)→a.length≤b.length:=by
 intro a
 induction a with
 | nil=>intro b _ _;simp
 | cons x a ih =>
  intro b hn h
  obtain ⟨h1,h2⟩:=List.nodup_cons.mp hn
  have hx:x ∈ b:=h x (by simp)
  have:=ih (b.erase x) h2 (fun y hy=>(List.mem_erase_of_ne (fun e=>h1 (by rw [← e];exact hy))).mpr (h y (by simp [hy])))
  rw [List.length_erase_of_mem hx] at this
  have hp:=List.length_pos_of_mem hx
  simp
  omega
def Tr (r u:List Nat):Prop:=∀ S:Nat→Prop,S 0→(∀ x,x < r.length→S x→S (g r x))→(∀ x,x < r.length→S x→S (g u x))→∀ x,x < r.length→S x
theorem sf_of_tr {r u:List Nat} (pr:IsP r) (pu:IsP u) (le:r.length≤24) (eq:u.length = r.length) (pos:0 < r.length) (h:Tr r u):Sf r u:=by
 have b1:∀ x,x < r.length→g r x < r.length:=fun x hx=>g_lt pr hx
 have b2:∀ x,x < r.length→g u x < r.length:=fun x hx=>by have:=g_lt pu (i:=x) (by omega);omega
 have hri:RInv r.length (reach r u 0):=bfs_rinv b1 b2 _ _ _ ⟨by simp,by simpa using pos⟩
 have hsh:=bfs_shut b1 b2 (r.length + 1) 0 [0] ⟨by simp,by simpa using pos⟩ (by simp) (by omega) (fun i hi=>by omega)
 have hall:∀ x,x < r.length→x ∈ reach r u 0:=h (fun x=>x ∈ reach r u 0) (bfs_sub _ _ _ 0 (by simp)) (fun x _ hx=>(hsh x hx).1) (fun x _ hx=>(hsh x hx).2)
 refine ⟨pr,pu,le,eq,pos,?_⟩
 have l1:=hri.le
 have l2:=nodup_sub_len5 (List.range r.length) (reach r u 0) List.nodup_range (fun x hx=>hall x (List.mem_range.mp hx))
 rw [List.length_range] at l2
 omega
theorem Sf.tr {r u:List Nat} (hs:Sf r u):Tr r u:=by
 intro S s0 h1 h2 x hx
 have b1:∀ x,x < r.length→g r x < r.length:=fun x hx=>g_lt hs.pr hx
 have b2:∀ x,x < r.length→g u x < r.length:=fun x hx=>by have:=g_lt hs.pu (i:=x) (by rw [hs.eq];exact hx);rw [hs.eq] at this;exact this
 have hri:RInv r.length (reach r u 0):=bfs_rinv b1 b2 _ _ _ ⟨by simp,by simpa using hs.pos⟩
 have hp:IsP (reach r u 0):=⟨fun x hx=>by rw [hs.all];exact hri.lt x hx,hri.nd⟩
 have hm:=mem_all hp (x:=x) (by rw [hs.all];exact hx)
 have h0:∀ y ∈ [0],S y∧y < r.length:=by
  intro y hy
  obtain rfl:y = 0:=by simpa using hy
  exact ⟨s0,hs.pos⟩
 exact (bfs_ind S (fun x hx h=>⟨h1 x hx h,b1 x hx⟩) (fun x hx h=>⟨h2 x hx h,b2 x hx⟩) _ _ [0] h0 x hm).1
theorem closed_back {p:List Nat} (hp:IsP p) {S:Nat→Prop} (hS:∀ x,x < p.length→S x→S (g p x)) {x:Nat} (hx:x < p.length) (h:S (g p x)):S x:=by
 obtain ⟨m,h1,_,h3⟩:=period hp hx
 have H:∀ k,S (itr p k (g p x)):=by
  intro k
  induction k with
  | zero=>exact h
  | succ k ih=>exact hS _ (itr_lt hp k (g_lt hp hx)) ih
 have e:itr p (m - 1) (g p x) = itr p m x:=by
  have:=itr_add p (m - 1) 1 x
  rw [show m - 1 + 1 = m by omega] at this
  exact this.symm
 have:=H (m - 1)
 rw [e,h3] at this
 exact this
theorem reach_full {r u:List Nat} (hs:Sf r u) {s:Nat} (hb:s < r.length):RInv r.length (reach r u s)∧∀ x,x < r.length→x ∈ reach r u s:=by
 have b1:∀ x,x < r.length→g r x < r.length:=fun x hx=>g_lt hs.pr hx
 have b2:∀ x,x < r.length→g u x < r.length:=fun x hx=>by have:=g_lt hs.pu (i:=x) (by rw [hs.eq];exact hx);rw [hs.eq] at this;exact this
 have h0:RInv r.length [s]:=⟨by simp,by simpa using hb⟩
 have hsh:=bfs_shut b1 b2 (r.length + 1) 0 [s] h0 (by simp) (by omega) (fun i hi=>by omega)
 have hmem:s ∈ reach r u s:=bfs_sub _ _ _ s (by simp)
 refine ⟨bfs_rinv b1 b2 _ _ _ h0,?_⟩
 have z:(0:Nat) ∈ reach r u s:=by
  apply Classical.byContradiction
  intro hz
  refine hs.tr (fun x=>x ∉ reach r u s) hz (fun x hx hn hm=>?_) (fun x hx hn hm=>?_) s hb hmem
  ·exact hn (closed_back hs.pr (S:=fun x=>x ∈ reach r u s) (fun y _ hy=>(hsh y hy).1) hx hm)
  ·exact hn (closed_back hs.pu (S:=fun x=>x ∈ reach r u s) (fun y _ hy=>(hsh y hy).2) (by rw [hs.eq];exact hx) hm)
 exact hs.tr (fun x=>x ∈ reach r u s) z (fun x _ hx=>(hsh x hx).1) (fun x _ hx=>(hsh x hx).2)
theorem sf_T {r u:List Nat} (hs:Sf r u):Sf r (thn (inv r) u):=by
 have h1:(inv r).length = u.length:=by rw [inv_len,hs.eq]
 refine sf_of_tr hs.pr (isP_thn (isP_inv hs.pr) hs.pu h1) hs.le (by rw [thn_len,inv_len]) hs.pos (fun S s0 k1 k2=>hs.tr S s0 k1 (fun x hx hsx=>?_))
 have:=k2 (g r x) (g_lt hs.pr hx) (k1 x hx hsx)
 rw [g_thn (by rw [inv_len];exact g_lt hs.pr hx),g_inv (g_lt hs.pr hx),ix_g hs.pr hx] at this
 exact this
theorem sf_t {r u:List Nat} (hs:Sf r u):Sf r (thn r u):=by
 have h1:r.length = u.length:=hs.eq.symm
 refine sf_of_tr hs.pr (isP_thn hs.pr hs.pu h1) hs.le (by rw [thn_len]) hs.pos (fun S s0 k1 k2=>hs.tr S s0 k1 (fun y hy hsy=>?_))
 have hx:ix r y < r.length:=ix_lt hs.pr hy
 have e:g r (ix r y) = y:=g_ix hs.pr hy
 have hsx:S (ix r y):=closed_back hs.pr (S:=S) k1 hx (by rw [e];exact hsy)
 have:=k2 _ hx hsx
 rw [g_thn hx,e] at this
 exact this
theorem sf_S {r u:List Nat} (hs:Sf r u):Sf (inv u) r:=by
 have hl:(inv u).length = r.length:=by rw [inv_len,hs.eq]
 refine sf_of_tr (isP_inv hs.pu) hs.pr (by rw [hl];exact hs.le) hl.symm (by rw [hl];exact hs.pos) (fun S s0 k1 k2=>?_)
 rw [hl] at k1 k2 ⊢
 refine hs.tr S s0 k2 (fun x hx hsx=>?_)
 have hx':g u x < u.length:=g_lt hs.pu (by rw [hs.eq];exact hx)
 refine closed_back (isP_inv hs.pu) (S:=S) (fun y hy=>k1 y (by rw [← hl];exact hy)) (x:=g u x) (by rw [inv_len];exact hx') ?_
 rw [g_inv hx',ix_g hs.pu (by rw [hs.eq];exact hx)]
 exact hsx
theorem sf_s {r u:List Nat} (hs:Sf r u):Sf u (inv r):=by
 refine sf_of_tr hs.pu (isP_inv hs.pr) (by rw [hs.eq];exact hs.le) (by rw [inv_len,hs.eq]) (by rw [hs.eq];exact hs.pos) (fun S s0 k1 k2=>?_)
 rw [hs.eq] at k1 k2 ⊢
 refine hs.tr S s0 (fun x hx hsx=>?_) k1
 have hx':g r x < r.length:=g_lt hs.pr hx
 refine closed_back (isP_inv hs.pr) (S:=S) (fun y hy=>k2 y (by rw [inv_len] at hy;exact hy)) (x:=g r x) (by rw [inv_len];exact hx') ?_
 rw [g_inv hx',ix_g hs.pr hx]
 exact hsx
end Go.Proofs.YtcggfjpnfodbaaaGreat.M
end
section
/- Plain mathematics: surfaces that are alike by renaming. No conditions. -/
namespace Go.Proofs.YtcggfjpnfodbaaaGreat.M
set_option linter.unusedVariables false
set_option linter.unusedSimpArgs false
structure Is (s t:List Nat × List Nat) (f:Nat→Nat):Prop where
 len:t.1.length = s.1.length
 lt:∀ x,x < s.1.length→f x < s.1.length
 inj:∀ x y,x < s.1.length→y < s.1.length→f x = f y→x = y
 r:∀ x,x < s.1.length→f (g s.1 x) = g t.1 (f x)
 u:∀ x,x < s.1.length→f (g s.2 x) = g t.2 (f x)
theorem Sf.gr {r u:List Nat} (hs:Sf r u) {x:Nat} (h:x < r.length):g r x < r.length:=g_lt hs.pr h
theorem Sf.gu {r u:List Nat} (hs:Sf r u) {x:Nat} (h:x < r.length):g u x < r.length:=by
 have:=g_lt hs.pu (i:=x) (by rw [hs.eq];exact h)
 rw [hs.eq] at this
 exact this
theorem Sf.ir {r u:List Nat} (hs:Sf r u) {x:Nat} (h:x < r.length):ix r x < r.length:=ix_lt hs.pr h
theorem Sf.iu {r u:List Nat} (hs:Sf r u) {x:Nat} (h:x < r.length):ix u x < r.length:=by
 have:=ix_lt hs.pu (x:=x) (by rw [hs.eq];exact h)
 rw [hs.eq] at this
 exact this
theorem Is.refl (s:List Nat × List Nat):Is s s (fun x=>x):=⟨rfl,fun _ h=>h,fun _ _ _ _ h=>h,fun _ _=>rfl,fun _ _=>rfl⟩
theorem Is.trans {s t v:List Nat × List Nat} {f h:Nat→Nat} (a:Is s t f) (b:Is t v h):Is s v (fun x=>h (f x)) where
 len:=b.len.trans a.len
 lt x hx:=by have:=b.lt (f x) (by rw [a.len];exact a.lt x hx);rw [a.len] at this;exact this
 inj x y hx hy e:=a.inj x y hx hy (b.inj _ _ (by rw [a.len];exact a.lt x hx) (by rw [a.len];exact a.lt y hy) e)
 r x hx:=by show h (f (g s.1 x)) = _;rw [a.r x hx,b.r _ (by rw [a.len];exact a.lt x hx)]
 u x hx:=by show h (f (g s.2 x)) = _;rw [a.u x hx,b.u _ (by rw [a.len];exact a.lt x hx)]
def bk (n:Nat) (f:Nat→Nat) (y:Nat):Nat:=ix (tab n f) y
theorem bk_lt {n:Nat} {f:Nat→Nat} (h1:∀ x,x < n→f x < n) (h2:∀ x y,x < n→y < n→f x = f y→x = y) {y:Nat} (hy:y < n):bk n f y < n:=by
 have:=ix_lt (isP_tab h1 h2) (x:=y) (by rw [tab_len];exact hy)
 rw [tab_len] at this
 exact this
theorem f_bk {n:Nat} {f:Nat→Nat} (h1:∀ x,x < n→f x < n) (h2:∀ x y,x < n→y < n→f x = f y→x = y) {y:Nat} (hy:y < n):f (bk n f y) = y:=by
 have h:=g_ix (isP_tab h1 h2) (x:=y) (by rw [tab_len];exact hy)
 have hb:ix (tab n f) y < n:=bk_lt h1 h2 hy
 rw [g_tab hb] at h
 exact h
theorem bk_f {n:Nat} {f:Nat→Nat} (h1:∀ x,x < n→f x < n) (h2:∀ x y,x < n→y < n→f x = f y→x = y) {x:Nat} (hx:x < n):bk n f (f x) = x :=
 h2 _ _ (bk_lt h1 h2 (h1 x hx)) hx (f_bk h1 h2 (h1 x hx))
theorem Is.symm {s t:List Nat × List Nat} {f:Nat→Nat} (hs:Sf s.1 s.2) (a:Is s t f):Is t s (bk s.1.length f) where
 len:=a.len.symm
 lt y hy:=by rw [a.len] at hy ⊢;exact bk_lt a.lt a.inj hy
 inj y z hy hz e:=by
  rw [a.len] at hy hz
  rw [← f_bk a.lt a.inj hy,← f_bk a.lt a.inj hz,e]
 r y hy:=by
  rw [a.len] at hy
  have hb:=bk_lt a.lt a.inj hy
  have e:g t.1 y = f (g s.1 (bk s.1.length f y)):=by rw [a.r _ hb,f_bk a.lt a.inj hy]
  rw [e,bk_f a.lt a.inj (hs.gr hb)]
 u y hy:=by
  rw [a.len] at hy
  have hb:=bk_lt a.lt a.inj hy
  have e:g t.2 y = f (g s.2 (bk s.1.length f y)):=by rw [a.u _ hb,f_bk a.lt a.inj hy]
  rw [e,bk_f a.lt a.inj (hs.gu hb)]
theorem Sf.of_is {s t:List Nat × List Nat} {f:Nat→Nat} (hs:Sf s.1 s.2) (a:Is s t f) (p1:IsP t.1) (p2:IsP t.2) (hl:t.2.length = t.1.length):Sf t.1 t.2:=by
 refine sf_of_tr p1 p2 (by rw [a.len];exact hs.le) hl (by rw [a.len];exact hs.pos) (fun S s0 k1 k2 y hy=>?_)
 rw [a.len] at k1 k2 hy
 have i0:=bk_lt a.lt a.inj hs.pos
 have h0:S (f (bk s.1.length f 0)):=by rw [f_bk a.lt a.inj hs.pos];exact s0
 have hm:=(reach_full hs i0).2 (bk s.1.length f y) (bk_lt a.lt a.inj hy)
 have:=(bfs_ind (fun x=>S (f x)) (n:=s.1.length) (fun x hx h=>⟨by rw [a.r x hx];exact k1 _ (a.lt x hx) h,hs.gr hx⟩) (fun x hx h=>⟨by rw [a.u x hx];exact k2 _ (a.lt x hx) h,hs.gu hx⟩) _ _ [bk s.1.length f 0] (by intro x hx;obtain rfl:x = bk s.1.length f 0:=(by simpa using hx);exact ⟨h0,i0⟩) _ hm).1
 rw [f_bk a.lt a.inj hy] at this
 exact this
theorem Sf.all_of {r u:List Nat} (hs:Sf r u) {S:Nat→Prop} {i:Nat} (hi:i < r.length) (h0:S i) (h1:∀ x,x < r.length→S x→S (g r x)) (h2:∀ x,x < r.length→S x→S (g u x)):∀ y,y < r.length→S y:=by
 intro y hy
 have hm:=(reach_full hs hi).2 y hy
 exact (bfs_ind S (n:=r.length) (fun x hx h=>⟨h1 x hx h,hs.gr hx⟩) (fun x hx h=>⟨h2 x hx h,hs.gu hx⟩) _ _ [i] (by intro x hx;obtain rfl:x = i:=(by simpa using hx);exact ⟨h0,hi⟩) _ hm).1
theorem Is.ir {s t:List Nat × List Nat} {f:Nat→Nat} (hs:Sf s.1 s.2) (ht:Sf t.1 t.2) (a:Is s t f) {x:Nat} (hx:x < s.1.length):f (ix s.1 x) = ix t.1 (f x):=by
 have h1:=hs.ir hx
 refine (ix_eq ht.pr (by rw [a.len];exact a.lt _ h1) ?_).symm
 rw [← a.r _ h1,g_ix hs.pr hx]
theorem Is.iu {s t:List Nat × List Nat} {f:Nat→Nat} (hs:Sf s.1 s.2) (ht:Sf t.1 t.2) (a:Is s t f) {x:Nat} (hx:x < s.1.length):f (ix s.2 x) = ix t.2 (f x):=by
 have h1:=hs.iu hx
 refine (ix_eq ht.pu (by rw [ht.eq,a.len];exact a.lt _ h1) ?_).symm
 rw [← a.u _ h1,g_ix hs.pu (by rw [hs.eq];exact hx)]
end Go.Proofs.YtcggfjpnfodbaaaGreat.M
end
section
/- The tests of permutations, program and reference, come to one plain test. No conditions. -/
namespace Go.Proofs.YtcggfjpnfodbaaaGreat.M
set_option linter.unusedVariables false
set_option linter.unusedSimpArgs false
open Go.RowKit Go.Proofs.YtcggfjpnfodbaaaGreatW.PrintWords Go.Proofs.YtcggfjpnfodbaaaGreatW.PrintLast Go.Proofs.YtcggfjpnfodbaaaGreatW.PrintMore Go.Proofs.YtcggfjpnfodbaaaGreat.A
theorem has_ev (l:List Int) (a:Int) (hl:l.length≤1000000000):Ev (fun k=>Z82.f k l a) (decide (a ∈ l)):=by
 have H:∀ d i:Nat,i + d = l.length→Ev (fun k=>Z82.l0 k a l (l.length:Int) (i:Int)) (decide (a ∈ l.drop i)):=by
  intro d
  induction d with
  | zero =>
   intro i h
   refine ev_succ ?_
   have h1:¬ ((i:Int) < (l.length:Int)):=by omega
   have e:decide (a ∈ l.drop i) = false:=by
    rw [List.drop_of_length_le (by omega)]
    simp
   simp only [Z82.l0,h1,if_false]
   rw [e]
   exact Ev.now _
  | succ d ih =>
   intro i h
   refine ev_succ ?_
   have hi:i < l.length:=by omega
   have h1:(i:Int) < (l.length:Int):=by omega
   have h2:(0:Int)≤(i:Int):=by omega
   have h3:=w64s i (by omega)
   have e:=List.drop_eq_getElem_cons hi
   rw [← rd_get l i hi] at e
   by_cases hr:rd l (i:Int) = a
   ·have e2:decide (a ∈ l.drop i) = true:=by rw [e,hr];simp
    simp only [Z82.l0,h1,h2,hr,if_true]
    rw [e2]
    exact Ev.now _
   ·have e2:decide (a ∈ l.drop i) = decide (a ∈ l.drop (i + 1)):=by
     rw [e]
     have:¬ a = rd l (i:Int):=fun h=>hr h.symm
     simp [this]
    simp only [Z82.l0,h1,h2,h3,hr,if_true,if_false]
    rw [e2]
    exact ih (i + 1) (by omega)
 have:=H l.length 0 (by omega)
 simpa [Z82.f] using this
theorem in_f (x:Int) (n:Nat) (hn:n≤24):Z84.f x 0 (wrap64 ((n:Int) - 1)) = some (decide (0≤x∧x < (n:Int))):=by
 unfold Z84.f
 rw [w64 (by omega) (by omega)]
 by_cases h:x ≥ 0
 ·rw [if_pos h]
  congr 1
  rw [Bool.eq_iff_iff,decide_eq_true_iff,decide_eq_true_iff]
  omega
 ·rw [if_neg h]
  congr 1
  symm
  rw [decide_eq_false_iff_not]
  omega
theorem spec_permOk (l:List Int):Ev (fun k=>Z80.f k l) (permB l):=by
 unfold Z80.f
 by_cases h24:(l.length:Int) > 24
 ·simp only [h24,if_true]
  have:permB l = false:=by
   unfold permB
   rw [decide_eq_false_iff_not]
   intro h
   have:=h.1
   omega
  rw [this]
  exact Ev.now _
 ·simp only [h24,if_false]
  have H:∀ d i:Nat,i + d = l.length→∃ b,Ev (fun k=>Z80.l0 k l l (l.length:Int) (i:Int)) b∧(b = true ↔ okFrom l i):=by
   intro d
   induction d with
   | zero =>
    intro i h
    refine ⟨true,ev_succ ?_,by simp [okFrom_end l i (by omega)]⟩
    have h1:¬ ((i:Int) < (l.length:Int)):=by omega
    simp only [Z80.l0,h1,if_false]
    exact Ev.now _
   | succ d ih =>
    intro i h
    have hi:i < l.length:=by omega
    have h1:(i:Int) < (l.length:Int):=by omega
    have h1':(i:Int)≤(l.length:Int):=by omega
    have h2:(0:Int)≤(i:Int):=by omega
    have h3:=w64s i (by omega)
    have hin:=in_f (rd l (i:Int)) l.length (by omega)
    by_cases c1:0≤rd l (i:Int)∧rd l (i:Int) < (l.length:Int)
    ·have hh:=has_ev (l.take i) (rd l (i:Int)) (by rw [List.length_take];omega)
     by_cases c2:rd l (i:Int) ∈ l.take i
     ·refine ⟨false,ev_succ ?_,by simpa using okFrom_not hi (fun h=>h.2.2 c2)⟩
      simp only [Z80.l0,h1,h1',h2,hin,c1,if_true,Option.bind_some,decide_true,Int.toNat_natCast,and_self]
      refine Ev.bind hh ?_
      simp only [c2,decide_true,if_true]
      exact Ev.now _
     ·obtain ⟨b,i1,i2⟩:=ih (i + 1) (by omega)
      refine ⟨b,ev_succ ?_,by rw [i2];exact (okFrom_step ⟨c1.1,c1.2,c2⟩).symm⟩
      simp only [Z80.l0,h1,h1',h2,h3,hin,c1,if_true,Option.bind_some,decide_true,Int.toNat_natCast,and_self]
      refine Ev.bind hh ?_
      simp only [c2,decide_false,Bool.false_eq_true,if_false]
      exact i1
    ·refine ⟨false,ev_succ ?_,by simpa using okFrom_not hi (fun h=>c1 ⟨h.1,h.2.1⟩)⟩
     simp only [Z80.l0,h1,h2,hin,c1,if_true,if_false,Option.bind_some,decide_false,Bool.false_eq_true]
     exact Ev.now _
  obtain ⟨b,i1,i2⟩:=H l.length 0 (by omega)
  rw [← permB_of (by omega) i2]
  exact i1
theorem rdOf_nat (s:List Bool) (x:Nat):rdOf false s (x:Int) = s.getD x false:=rfl
theorem getD_set (s:List Bool) (x y:Nat) (h:x < s.length):(s.set x true).getD y false = if x = y then true else s.getD y false:=by
 rw [List.getD_eq_getElem?_getD,List.getD_eq_getElem?_getD,List.getElem?_set]
 by_cases e:x = y
 ·subst e
  simp [h]
 ·simp [e]
theorem impl_permOk (l:List Int):Ev (fun k=>Z75.f k l) (permB l):=by
 unfold Z75.f
 by_cases h24:(l.length:Int) > 24
 ·simp only [h24,if_true]
  have:permB l = false:=by
   unfold permB
   rw [decide_eq_false_iff_not]
   intro h
   have:=h.1
   omega
  rw [this]
  exact Ev.now _
 ·simp only [h24,if_false]
  have H:∀ (d i:Nat) (s:List Bool),i + d = l.length→s.length = 24→(∀ x:Nat,x < 24→(s.getD x false = true ↔ (x:Int) ∈ l.take i))→∃ b,Ev (fun k=>Z75.l0 k l s (i:Int)) b∧(b = true ↔ okFrom l i):=by
   intro d
   induction d with
   | zero =>
    intro i s h hs hx
    refine ⟨true,ev_succ ?_,by simp [okFrom_end l i (by omega)]⟩
    have h1:¬ ((i:Int) < (l.length:Int)):=by omega
    simp only [Z75.l0,h1,if_false]
    exact Ev.now _
   | succ d ih =>
    intro i s h hs hx
    have hi:i < l.length:=by omega
    have h1:(i:Int) < (l.length:Int):=by omega
    have h2:(0:Int)≤(i:Int):=by omega
    have h3:=w64s i (by omega)
    by_cases c1:rd l (i:Int) < 0
    ·refine ⟨false,ev_succ ?_,by simpa using okFrom_not hi (fun h=>by omega)⟩
     simp only [Z75.l0,h1,h2,c1,if_true]
     exact Ev.now _
    ·by_cases c2:rd l (i:Int) ≥ (l.length:Int)
     ·refine ⟨false,ev_succ ?_,by simpa using okFrom_not hi (fun h=>by omega)⟩
      simp only [Z75.l0,h1,h2,c1,c2,if_true,if_false]
      exact Ev.now _
     ·obtain ⟨x,ex⟩:∃ x:Nat,rd l (i:Int) = (x:Int):=⟨(rd l (i:Int)).toNat,by omega⟩
      have hx24:x < 24:=by omega
      by_cases c3:s.getD x false = true
      ·have hm:=(hx x hx24).mp c3
       refine ⟨false,ev_succ ?_,by simpa using okFrom_not hi (fun h=>h.2.2 (by rw [ex];exact hm))⟩
       rw [ex] at c1 c2
       simp only [Z75.l0,h1,h2,ex,c1,c2,rdOf_nat,c3,if_true,if_false]
       exact Ev.now _
      ·have hm:(x:Int) ∉ l.take i:=fun h=>c3 ((hx x hx24).mpr h)
       obtain ⟨b,i1,i2⟩:=ih (i + 1) (s.set x true) (by omega) (by rw [List.length_set];exact hs) (fun y hy=>by
        rw [getD_set s x y (by omega),take_succ l i hi,ex]
        by_cases e:x = y
        ·subst e
         simp
        ·rw [if_neg e,hx y hy]
         have:¬ (y:Int) = (x:Int):=by omega
         simp [this])
       refine ⟨b,ev_succ ?_,by rw [i2];exact (okFrom_step ⟨by omega,by omega,by rw [ex];exact hm⟩).symm⟩
       rw [ex] at c1 c2
       simp only [Z75.l0,h1,h2,h3,ex,c1,c2,rdOf_nat,c3,if_true,if_false,Int.toNat_natCast]
       exact i1
  obtain ⟨b,i1,i2⟩:=H l.length 0 (List.replicate 24 false) (by omega) rfl (fun x hx=>by
   have:(List.replicate 24 false).getD x false = false:=by
    rw [List.getD_eq_getElem?_getD,List.getElem?_replicate]
    simp [hx]
   rw [this]
   simp)
  rw [← permB_of (by omega) i2]
  exact i1
end Go.Proofs.YtcggfjpnfodbaaaGreat.M
end
section
/- The tests of surfaces, program and reference, come to one plain test. No conditions. -/
namespace Go.Proofs.YtcggfjpnfodbaaaGreat.M
set_option linter.unusedVariables false
set_option linter.unusedSimpArgs false
open Go.RowKit Go.Proofs.YtcggfjpnfodbaaaGreatW.PrintWords Go.Proofs.YtcggfjpnfodbaaaGreatW.PrintLast Go.Proofs.YtcggfjpnfodbaaaGreatW.PrintMore Go.Proofs.YtcggfjpnfodbaaaGreat.A
theorem I_pair (a b:Nat):([(a:Int),(b:Int)]:List Int) = I [a,b]:=rfl
theorem I_len' (l:List Nat):((I l).length:Int) = (l.length:Int):=by rw [I_len]
theorem st1_I (out:List Nat) (x:Nat):I (st1 out x) = if (x:Int) ∈ I out then I out else I out ++ [(x:Int)]:=by
 unfold st1
 by_cases h:x ∈ out
 ·rw [if_pos h,if_pos (mem_I.mpr h)]
 ·rw [if_neg h,if_neg (fun k=>h (mem_I.mp k)),I_snoc]
theorem reach_one (p q out pr:List Nat) (a:Nat) (j:Nat) (hj:j < pr.length) (hp:pr.length≤2) (hl:out.length≤1000) (r:List Int)
  (H:Ev (fun k=>Z56.l1 k (I p) (I q) (I (st1 out (g pr j))) (a:Int) (I pr) (pr.length:Int) ((j + 1:Nat):Int)) r) :
  Ev (fun k=>Z56.l1 k (I p) (I q) (I out) (a:Int) (I pr) (pr.length:Int) (j:Int)) r:=by
 refine ev_succ ?_
 have h1:(j:Int) < (pr.length:Int):=by omega
 have h2:(0:Int)≤(j:Int):=by omega
 have h3:=w64s j (by omega)
 have h4:(I out).length < 17592186044416:=by rw [I_len];omega
 have hh:=has_ev (I out) ((g pr j:Nat):Int) (by rw [I_len];omega)
 simp only [Z56.l1,h1,h2,h3,h4,rdI,I_len',if_true]
 refine Ev.bind hh ?_
 rw [st1_I] at H
 by_cases hm:((g pr j:Nat):Int) ∈ I out
 ·rw [if_pos hm] at H
  simp only [hm,decide_true,if_true]
  exact H
 ·rw [if_neg hm] at H
  simp only [hm,decide_false,Bool.false_eq_true,if_false]
  exact H
theorem reach_loop {p q:List Nat} (hp:IsP p) (hq:IsP q) (hl:q.length = p.length) (h24:p.length≤24) (f:Nat):∀ (a:Nat) (out:List Nat),RInv p.length out→a≤out.length→p.length < f + a →
  Ev (fun k=>Z56.l0 k (I p) (I q) (I out) (a:Int)) (I (bfs p q f a out)):=by
 induction f with
 | zero =>
  intro a out hr ha hf
  have:=hr.le
  omega
 | succ f ih =>
  intro a out hr ha hf
  have hle:=hr.le
  refine ev_succ ?_
  by_cases h:a < out.length
  ·have h1:(a:Int) < (out.length:Int):=by omega
   have h2:(0:Int)≤(a:Int):=by omega
   have hx:=hr.g h
   have h3:((g out a:Nat):Int) < (p.length:Int):=by omega
   have h4:(0:Int)≤((g out a:Nat):Int):=by omega
   have h5:((g out a:Nat):Int) < (q.length:Int):=by omega
   have h6:=w64s a (by omega)
   simp only [Z56.l0,h1,h2,h3,h4,h5,rdI,I_len',if_true,Option.bind_some,I_pair]
   have r1:=hr.st (g_lt hp hx)
   have r2:=r1.st (x:=g q (g out a)) (by have:=g_lt hq (i:=g out a) (by omega);omega)
   have hb:bfs p q (f + 1) a out = bfs p q f (a + 1) (st1 (st1 out (g p (g out a))) (g q (g out a))):=by
    rw [bfs,if_pos h]
   rw [hb]
   have i1:=ih (a + 1) _ r2 (by have:=st1_len out (g p (g out a));have:=st1_len (st1 out (g p (g out a))) (g q (g out a));omega) (by omega)
   refine reach_one p q out [g p (g out a),g q (g out a)] a 0 (by simp) (by simp) (by omega) _ ?_
   refine reach_one p q _ [g p (g out a),g q (g out a)] a 1 (by simp) (by simp) (by have:=r1.le;simp only [g,List.getD_cons_zero] at this ⊢;omega) _ ?_
   refine ev_succ ?_
   have h7:¬ (((1 + 1:Nat):Int) < (([g p (g out a),g q (g out a)]:List Nat).length:Int)):=by simp
   simp only [Z56.l1,h7,h6,if_false]
   exact i1
  ·have h1:¬ ((a:Int) < (out.length:Int)):=by omega
   have hb:bfs p q (f + 1) a out = out:=by rw [bfs,if_neg h]
   rw [hb]
   simp only [Z56.l0,h1,I_len',if_false]
   exact Ev.now _
theorem reach_ev {p q:List Nat} (hp:IsP p) (hq:IsP q) (hl:q.length = p.length) (h24:p.length≤24) (s:Nat) (hs:s < p.length):Ev (fun k=>Z56.f k (I p) (I q) (s:Int)) (I (reach p q s)):=by
 unfold Z56.f reach
 exact reach_loop hp hq hl h24 (p.length + 1) 0 [s] ⟨by simp,by simpa using hs⟩ (by simp) (by omega)
theorem len_ne_false {r u:List Int} (h:r.length≠u.length):surfB r u = false:=by
 unfold surfB
 simp [h]
theorem surfB_mk {r u:List Int} (h1:permB r = true) (h2:permB u = true) (h3:r.length = u.length) (h4:0 < r.length):surfB r u = ((reach (N r) (N u) 0).length == r.length):=by
 unfold surfB
 simp [h1,h2,h3,h4]
 intro _
 omega
theorem spec_trans (r u:List Int):Ev (fun k=>Z19.f k r u) (surfB r u):=by
 unfold Z19.f
 refine Ev.bind (spec_permOk r) ?_
 by_cases h1:permB r = true
 ·simp only [h1,if_true]
  refine Ev.bind (spec_permOk u) ?_
  by_cases h2:permB u = true
  ·simp only [h2,if_true]
   by_cases h3:(r.length:Int) = (u.length:Int)
   ·have h3':r.length = u.length:=by omega
    by_cases h4:(r.length:Int) > 0
    ·have h4':0 < r.length:=by omega
     rw [surfB_mk h1 h2 h3' h4']
     obtain ⟨p,rfl,a1,a2⟩:=PI_nat (of_decide_eq_true h1)
     obtain ⟨q,rfl,b1,b2⟩:=PI_nat (of_decide_eq_true h2)
     rw [I_len,I_len] at h3'
     rw [I_len] at h4'
     have:=reach_ev a1 b1 h3'.symm a2 0 h4'
     simp only [h3,h4,if_true]
     rw [h3] at h4
     simp only [h4,if_true]
     refine Ev.bind this ?_
     rw [N_I,N_I]
     have e:(((I (reach p q 0)).length:Int) == ((I q).length:Int)) = ((reach p q 0).length == (I p).length):=by
      rw [I_len,I_len,I_len,Bool.eq_iff_iff,beq_iff_eq,beq_iff_eq]
      omega
     rw [← h3] at e
     simp only [h3] at e
     rw [← e]
     exact Ev.now _
    ·simp only [h3,if_true]
     rw [h3] at h4
     simp only [h4,if_false]
     have:surfB r u = false:=by
      unfold surfB
      have:¬ 0 < r.length:=by omega
      simp [this]
     rw [this]
     exact Ev.now _
   ·simp only [h3,if_false]
    rw [len_ne_false (by omega)]
    exact Ev.now _
  ·have h2':=Bool.eq_false_iff.mpr h2
   simp only [h2',Bool.false_eq_true,if_false]
   have:surfB r u = false:=by unfold surfB;simp [h2']
   rw [this]
   exact Ev.now _
 ·have h1':=Bool.eq_false_iff.mpr h1
  simp only [h1',Bool.false_eq_true,if_false]
  have:surfB r u = false:=by unfold surfB;simp [h1']
  rw [this]
  exact Ev.now _
theorem spec_surf (r u:List Int):Ev (fun k=>Z44.f k r u) (surfB r u):=by
 unfold Z44.f
 exact Ev.bind (spec_trans r u) (Ev.now _)
def Marks (n:Nat) (s:List Bool) (out:List Nat):Prop:=s.length = n∧∀ x,x < n→(s.getD x false = true ↔ x ∈ out)
theorem Marks.add {n:Nat} {s:List Bool} {out:List Nat} {x:Nat} (h:Marks n s out) (hx:x < n):Marks n (s.set x true) (out ++ [x]):=by
 refine ⟨by rw [List.length_set];exact h.1,fun y hy=>?_⟩
 rw [getD_set s x y (by rw [h.1];exact hx)]
 by_cases e:x = y
 ·subst e
  simp
 ·rw [if_neg e,h.2 y hy]
  have:¬ y = x:=fun k=>e k.symm
  simp [this]
theorem trans_one (p q out pr:List Nat) (s:List Bool) (a:Nat) (j:Nat) (hj:j < pr.length) (hp:pr.length≤2) (hl:out.length≤1000) (hm:Marks p.length s out) (hx:g pr j < p.length) (r:Bool)
  (H:∀ s',Marks p.length s' (st1 out (g pr j))→Ev (fun k=>Z15.l1 k (I p) (I q) s' (I (st1 out (g pr j))) (a:Int) (I pr) (pr.length:Int) ((j + 1:Nat):Int)) r) :
  Ev (fun k=>Z15.l1 k (I p) (I q) s (I out) (a:Int) (I pr) (pr.length:Int) (j:Int)) r:=by
 refine ev_succ ?_
 have h1:(j:Int) < (pr.length:Int):=by omega
 have h2:(0:Int)≤(j:Int):=by omega
 have h3:=w64s j (by omega)
 have h4:(I out).length < 17592186044416:=by rw [I_len];omega
 have h5:(0:Int)≤((g pr j:Nat):Int):=by omega
 have h6:((g pr j:Nat):Int) < (s.length:Int):=by rw [hm.1];omega
 simp only [Z15.l1,h1,h2,h3,h4,h5,h6,rdI,I_len',rdOf_nat,if_true,Int.toNat_natCast]
 by_cases hin:g pr j ∈ out
 ·have hs:=(hm.2 _ hx).mpr hin
  have e:st1 out (g pr j) = out:=by unfold st1;rw [if_pos hin]
  have:=H s (by rw [e];exact hm)
  rw [e] at this
  simp only [hs,if_true]
  exact this
 ·have hs:s.getD (g pr j) false = false:=Bool.eq_false_iff.mpr (fun h=>hin ((hm.2 _ hx).mp h))
  have e:st1 out (g pr j) = out ++ [g pr j]:=by unfold st1;rw [if_neg hin]
  have:=H (s.set (g pr j) true) (by rw [e];exact hm.add hx)
  rw [e,← I_snoc] at this
  simp only [hs,Bool.false_eq_true,if_false]
  exact this
theorem trans_loop {p q:List Nat} (hp:IsP p) (hq:IsP q) (hl:q.length = p.length) (h24:p.length≤24) (f:Nat):∀ (a:Nat) (out:List Nat) (s:List Bool),RInv p.length out→Marks p.length s out→a≤out.length→p.length < f + a →
  Ev (fun k=>Z15.l0 k (I p) (I q) s (I out) (a:Int)) ((bfs p q f a out).length == p.length):=by
 induction f with
 | zero =>
  intro a out s hr hm ha hf
  have:=hr.le
  omega
 | succ f ih =>
  intro a out s hr hm ha hf
  have hle:=hr.le
  refine ev_succ ?_
  by_cases h:a < out.length
  ·have h1:(a:Int) < (out.length:Int):=by omega
   have h2:(0:Int)≤(a:Int):=by omega
   have hx:=hr.g h
   have h3:((g out a:Nat):Int) < (p.length:Int):=by omega
   have h4:(0:Int)≤((g out a:Nat):Int):=by omega
   have h5:((g out a:Nat):Int) < (q.length:Int):=by omega
   have h6:=w64s a (by omega)
   simp only [Z15.l0,h1,h2,h3,h4,h5,rdI,I_len',if_true,Option.bind_some,I_pair]
   have hg1:=g_lt hp hx
   have hg2:g q (g out a) < p.length:=by have:=g_lt hq (i:=g out a) (by omega);omega
   have r1:=hr.st hg1
   have r2:=r1.st hg2
   have hb:bfs p q (f + 1) a out = bfs p q f (a + 1) (st1 (st1 out (g p (g out a))) (g q (g out a))):=by
    rw [bfs,if_pos h]
   rw [hb]
   refine trans_one p q out [g p (g out a),g q (g out a)] s a 0 (by simp) (by simp) (by omega) hm hg1 _ (fun s1 hm1=>?_)
   refine trans_one p q _ [g p (g out a),g q (g out a)] s1 a 1 (by simp) (by simp) (by have:=r1.le;simp only [g,List.getD_cons_zero] at this ⊢;omega) hm1 hg2 _ (fun s2 hm2=>?_)
   refine ev_succ ?_
   have h7:¬ (((1 + 1:Nat):Int) < (([g p (g out a),g q (g out a)]:List Nat).length:Int)):=by simp
   simp only [Z15.l1,h7,h6,if_false]
   exact ih (a + 1) _ s2 r2 hm2 (Nat.le_trans (by omega:a + 1≤out.length) (Nat.le_trans (st1_len _ _) (st1_len _ _))) (by omega)
  ·have h1:¬ ((a:Int) < (out.length:Int)):=by omega
   have hb:bfs p q (f + 1) a out = out:=by rw [bfs,if_neg h]
   rw [hb]
   simp only [Z15.l0,h1,I_len',if_false]
   have e:((out.length:Int) == (p.length:Int)) = (out.length == p.length):=by
    rw [Bool.eq_iff_iff,beq_iff_eq,beq_iff_eq]
    omega
   rw [e]
   exact Ev.now _
theorem j0_true (r u:List Int):Ev (fun k=>Z15.j0 k r u true) false:=by
 refine ev_succ ?_
 simp only [Z15.j0,if_true]
 exact Ev.now _
theorem impl_trans (r u:List Int):Ev (fun k=>Z15.f k r u) (surfB r u):=by
 unfold Z15.f
 refine Ev.bind (impl_permOk r) ?_
 by_cases h1:permB r = true
 ·simp only [h1,if_true]
  refine Ev.bind (impl_permOk u) ?_
  by_cases h2:permB u = true
  ·simp only [h2,if_true]
   by_cases h3:(r.length:Int) = (u.length:Int)
   ·have h3':r.length = u.length:=by omega
    simp only [h3,if_true]
    by_cases h4:0 < r.length
    ·rw [surfB_mk h1 h2 h3' h4]
     obtain ⟨p,rfl,a1,a2⟩:=PI_nat (of_decide_eq_true h1)
     obtain ⟨q,rfl,b1,b2⟩:=PI_nat (of_decide_eq_true h2)
     rw [I_len,I_len] at h3'
     rw [I_len] at h4
     refine ev_succ ?_
     have e0:((q.length:Int) == 0) = false:=by rw [beq_eq_false_iff_ne];omega
     have e1:(0:Int)≤(p.length:Int):=by omega
     have e2:((p.length:Int)).toNat≤281474976710656:=by omega
     have e3:(0:Int) < ((List.replicate p.length false).length:Int):=by rw [List.length_replicate];omega
     simp only [Z15.j0,e0,I_len',e1,e2,Bool.false_eq_true,if_true,if_false,Option.bind_some,Int.toNat_natCast,e3]
     simp only [Int.toNat_natCast] at e2
     simp only [e2,if_true]
     rw [N_I,N_I,I_len]
     refine trans_loop a1 b1 h3'.symm a2 (p.length + 1) 0 [0] _ ⟨by simp,by simpa using h4⟩ ?_ (by simp) (by omega)
     refine ⟨by simp,fun x hx=>?_⟩
     have:(0:Int).toNat = 0:=rfl
     rw [this,getD_set _ 0 x (by simp;omega)]
     by_cases e:0 = x
     ·subst e
      simp
     ·rw [if_neg e]
      have h0:¬ x = 0:=fun h=>e h.symm
      have:(List.replicate p.length false).getD x false = false:=by
       rw [List.getD_eq_getElem?_getD,List.getElem?_replicate]
       simp [hx]
      rw [this]
      simp [h0]
    ·have e0:((u.length:Int) == 0) = true:=by rw [beq_iff_eq];omega
     have:surfB r u = false:=by unfold surfB;simp [h4]
     rw [this]
     simp only [e0]
     exact j0_true r u
   ·simp only [h3,if_false]
    rw [len_ne_false (by omega)]
    exact j0_true r u
  ·have h2':=Bool.eq_false_iff.mpr h2
   simp only [h2',Bool.false_eq_true,if_false]
   have:surfB r u = false:=by unfold surfB;simp [h2']
   rw [this]
   exact j0_true r u
 ·have h1':=Bool.eq_false_iff.mpr h1
  simp only [h1',Bool.false_eq_true,if_false]
  have:surfB r u = false:=by unfold surfB;simp [h1']
  rw [this]
  exact j0_true r u
theorem impl_surf (r u:List Int):Ev (fun k=>Z38.f k r u) (surfB r u):=by
 unfold Z38.f
 exact Ev.bind (impl_trans r u) (Ev.now _)
end Go.Proofs.YtcggfjpnfodbaaaGreat.M
end
section
/- What every law does with its arguments; inverses. No conditions. -/
namespace Go.Proofs.YtcggfjpnfodbaaaGreat.M
set_option linter.unusedVariables false
set_option linter.unusedSimpArgs false
open Go.RowKit Go.Proofs.YtcggfjpnfodbaaaGreatW.PrintWords Go.Proofs.YtcggfjpnfodbaaaGreatW.PrintLast Go.Proofs.YtcggfjpnfodbaaaGreatW.PrintMore Go.Proofs.YtcggfjpnfodbaaaGreat.A
theorem rd_set {l:List Int} {i j:Nat} {x:Int} (h:i < l.length):rd (l.set i x) (j:Int) = if i = j then x else rd l (j:Int):=by
 unfold rd
 simp only [Int.toNat_natCast]
 rw [List.getD_eq_getElem?_getD,List.getD_eq_getElem?_getD,List.getElem?_set]
 by_cases e:i = j
 ·subst e
  simp [h]
 ·simp [e]
theorem ext_rd {a b:List Int} (hl:a.length = b.length) (h:∀ i:Nat,i < a.length→rd a (i:Int) = rd b (i:Int)):a = b:=by
 apply List.ext_getElem hl
 intro i h1 h2
 rw [← rd_get a i h1,← rd_get b i h2]
 exact h i h1
theorem sz_small {r u:List Int} (h:r.length + u.length≤1048576):Z41.f r u 1048576 = some (1048576 - (r.length:Int) - (u.length:Int)):=by
 unfold Z41.f Z78.f
 have e1:wrap64 (1048576 - (r.length:Int)) = 1048576 - (r.length:Int):=w64 (by omega) (by omega)
 have e2:wrap64 (1048576 - (r.length:Int) - (u.length:Int)) = 1048576 - (r.length:Int) - (u.length:Int):=w64 (by omega) (by omega)
 have c1:¬ (1048576 - (r.length:Int) < 0):=by omega
 have c2:¬ (1048576 - (r.length:Int) - (u.length:Int) < 0):=by omega
 simp only [e1,c1,if_false,Option.bind_some,e2,c2]
theorem sz_big {r u:List Int} (hr:r.length≤9223372036854775807) (hu:u.length≤9223372036854775807) (h:¬ r.length + u.length≤1048576):Z41.f r u 1048576 = some (-1):=by
 unfold Z41.f Z78.f
 have e1:wrap64 (1048576 - (r.length:Int)) = 1048576 - (r.length:Int):=w64 (by omega) (by omega)
 by_cases c1:1048576 - (r.length:Int) < 0
 ·have c3:(-1:Int) < 0:=by omega
  simp only [e1,c1,if_true,Option.bind_some,c3]
 ·have e2:wrap64 (1048576 - (r.length:Int) - (u.length:Int)) = 1048576 - (r.length:Int) - (u.length:Int):=w64 (by omega) (by omega)
  have c2:1048576 - (r.length:Int) - (u.length:Int) < 0:=by omega
  have c3:(-1:Int) < 0:=by omega
  simp only [e1,c1,if_false,Option.bind_some,e2,c2,if_true,c3]
theorem toInts_ev (l:List Int) (h:l.length≤1048576):Ev (fun k=>Z79.f k l) l:=by
 unfold Z79.f
 have h1:(0:Int)≤(l.length:Int):=by omega
 have h2:((l.length:Int)).toNat≤35184372088832:=by omega
 simp only [h1,h2,if_true]
 have H:∀ (d i:Nat) (c:List Int),i + d = l.length→c.length = l.length→(∀ j:Nat,j < i→rd c (j:Int) = rd l (j:Int))→Ev (fun k=>Z79.l0 k l c (i:Int)) l:=by
  intro d
  induction d with
  | zero =>
   intro i c h hc hx
   refine ev_succ ?_
   have h1:¬ ((i:Int) < (l.length:Int)):=by omega
   have e:c = l:=ext_rd hc (fun j hj=>hx j (by omega))
   simp only [Z79.l0,h1,if_false]
   rw [e]
   exact Ev.now _
  | succ d ih =>
   intro i c h hc hx
   refine ev_succ ?_
   have h1:(i:Int) < (l.length:Int):=by omega
   have h2:(0:Int)≤(i:Int):=by omega
   have h3:(i:Int) < (c.length:Int):=by omega
   have h4:=w64s i (by omega)
   simp only [Z79.l0,h1,h2,h3,h4,if_true,Int.toNat_natCast]
   refine ih (i + 1) _ (by omega) (by rw [List.length_set];exact hc) (fun j hj=>?_)
   rw [rd_set (by omega)]
   by_cases e:i = j
   ·subst e
    simp
   ·rw [if_neg e]
    exact hx j (by omega)
 exact H l.length 0 _ (by omega) (by rw [List.length_replicate];omega) (fun j hj=>by omega)
theorem toSurf_ev (r u:List Int) (hr:r.length≤1048576) (hu:u.length≤1048576):Ev (fun k=>Z42.f k r u) (r,u):=by
 unfold Z42.f
 exact Ev.bind (toInts_ev r hr) (Ev.bind (toInts_ev u hu) (Ev.now _))
theorem eqInts_ev (a b:List Int) (ha:a.length≤9000000000000000000):Ev (fun k=>Z77.f k a b) (decide (a = b)):=by
 unfold Z77.f
 by_cases hl:(a.length:Int) = (b.length:Int)
 ·simp only [hl,if_true]
  have hl':a.length = b.length:=by omega
  have H:∀ d i:Nat,i + d = a.length→∃ c,Ev (fun k=>Z77.l0 k a b (i:Int)) c∧(c = true ↔ ∀ j:Nat,i≤j→j < a.length→rd a (j:Int) = rd b (j:Int)):=by
   intro d
   induction d with
   | zero =>
    intro i h
    refine ⟨true,ev_succ ?_,by simp;intro j h1 h2;omega⟩
    have h1:¬ ((i:Int) < (a.length:Int)):=by omega
    simp only [Z77.l0,h1,if_false]
    exact Ev.now _
   | succ d ih =>
    intro i h
    have h1:(i:Int) < (a.length:Int):=by omega
    have h2:(0:Int)≤(i:Int):=by omega
    have h3:(i:Int) < (b.length:Int):=by omega
    have h4:=w64s i (by omega)
    by_cases c:rd a (i:Int) = rd b (i:Int)
    ·obtain ⟨c',i1,i2⟩:=ih (i + 1) (by omega)
     refine ⟨c',ev_succ ?_,by
      rw [i2]
      constructor
      ·intro k j j1 j2
       by_cases e:j = i
       ·subst e;exact c
       ·exact k j (by omega) j2
      ·intro k j j1 j2
       exact k j (by omega) j2⟩
     simp only [Z77.l0,h1,h2,h3,h4,c,if_true]
     exact i1
    ·refine ⟨false,ev_succ ?_,by
      simp only [Bool.false_eq_true,false_iff]
      intro k
      exact c (k i (Nat.le_refl _) (by omega))⟩
     simp only [Z77.l0,h1,h2,h3,c,if_true,if_false]
     exact Ev.now _
  obtain ⟨c,i1,i2⟩:=H a.length 0 (by omega)
  have:decide (a = b) = c:=by
   rw [Bool.eq_iff_iff,i2,decide_eq_true_iff]
   constructor
   ·intro e j _ _
    rw [e]
   ·intro k
    exact ext_rd hl' (fun j hj=>k j (Nat.zero_le _) hj)
  rw [this]
  exact i1
 ·simp only [hl,if_false]
  have:decide (a = b) = false:=by
   rw [decide_eq_false_iff_not]
   intro e
   exact hl (by rw [e])
  rw [this]
  exact Ev.now _
theorem eqInts_same (a:List Int) (ha:a.length≤9000000000000000000):Ev (fun k=>Z77.f k a a) true:=by
 have:=eqInts_ev a a ha
 simpa using this
theorem eqSurf_same (r u:List Int) (hr:r.length≤9000000000000000000) (hu:u.length≤9000000000000000000):Ev (fun k=>Z40.f k r u r u) true:=by
 unfold Z40.f
 refine Ev.bind (eqInts_same r hr) ?_
 simp only [if_true]
 refine Ev.bind (eqInts_same u hu) ?_
 simp only [if_true]
 exact Ev.now _
theorem inv_of {p c:List Nat} (hp:IsP p) (hc:c.length = p.length) (h:∀ j,j < p.length→g c (g p j) = j):c = inv p:=by
 refine ext_g (by rw [inv_len,hc]) (fun x hx=>?_)
 rw [hc] at hx
 rw [g_inv hx]
 have:=h (ix p x) (ix_lt hp hx)
 rw [g_ix hp hx] at this
 exact this
theorem inv_step {p c:List Nat} (hp:IsP p) {i:Nat} (hi:i < p.length) (hc:c.length = p.length) (h:∀ j,j < i→g c (g p j) = j):∀ j,j < i + 1→g (c.set (g p i) i) (g p j) = j:=by
 intro j hj
 rw [g_set (by rw [hc];exact g_lt hp hi)]
 by_cases e:j = i
 ·subst e
  simp
 ·rw [if_neg (fun k=>e (g_inj hp (by omega) hi k.symm))]
  exact h j (by omega)
theorem spec_inv {p:List Nat} (hp:IsP p) (h24:p.length≤24):Ev (fun k=>Z34.f k (I p)) (I (inv p)):=by
 unfold Z34.f
 have H:∀ (d i:Nat) (c:List Nat),i + d = p.length→c.length = p.length→(∀ j,j < i→g c (g p j) = j)→Ev (fun k=>Z34.l0 k (I c) (I p) (p.length:Int) (i:Int)) (I (inv p)):=by
  intro d
  induction d with
  | zero =>
   intro i c h hc hx
   refine ev_succ ?_
   have h1:¬ ((i:Int) < (p.length:Int)):=by omega
   rw [← inv_of hp hc (fun j hj=>hx j (by omega))]
   simp only [Z34.l0,h1,if_false]
   exact Ev.now _
  | succ d ih =>
   intro i c h hc hx
   refine ev_succ ?_
   have hi:i < p.length:=by omega
   have h1:(i:Int) < (p.length:Int):=by omega
   have h2:(0:Int)≤(i:Int):=by omega
   have h3:=w64s i (by omega)
   have h4:(0:Int)≤((g p i:Nat):Int):=by omega
   have h5:((g p i:Nat):Int) < (c.length:Int):=by have:=g_lt hp hi;omega
   simp only [Z34.l0,h1,h2,h3,h4,h5,rdI,I_len',I_set,if_true,Int.toNat_natCast]
   exact ih (i + 1) _ (by omega) (by rw [List.length_set];exact hc) (inv_step hp hi hc hx)
 have h1:(0:Int)≤(p.length:Int):=by omega
 have h2:p.length≤35184372088832:=by omega
 simp only [I_len',h1,h2,if_true,Int.toNat_natCast]
 have:=H p.length 0 (List.replicate p.length 0) (by omega) (by simp) (fun j hj=>by omega)
 rw [I_rep] at this
 exact this
theorem impl_inv {p:List Nat} (hp:IsP p) (h24:p.length≤24):Ev (fun k=>Z23.f k (I p)) (I (inv p)):=by
 unfold Z23.f
 have H:∀ (d i:Nat) (c:List Nat),i + d = p.length→c.length = p.length→(∀ j,j < i→g c (g p j) = j)→Ev (fun k=>Z23.l0 k (I c) (I p) (p.length:Int) (i:Int)) (I (inv p)):=by
  intro d
  induction d with
  | zero =>
   intro i c h hc hx
   refine ev_succ ?_
   have h1:¬ ((i:Int) < (p.length:Int)):=by omega
   rw [← inv_of hp hc (fun j hj=>hx j (by omega))]
   simp only [Z23.l0,h1,if_false]
   exact Ev.now _
  | succ d ih =>
   intro i c h hc hx
   refine ev_succ ?_
   have hi:i < p.length:=by omega
   have h1:(i:Int) < (p.length:Int):=by omega
   have h2:(0:Int)≤(i:Int):=by omega
   have h3:=w64s i (by omega)
   have h4:(0:Int)≤((g p i:Nat):Int):=by omega
   have h5:((g p i:Nat):Int) < (c.length:Int):=by have:=g_lt hp hi;omega
   simp only [Z23.l0,h1,h2,h3,h4,h5,rdI,I_len',I_set,if_true,Int.toNat_natCast]
   exact ih (i + 1) _ (by omega) (by rw [List.length_set];exact hc) (inv_step hp hi hc hx)
 refine Ev.bind (impl_permOk (I p)) ?_
 have h0:permB (I p) = true:=permB_I.mpr ⟨hp,h24⟩
 have h1:(0:Int)≤(p.length:Int):=by omega
 have h2:p.length≤35184372088832:=by omega
 simp only [h0,I_len',h1,h2,if_true,Int.toNat_natCast]
 have:=H p.length 0 (List.replicate p.length 0) (by omega) (by simp) (fun j hj=>by omega)
 rw [I_rep] at this
 exact this
end Go.Proofs.YtcggfjpnfodbaaaGreat.M
end
section
/- Names from a square, and renaming: the program and the reference act alike. No conditions. -/
namespace Go.Proofs.YtcggfjpnfodbaaaGreat.M
set_option linter.unusedVariables false
set_option linter.unusedSimpArgs false
open Go.RowKit Go.Proofs.YtcggfjpnfodbaaaGreatW.PrintWords Go.Proofs.YtcggfjpnfodbaaaGreatW.PrintLast Go.Proofs.YtcggfjpnfodbaaaGreatW.PrintMore Go.Proofs.YtcggfjpnfodbaaaGreat.A
theorem set_mid5 {α:Type} (p:List α) (x y:α) (xs:List α):(p ++ x :: xs).set p.length y = p ++ y :: xs:=by
 induction p with
 | nil=>rfl
 | cons a p ih=>simp [ih]
theorem isP_reach {r u:List Nat} (hs:Sf r u) {s:Nat} (h:s < r.length):IsP (reach r u s)∧(reach r u s).length = r.length:=by
 obtain ⟨h1,h2⟩:=reach_full hs h
 have l1:=h1.le
 have l2:=nodup_sub_len5 (List.range r.length) (reach r u s) List.nodup_range (fun x hx=>h2 x (List.mem_range.mp hx))
 rw [List.length_range] at l2
 have hl:(reach r u s).length = r.length:=by omega
 exact ⟨⟨fun x hx=>by rw [hl];exact h1.lt x hx,h1.nd⟩,hl⟩
def nm (r u:List Nat) (s:Nat):List Nat:=inv (reach r u s)
theorem isP_nm {r u:List Nat} (hs:Sf r u) {s:Nat} (h:s < r.length):IsP (nm r u s)∧(nm r u s).length = r.length:=by
 obtain ⟨h1,h2⟩:=isP_reach hs h
 exact ⟨isP_inv h1,by unfold nm;rw [inv_len,h2]⟩
theorem ren_of {p q c:List Nat} (hq:IsP q) (hl:q.length = p.length) (hc:c.length = p.length) (h:∀ j,j < p.length→g c (g q j) = g q (g p j)):c = ren p q:=by
 refine ext_g (by rw [ren_len,hc]) (fun x hx=>?_)
 rw [hc] at hx
 rw [g_ren hx]
 have hx':ix q x < q.length:=ix_lt hq (by omega)
 have:=h (ix q x) (by omega)
 rw [g_ix hq (by omega)] at this
 exact this
theorem ren_step {p q c:List Nat} (hq:IsP q) (hl:q.length = p.length) {i:Nat} (hi:i < p.length) (hc:c.length = p.length) (h:∀ j,j < i→g c (g q j) = g q (g p j)):∀ j,j < i + 1→g (c.set (g q i) (g q (g p i))) (g q j) = g q (g p j):=by
 intro j hj
 have hlt:g q i < c.length:=by rw [hc,← hl];exact g_lt hq (by omega)
 rw [g_set hlt]
 by_cases e:j = i
 ·subst e
  simp
 ·rw [if_neg (fun k=>e (g_inj hq (by omega) (by omega) k.symm))]
  exact h j (by omega)
theorem spec_ren {p q:List Nat} (hp:IsP p) (hq:IsP q) (hl:q.length = p.length) (h24:p.length≤24):Ev (fun k=>Z45.f k (I p) (I q)) (I (ren p q)):=by
 unfold Z45.f
 have H:∀ (d i:Nat) (c:List Nat),i + d = p.length→c.length = p.length→(∀ j,j < i→g c (g q j) = g q (g p j))→Ev (fun k=>Z45.l0 k (I q) (I c) (I p) (p.length:Int) (i:Int)) (I (ren p q)):=by
  intro d
  induction d with
  | zero =>
   intro i c h hc hx
   refine ev_succ ?_
   have h1:¬ ((i:Int) < (p.length:Int)):=by omega
   rw [← ren_of hq hl hc (fun j hj=>hx j (by omega))]
   simp only [Z45.l0,h1,if_false]
   exact Ev.now _
  | succ d ih =>
   intro i c h hc hx
   refine ev_succ ?_
   have hi:i < p.length:=by omega
   have k1:=g_lt hp hi
   have k2:=g_lt hq (i:=i) (by omega)
   have h1:(i:Int) < (p.length:Int):=by omega
   have h2:(0:Int)≤(i:Int):=by omega
   have h4:(i:Int) < (q.length:Int):=by omega
   have h5:(0:Int)≤((g p i:Nat):Int):=by omega
   have h6:((g p i:Nat):Int) < (q.length:Int):=by omega
   have h7:(0:Int)≤((g q i:Nat):Int):=by omega
   have h8:((g q i:Nat):Int) < (c.length:Int):=by omega
   have h3:=w64s i (by omega)
   simp only [Z45.l0,h1,h2,h3,h4,h5,h6,h7,h8,rdI,I_len',I_set,if_true,Int.toNat_natCast]
   exact ih (i + 1) _ (by omega) (by rw [List.length_set];exact hc) (ren_step hq hl hi hc hx)
 have h1:(0:Int)≤(p.length:Int):=by omega
 have h2:p.length≤35184372088832:=by omega
 simp only [I_len',h1,h2,if_true,Int.toNat_natCast]
 have:=H p.length 0 (List.replicate p.length 0) (by omega) (by simp) (fun j hj=>by omega)
 rw [I_rep] at this
 exact this
theorem impl_ren {p q:List Nat} (hp:IsP p) (hq:IsP q) (hl:q.length = p.length) (h24:p.length≤24):Ev (fun k=>Z31.f k (I p) (I q)) (I (ren p q)):=by
 unfold Z31.f
 have H:∀ (d i:Nat) (c:List Nat),i + d = p.length→c.length = p.length→(∀ j,j < i→g c (g q j) = g q (g p j))→Ev (fun k=>Z31.l0 k (I q) (I c) (I p) (p.length:Int) (i:Int)) (I (ren p q)):=by
  intro d
  induction d with
  | zero =>
   intro i c h hc hx
   refine ev_succ ?_
   have h1:¬ ((i:Int) < (p.length:Int)):=by omega
   rw [← ren_of hq hl hc (fun j hj=>hx j (by omega))]
   simp only [Z31.l0,h1,if_false]
   exact Ev.now _
  | succ d ih =>
   intro i c h hc hx
   refine ev_succ ?_
   have hi:i < p.length:=by omega
   have k1:=g_lt hp hi
   have k2:=g_lt hq (i:=i) (by omega)
   have h1:(i:Int) < (p.length:Int):=by omega
   have h2:(0:Int)≤(i:Int):=by omega
   have h4:(i:Int) < (q.length:Int):=by omega
   have h5:(0:Int)≤((g p i:Nat):Int):=by omega
   have h6:((g p i:Nat):Int) < (q.length:Int):=by omega
   have h7:(0:Int)≤((g q i:Nat):Int):=by omega
   have h8:((g q i:Nat):Int) < (c.length:Int):=by omega
   have h3:=w64s i (by omega)
   simp only [Z31.l0,h1,h2,h3,h4,h5,h6,h7,h8,rdI,I_len',I_set,if_true,Int.toNat_natCast]
   exact ih (i + 1) _ (by omega) (by rw [List.length_set];exact hc) (ren_step hq hl hi hc hx)
 have b1:permB (I p) = true:=permB_I.mpr ⟨hp,h24⟩
 have b2:permB (I q) = true:=permB_I.mpr ⟨hq,by omega⟩
 refine Ev.bind (impl_permOk _) ?_
 simp only [b1,if_true]
 refine Ev.bind (impl_permOk _) ?_
 have e:((p.length:Int) != (q.length:Int)) = false:=by rw [bne_eq_false_iff_eq];omega
 simp only [b2,I_len',e,if_true]
 refine ev_succ ?_
 have h1:(0:Int)≤(p.length:Int):=by omega
 have h2:p.length≤35184372088832:=by omega
 simp only [Z31.j0,I_len',h1,h2,Bool.false_eq_true,if_false,if_true,Int.toNat_natCast]
 have:=H p.length 0 (List.replicate p.length 0) (by omega) (by simp) (fun j hj=>by omega)
 rw [I_rep] at this
 exact this
def rnS (r u q:List Nat):List Nat × List Nat:=(ren r q,ren u q)
theorem spec_renS {r u q:List Nat} (hs:Sf r u) (hq:IsP q) (hl:q.length = r.length):Ev (fun k=>Z47.f k (I r) (I u) (I q)) (I (rnS r u q).1,I (rnS r u q).2):=by
 unfold Z47.f
 exact Ev.bind (spec_ren hs.pr hq hl hs.le) (Ev.bind (spec_ren hs.pu hq (by rw [hl,hs.eq]) (by rw [hs.eq];exact hs.le)) (Ev.now _))
theorem impl_renS {r u q:List Nat} (hs:Sf r u) (hq:IsP q) (hl:q.length = r.length):Ev (fun k=>Z8.f k (I r) (I u) (I q)) (I (rnS r u q).1,I (rnS r u q).2,true):=by
 unfold Z8.f
 have h0:=surfB_I.mpr hs
 have hle:=hs.le
 have b2:permB (I q) = true:=permB_I.mpr ⟨hq,by omega⟩
 refine Ev.bind (impl_surf _ _) ?_
 simp only [h0,if_true]
 refine Ev.bind (impl_permOk _) ?_
 have e:((q.length:Int) != (r.length:Int)) = false:=by rw [bne_eq_false_iff_eq];omega
 simp only [b2,I_len',e,if_true]
 refine ev_succ ?_
 simp only [Z8.j0,Bool.false_eq_true,if_false]
 exact Ev.bind (impl_ren hs.pr hq hl hs.le) (Ev.bind (impl_ren hs.pu hq (by rw [hl,hs.eq]) (by rw [hs.eq];exact hs.le)) (Ev.now _))
theorem spec_names {r u:List Nat} (hs:Sf r u) {s:Nat} (h:s < r.length):Ev (fun k=>Z58.f k (I r) (I u) (s:Int)) (I (nm r u s)):=by
 obtain ⟨h1,h2⟩:=isP_reach hs h
 unfold Z58.f
 exact Ev.bind (reach_ev hs.pr hs.pu hs.eq hs.le s h) (Ev.bind (spec_inv h1 (by rw [h2];exact hs.le)) (Ev.now _))
def nmP (n:Nat) (out:List Nat):List Int:=(List.range n).map (fun x=>if x ∈ out then ((out.idxOf x:Nat):Int) else -1)
theorem nmP_len (n:Nat) (out:List Nat):(nmP n out).length = n:=by simp [nmP]
theorem rd_nmP {n:Nat} {out:List Nat} {x:Nat} (h:x < n):rd (nmP n out) (x:Int) = if x ∈ out then ((out.idxOf x:Nat):Int) else -1:=by
 rw [rd_get _ _ (by rw [nmP_len];exact h)]
 simp [nmP]
theorem nmP_add {n:Nat} {out:List Nat} {x:Nat} (h:x < n) (hn:x ∉ out):(nmP n out).set x (out.length:Int) = nmP n (out ++ [x]):=by
 refine ext_rd (by rw [List.length_set,nmP_len,nmP_len]) (fun i hi=>?_)
 rw [List.length_set,nmP_len] at hi
 rw [rd_set (by rw [nmP_len];exact h),rd_nmP hi,rd_nmP hi]
 by_cases e:x = i
 ·subst e
  have:x ∈ out ++ [x]:=by simp
  rw [if_pos rfl,if_pos this,List.idxOf_append,if_neg hn]
  simp
 ·rw [if_neg e]
  by_cases hm:i ∈ out
  ·have:i ∈ out ++ [x]:=by simp [hm]
   rw [if_pos hm,if_pos this,List.idxOf_append,if_pos hm]
  ·have:i ∉ out ++ [x]:=by simp [hm];omega
   rw [if_neg hm,if_neg this]
theorem nmP_full {n:Nat} {out:List Nat} (hl:out.length = n) (h:∀ x,x < n→x ∈ out):nmP n out = I (inv out):=by
 refine ext_rd (by rw [nmP_len,I_len,inv_len,hl]) (fun i hi=>?_)
 rw [nmP_len] at hi
 rw [rd_nmP hi,if_pos (h i hi),rdI,g_inv (by omega)]
 rfl
theorem names_one {p q:List Nat} {out pr:List Nat} (a j:Nat) (hj:j < pr.length) (hpr:pr.length≤2) (hl:out.length≤1000) (hx:g pr j < p.length) (res:List Int)
  (H:Ev (fun k=>Z37.l2 k (nmP p.length (st1 out (g pr j))) (I (st1 out (g pr j))) (a:Int) (I pr) (pr.length:Int) ((j + 1:Nat):Int) (I p) (I q)) res) :
  Ev (fun k=>Z37.l2 k (nmP p.length out) (I out) (a:Int) (I pr) (pr.length:Int) (j:Int) (I p) (I q)) res:=by
 refine ev_succ ?_
 have h1:(j:Int) < (pr.length:Int):=by omega
 have h2:(0:Int)≤(j:Int):=by omega
 have h4:(I out).length < 17592186044416:=by rw [I_len];omega
 have h5:(0:Int)≤((g pr j:Nat):Int):=by omega
 have h6:((g pr j:Nat):Int) < ((nmP p.length out).length:Int):=by rw [nmP_len];omega
 have h7:rd (nmP p.length out) ((g pr j:Nat):Int) = if g pr j ∈ out then ((out.idxOf (g pr j):Nat):Int) else -1:=rd_nmP hx
 have h3:=w64s j (by omega)
 by_cases hin:g pr j ∈ out
 ·have e:st1 out (g pr j) = out:=by unfold st1;rw [if_pos hin]
  rw [e] at H
  rw [if_pos hin] at h7
  have h8:¬ (((out.idxOf (g pr j):Nat):Int) < 0):=by omega
  simp only [Z37.l2,h1,h2,h3,h5,h6,h7,h8,rdI,I_len',if_true,if_false]
  exact H
 ·have e:st1 out (g pr j) = out ++ [g pr j]:=by unfold st1;rw [if_neg hin]
  rw [e,← nmP_add hx hin,← I_snoc] at H
  rw [if_neg hin] at h7
  have h8:(-1:Int) < 0:=by omega
  simp only [Z37.l2,h1,h2,h3,h4,h5,h6,h7,h8,rdI,I_len',if_true,Int.toNat_natCast]
  exact H
theorem names_loop {p q:List Nat} (hp:IsP p) (hq:IsP q) (hl:q.length = p.length) (h24:p.length≤24) (f:Nat):∀ (a:Nat) (out:List Nat),RInv p.length out→a≤out.length→p.length < f + a →
  Ev (fun k=>Z37.l1 k (nmP p.length out) (I out) (a:Int) (I p) (I q)) (nmP p.length (bfs p q f a out)):=by
 induction f with
 | zero =>
  intro a out hr ha hf
  have:=hr.le
  omega
 | succ f ih =>
  intro a out hr ha hf
  have hle:=hr.le
  refine ev_succ ?_
  by_cases h:a < out.length
  ·have hx:=hr.g h
   have hg1:=g_lt hp hx
   have hg2:g q (g out a) < p.length:=by have:=g_lt hq (i:=g out a) (by omega);omega
   have r1:=hr.st hg1
   have r2:=r1.st hg2
   have h1:(a:Int) < (out.length:Int):=by omega
   have h2:(0:Int)≤(a:Int):=by omega
   have h3:((g out a:Nat):Int) < (p.length:Int):=by omega
   have h4:(0:Int)≤((g out a:Nat):Int):=by omega
   have h5:((g out a:Nat):Int) < (q.length:Int):=by omega
   have hb:bfs p q (f + 1) a out = bfs p q f (a + 1) (st1 (st1 out (g p (g out a))) (g q (g out a))):=by
    rw [bfs,if_pos h]
   rw [hb]
   have key:=ih (a + 1) _ r2 (Nat.le_trans (by omega:a + 1≤out.length) (Nat.le_trans (st1_len _ _) (st1_len _ _))) (by omega)
   have hq1:a≤9000000000000000000:=by omega
   have l1:=r1.le
   simp only [Z37.l1,h1,h2,h3,h4,h5,rdI,I_len',if_true,Option.bind_some,I_pair]
   refine names_one (q:=q) a 0 (by simp) (by simp) (by omega) hg1 _ ?_
   refine names_one (q:=q) a 1 (by simp) (by simp) (by simp only [g,List.getD_cons_zero] at l1 ⊢;omega) hg2 _ ?_
   refine ev_succ ?_
   have h7:¬ (((1 + 1:Nat):Int) < (([g p (g out a),g q (g out a)]:List Nat).length:Int)):=by simp
   have h6:=w64s a hq1
   simp only [Z37.l2,h7,h6,if_false]
   exact key
  ·have h1:¬ ((a:Int) < (out.length:Int)):=by omega
   have hb:bfs p q (f + 1) a out = out:=by rw [bfs,if_neg h]
   rw [hb]
   simp only [Z37.l1,h1,I_len',if_false]
   exact Ev.now _
theorem impl_names {r u:List Nat} (hs:Sf r u) {s:Nat} (h:s < r.length):Ev (fun k=>Z37.f k (I r) (I u) (s:Int)) (I (nm r u s)):=by
 have hle:=hs.le
 have h0:=surfB_I.mpr hs
 obtain ⟨k1,k2⟩:=reach_full hs h
 obtain ⟨_,k3⟩:=isP_reach hs h
 have fin:=names_loop hs.pr hs.pu hs.eq hs.le (r.length + 1) 0 [s] ⟨by simp,by simpa using h⟩ (by simp) (by omega)
 have e1:bfs r u (r.length + 1) 0 [s] = reach r u s:=rfl
 rw [e1,nmP_full k3 k2] at fin
 have H:∀ d i:Nat,i + d = r.length→Ev (fun k=>Z37.l0 k (s:Int) (List.replicate i (-1) ++ List.replicate d 0) (r.length:Int) (i:Int) (I r) (I u)) (I (nm r u s)):=by
  intro d
  induction d with
  | zero =>
   intro i hi
   obtain rfl:i = r.length:=by omega
   refine ev_succ ?_
   have c1:¬ ((r.length:Int) < (r.length:Int)):=by omega
   have c2:(0:Int)≤(s:Int):=by omega
   have c3:(s:Int) < (((List.replicate r.length (-1) ++ List.replicate 0 0:List Int)).length:Int):=by simp;omega
   have c4:(List.replicate r.length (-1) ++ List.replicate 0 0:List Int).set ((s:Int)).toNat 0 = nmP r.length [s]:=by
    refine ext_rd (by rw [List.length_set,nmP_len];simp) (fun i hi=>?_)
    rw [List.length_set] at hi
    have hi':i < r.length:=by simpa using hi
    rw [Int.toNat_natCast,rd_set (by simp;exact h),rd_nmP hi']
    by_cases e:s = i
    ·subst e
     simp
    ·rw [if_neg e]
     have:i ∉ [s]:=by simp;omega
     rw [if_neg this,rd_get _ _ hi]
     simp
   simp only [Z37.l0,c1,c2,c3,c4,if_true,if_false]
   exact fin
  | succ d ih =>
   intro i hi
   refine ev_succ ?_
   have c1:(i:Int) < (r.length:Int):=by omega
   have c2:(0:Int)≤(i:Int):=by omega
   have c3:(i:Int) < (((List.replicate i (-1) ++ List.replicate (d + 1) 0:List Int)).length:Int):=by simp;omega
   have c4:(List.replicate i (-1) ++ List.replicate (d + 1) 0:List Int).set ((i:Int)).toNat (-1) = List.replicate (i + 1) (-1) ++ List.replicate d 0:=by
    have hm:=set_mid5 (List.replicate i (-1:Int)) 0 (-1) (List.replicate d 0)
    rw [List.length_replicate] at hm
    rw [Int.toNat_natCast,List.replicate_succ,hm,List.replicate_succ',List.append_assoc]
    rfl
   have c5:=w64s i (by omega)
   simp only [Z37.l0,c1,c2,c3,c4,c5,if_true]
   exact ih (i + 1) (by omega)
 unfold Z37.f
 refine Ev.bind (impl_surf _ _) ?_
 have n1:¬ ((s:Int) < 0):=by omega
 have n2:decide ((s:Int) ≥ (r.length:Int)) = false:=by rw [decide_eq_false_iff_not];omega
 simp only [h0,n1,n2,I_len',if_true,if_false]
 refine ev_succ ?_
 have z1:(0:Int)≤(r.length:Int):=by omega
 have z2:r.length≤35184372088832:=by omega
 simp only [Z37.j0,Bool.false_eq_true,I_len',z1,z2,if_true,if_false,Int.toNat_natCast,Option.bind_some,List.length_replicate]
 have:=H r.length 0 (Nat.zero_add _)
 simpa using this
end Go.Proofs.YtcggfjpnfodbaaaGreat.M
end
section
/- The canonical form: the program and the reference find the same one. No conditions. -/
namespace Go.Proofs.YtcggfjpnfodbaaaGreat.M
set_option linter.unusedVariables false
set_option linter.unusedSimpArgs false
open Go.RowKit Go.Proofs.YtcggfjpnfodbaaaGreatW.PrintWords Go.Proofs.YtcggfjpnfodbaaaGreatW.PrintLast Go.Proofs.YtcggfjpnfodbaaaGreatW.PrintMore Go.Proofs.YtcggfjpnfodbaaaGreat.A
def lexC:List Nat→List Nat→Int
 | [],[]=>0
 | [],_ :: _=>-1
 | _ :: _,[]=>1
 | a :: l,b :: m=>if a < b then -1 else if b < a then 1 else lexC l m
theorem cmp_ev (a b:Nat):Z29.f (a:Int) (b:Int) = some (if a < b then -1 else if b < a then 1 else 0):=by
 unfold Z29.f Z51.f
 simp only [bne_self_eq_false,Option.bind_some,Bool.false_eq_true,if_false]
 by_cases h1:a < b
 ·have:(a:Int) < (b:Int):=by omega
  simp only [h1,this,if_true]
 ·have n1:¬ (a:Int) < (b:Int):=by omega
  by_cases h2:b < a
  ·have:(a:Int) > (b:Int):=by omega
   simp only [h1,n1,h2,this,if_true,if_false]
  ·have n2:¬ (a:Int) > (b:Int):=by omega
   simp only [h1,n1,h2,n2,if_false]
theorem lexC_eq:∀ (a b:List Nat),lexC a b = 0 ↔ a = b:=by
 intro a
 induction a with
 | nil=>intro b;cases b <;> simp [lexC]
 | cons x a ih =>
  intro b
  cases b with
  | nil=>simp [lexC]
  | cons y b =>
   unfold lexC
   by_cases h1:x < y
   ·simp [h1];omega
   ·by_cases h2:y < x
    ·simp [h1,h2];omega
    ·have e:x = y:=by omega
     subst e
     simp [h1,ih]
theorem compare_ev (a b:List Nat) (hl:a.length≤1000000):Ev (fun k=>Z2.f k (I a) (I b)) (lexC a b):=by
 unfold Z2.f
 have H:∀ d i:Nat,i + d = a.length→i≤b.length→Ev (fun k=>Z2.l0 k (I a) (I b) (I a) (a.length:Int) (i:Int)) (lexC (a.drop i) (b.drop i)):=by
  intro d
  induction d with
  | zero =>
   intro i hi hb
   refine ev_succ ?_
   have c1:¬ ((i:Int) < (a.length:Int)):=by omega
   rw [List.drop_of_length_le (l:=a) (by omega)]
   simp only [Z2.l0,c1,I_len',if_false]
   by_cases h:(a.length:Int) < (b.length:Int)
   ·have:lexC [] (b.drop i) = -1:=by
     rw [List.drop_eq_getElem_cons (by omega)]
     rfl
    simp only [h,if_true,this]
    exact Ev.now _
   ·have:lexC [] (b.drop i) = 0:=by
     rw [List.drop_of_length_le (by omega)]
     rfl
    simp only [h,if_false,this]
    exact Ev.now _
  | succ d ih =>
   intro i hi hb
   have hia:i < a.length:=by omega
   rw [List.drop_eq_getElem_cons hia,← g_get hia]
   have c1:(i:Int) < (a.length:Int):=by omega
   have c2:(0:Int)≤(i:Int):=by omega
   have c3:=w64s i (by omega)
   refine ev_succ ?_
   by_cases h:i < b.length
   ·rw [List.drop_eq_getElem_cons h,← g_get h]
    have n1:¬ ((i:Int) ≥ (b.length:Int)):=by omega
    have n2:(i:Int) < (b.length:Int):=by omega
    simp only [Z2.l0,c1,c2,c3,n1,n2,I_len',rdI,cmp_ev,Option.bind_some,if_true,if_false]
    unfold lexC
    by_cases h1:g a i < g b i
    ·have z:¬ ((-1:Int) = 0):=by omega
     simp only [h1,z,if_true,if_false]
     exact Ev.now _
    ·by_cases h2:g b i < g a i
     ·have z:¬ ((1:Int) = 0):=by omega
      simp only [h1,h2,z,if_true,if_false]
      exact Ev.now _
     ·simp only [h1,h2,if_true,if_false]
      exact ih (i + 1) (by omega) (by omega)
   ·have n1:(i:Int) ≥ (b.length:Int):=by omega
    rw [List.drop_of_length_le (l:=b) (by omega)]
    simp only [Z2.l0,c1,c2,n1,I_len',if_true]
    exact Ev.now _
 have key:=H a.length 0 (Nat.zero_add _) (Nat.zero_le _)
 rw [List.drop_zero,List.drop_zero] at key
 simp only [I_len']
 exact key
theorem less_ev (a b:List Nat) (hl:a.length≤1000000) (he:b.length = a.length):Ev (fun k=>Z71.f k (I a) (I b)) (decide (lexC a b < 0)):=by
 unfold Z71.f
 have H:∀ d i:Nat,i + d = a.length→Ev (fun k=>Z71.l0 k (I b) (I a) (a.length:Int) (i:Int)) (decide (lexC (a.drop i) (b.drop i) < 0)):=by
  intro d
  induction d with
  | zero =>
   intro i hi
   refine ev_succ ?_
   have c1:¬ ((i:Int) < (a.length:Int)):=by omega
   rw [List.drop_of_length_le (l:=a) (by omega),List.drop_of_length_le (l:=b) (by omega)]
   simp only [Z71.l0,c1,if_false]
   exact Ev.now _
  | succ d ih =>
   intro i hi
   have hia:i < a.length:=by omega
   have hib:i < b.length:=by omega
   rw [List.drop_eq_getElem_cons hia,← g_get hia,List.drop_eq_getElem_cons hib,← g_get hib]
   have c1:(i:Int) < (a.length:Int):=by omega
   have c2:(0:Int)≤(i:Int):=by omega
   have n2:(i:Int) < (b.length:Int):=by omega
   have c3:=w64s i (by omega)
   refine ev_succ ?_
   simp only [Z71.l0,c1,c2,c3,n2,I_len',rdI,if_true]
   unfold lexC
   by_cases h1:g a i < g b i
   ·have z1:¬ (((g a i:Nat):Int) = ((g b i:Nat):Int)):=by omega
    have z2:decide (((g a i:Nat):Int) < ((g b i:Nat):Int)) = true:=by rw [decide_eq_true_iff];omega
    have z3:decide ((-1:Int) < 0) = true:=by decide
    simp only [h1,z1,z2,z3,if_true,if_false]
    exact Ev.now _
   ·by_cases h2:g b i < g a i
    ·have z1:¬ (((g a i:Nat):Int) = ((g b i:Nat):Int)):=by omega
     have z2:decide (((g a i:Nat):Int) < ((g b i:Nat):Int)) = false:=by rw [decide_eq_false_iff_not];omega
     have z3:decide ((1:Int) < 0) = false:=by decide
     simp only [h1,h2,z1,z2,z3,if_true,if_false]
     exact Ev.now _
    ·have z1:((g a i:Nat):Int) = ((g b i:Nat):Int):=by omega
     simp only [h1,h2,z1,if_true,if_false]
     exact ih (i + 1) (by omega)
 have key:=H a.length 0 (Nat.zero_add _)
 rw [List.drop_zero,List.drop_zero] at key
 simp only [I_len']
 exact key
def cmpS (a b:List Nat × List Nat):Int:=if lexC a.1 b.1 = 0 then lexC a.2 b.2 else lexC a.1 b.1
theorem impl_cmpS (a b:List Nat × List Nat) (h1:a.1.length≤1000000) (h2:a.2.length≤1000000):Ev (fun k=>Z4.f k (I a.1) (I a.2) (I b.1) (I b.2)) (cmpS a b):=by
 unfold Z4.f cmpS
 refine Ev.bind (compare_ev a.1 b.1 h1) ?_
 by_cases h:lexC a.1 b.1 = 0
 ·simp only [h,if_true]
  exact Ev.bind (compare_ev a.2 b.2 h2) (Ev.now _)
 ·simp only [h,if_false]
  exact Ev.now _
theorem sameList_nat (a b:List Nat) (h:a.length≤1000000000):Ev (fun k=>Z55.f k (I a) (I b)) (decide (a = b)):=by
 unfold Z55.f
 by_cases hl:(a.length:Int) = (b.length:Int)
 ·have hl':a.length = b.length:=by omega
  simp only [I_len',hl,ne_eq,not_true_eq_false,if_false,if_true]
  have H:∀ d i:Nat,i + d = a.length→Ev (fun k=>Z55.l0 k (I b) (I a) (b.length:Int) (i:Int)) (decide (a.drop i = b.drop i)):=by
   intro d
   induction d with
   | zero =>
    intro i hi
    refine ev_succ ?_
    have c1:¬ ((i:Int) < (b.length:Int)):=by omega
    have e:decide (a.drop i = b.drop i) = true:=by rw [List.drop_of_length_le (by omega),List.drop_of_length_le (by omega)];simp
    simp only [Z55.l0,c1,if_false,e]
    exact Ev.now _
   | succ d ih =>
    intro i hi
    have hia:i < a.length:=by omega
    have hib:i < b.length:=by omega
    rw [List.drop_eq_getElem_cons hia,← g_get hia,List.drop_eq_getElem_cons hib,← g_get hib]
    have c1:(i:Int) < (b.length:Int):=by omega
    have c2:(0:Int)≤(i:Int):=by omega
    have c4:(i:Int) < (a.length:Int):=by omega
    have c3:=w64s i (by omega)
    refine ev_succ ?_
    by_cases he:g a i = g b i
    ·have z:((g a i:Nat):Int) = ((g b i:Nat):Int):=by omega
     have e:decide (g a i :: a.drop (i + 1) = g b i :: b.drop (i + 1)) = decide (a.drop (i + 1) = b.drop (i + 1)):=by simp [he]
     rw [e]
     simp only [Z55.l0,c1,c2,c3,c4,I_len',rdI,z,if_true]
     exact ih (i + 1) (by omega)
    ·have z:¬ (((g a i:Nat):Int) = ((g b i:Nat):Int)):=by omega
     have e:decide (g a i :: a.drop (i + 1) = g b i :: b.drop (i + 1)) = false:=by simp [he]
     rw [e]
     simp only [Z55.l0,c1,c2,c4,I_len',rdI,z,if_true,if_false]
     exact Ev.now _
  have key:=H a.length 0 (Nat.zero_add _)
  rw [List.drop_zero,List.drop_zero] at key
  exact key
 ·have e:decide (a = b) = false:=by
   rw [decide_eq_false_iff_not]
   intro e
   rw [e] at hl
   exact hl rfl
  simp only [I_len',hl,ne_eq,not_false_eq_true,if_true,if_false,e]
  exact Ev.now _
theorem spec_before (a b:List Nat × List Nat) (h1:a.1.length≤1000000) (h2:a.2.length≤1000000) (e1:b.1.length = a.1.length) (e2:b.2.length = a.2.length):Ev (fun k=>Z46.f k (I a.1) (I a.2) (I b.1) (I b.2)) (decide (cmpS a b < 0)):=by
 unfold Z46.f cmpS
 refine Ev.bind (sameList_nat a.1 b.1 (by omega)) ?_
 by_cases h:a.1 = b.1
 ·have z:=(lexC_eq a.1 b.1).mpr h
  rw [z]
  simp only [h,decide_true,if_true]
  exact Ev.bind (less_ev a.2 b.2 h2 e2) (Ev.now _)
 ·have z:¬ lexC a.1 b.1 = 0:=fun k=>h ((lexC_eq _ _).mp k)
  simp only [h,z,decide_false,Bool.false_eq_true,if_false]
  exact Ev.bind (less_ev a.1 b.1 h1 e1) (Ev.now _)
def rS (r u:List Nat) (s:Nat):List Nat × List Nat:=rnS r u (nm r u s)
theorem rS_len {r u:List Nat} (s:Nat):(rS r u s).1.length = r.length∧(rS r u s).2.length = u.length:=⟨ren_len _ _,ren_len _ _⟩
def canK (r u:List Nat):Nat→List Nat × List Nat
 | 0=>rS r u 0
 | k + 1=>if cmpS (rS r u (k + 1)) (canK r u k) < 0 then rS r u (k + 1) else canK r u k
theorem canK_len {r u:List Nat} (k:Nat):(canK r u k).1.length = r.length∧(canK r u k).2.length = u.length:=by
 induction k with
 | zero=>exact rS_len 0
 | succ k ih =>
  unfold canK
  split
  ·exact rS_len _
  ·exact ih
def canS (r u:List Nat):List Nat × List Nat:=canK r u (r.length - 1)
theorem spec_canon {r u:List Nat} (hs:Sf r u):Ev (fun k=>Z57.f k (I r) (I u)) (I (canS r u).1,I (canS r u).2):=by
 have hle:=hs.le
 have heq:=hs.eq
 have hpos:=hs.pos
 unfold Z57.f
 have e0:=spec_names hs hpos
 have q0:=isP_nm hs hpos
 refine Ev.bind e0 (Ev.bind (spec_renS hs q0.1 q0.2) ?_)
 have H:∀ d i:Nat,i + 1 + d = r.length→Ev (fun k=>Z57.l0 k ((i + 1:Nat):Int) (I r) (I u) (I (canK r u i).1) (I (canK r u i).2)) (I (canS r u).1,I (canS r u).2):=by
  intro d
  induction d with
  | zero =>
   intro i hi
   refine ev_succ ?_
   have c1:¬ (((i + 1:Nat):Int) < (r.length:Int)):=by omega
   have e:canS r u = canK r u i:=by
    unfold canS
    congr 1
    omega
   rw [e]
   simp only [Z57.l0,c1,I_len',if_false]
   exact Ev.now _
  | succ d ih =>
   intro i hi
   have hi1:i + 1 < r.length:=by omega
   have q1:=isP_nm hs hi1
   have c1:((i + 1:Nat):Int) < (r.length:Int):=by omega
   have c3:=w64s (i + 1) (by omega)
   have lk:=canK_len (r:=r) (u:=u) i
   have lr:=rS_len (r:=r) (u:=u) (i + 1)
   refine ev_succ ?_
   simp only [Z57.l0,c1,c3,I_len',if_true]
   refine Ev.bind (spec_names hs hi1) (Ev.bind (spec_renS hs q1.1 q1.2) ?_)
   refine Ev.bind (spec_before (rS r u (i + 1)) (canK r u i) (by rw [lr.1];omega) (by rw [lr.2];omega) (by rw [lr.1,lk.1]) (by rw [lr.2,lk.2])) ?_
   have key:=ih (i + 1) (by omega)
   unfold canK at key
   by_cases h:cmpS (rS r u (i + 1)) (canK r u i) < 0
   ·rw [if_pos h] at key
    simp only [h,decide_true,if_true]
    exact key
   ·rw [if_neg h] at key
    simp only [h,decide_false,Bool.false_eq_true,if_false]
    exact key
 have key:=H (r.length - 1) 0 (by omega)
 exact key
def namedL (r u:List Nat) (n:Nat):List S27:=(List.range n).map (fun s=>(⟨I (rS r u s).1,I (rS r u s).2⟩:S27))
theorem namedL_len (r u:List Nat) (n:Nat):(namedL r u n).length = n:=by simp [namedL]
theorem rd_named {r u:List Nat} {n i:Nat} (h:i < n):rd_T27 (namedL r u n) (i:Int) = ⟨I (rS r u i).1,I (rS r u i).2⟩:=by
 unfold rd_T27 namedL
 simp [List.getD_eq_getElem?_getD,h]
theorem count_sq {r u:List Nat} (hs:Sf r u):Ev (fun k=>Z14.f k (I r) (I u)) (r.length:Int):=by
 unfold Z14.f
 refine Ev.bind (impl_surf _ _) ?_
 have h0:=surfB_I.mpr hs
 simp only [h0,I_len',if_true]
 exact Ev.now _
theorem impl_named {r u:List Nat} (hs:Sf r u):Ev (fun k=>Z39.f k (I r) (I u)) (namedL r u r.length):=by
 have hle:=hs.le
 unfold Z39.f
 have H:∀ d i:Nat,i + d = r.length→Ev (fun k=>Z39.l0 k (namedL r u i) (i:Int) (I r) (I u)) (namedL r u r.length):=by
  intro d
  induction d with
  | zero =>
   intro i hi
   obtain rfl:i = r.length:=by omega
   refine ev_succ ?_
   simp only [Z39.l0]
   refine Ev.bind (count_sq hs) ?_
   have c1:¬ ((r.length:Int) < (r.length:Int)):=by omega
   simp only [c1,if_false]
   exact Ev.now _
  | succ d ih =>
   intro i hi
   have hil:i < r.length:=by omega
   have q1:=isP_nm hs hil
   refine ev_succ ?_
   simp only [Z39.l0]
   refine Ev.bind (count_sq hs) ?_
   have c1:(i:Int) < (r.length:Int):=by omega
   have c2:(namedL r u i).length < 2932031007402:=by rw [namedL_len];omega
   have c3:=w64s i (by omega)
   simp only [c1,if_true]
   refine Ev.bind (impl_names hs hil) (Ev.bind (impl_renS hs q1.1 q1.2) ?_)
   have e:namedL r u i ++ [(⟨I (rnS r u (nm r u i)).1,I (rnS r u (nm r u i)).2⟩:S27)] = namedL r u (i + 1):=by
    unfold namedL
    rw [List.range_succ,List.map_append]
    rfl
   simp only [c2,c3,e,if_true]
   exact ih (i + 1) (by omega)
 exact H r.length 0 (Nat.zero_add _)
theorem impl_canon {r u:List Nat} (hs:Sf r u):Ev (fun k=>Z62.f k (I r) (I u)) (I (canS r u).1,I (canS r u).2,true):=by
 have hle:=hs.le
 have heq:=hs.eq
 have hpos:=hs.pos
 unfold Z62.f
 refine Ev.bind (impl_named hs) ?_
 have c0:¬ ((r.length:Int) = 0):=by omega
 simp only [namedL_len,c0,if_false]
 refine Ev.bind (a:=(I (canS r u).1,I (canS r u).2)) ?_ (Ev.now _)
 unfold Z32.f
 have c1:¬ ((r.length:Int) < 1):=by omega
 have c2:(0:Int) < (r.length:Int):=by omega
 have e0:rd_T27 (namedL r u r.length) 0 = ⟨I (canK r u 0).1,I (canK r u 0).2⟩:=rd_named hpos
 simp only [namedL_len,c1,c2,e0,if_true,if_false]
 have H:∀ d i:Nat,i + 1 + d = r.length→Ev (fun k=>Z32.l0 k (namedL r u r.length) ((i + 1:Nat):Int) (I (canK r u i).1) (I (canK r u i).2)) (I (canS r u).1,I (canS r u).2):=by
  intro d
  induction d with
  | zero =>
   intro i hi
   refine ev_succ ?_
   have c1:¬ (((i + 1:Nat):Int) < (r.length:Int)):=by omega
   have e:canS r u = canK r u i:=by
    unfold canS
    congr 1
    omega
   rw [e]
   simp only [Z32.l0,c1,namedL_len,if_false]
   exact Ev.now _
  | succ d ih =>
   intro i hi
   have hi1:i + 1 < r.length:=by omega
   have c1:((i + 1:Nat):Int) < (r.length:Int):=by omega
   have c2:(0:Int)≤((i + 1:Nat):Int):=by omega
   have c4:rd_T27 (namedL r u r.length) ((i + 1:Nat):Int) = ⟨I (rS r u (i + 1)).1,I (rS r u (i + 1)).2⟩:=rd_named hi1
   have c3:=w64s (i + 1) (by omega)
   have lr:=rS_len (r:=r) (u:=u) (i + 1)
   refine ev_succ ?_
   simp only [Z32.l0,c1,c2,c3,c4,namedL_len,if_true]
   refine Ev.bind (impl_cmpS (rS r u (i + 1)) (canK r u i) (by rw [lr.1];omega) (by rw [lr.2];omega)) ?_
   have key:=ih (i + 1) (by omega)
   unfold canK at key
   by_cases h:cmpS (rS r u (i + 1)) (canK r u i) < 0
   ·rw [if_pos h] at key
    simp only [h,if_true]
    exact key
   ·rw [if_neg h] at key
    simp only [h,if_false]
    exact key
 exact H (r.length - 1) 0 (by omega)
theorem impl_canon_no {r u:List Int} (h:¬ surfB r u = true):Ev (fun k=>Z62.f k r u) ([],[],false):=by
 have h':=Bool.eq_false_iff.mpr h
 unfold Z62.f
 refine Ev.bind (a:=([]:List S27)) ?_ ?_
 ·unfold Z39.f
  refine ev_succ ?_
  simp only [Z39.l0]
  refine Ev.bind (a:=(0:Int)) ?_ ?_
  ·unfold Z14.f
   refine Ev.bind (impl_surf _ _) ?_
   simp only [h',Bool.false_eq_true,if_false]
   exact Ev.now _
  ·have c1:¬ ((0:Int) < 0):=by omega
   simp only [c1,if_false]
   exact Ev.now _
 ·simp only [List.length_nil]
  exact Ev.now _
theorem equal_ev (a b:List Nat) (h:a.length≤1000000000):Ev (fun k=>Z52.f k (I a) (I b)) (decide (a = b)):=by
 unfold Z52.f Z5.f
 refine Ev.bind (a:=decide (a = b)) ?_ (Ev.now _)
 by_cases hl:(a.length:Int) = (b.length:Int)
 ·have hl':a.length = b.length:=by omega
  simp only [I_len',hl,if_true]
  have H:∀ d i:Nat,i + d = a.length→Ev (fun k=>Z5.l0 k (I a) (I b) (b.length:Int) (i:Int)) (decide (a.drop i = b.drop i)):=by
   intro d
   induction d with
   | zero =>
    intro i hi
    refine ev_succ ?_
    have c1:¬ ((i:Int) < (b.length:Int)):=by omega
    have e:decide (a.drop i = b.drop i) = true:=by rw [List.drop_of_length_le (by omega),List.drop_of_length_le (by omega)];simp
    simp only [Z5.l0,c1,if_false,e]
    exact Ev.now _
   | succ d ih =>
    intro i hi
    have hia:i < a.length:=by omega
    have hib:i < b.length:=by omega
    rw [List.drop_eq_getElem_cons hia,← g_get hia,List.drop_eq_getElem_cons hib,← g_get hib]
    have c1:(i:Int) < (b.length:Int):=by omega
    have c2:(0:Int)≤(i:Int):=by omega
    have c4:(i:Int) < (a.length:Int):=by omega
    have c3:=w64s i (by omega)
    refine ev_succ ?_
    by_cases he:g a i = g b i
    ·have z:((g a i:Nat):Int) = ((g b i:Nat):Int):=by omega
     have e:decide (g a i :: a.drop (i + 1) = g b i :: b.drop (i + 1)) = decide (a.drop (i + 1) = b.drop (i + 1)):=by simp [he]
     rw [e]
     simp only [Z5.l0,c1,c2,c3,c4,I_len',rdI,z,if_true]
     exact ih (i + 1) (by omega)
    ·have z:¬ (((g a i:Nat):Int) = ((g b i:Nat):Int)):=by omega
     have e:decide (g a i :: a.drop (i + 1) = g b i :: b.drop (i + 1)) = false:=by simp [he]
     rw [e]
     simp only [Z5.l0,c1,c2,c4,I_len',rdI,z,if_true,if_false]
     exact Ev.now _
  have key:=H a.length 0 (Nat.zero_add _)
  rw [List.drop_zero,List.drop_zero] at key
  exact key
 ·have e:decide (a = b) = false:=by
   rw [decide_eq_false_iff_not]
   intro e
   rw [e] at hl
   exact hl rfl
  simp only [I_len',hl,if_false,e]
  exact Ev.now _
end Go.Proofs.YtcggfjpnfodbaaaGreat.M
end
section
/- The canonical form tells which surfaces are alike. No conditions. -/
namespace Go.Proofs.YtcggfjpnfodbaaaGreat.M
set_option linter.unusedVariables false
set_option linter.unusedSimpArgs false
theorem is_rS {s:List Nat × List Nat} (hs:Sf s.1 s.2) {i:Nat} (hi:i < s.1.length):Is s (rS s.1 s.2 i) (g (nm s.1 s.2 i)):=by
 obtain ⟨p,l⟩:=isP_nm hs hi
 refine ⟨(rS_len i).1,fun x hx=>?_,fun x y hx hy e=>g_inj p (by rw [l];exact hx) (by rw [l];exact hy) e,fun x hx=>?_,fun x hx=>?_⟩
 ·have:=g_lt p (i:=x) (by rw [l];exact hx)
  rw [l] at this
  exact this
 ·have h1:=g_lt p (i:=x) (by rw [l];exact hx)
  rw [l] at h1
  show _ = g (ren s.1 (nm s.1 s.2 i)) _
  rw [g_ren h1,ix_g p (by rw [l];exact hx)]
 ·have h1:=g_lt p (i:=x) (by rw [l];exact hx)
  rw [l] at h1
  show _ = g (ren s.2 (nm s.1 s.2 i)) _
  rw [g_ren (by rw [hs.eq];exact h1),ix_g p (by rw [l];exact hx)]
theorem sf_rS {s:List Nat × List Nat} (hs:Sf s.1 s.2) {i:Nat} (hi:i < s.1.length):Sf (rS s.1 s.2 i).1 (rS s.1 s.2 i).2:=by
 obtain ⟨p,l⟩:=isP_nm hs hi
 have h:=rS_len (r:=s.1) (u:=s.2) i
 exact hs.of_is (is_rS hs hi) (isP_ren hs.pr p l.symm) (isP_ren hs.pu p (by rw [l,hs.eq])) (by rw [h.1,h.2,hs.eq])
theorem canK_at (r u:List Nat):∀ k,∃ i,i≤k∧canK r u k = rS r u i:=by
 intro k
 induction k with
 | zero=>exact ⟨0,Nat.le_refl _,rfl⟩
 | succ k ih =>
  obtain ⟨i,hi,e⟩:=ih
  unfold canK
  split
  ·exact ⟨k + 1,Nat.le_refl _,rfl⟩
  ·exact ⟨i,by omega,e⟩
theorem canS_at {r u:List Nat} (hs:Sf r u):∃ i,i < r.length∧canS r u = rS r u i:=by
 obtain ⟨i,hi,e⟩:=canK_at r u (r.length - 1)
 have:=hs.pos
 exact ⟨i,by omega,e⟩
theorem sf_canS {s:List Nat × List Nat} (hs:Sf s.1 s.2):Sf (canS s.1 s.2).1 (canS s.1 s.2).2:=by
 obtain ⟨i,hi,e⟩:=canS_at hs
 rw [e]
 exact sf_rS hs hi
end Go.Proofs.YtcggfjpnfodbaaaGreat.M
end
section
/- Marks on lists of lists. No conditions. -/
namespace Go.Proofs.YtcggfjpnfodbaaaGreat.M
set_option linter.unusedVariables false
set_option linter.unusedSimpArgs false
open Go.RowKit Go.Proofs.YtcggfjpnfodbaaaGreatW.PrintWords Go.Proofs.YtcggfjpnfodbaaaGreatW.PrintLast Go.Proofs.YtcggfjpnfodbaaaGreatW.PrintMore Go.Proofs.YtcggfjpnfodbaaaGreat.A
theorem set_mid {α:Type} (p:List α) (x y:α) (xs:List α):(p ++ x :: xs).set p.length y = p ++ y :: xs:=by
 rw [List.set_append_right _ _ (Nat.le_refl _)]
 simp
end Go.Proofs.YtcggfjpnfodbaaaGreat.M
end
section
/- One round about a corner; first places in lists. No conditions. -/
namespace Go.Proofs.YtcggfjpnfodbaaaGreat.M
set_option linter.unusedVariables false
set_option linter.unusedSimpArgs false
open Go.RowKit Go.Proofs.YtcggfjpnfodbaaaGreatW.PrintWords Go.Proofs.YtcggfjpnfodbaaaGreatW.PrintLast Go.Proofs.YtcggfjpnfodbaaaGreatW.PrintMore Go.Proofs.YtcggfjpnfodbaaaGreat.A
theorem impl_then {p q:List Nat} (hp:IsP p) (hq:IsP q) (hl:p.length = q.length) (h24:p.length≤24):Ev (fun k=>Z53.f k (I p) (I q)) (I (thn p q)):=by
 unfold Z53.f
 refine Ev.bind (impl_permOk (I p)) ?_
 have e1:permB (I p) = true:=permB_I.mpr ⟨hp,h24⟩
 have e2:permB (I q) = true:=permB_I.mpr ⟨hq,by omega⟩
 simp only [e1,if_true]
 refine Ev.bind (impl_permOk (I q)) ?_
 have e3:((p.length:Int) != (q.length:Int)) = false:=by simp [hl]
 simp only [e2,if_true,I_len',e3]
 refine ev_succ ?_
 have h1:(0:Int)≤(p.length:Int):=by omega
 have h2:p.length≤35184372088832:=by omega
 simp only [Z53.j0,Bool.false_eq_true,if_false,I_len',h1,h2,if_true,Int.toNat_natCast]
 have H:∀ (d i:Nat) (c:List Nat),i + d = p.length→c.length = p.length→(∀ j,j < i→g c j = g q (g p j))→Ev (fun k=>Z53.l0 k (I q) (I c) (I p) (p.length:Int) (i:Int)) (I (thn p q)):=by
  intro d
  induction d with
  | zero =>
   intro i c h hc hx
   refine ev_succ ?_
   have h1:¬ ((i:Int) < (p.length:Int)):=by omega
   have e:thn p q = c:=by
    refine (eq_tab hc (fun j hj=>hx j (by omega))).symm
   simp only [Z53.l0,h1,if_false]
   rw [e]
   exact Ev.now _
  | succ d ih =>
   intro i c h hc hx
   refine ev_succ ?_
   have hi:i < p.length:=by omega
   have gp:=g_lt hp hi
   have c1:(i:Int) < (p.length:Int):=by omega
   have c2:(0:Int)≤(i:Int):=by omega
   have c3:(0:Int)≤((g p i:Nat):Int):=by omega
   have c4:((g p i:Nat):Int) < (q.length:Int):=by omega
   have c5:(i:Int) < (c.length:Int):=by omega
   have h3:=w64s i (by omega)
   simp only [Z53.l0,c1,c2,c3,c4,c5,h3,rdI,I_len',I_set,if_true,Int.toNat_natCast]
   refine ih (i + 1) _ (by omega) (by rw [List.length_set];exact hc) (fun j hj=>?_)
   rw [g_set (by omega)]
   by_cases e:i = j
   ·subst e
    simp
   ·rw [if_neg e]
    exact hx j (by omega)
 have:=H p.length 0 (List.replicate p.length 0) (by omega) (by simp) (fun j hj=>by omega)
 rw [I_rep] at this
 exact this
end Go.Proofs.YtcggfjpnfodbaaaGreat.M
end
section
/- Slopes and paths: the program and the reference answer alike. No conditions. -/
namespace Go.Proofs.YtcggfjpnfodbaaaGreat.M
set_option linter.unusedVariables false
set_option linter.unusedSimpArgs false
open Go.RowKit Go.Proofs.YtcggfjpnfodbaaaGreatW.PrintWords Go.Proofs.YtcggfjpnfodbaaaGreatW.PrintLast Go.Proofs.YtcggfjpnfodbaaaGreatW.PrintMore Go.Proofs.YtcggfjpnfodbaaaGreat.A
theorem tab_snoc (i:Nat) (f:Nat→Nat):tab i f ++ [f i] = tab (i + 1) f:=by unfold tab;rw [List.range_succ];simp
theorem spec_then {p q:List Nat} (hp:∀ i,i < p.length→g p i < q.length) (h:p.length≤1000):Ev (fun k=>Z70.f k (I p) (I q)) (I (thn p q)):=by
 unfold Z70.f
 have H:∀ d i:Nat,i + d = p.length→Ev (fun k=>Z70.l0 k (I q) (I (tab i (fun i=>g q (g p i)))) (I p) (p.length:Int) (i:Int)) (I (thn p q)):=by
  intro d
  induction d with
  | zero =>
   intro i h
   obtain rfl:i = p.length:=by omega
   refine ev_succ ?_
   have h1:¬ ((p.length:Int) < (p.length:Int)):=by omega
   simp only [Z70.l0,h1,if_false]
   exact Ev.now _
  | succ d ih =>
   intro i h
   have hi:i < p.length:=by omega
   have hg:=hp i hi
   refine ev_succ ?_
   have h1:(i:Int) < (p.length:Int):=by omega
   have h2:=w64s i (by omega)
   have h3:(I (tab i (fun i=>g q (g p i)))).length < 17592186044416:=by rw [I_len,tab_len];omega
   have h4:(0:Int)≤(i:Int):=by omega
   have h5:(0:Int)≤((g p i:Nat):Int):=by omega
   have h6:((g p i:Nat):Int) < (q.length:Int):=by omega
   have e:=tab_snoc i (fun i=>g q (g p i))
   simp only [Z70.l0,h1,h2,h3,h4,h5,h6,rdI,I_len',if_true,I_snoc,e]
   exact ih (i + 1) (by omega)
 have:=H p.length 0 (by omega)
 simp only [I_len']
 exact this
def wk (r u:List Nat) (w:ByteArray):Nat→Nat→Nat
 | 0,x=>x
 | j + 1,x=>if bt w (j:Int) = 114 then g r (wk r u w j x) else g u (wk r u w j x)
end Go.Proofs.YtcggfjpnfodbaaaGreat.M
end
section
/- Words of letters: the program and the reference act alike. No conditions. -/
namespace Go.Proofs.YtcggfjpnfodbaaaGreat.M
set_option linter.unusedVariables false
set_option linter.unusedSimpArgs false
open Go.RowKit Go.Proofs.YtcggfjpnfodbaaaGreatW.PrintWords Go.Proofs.YtcggfjpnfodbaaaGreatW.PrintLast Go.Proofs.YtcggfjpnfodbaaaGreatW.PrintMore Go.Proofs.YtcggfjpnfodbaaaGreat.A
def lt (c:Int) (s:List Nat × List Nat):List Nat × List Nat:=if c = 84 then (s.1,thn (inv s.1) s.2) else if c = 116 then (s.1,thn s.1 s.2) else if c = 83 then (inv s.2,s.1) else (s.2,inv s.1)
theorem sf_lt {s:List Nat × List Nat} (hs:Sf s.1 s.2) (c:Int):Sf (lt c s).1 (lt c s).2∧(lt c s).1.length = s.1.length:=by
 unfold lt
 split
 ·exact ⟨sf_T hs,rfl⟩
 ·split
  ·exact ⟨sf_t hs,rfl⟩
  ·split
   ·exact ⟨sf_S hs,by show (inv s.2).length = _;rw [inv_len,hs.eq]⟩
   ·exact ⟨sf_s hs,hs.eq⟩
def rn (w:ByteArray) (s:List Nat × List Nat):Nat→List Nat × List Nat
 | 0=>s
 | j + 1=>lt (bt w (j:Int)) (rn w s j)
theorem sf_rn {s:List Nat × List Nat} (hs:Sf s.1 s.2) (w:ByteArray) (j:Nat):Sf (rn w s j).1 (rn w s j).2∧(rn w s j).1.length = s.1.length:=by
 induction j with
 | zero=>exact ⟨hs,rfl⟩
 | succ j ih =>
  have:=sf_lt ih.1 (bt w (j:Int))
  exact ⟨this.1,this.2.trans ih.2⟩
theorem thn_small {r u:List Nat} (hs:Sf r u):(∀ i,i < (inv r).length→g (inv r) i < u.length)∧(∀ i,i < r.length→g r i < u.length):=by
 constructor
 ·intro i hi
  have:=g_lt (isP_inv hs.pr) hi
  rw [inv_len] at this
  rw [hs.eq]
  exact this
 ·intro i hi
  rw [hs.eq]
  exact g_lt hs.pr hi
theorem spec_letter {s:List Nat × List Nat} (hs:Sf s.1 s.2) (c:Int):Ev (fun k=>Z48.f k (I s.1) (I s.2) c) (I (lt c s).1,I (lt c s).2):=by
 have hle:=hs.le
 have heq:=hs.eq
 have c1:([]:List Int).length + (I s.1).length < 17592186044416:=by rw [I_len];simp;omega
 have c2:([]:List Int).length + (I s.2).length < 17592186044416:=by rw [I_len];simp;omega
 obtain ⟨t1,t2⟩:=thn_small hs
 unfold Z48.f lt
 by_cases h1:c = 84
 ·simp only [h1,if_true]
  refine Ev.bind (a:=(I s.1,I (thn (inv s.1) s.2))) ?_ (Ev.now _)
  unfold Z59.f
  simp only [Option.bind_some,c1,if_true,List.nil_append]
  exact Ev.bind (spec_inv hs.pr hs.le) (Ev.bind (spec_then t1 (by rw [inv_len];omega)) (Ev.now _))
 ·by_cases h2:c = 116
  ·have n1:¬ ((116:Int) = 84):=by omega
   simp only [h2,n1,if_true,if_false]
   refine Ev.bind (a:=(I s.1,I (thn s.1 s.2))) ?_ (Ev.now _)
   unfold Z35.f
   simp only [Option.bind_some,c1,if_true,List.nil_append]
   exact Ev.bind (spec_then t2 (by omega)) (Ev.now _)
  ·by_cases h3:c = 83
   ·have n1:¬ ((83:Int) = 84):=by omega
    have n2:¬ ((83:Int) = 116):=by omega
    simp only [h3,n1,n2,if_true,if_false]
    refine Ev.bind (a:=(I (inv s.2),I s.1)) ?_ (Ev.now _)
    unfold Z73.f
    refine Ev.bind (spec_inv hs.pu (by omega)) ?_
    simp only [Option.bind_some,c1,if_true,List.nil_append]
    exact Ev.now _
   ·simp only [h1,h2,h3,if_false]
    refine Ev.bind (a:=(I s.2,I (inv s.1))) ?_ (Ev.now _)
    unfold Z49.f
    simp only [Option.bind_some,c2,if_true,List.nil_append]
    exact Ev.bind (spec_inv hs.pr hs.le) (Ev.now _)
theorem spec_run {s:List Nat × List Nat} (hs:Sf s.1 s.2) (w:ByteArray) (hw:w.size≤1000):Ev (fun k=>Z83.f k (I s.1) (I s.2) w) (I (rn w s w.size).1,I (rn w s w.size).2):=by
 have hle:=hs.le
 have heq:=hs.eq
 have c1:([]:List Int).length + (I s.1).length < 17592186044416:=by rw [I_len];simp;omega
 have c2:([]:List Int).length + (I s.2).length < 17592186044416:=by rw [I_len];simp;omega
 unfold Z83.f
 simp only [Option.bind_some,c1,c2,if_true,List.nil_append]
 have H:∀ d j:Nat,j + d = w.size→Ev (fun k=>Z83.l0 k w (j:Int) (I (rn w s j).1) (I (rn w s j).2)) (I (rn w s w.size).1,I (rn w s w.size).2):=by
  intro d
  induction d with
  | zero =>
   intro j hj
   obtain rfl:j = w.size:=by omega
   refine ev_succ ?_
   have c1:¬ ((w.size:Int) < (w.size:Int)):=by omega
   simp only [Z83.l0,c1,if_false]
   exact Ev.now _
  | succ d ih =>
   intro j hj
   refine ev_succ ?_
   have c1:(j:Int) < (w.size:Int):=by omega
   have c2:(0:Int)≤(j:Int):=by omega
   have c3:=w64s j (by omega)
   simp only [Z83.l0,c1,c2,c3,if_true]
   exact Ev.bind (spec_letter (sf_rn hs w j).1 _) (ih (j + 1) (by omega))
 exact H w.size 0 (Nat.zero_add _)
def letB (c:Int):Bool:=decide (c = 84 ∨ c = 116 ∨ c = 83 ∨ c = 115)
theorem idx_tab:∀ n:Fin 256,decide (Lib.indexByte [84,116,83,115] n.val.toUInt8 < 0) = !letB (n.val:Int):=by decide +kernel
theorem idx_ev {c:Int} (h0:0≤c) (h1:c≤255):∃ i,Z21.f (⟨#[84,116,83,115]⟩:ByteArray) c = some i∧decide (i < 0) = !letB c:=by
 obtain ⟨n,rfl⟩:∃ n:Nat,c = n:=⟨c.toNat,by omega⟩
 refine ⟨_,rfl,?_⟩
 exact idx_tab ⟨n,by omega⟩
def wordB (w:ByteArray):Bool:=decide ((∀ j,j < w.size→letB (bt w (j:Int)) = true)∧w.size≤40)
theorem impl_wordOk (w:ByteArray) (hw:w.size≤9000000000000000000):Ev (fun k=>Z76.f k w) (wordB w):=by
 unfold Z76.f
 have H:∀ d j:Nat,j + d = w.size→(∀ i,i < j→letB (bt w (i:Int)) = true)→Ev (fun k=>Z76.l0 k w (j:Int)) (wordB w):=by
  intro d
  induction d with
  | zero =>
   intro j hj hl
   obtain rfl:j = w.size:=by omega
   refine ev_succ ?_
   have c1:¬ ((w.size:Int) < (w.size:Int)):=by omega
   have e:decide ((w.size:Int)≤40) = wordB w:=by
    unfold wordB
    rw [decide_eq_decide]
    constructor
    ·intro h
     exact ⟨hl,by omega⟩
    ·intro h
     have:=h.2
     omega
   simp only [Z76.l0,c1,if_false,e]
   exact Ev.now _
  | succ d ih =>
   intro j hj hl
   obtain ⟨b0,b1⟩:=bt_range w (j:Int)
   obtain ⟨i,e,hi⟩:=idx_ev b0 b1
   refine ev_succ ?_
   have c1:(j:Int) < (w.size:Int):=by omega
   have c2:(0:Int)≤(j:Int):=by omega
   have c3:=w64s j (by omega)
   simp only [Z76.l0,c1,c2,c3,e,if_true,Option.bind_some]
   by_cases hb:letB (bt w (j:Int)) = true
   ·have c4:¬ i < 0:=by
     rw [hb] at hi
     exact of_decide_eq_false hi
    simp only [c4,if_false]
    exact ih (j + 1) (by omega) (fun q hq=>by
     by_cases e:q = j
     ·rw [e];exact hb
     ·exact hl q (by omega))
   ·have hb':=Bool.eq_false_iff.mpr hb
    have c4:i < 0:=by
     rw [hb'] at hi
     exact of_decide_eq_true hi
    have e2:wordB w = false:=by
     unfold wordB
     rw [decide_eq_false_iff_not]
     intro h
     exact hb (h.1 j (by omega))
    simp only [c4,if_true,e2]
    exact Ev.now _
 exact H w.size 0 (Nat.zero_add _) (fun i hi=>by omega)
theorem copy_ev (l:List Int) (h:l.length≤1000000):Z54.f l = some l:=by
 unfold Z54.f
 have c1:([]:List Int).length + l.length < 17592186044416:=by simp;omega
 simp only [Option.bind_some,c1,if_true,List.nil_append]
theorem impl_letter {s:List Nat × List Nat} (hs:Sf s.1 s.2) (c:Int) (hc:letB c = true):Ev (fun k=>Z11.f k (I s.1) (I s.2) c) (I (lt c s).1,I (lt c s).2):=by
 have hle:=hs.le
 have heq:=hs.eq
 have h0:=surfB_I.mpr hs
 have k1:=copy_ev (I s.1) (by rw [I_len];omega)
 have k2:=copy_ev (I s.2) (by rw [I_len];omega)
 have hc:=of_decide_eq_true hc
 unfold Z11.f lt
 by_cases h1:c = 84
 ·simp only [h1,if_true]
  refine Ev.bind (a:=(I s.1,I (thn (inv s.1) s.2),true)) ?_ (Ev.now _)
  unfold Z16.f
  refine Ev.bind (impl_surf _ _) ?_
  simp only [h0,k1,if_true,Option.bind_some]
  exact Ev.bind (impl_inv hs.pr hs.le) (Ev.bind (impl_then (isP_inv hs.pr) hs.pu (by rw [inv_len,hs.eq]) (by rw [inv_len];exact hs.le)) (Ev.now _))
 ·by_cases h2:c = 116
  ·have n1:¬ ((116:Int) = 84):=by omega
   simp only [h2,n1,if_true,if_false]
   refine Ev.bind (a:=(I s.1,I (thn s.1 s.2),true)) ?_ (Ev.now _)
   unfold Z6.f
   refine Ev.bind (impl_surf _ _) ?_
   simp only [h0,k1,if_true,Option.bind_some]
   exact Ev.bind (impl_then hs.pr hs.pu hs.eq.symm hs.le) (Ev.now _)
  ·by_cases h3:c = 83
   ·have n1:¬ ((83:Int) = 84):=by omega
    have n2:¬ ((83:Int) = 116):=by omega
    simp only [h3,n1,n2,if_true,if_false]
    refine Ev.bind (a:=(I (inv s.2),I s.1,true)) ?_ (Ev.now _)
    unfold Z25.f
    refine Ev.bind (impl_surf _ _) ?_
    simp only [h0,if_true]
    refine Ev.bind (impl_inv hs.pu (by omega)) ?_
    simp only [k1,Option.bind_some]
    exact Ev.now _
   ·have h4:c = 115:=by omega
    have n1:¬ ((115:Int) = 84):=by omega
    have n2:¬ ((115:Int) = 116):=by omega
    have n3:¬ ((115:Int) = 83):=by omega
    simp only [h4,n1,n2,n3,if_true,if_false]
    refine Ev.bind (a:=(I s.2,I (inv s.1),true)) ?_ (Ev.now _)
    unfold Z10.f
    refine Ev.bind (impl_surf _ _) ?_
    simp only [h0,k2,if_true,Option.bind_some]
    exact Ev.bind (impl_inv hs.pr hs.le) (Ev.now _)
def runP (r u:List Int) (w:ByteArray):List Int × List Int × Bool:=if surfB r u = true∧wordB w = true then (I (rn w (N r,N u) w.size).1,I (rn w (N r,N u) w.size).2,true) else ([],[],false)
theorem runP_yes {s:List Nat × List Nat} (hs:Sf s.1 s.2) {w:ByteArray} (hw:wordB w = true):runP (I s.1) (I s.2) w = (I (rn w s w.size).1,I (rn w s w.size).2,true):=by
 unfold runP
 rw [if_pos ⟨surfB_I.mpr hs,hw⟩,N_I,N_I]
theorem impl_run (r u:List Int) (w:ByteArray) (hw:w.size≤9000000000000000000):Ev (fun k=>Z65.f k r u w) (runP r u w):=by
 unfold Z65.f
 refine Ev.bind (impl_surf _ _) ?_
 by_cases h:surfB r u = true
 ·simp only [h,if_true]
  refine Ev.bind (impl_wordOk w hw) ?_
  by_cases h2:wordB w = true
  ·obtain ⟨r,u,rfl,rfl,hs⟩:=surf_nat h
   rw [runP_yes (s:=(r,u)) hs h2,h2]
   have hd:=of_decide_eq_true h2
   have hle:=hs.le
   have heq:=hs.eq
   have k1:=copy_ev (I r) (by rw [I_len];omega)
   have k2:=copy_ev (I u) (by rw [I_len];omega)
   refine ev_succ ?_
   simp only [Z65.j0,Z26.f,k1,k2,Option.bind_some,Bool.not_true,Bool.false_eq_true,if_false]
   have H:∀ d j:Nat,j + d = w.size→Ev (fun k=>Z65.l0 k w (j:Int) (I (rn w (r,u) j).1) (I (rn w (r,u) j).2)) (I (rn w (r,u) w.size).1,I (rn w (r,u) w.size).2,true):=by
    intro d
    induction d with
    | zero =>
     intro j hj
     obtain rfl:j = w.size:=by omega
     refine ev_succ ?_
     have c1:¬ ((w.size:Int) < (w.size:Int)):=by omega
     simp only [Z65.l0,c1,if_false]
     exact Ev.now _
    | succ d ih =>
     intro j hj
     refine ev_succ ?_
     have c1:(j:Int) < (w.size:Int):=by omega
     have c2:(0:Int)≤(j:Int):=by omega
     have c3:=w64s j (by omega)
     simp only [Z65.l0,c1,c2,c3,if_true]
     exact Ev.bind (impl_letter (sf_rn (s:=(r,u)) hs w j).1 _ (hd.1 j (by omega))) (ih (j + 1) (by omega))
   exact H w.size 0 (Nat.zero_add _)
  ·have h2':=Bool.eq_false_iff.mpr h2
   have e:runP r u w = ([],[],false):=by
    unfold runP
    rw [if_neg (fun h=>h2 h.2)]
   rw [e,h2']
   refine ev_succ ?_
   simp only [Z65.j0,Bool.not_false,if_true]
   exact Ev.now _
 ·have e:runP r u w = ([],[],false):=by
   unfold runP
   rw [if_neg (fun k=>h k.1)]
  have h':=Bool.eq_false_iff.mpr h
  simp only [h',Bool.false_eq_true,if_false]
  rw [e]
  refine ev_succ ?_
  simp only [Z65.j0,if_true]
  exact Ev.now _
end Go.Proofs.YtcggfjpnfodbaaaGreat.M
end
section
/- Surfaces that are alike; surfaces that a word keeps. No conditions. -/
namespace Go.Proofs.YtcggfjpnfodbaaaGreat.M
set_option linter.unusedVariables false
set_option linter.unusedSimpArgs false
open Go.RowKit Go.Proofs.YtcggfjpnfodbaaaGreatW.PrintWords Go.Proofs.YtcggfjpnfodbaaaGreatW.PrintLast Go.Proofs.YtcggfjpnfodbaaaGreatW.PrintMore Go.Proofs.YtcggfjpnfodbaaaGreat.A
theorem impl_same (a b:List Nat × List Nat) (h1:a.1.length≤1000000) (h2:a.2.length≤1000000):Ev (fun k=>Z24.f k (I a.1) (I a.2) (I b.1) (I b.2)) (decide (a = b)):=by
 unfold Z24.f
 refine Ev.bind (equal_ev a.1 b.1 (by omega)) ?_
 by_cases h:a.1 = b.1
 ·have e:decide (a = b) = decide (a.2 = b.2):=by
   rw [decide_eq_decide,Prod.ext_iff]
   simp [h]
  rw [e]
  simp only [h,decide_true,if_true]
  exact Ev.bind (equal_ev a.2 b.2 (by omega)) (Ev.now _)
 ·have e:decide (a = b) = false:=by
   rw [decide_eq_false_iff_not]
   intro e
   exact h (by rw [e])
  rw [e]
  simp only [h,decide_false,Bool.false_eq_true,if_false]
  exact Ev.now _
theorem spec_same (a b:List Nat × List Nat) (h1:a.1.length≤1000000) (h2:a.2.length≤1000000):Ev (fun k=>Z28.f k (I a.1) (I a.2) (I b.1) (I b.2)) (decide (a = b)):=by
 unfold Z28.f
 refine Ev.bind (sameList_nat a.1 b.1 (by omega)) ?_
 by_cases h:a.1 = b.1
 ·have e:decide (a = b) = decide (a.2 = b.2):=by
   rw [decide_eq_decide,Prod.ext_iff]
   simp [h]
  rw [e]
  simp only [h,decide_true,if_true]
  exact Ev.bind (sameList_nat a.2 b.2 (by omega)) (Ev.now _)
 ·have e:decide (a = b) = false:=by
   rw [decide_eq_false_iff_not]
   intro e
   exact h (by rw [e])
  rw [e]
  simp only [h,decide_false,Bool.false_eq_true,if_false]
  exact Ev.now _
theorem iso_both {s t:List Nat × List Nat} (hs:Sf s.1 s.2) (ht:Sf t.1 t.2):Ev (fun k=>Z12.f k (I s.1) (I s.2) (I t.1) (I t.2)) (decide (canS s.1 s.2 = canS t.1 t.2))∧Ev (fun k=>Z7.f k (I s.1) (I s.2) (I t.1) (I t.2)) (decide (canS s.1 s.2 = canS t.1 t.2)):=by
 have hs0:=surfB_I.mpr hs
 have ht0:=surfB_I.mpr ht
 have h1:=canK_len (r:=s.1) (u:=s.2) (s.1.length - 1)
 have l1:=hs.le
 have l2:=hs.eq
 unfold Z12.f Z7.f
 constructor
 ·refine Ev.bind (spec_surf _ _) ?_
  simp only [hs0,if_true]
  refine Ev.bind (spec_surf _ _) ?_
  simp only [ht0,if_true]
  exact Ev.bind (spec_canon hs) (Ev.bind (spec_canon ht) (Ev.bind (spec_same (canS s.1 s.2) (canS t.1 t.2) (by unfold canS;rw [h1.1];omega) (by unfold canS;rw [h1.2];omega)) (Ev.now _)))
 ·refine Ev.bind (impl_canon hs) (Ev.bind (impl_canon ht) ?_)
  simp only [if_true]
  exact Ev.bind (impl_same (canS s.1 s.2) (canS t.1 t.2) (by unfold canS;rw [h1.1];omega) (by unfold canS;rw [h1.2];omega)) (Ev.now _)
theorem spec_wordOk (w:ByteArray):Ev (fun k=>Z81.f k w) (wordB w):=by
 unfold Z81.f
 by_cases h40:(w.size:Int) > 40
 ·have e:wordB w = false:=by
   unfold wordB
   rw [decide_eq_false_iff_not]
   intro h
   have:=h.2
   omega
  simp only [h40,if_true,e]
  exact Ev.now _
 ·simp only [h40,if_false]
  have H:∀ d j:Nat,j + d = w.size→(∀ i,i < j→letB (bt w (i:Int)) = true)→Ev (fun k=>Z81.l0 k w (j:Int)) (wordB w):=by
   intro d
   induction d with
   | zero =>
    intro j hj hl
    obtain rfl:j = w.size:=by omega
    refine ev_succ ?_
    have c1:¬ ((w.size:Int) < (w.size:Int)):=by omega
    have e:wordB w = true:=by
     unfold wordB
     rw [decide_eq_true_iff]
     exact ⟨hl,by omega⟩
    simp only [Z81.l0,c1,if_false,e]
    exact Ev.now _
   | succ d ih =>
    intro j hj hl
    refine ev_succ ?_
    have c1:(j:Int) < (w.size:Int):=by omega
    have c2:(0:Int)≤(j:Int):=by omega
    have key:=fun (hb:letB (bt w (j:Int)) = true)=>ih (j + 1) (by omega) (fun q hq=>by
     by_cases e:q = j
     ·rw [e];exact hb
     ·exact hl q (by omega))
    have c3:=w64s j (by omega)
    simp only [Z81.l0,c1,c2,c3,if_true]
    by_cases h1:bt w (j:Int) = 84
    ·simp only [h1,if_true]
     exact key (by unfold letB;exact decide_eq_true (Or.inl h1))
    ·by_cases h2:bt w (j:Int) = 116
     ·have n1:¬ ((116:Int) = 84):=by omega
      simp only [h2,n1,if_true,if_false]
      exact key (by unfold letB;exact decide_eq_true (Or.inr (Or.inl h2)))
     ·by_cases h3:bt w (j:Int) = 83
      ·have n1:¬ ((83:Int) = 84):=by omega
       have n2:¬ ((83:Int) = 116):=by omega
       simp only [h3,n1,n2,if_true,if_false]
       exact key (by unfold letB;exact decide_eq_true (Or.inr (Or.inr (Or.inl h3))))
      ·by_cases h4:bt w (j:Int) = 115
       ·have n1:¬ ((115:Int) = 84):=by omega
        have n2:¬ ((115:Int) = 116):=by omega
        have n3:¬ ((115:Int) = 83):=by omega
        simp only [h4,n1,n2,n3,if_true,if_false]
        exact key (by unfold letB;exact decide_eq_true (Or.inr (Or.inr (Or.inr h4))))
       ·have e:wordB w = false:=by
         unfold wordB
         rw [decide_eq_false_iff_not]
         intro h
         have:=of_decide_eq_true (h.1 j (by omega))
         omega
        simp only [h1,h2,h3,h4,if_false,e]
        exact Ev.now _
  exact H w.size 0 (Nat.zero_add _) (fun i hi=>by omega)
theorem spec_runW (r u:List Int) (w:ByteArray):Ev (fun k=>Z69.f k r u w) (runP r u w):=by
 unfold Z69.f
 refine Ev.bind (spec_surf _ _) ?_
 by_cases h:surfB r u = true
 ·simp only [h,if_true]
  refine Ev.bind (spec_wordOk w) ?_
  by_cases h2:wordB w = true
  ·obtain ⟨r,u,rfl,rfl,hs⟩:=surf_nat h
   rw [runP_yes (s:=(r,u)) hs h2]
   have hd:=of_decide_eq_true h2
   simp only [h2,if_true]
   exact Ev.bind (spec_run (s:=(r,u)) hs w (by omega)) (Ev.now _)
  ·have e:runP r u w = ([],[],false):=by
    unfold runP
    rw [if_neg (fun h=>h2 h.2)]
   rw [e]
   simp only [h2,Bool.false_eq_true,if_false]
   exact Ev.now _
 ·have e:runP r u w = ([],[],false):=by
   unfold runP
   rw [if_neg (fun k=>h k.1)]
  rw [e]
  simp only [h,Bool.false_eq_true,if_false]
  exact Ev.now _
def fixP (r u:List Int) (w:ByteArray):Bool:=decide (surfB r u = true∧wordB w = true∧canS (rn w (N r,N u) w.size).1 (rn w (N r,N u) w.size).2 = canS (N r) (N u))
theorem fixed_by (r u:List Int) (w:ByteArray) (hw:w.size≤9000000000000000000):Ev (fun k=>Z43.f k r u w) (fixP r u w)∧Ev (fun k=>Z36.f k r u w) (fixP r u w):=by
 have e1:=spec_runW r u w
 have e2:=impl_run r u w hw
 unfold Z43.f Z36.f
 by_cases h:surfB r u = true∧wordB w = true
 ·obtain ⟨h1,h2⟩:=h
  obtain ⟨r,u,rfl,rfl,hs⟩:=surf_nat h1
  rw [runP_yes (s:=(r,u)) hs h2] at e1 e2
  have hr:=sf_rn (s:=(r,u)) hs w w.size
  obtain ⟨i1,i2⟩:=iso_both hr.1 (t:=(r,u)) hs
  have e:fixP (I r) (I u) w = decide (canS (rn w (r,u) w.size).1 (rn w (r,u) w.size).2 = canS r u):=by
   unfold fixP
   rw [N_I,N_I,decide_eq_decide]
   simp [h1,h2]
  rw [e]
  refine ⟨Ev.bind e1 ?_,Ev.bind e2 ?_⟩
  ·simp only [if_true]
   exact Ev.bind i1 (Ev.now _)
  ·simp only [if_true]
   exact Ev.bind i2 (Ev.now _)
 ·have e:runP r u w = ([],[],false):=by
   unfold runP
   rw [if_neg h]
  have e3:fixP r u w = false:=by
   unfold fixP
   rw [decide_eq_false_iff_not]
   intro k
   exact h ⟨k.1,k.2.1⟩
  rw [e] at e1 e2
  rw [e3]
  refine ⟨Ev.bind e1 ?_,Ev.bind e2 ?_⟩
  ·simp only [Bool.false_eq_true,if_false]
   exact Ev.now _
  ·simp only [Bool.false_eq_true,if_false]
   exact Ev.now _
end Go.Proofs.YtcggfjpnfodbaaaGreat.M
end
section
/- The orbit in plain words: the program and the reference run alike. No conditions. -/
namespace Go.Proofs.YtcggfjpnfodbaaaGreat.M
set_option linter.unusedVariables false
set_option linter.unusedSimpArgs false
open Go.RowKit Go.Proofs.YtcggfjpnfodbaaaGreatW.PrintWords Go.Proofs.YtcggfjpnfodbaaaGreatW.PrintLast Go.Proofs.YtcggfjpnfodbaaaGreatW.PrintMore Go.Proofs.YtcggfjpnfodbaaaGreat.A
def oS (p:List Nat × List Nat):S27:=⟨I p.1,I p.2⟩
def nxt (c:Int) (s:List Nat × List Nat):List Nat × List Nat:=canS (lt c s).1 (lt c s).2
theorem sf_nxt {s:List Nat × List Nat} (hs:Sf s.1 s.2) (c:Int):Sf (nxt c s).1 (nxt c s).2:=sf_canS (s:=lt c s) (sf_lt hs c).1
structure PO where
 L:List (List Nat × List Nat)
 W:List ByteArray
 F:List Int
 B:List Int
 T:List Int
 S:List Int
def PO.orb (s:PO):Orb:=⟨s.L.map oS,s.W,s.F,s.B,s.T,s.S⟩
def fi (L:List (List Nat × List Nat)) (x:List Nat × List Nat):Int:=if x ∈ L then ((L.idxOf x:Nat):Int) else -1
def atL (L:List (List Nat × List Nat)) (i:Nat):List Nat × List Nat:=L.getD i ([],[])
def atW (W:List ByteArray) (i:Nat):ByteArray:=rdOf ByteArray.empty W (i:Int)
def stepP (i:Nat) (c:Int) (s:PO):Option PO :=
 if nxt c (atL s.L i) ∈ s.L then some { s with T:=if c = 84 then s.T ++ [((s.L.idxOf (nxt c (atL s.L i)):Nat):Int)] else s.T,S:=if c = 84 then s.S else s.S ++ [((s.L.idxOf (nxt c (atL s.L i)):Nat):Int)] }
 else if s.L.length = 120 then none
 else some ⟨s.L ++ [nxt c (atL s.L i)],s.W ++ [atW s.W i ++ strOfNums [c]],s.F ++ [(i:Int)],s.B ++ [c],if c = 84 then s.T ++ [(s.L.length:Int)] else s.T,if c = 84 then s.S else s.S ++ [(s.L.length:Int)]⟩
def roundP (i:Nat) (s:PO):Option PO:=(stepP i 84 s).bind (stepP i 83)
def lpP:Nat→PO→Nat→Option PO
 | 0,s,_=>some s
 | f + 1,s,i=>if i < s.L.length then (roundP i s).bind (fun s'=>lpP f s' (i + 1)) else some s
structure Good (s:PO):Prop where
 sf:∀ x ∈ s.L,Sf x.1 x.2
 lw:s.W.length = s.L.length
 lf:s.F.length = s.L.length
 lb:s.B.length = s.L.length
 ws:∀ j,j < s.L.length→(atW s.W j).size≤j
 lt:s.T.length≤200
 ls:s.S.length≤200
theorem atL_get {L:List (List Nat × List Nat)} {i:Nat} (h:i < L.length):atL L i = L[i]:=by simp [atL,List.getD_eq_getElem?_getD,h]
theorem atL_mem {L:List (List Nat × List Nat)} {i:Nat} (h:i < L.length):atL L i ∈ L:=by rw [atL_get h];exact List.getElem_mem h
theorem atL_app {L:List (List Nat × List Nat)} {i:Nat} (h:i < L.length) (x:List Nat × List Nat):atL (L ++ [x]) i = atL L i:=by
 unfold atL
 rw [List.getD_eq_getElem?_getD,List.getD_eq_getElem?_getD,List.getElem?_append_left h]
theorem rd_oS {L:List (List Nat × List Nat)} {i:Nat} (h:i < L.length):rd_T27 (L.map oS) (i:Int) = oS (atL L i):=by
 unfold rd_T27
 rw [atL_get h]
 simp [List.getD_eq_getElem?_getD,h]
theorem str1 (c:Int):(strOfNums [c]).size = 1:=by simp [strOfNums,ByteArray.size]
theorem oidx_ev {L:List (List Nat × List Nat)} (hL:∀ x ∈ L,Sf x.1 x.2) (hl:L.length≤1000) (x:List Nat × List Nat):Ev (fun k=>indexO k (L.map oS) (I x.1) (I x.2)) (fi L x):=by
 unfold indexO
 have c1:(L.map oS).length < 4611686018427387904:=by rw [List.length_map];omega
 simp only [c1,if_true]
 have H:∀ (M:List (List Nat × List Nat)) (i:Nat),(∀ x ∈ M,Sf x.1 x.2)→Ev (fun k=>idxS k (I x.1) (I x.2) (M.map oS) i) (if x ∈ M then ((i + M.idxOf x:Nat):Int) else -1):=by
  intro M
  induction M with
  | nil=>intro i _;exact Ev.now _
  | cons y M ih =>
   intro i hM
   have hy:=hM y (by simp)
   have ly:=hy.le
   have ly2:=hy.eq
   rw [List.map_cons]
   simp only [idxS]
   refine Ev.bind (impl_same y x (by omega) (by omega)) ?_
   by_cases e:y = x
   ·subst e
    simp only [decide_true,if_true,List.mem_cons,true_or,List.idxOf_cons_self,Nat.add_zero]
    exact Ev.now _
   ·have hb:(y == x) = false:=beq_eq_false_iff_ne.mpr e
    simp only [e,decide_false,Bool.false_eq_true,if_false]
    have key:=ih (i + 1) (fun z hz=>hM z (by simp [hz]))
    have e1:(if x ∈ y :: M then ((i + (y :: M).idxOf x:Nat):Int) else -1) = (if x ∈ M then ((i + 1 + M.idxOf x:Nat):Int) else -1):=by
     have e2:x ∈ y :: M ↔ x ∈ M:=by simp [Ne.symm e]
     rw [List.idxOf_cons,hb]
     by_cases hm:x ∈ M
     ·rw [if_pos (e2.mpr hm),if_pos hm]
      simp only [cond_false]
      congr 1
      omega
     ·rw [if_neg (fun h=>hm (e2.mp h)),if_neg hm]
    rw [e1]
    exact key
 have key:=H L 0 hL
 unfold fi
 simp only [Nat.zero_add] at key
 exact key
theorem ofind_ev {L:List (List Nat × List Nat)} (hL:∀ x ∈ L,Sf x.1 x.2) (hl:L.length≤1000) (x:List Nat × List Nat):Ev (fun k=>Z74.f k (L.map oS) (I x.1) (I x.2)) (fi L x):=by
 unfold Z74.f
 have H:∀ d i:Nat,i + d = L.length→(∀ j,j < i→atL L j≠x)→Ev (fun k=>Z74.l0 k (L.map oS) (L.length:Int) (i:Int) (I x.1) (I x.2)) (fi L x):=by
  intro d
  induction d with
  | zero =>
   intro i hi hn
   obtain rfl:i = L.length:=by omega
   have e:fi L x = -1:=by
    unfold fi
    rw [if_neg]
    intro hm
    obtain ⟨j,hj,e⟩:=List.mem_iff_getElem.mp hm
    exact hn j hj (by rw [atL_get hj,e])
   refine ev_succ ?_
   have c1:¬ ((L.length:Int) < (L.length:Int)):=by omega
   simp only [Z74.l0,c1,if_false,e]
   exact Ev.now _
  | succ d ih =>
   intro i hi hn
   have hil:i < L.length:=by omega
   have hy:=hL _ (atL_mem hil)
   have ly:=hy.le
   have ly2:=hy.eq
   have c1:(i:Int) < (L.length:Int):=by omega
   have c2:(0:Int)≤(i:Int):=by omega
   have c3:=w64s i (by omega)
   refine ev_succ ?_
   simp only [Z74.l0,c1,c2,c3,List.length_map,rd_oS hil,if_true]
   refine Ev.bind (spec_same (atL L i) x (by omega) (by omega)) ?_
   by_cases e:atL L i = x
   ·have ef:fi L x = (i:Int):=by
     unfold fi
     have hm:x ∈ L:=by rw [← e];exact atL_mem hil
     rw [if_pos hm]
     congr 1
     have h1:L.idxOf x≤i:=by
      apply Classical.byContradiction
      intro hlt
      have:=List.not_of_lt_findIdx (xs:=L) (p:=(· == x)) (i:=i) (by unfold List.idxOf at hlt;omega)
      rw [← atL_get hil,e] at this
      simp at this
     have h2:¬ L.idxOf x < i:=by
      intro hlt
      have hlt2:L.idxOf x < L.length:=List.idxOf_lt_length_of_mem hm
      refine hn _ hlt ?_
      rw [atL_get hlt2]
      exact List.getElem_idxOf hlt2
     omega
    rw [ef]
    simp only [e,decide_true,if_true]
    exact Ev.now _
   ·simp only [e,decide_false,Bool.false_eq_true,if_false]
    exact ih (i + 1) (by omega) (fun j hj=>by
     by_cases ej:j = i
     ·rw [ej];exact e
     ·exact hn j (by omega))
 have key:=H L.length 0 (Nat.zero_add _) (fun j hj=>by omega)
 rw [List.length_map]
 exact key
theorem fi_neg {L:List (List Nat × List Nat)} {x:List Nat × List Nat}:fi L x < 0 ↔ x ∉ L:=by
 unfold fi
 by_cases h:x ∈ L
 ·rw [if_pos h];constructor
  ·intro h2;omega
  ·intro h2;exact absurd h h2
 ·rw [if_neg h];simp [h]
theorem let_ok {c:Int} (hc:c = 84 ∨ c = 83):letB c = true:=by
 rcases hc with rfl | rfl <;> rfl
theorem stpO_ev {s:PO} (hg:Good s) {i:Nat} (hi:i < s.L.length) (hl:s.L.length≤120) {c:Int} (hc:c = 84 ∨ c = 83):Ev (fun k=>stpO k (i:Int) c s.orb) ((stepP i c s).map PO.orb):=by
 have hs:=hg.sf _ (atL_mem hi)
 have h1:=impl_letter hs c (let_ok hc)
 have h2:=impl_canon (sf_lt hs c).1
 have h3:=oidx_ev hg.sf (by omega) (nxt c (atL s.L i))
 have c1:(0:Int)≤(i:Int):=by omega
 have c2:(i:Int) < (s.orb.L.length:Int):=by show (i:Int) < ((s.L.map oS).length:Int);rw [List.length_map];omega
 unfold stpO
 simp only [c1,c2,if_true]
 have e1:rd_T27 s.orb.L (i:Int) = oS (atL s.L i):=rd_oS hi
 rw [e1]
 refine Ev.bind h1 (Ev.bind h2 (Ev.bind h3 ?_))
 have el:s.orb.L.length = s.L.length:=List.length_map _
 have lw:=hg.lw
 have lf:=hg.lf
 have lb:=hg.lb
 have lt':=hg.lt
 have ls:=hg.ls
 by_cases hm:nxt c (atL s.L i) ∈ s.L
 ·have hn:¬ fi s.L (nxt c (atL s.L i)) < 0:=fun h=>fi_neg.mp h hm
  have e2:fi s.L (nxt c (atL s.L i)) = ((s.L.idxOf (nxt c (atL s.L i)):Nat):Int):=if_pos hm
  have c5:s.orb.T.length < 1000000∧s.orb.S.length < 1000000:=⟨by show s.T.length < _;omega,by show s.S.length < _;omega⟩
  have e3:stepP i c s = some { s with T:=if c = 84 then s.T ++ [((s.L.idxOf (nxt c (atL s.L i)):Nat):Int)] else s.T,S:=if c = 84 then s.S else s.S ++ [((s.L.idxOf (nxt c (atL s.L i)):Nat):Int)] }:=if_pos hm
  rw [e3,e2]
  rw [e2] at hn
  rw [if_neg hn,if_pos c5]
  exact Ev.now _
 ·have hn:fi s.L (nxt c (atL s.L i)) < 0:=fi_neg.mpr hm
  simp only [hn,if_true]
  by_cases h120:s.L.length = 120
  ·have e3:stepP i c s = none:=by unfold stepP;rw [if_neg hm,if_pos h120]
   have c6:(s.orb.L.length:Int) = 120:=by rw [el];omega
   rw [e3,if_pos c6]
   exact Ev.now _
  ·have c6:¬ (s.orb.L.length:Int) = 120:=by rw [el];omega
   have c7:s.orb.L.length < 1000000∧s.orb.W.length < 1000000∧s.orb.F.length < 1000000∧s.orb.B.length < 1000000∧s.orb.T.length < 1000000∧s.orb.S.length < 1000000:=⟨by rw [el];omega,by show s.W.length < _;omega,by show s.F.length < _;omega,by show s.B.length < _;omega,by show s.T.length < _;omega,by show s.S.length < _;omega⟩
   have c8:(i:Int) < (s.orb.W.length:Int):=by show (i:Int) < (s.W.length:Int);omega
   have c9:(rdOf ByteArray.empty s.orb.W (i:Int)).size + 1≤9223372036854775807:=by have:=hg.ws i hi;show (atW s.W i).size + 1≤_;omega
   have e3:stepP i c s = some ⟨s.L ++ [nxt c (atL s.L i)],s.W ++ [atW s.W i ++ strOfNums [c]],s.F ++ [(i:Int)],s.B ++ [c],if c = 84 then s.T ++ [(s.L.length:Int)] else s.T,if c = 84 then s.S else s.S ++ [(s.L.length:Int)]⟩:=by unfold stepP;rw [if_neg hm,if_neg h120]
   rw [e3,if_neg c6,if_pos c7,if_pos c8,if_pos c9]
   have e4:s.orb.L ++ [(⟨I (canS (lt c (atL s.L i)).1 (lt c (atL s.L i)).2).1,I (canS (lt c (atL s.L i)).1 (lt c (atL s.L i)).2).2⟩:S27)] = (s.L ++ [nxt c (atL s.L i)]).map oS:=by rw [List.map_append];rfl
   refine Ev.of (k:=0) (fun k=>LeO.refl _) ?_
   show some (some (Orb.mk _ _ _ _ _ _)) = some (some (Orb.mk _ _ _ _ _ _))
   rw [e4,el]
   rfl
theorem atW_app {W:List ByteArray} {j:Nat} (h:j < W.length) (x:ByteArray):atW (W ++ [x]) j = atW W j:=by
 unfold atW rdOf
 rw [Int.toNat_natCast,List.getD_eq_getElem?_getD,List.getD_eq_getElem?_getD,List.getElem?_append_left h]
theorem atW_last (W:List ByteArray) (x:ByteArray):atW (W ++ [x]) W.length = x:=by
 unfold atW rdOf
 rw [Int.toNat_natCast,List.getD_eq_getElem?_getD,List.getElem?_append_right (Nat.le_refl _)]
 simp
theorem step_good {s s':PO} (hg:Good s) {i:Nat} (hi:i < s.L.length) {c:Int} (hT:s.T.length < 200) (hS:s.S.length < 200) (h:stepP i c s = some s'):Good s'∧i < s'.L.length∧s'.T.length≤s.T.length + 1∧s'.S.length≤s.S.length + 1∧(s.L.length≤120→s'.L.length≤120):=by
 have hs:=hg.sf _ (atL_mem hi)
 unfold stepP at h
 by_cases hm:nxt c (atL s.L i) ∈ s.L
 ·rw [if_pos hm] at h
  have h:=Option.some.inj h
  subst h
  have q1:(if c = 84 then s.T ++ [((s.L.idxOf (nxt c (atL s.L i)):Nat):Int)] else s.T).length≤s.T.length + 1:=by split <;> simp
  have q2:(if c = 84 then s.S else s.S ++ [((s.L.idxOf (nxt c (atL s.L i)):Nat):Int)]).length≤s.S.length + 1:=by split <;> simp
  exact ⟨⟨hg.sf,hg.lw,hg.lf,hg.lb,hg.ws,by show (if c = 84 then _ else _:List Int).length≤200;omega,by show (if c = 84 then _ else _:List Int).length≤200;omega⟩,hi,q1,q2,fun h=>h⟩
 ·rw [if_neg hm] at h
  by_cases h120:s.L.length = 120
  ·rw [if_pos h120] at h;cases h
  ·rw [if_neg h120] at h
   have h:=Option.some.inj h
   subst h
   have q1:(if c = 84 then s.T ++ [(s.L.length:Int)] else s.T).length≤s.T.length + 1:=by split <;> simp
   have q2:(if c = 84 then s.S else s.S ++ [(s.L.length:Int)]).length≤s.S.length + 1:=by split <;> simp
   refine ⟨⟨fun x hx=>?_,by simp [hg.lw],by simp [hg.lf],by simp [hg.lb],fun j hj=>?_,by show (if c = 84 then _ else _:List Int).length≤200;omega,by show (if c = 84 then _ else _:List Int).length≤200;omega⟩,by simp;omega,q1,q2,fun h=>by simp;omega⟩
   ·rcases List.mem_append.mp hx with hx | hx
    ·exact hg.sf x hx
    ·obtain rfl:x = nxt c (atL s.L i):=by simpa using hx
     exact sf_nxt hs c
   ·have hj:j < s.L.length + 1:=by simpa using hj
    show (atW (s.W ++ [atW s.W i ++ strOfNums [c]]) j).size≤j
    by_cases e:j = s.L.length
    ·rw [e,← hg.lw,atW_last,ByteArray.size_append,str1,hg.lw]
     have:=hg.ws i hi
     omega
    ·rw [atW_app (by rw [hg.lw];omega)]
     exact hg.ws j (by omega)
def stepU (i:Nat) (c:Int) (L:List (List Nat × List Nat)) (W:List ByteArray):List (List Nat × List Nat) × List ByteArray:=if nxt c (atL L i) ∈ L then (L,W) else (L ++ [nxt c (atL L i)],W ++ [atW W i ++ strOfNums [c]])
theorem stepU_of {s s':PO} {i:Nat} {c:Int} (h:stepP i c s = some s'):stepU i c s.L s.W = (s'.L,s'.W):=by
 unfold stepP at h
 unfold stepU
 by_cases hm:nxt c (atL s.L i) ∈ s.L
 ·rw [if_pos hm] at h ⊢
  have h:=Option.some.inj h
  subst h
  rfl
 ·rw [if_neg hm] at h ⊢
  by_cases h120:s.L.length = 120
  ·rw [if_pos h120] at h;cases h
  ·rw [if_neg h120] at h
   have h:=Option.some.inj h
   subst h
   rfl
theorem stepU_none {s:PO} {i:Nat} {c:Int} (h:stepP i c s = none):(stepU i c s.L s.W).1.length = 121:=by
 unfold stepP at h
 unfold stepU
 by_cases hm:nxt c (atL s.L i) ∈ s.L
 ·rw [if_pos hm] at h;cases h
 ·rw [if_neg hm] at h ⊢
  by_cases h120:s.L.length = 120
  ·simp [h120]
  ·rw [if_neg h120] at h;cases h
structure GoodU (L:List (List Nat × List Nat)) (W:List ByteArray):Prop where
 sf:∀ x ∈ L,Sf x.1 x.2
 lw:W.length = L.length
 ws:∀ j,j < L.length→(atW W j).size≤j
theorem Good.u {s:PO} (h:Good s):GoodU s.L s.W:=⟨h.sf,h.lw,h.ws⟩
theorem stepU_good {L:List (List Nat × List Nat)} {W:List ByteArray} (hg:GoodU L W) {i:Nat} (hi:i < L.length) (c:Int):GoodU (stepU i c L W).1 (stepU i c L W).2∧L.length≤(stepU i c L W).1.length∧(stepU i c L W).1.length≤L.length + 1:=by
 have hs:=hg.sf _ (atL_mem hi)
 unfold stepU
 by_cases hm:nxt c (atL L i) ∈ L
 ·rw [if_pos hm];exact ⟨hg,Nat.le_refl _,by simp⟩
 ·rw [if_neg hm]
  refine ⟨⟨fun x hx=>?_,by simp [hg.lw],fun j hj=>?_⟩,by simp,by simp⟩
  ·rcases List.mem_append.mp hx with hx | hx
   ·exact hg.sf x hx
   ·obtain rfl:x = nxt c (atL L i):=by simpa using hx
    exact sf_nxt hs c
  ·have hj:j < L.length + 1:=by simpa using hj
   show (atW (W ++ [atW W i ++ strOfNums [c]]) j).size≤j
   by_cases e:j = L.length
   ·rw [e,← hg.lw,atW_last,ByteArray.size_append,str1,hg.lw]
    have:=hg.ws i hi
    omega
   ·rw [atW_app (by rw [hg.lw];omega)]
    exact hg.ws j (by omega)
theorem specU_ev {L:List (List Nat × List Nat)} {W:List ByteArray} (hg:GoodU L W) {i:Nat} (hi:i < L.length) (hl:L.length≤1000) {j:Nat} {c:Int} (hj:j < 2) (hc:rd [84,83] (j:Int) = c) (res:List S27 × List ByteArray × Bool)
  (H:Ev (fun k=>Z60.l1 k ((stepU i c L W).1.map oS) (stepU i c L W).2 (i:Int) [84,83] 2 ((j + 1:Nat):Int)) res):Ev (fun k=>Z60.l1 k (L.map oS) W (i:Int) [84,83] 2 (j:Int)) res:=by
 have hs:=hg.sf _ (atL_mem hi)
 have h1:=spec_letter hs c
 have h2:=spec_canon (sf_lt hs c).1
 have h3:=ofind_ev hg.sf (by omega) (nxt c (atL L i))
 have c1:(j:Int) < 2:=by omega
 have c2:(0:Int)≤(j:Int):=by omega
 have c3:=w64s j (by omega)
 have c4:(j:Int) < (([84,83]:List Int).length:Int):=by show (j:Int) < ((2:Nat):Int);omega
 have c5:(0:Int)≤(i:Int):=by omega
 have c6:(i:Int) < ((L.map oS).length:Int):=by rw [List.length_map];omega
 refine ev_succ ?_
 simp only [Z60.l1,c1,c2,c3,c4,c5,c6,hc,rd_oS hi,if_true,Option.bind_some]
 refine Ev.bind h1 (Ev.bind h2 (Ev.bind h3 ?_))
 unfold stepU at H
 by_cases hm:nxt c (atL L i) ∈ L
 ·have hn:¬ fi L (nxt c (atL L i)) < 0:=fun h=>fi_neg.mp h hm
  rw [if_pos hm] at H
  simp only [hn,if_false]
  exact H
 ·have hn:fi L (nxt c (atL L i)) < 0:=fi_neg.mpr hm
  rw [if_neg hm] at H
  have c7:(L.map oS).length < 2932031007402:=by rw [List.length_map];omega
  have c8:(i:Int) < (W.length:Int):=by have:=hg.lw;omega
  have c9:(rdOf ByteArray.empty W (i:Int)).size + (strOfNums [c]).size≤9223372036854775807:=by have:=hg.ws i hi;rw [str1];show (atW W i).size + 1≤_;omega
  have c10:W.length < 8796093022208:=by have:=hg.lw;omega
  simp only [hn,c7,c8,c9,c10,if_true]
  have e4:L.map oS ++ [(⟨I (canS (lt c (atL L i)).1 (lt c (atL L i)).2).1,I (canS (lt c (atL L i)).1 (lt c (atL L i)).2).2⟩:S27)] = (L ++ [nxt c (atL L i)]).map oS:=by rw [List.map_append];rfl
  rw [e4]
  exact H
def specR:Option PO→List S27 × List ByteArray × Bool
 | none=>([],[],false)
 | some s=>(s.L.map oS,s.W,true)
theorem orb_sim:∀ (f i:Nat) (s:PO),121≤f + i→Good s→i≤s.L.length→s.L.length≤120→s.T.length≤i→s.S.length≤i→Ev (fun k=>loopO k s.orb (i:Int)) ((lpP f s i).map PO.orb)∧Ev (fun k=>Z60.l0 k (s.L.map oS) s.W (i:Int)) (specR (lpP f s i)):=by
 intro f
 induction f with
 | zero=>intro i s h1 h2 h3 h4;omega
 | succ f ih =>
  intro i s hf hg hi0 hl hT hS
  have el:s.orb.L.length = s.L.length:=List.length_map _
  by_cases hi:i < s.L.length
  ·have c1:(i:Int) < (s.orb.L.length:Int):=by rw [el];omega
   have c2:(i:Int) < ((s.L.map oS).length:Int):=by rw [List.length_map];omega
   have c3:=w64s i (by omega)
   have hu:=hg.u
   have e1:=stpO_ev hg hi hl (c:=84) (.inl rfl)
   have u1:=stepU_good hu hi 84
   have eL:lpP (f + 1) s i = (roundP i s).bind (fun s'=>lpP f s' (i + 1)):=by rw [lpP,if_pos hi]
   have fin:∀ (L2:List (List Nat × List Nat)) (W2:List ByteArray) (res:List S27 × List ByteArray × Bool),stepU i 83 (stepU i 84 s.L s.W).1 (stepU i 84 s.L s.W).2 = (L2,W2)→Ev (fun k=>if ((L2.map oS).length:Int) > 120 then (some (([]:List S27),([]:List ByteArray),false)) else Z60.l0 k (L2.map oS) W2 (wrap64 ((i:Int) + 1))) res→Ev (fun k=>Z60.l0 k (s.L.map oS) s.W (i:Int)) res:=by
    intro L2 W2 res e H
    refine ev_succ ?_
    simp only [Z60.l0,c2,if_true,Option.bind_some]
    refine specU_ev hu hi (by omega) (j:=0) (c:=84) (by omega) rfl res ?_
    have hi2:i < (stepU i 84 s.L s.W).1.length:=by omega
    refine specU_ev u1.1 hi2 (by omega) (j:=1) (c:=83) (by omega) rfl res ?_
    rw [e]
    refine ev_succ ?_
    have c9:¬ ((((1 + 1:Nat):Int)) < 2):=by omega
    simp only [Z60.l1,c9,if_false]
    exact H
   have impl0:∀ r:Option Orb,Ev (fun k=>innerO k (i:Int) [84,83] s.orb) r→Ev (fun k=>match r with | none=>some none | some s'=>loopO k s' (wrap64 ((i:Int) + 1))) ((lpP (f + 1) s i).map PO.orb)→Ev (fun k=>loopO k s.orb (i:Int)) ((lpP (f + 1) s i).map PO.orb):=by
    intro r h1 h2
    refine ev_succ ?_
    simp only [loopO,c1,if_true]
    exact Ev.bind h1 h2
   cases h84:stepP i 84 s with
   | none =>
    have en:lpP (f + 1) s i = none:=by rw [eL];unfold roundP;rw [h84];rfl
    have l121:=stepU_none h84
    rw [h84] at e1
    rw [en] at impl0 ⊢
    have u2:=stepU_good u1.1 (i:=i) (by omega) 83
    have l2:(stepU i 83 (stepU i 84 s.L s.W).1 (stepU i 84 s.L s.W).2).1.length > 120:=by omega
    refine ⟨impl0 none ?_ (Ev.now _),?_⟩
    ·unfold innerO
     exact Ev.bind e1 (Ev.now _)
    ·revert l2
     generalize ep:stepU i 83 (stepU i 84 s.L s.W).1 (stepU i 84 s.L s.W).2 = p
     intro l2
     refine fin p.1 p.2 _ ep ?_
     have c9:((p.1.map oS).length:Int) > 120:=by rw [List.length_map];omega
     simp only [c9,if_true]
     exact Ev.now _
   | some s1 =>
    obtain ⟨g1,i1,t1,ss1,l1⟩:=step_good hg hi (by omega) (by omega) h84
    have e2:=stpO_ev g1 i1 (l1 hl) (c:=83) (.inr rfl)
    have eu:=stepU_of h84
    rw [h84] at e1
    have eR:lpP (f + 1) s i = (stepP i 83 s1).bind (fun s'=>lpP f s' (i + 1)):=by rw [eL];unfold roundP;rw [h84];rfl
    cases h83:stepP i 83 s1 with
    | none =>
     have en:lpP (f + 1) s i = none:=by rw [eR,h83];rfl
     have l121:=stepU_none h83
     rw [h83] at e2
     rw [en] at impl0 ⊢
     have l2:(stepU i 83 (stepU i 84 s.L s.W).1 (stepU i 84 s.L s.W).2).1.length > 120:=by rw [eu,l121];omega
     refine ⟨impl0 none ?_ (Ev.now _),?_⟩
     ·unfold innerO
      refine Ev.bind e1 ?_
      simp only [innerO]
      exact Ev.bind e2 (Ev.now _)
     ·revert l2
      generalize ep:stepU i 83 (stepU i 84 s.L s.W).1 (stepU i 84 s.L s.W).2 = p
      intro l2
      refine fin p.1 p.2 _ ep ?_
      have c9:((p.1.map oS).length:Int) > 120:=by rw [List.length_map];omega
      simp only [c9,if_true]
      exact Ev.now _
    | some s2 =>
     obtain ⟨g2,i2,t2,ss2,l2⟩:=step_good g1 i1 (by omega) (by omega) h83
     have eu2:=stepU_of h83
     rw [h83] at e2
     have es:lpP (f + 1) s i = lpP f s2 (i + 1):=by rw [eR,h83];rfl
     have hT2:s2.T.length≤i + 1∧s2.S.length≤i + 1:=by
      have a1:s1.S.length = s.S.length:=by
       unfold stepP at h84
       split at h84
       ·have h:=Option.some.inj h84;subst h;rfl
       ·split at h84
        ·cases h84
        ·have h:=Option.some.inj h84;subst h;rfl
      have a2:s2.T.length = s1.T.length:=by
       unfold stepP at h83
       split at h83
       ·have h:=Option.some.inj h83;subst h;rfl
       ·split at h83
        ·cases h83
        ·have h:=Option.some.inj h83;subst h;rfl
      omega
     obtain ⟨k1,k2⟩:=ih (i + 1) s2 (by omega) g2 (by omega) (l2 (l1 hl)) hT2.1 hT2.2
     rw [es] at impl0 ⊢
     refine ⟨impl0 (some s2.orb) ?_ ?_,?_⟩
     ·unfold innerO
      refine Ev.bind e1 ?_
      simp only [innerO]
      refine Ev.bind e2 (Ev.now _)
     ·simp only [c3]
      exact k1
     ·refine fin s2.L s2.W _ (by rw [eu];exact eu2) ?_
      have c9:¬ ((s2.L.map oS).length:Int) > 120:=by rw [List.length_map];have:=l2 (l1 hl);omega
      simp only [c9,if_false,c3]
      exact k2
  ·have c1:¬ (i:Int) < (s.orb.L.length:Int):=by rw [el];omega
   have c2:¬ (i:Int) < ((s.L.map oS).length:Int):=by rw [List.length_map];omega
   have eL:lpP (f + 1) s i = some s:=by rw [lpP,if_neg hi]
   rw [eL]
   constructor
   ·refine ev_succ ?_
    simp only [loopO,c1,if_false]
    exact Ev.now _
   ·refine ev_succ ?_
    simp only [Z60.l0,c2,if_false]
    exact Ev.now _
def start0 (a:List Nat × List Nat):PO:=⟨[canS a.1 a.2],[⟨#[]⟩],[-1],[0],[],[]⟩
def orbP (a:List Nat × List Nat):Option PO:=lpP 121 (start0 a) 0
theorem start_good {a:List Nat × List Nat} (ha:Sf a.1 a.2):Good (start0 a) :=
 ⟨fun x hx=>by obtain rfl:x = canS a.1 a.2:=(by simpa [start0] using hx);exact sf_canS ha,rfl,rfl,rfl,fun j hj=>by
  have hj:j < 1:=hj
  obtain rfl:j = 0:=by omega
  exact Nat.le_refl _,by simp [start0],by simp [start0]⟩
theorem orb_both {a:List Nat × List Nat} (ha:Sf a.1 a.2):Ev (fun k=>orbitO k (I a.1) (I a.2)) ((orbP a).map PO.orb)∧Ev (fun k=>Z60.f k (I a.1) (I a.2)) (specR (orbP a)):=by
 obtain ⟨h1,h2⟩:=orb_sim 121 0 (start0 a) (by omega) (start_good ha) (Nat.zero_le _) (by simp [start0]) (by simp [start0]) (by simp [start0])
 constructor
 ·unfold orbitO
  refine Ev.bind (impl_canon ha) ?_
  simp only [if_true]
  exact h1
 ·unfold Z60.f
  exact Ev.bind (spec_canon ha) h2
theorem orbO_no {r u:List Int} (h:¬ surfB r u = true):Ev (fun k=>orbitO k r u) none:=by
 unfold orbitO
 refine Ev.bind (impl_canon_no h) ?_
 simp only [Bool.false_eq_true,if_false]
 exact Ev.now _
end Go.Proofs.YtcggfjpnfodbaaaGreat.M
end
section
/- The orbit's size: the program and the reference agree. No conditions. -/
namespace Go.Proofs.YtcggfjpnfodbaaaGreat.M
set_option linter.unusedSimpArgs false
open Go.RowKit Go.Proofs.YtcggfjpnfodbaaaGreatW.PrintWords Go.Proofs.YtcggfjpnfodbaaaGreatW.PrintLast Go.Proofs.YtcggfjpnfodbaaaGreatW.PrintMore Go.Proofs.YtcggfjpnfodbaaaGreat.A
def orbR (r u:List Int):Option PO:=if surfB r u = true then orbP (N r,N u) else none
theorem N_I' (l:List Nat):N (I l) = l:=N_I l
theorem orbR_I {a:List Nat × List Nat} (ha:Sf a.1 a.2):orbR (I a.1) (I a.2) = orbP a:=by
 unfold orbR
 rw [if_pos (surfB_I.mpr ha),N_I',N_I']
theorem orbR_ev (r u:List Int):Ev (fun k=>orbitO k r u) ((orbR r u).map PO.orb):=by
 by_cases h:surfB r u = true
 ·obtain ⟨r',u',rfl,rfl,hs⟩:=surf_nat h
  rw [orbR_I (a:=(r',u')) hs]
  exact (orb_both (a:=(r',u')) hs).1
 ·have e:orbR r u = none:=if_neg h
  rw [e]
  exact orbO_no h
def outL:Option PO→List S27 × Bool
 | none=>([],false)
 | some s=>(s.L.map oS,true)
theorem specOrb_ev (r u:List Int):Ev (fun k=>Z68.f k r u) (outL (orbR r u)):=by
 unfold Z68.f
 refine Ev.bind (spec_surf r u) ?_
 by_cases h:surfB r u = true
 ·obtain ⟨r',u',rfl,rfl,hs⟩:=surf_nat h
  have k2:=(orb_both (a:=(r',u')) hs).2
  rw [orbR_I (a:=(r',u')) hs]
  simp only [h,if_true]
  refine Ev.bind k2 ?_
  cases orbP (r',u') with
  | none=>exact Ev.now _
  | some s=>exact Ev.now _
 ·have e:orbR r u = none:=if_neg h
  rw [e]
  simp only [h,if_false,Bool.false_eq_true]
  exact Ev.now _
def idxR:Option PO→Int
 | none=>-1
 | some s=>(s.L.length:Int)
theorem specIdx_ev (r u:List Int):Ev (fun k=>Z67.f k r u) (idxR (orbR r u)):=by
 unfold Z67.f
 refine Ev.bind (specOrb_ev r u) ?_
 cases orbR r u with
 | none =>
  simp only [outL,Bool.false_eq_true,if_false]
  exact Ev.now _
 | some s =>
  simp only [outL,if_true,List.length_map]
  exact Ev.now _
theorem implIdx_ev (r u:List Int):Ev (fun k=>Z64.f k r u) (idxR (orbR r u)):=by
 unfold Z64.f
 refine Ev.bind (orbR_ev r u) ?_
 cases orbR r u with
 | none=>exact Ev.now _
 | some s =>
  have e:s.orb.L.length = s.L.length:=List.length_map _
  simp only [Option.map_some,e]
  exact Ev.now _
end Go.Proofs.YtcggfjpnfodbaaaGreat.M
end
section
/- Is a surface in the orbit: the program and the reference agree. No conditions. -/
namespace Go.Proofs.YtcggfjpnfodbaaaGreat.M
set_option linter.unusedSimpArgs false
open Go.RowKit Go.Proofs.YtcggfjpnfodbaaaGreatW.PrintWords Go.Proofs.YtcggfjpnfodbaaaGreatW.PrintLast Go.Proofs.YtcggfjpnfodbaaaGreatW.PrintMore Go.Proofs.YtcggfjpnfodbaaaGreat.A
theorem round_good {s s':PO} {i:Nat} (hg:Good s) (hi:i < s.L.length) (hl:s.L.length≤120) (hT:s.T.length≤i) (hS:s.S.length≤i) (h:roundP i s = some s'):Good s'∧i < s'.L.length∧s'.L.length≤120∧s'.T.length≤i + 1∧s'.S.length≤i + 1:=by
 unfold roundP at h
 cases h84:stepP i 84 s with
 | none=>rw [h84] at h;cases h
 | some s1 =>
  rw [h84] at h
  have h83:stepP i 83 s1 = some s':=h
  obtain ⟨g1,i1,t1,ss1,l1⟩:=step_good hg hi (by omega) (by omega) h84
  obtain ⟨g2,i2,t2,ss2,l2⟩:=step_good g1 i1 (by omega) (by omega) h83
  have a1:s1.S.length = s.S.length:=by
   unfold stepP at h84
   split at h84
   ·have h:=Option.some.inj h84;subst h;rfl
   ·split at h84
    ·cases h84
    ·have h:=Option.some.inj h84;subst h;rfl
  have a2:s'.T.length = s1.T.length:=by
   unfold stepP at h83
   split at h83
   ·have h:=Option.some.inj h83;subst h;rfl
   ·split at h83
    ·cases h83
    ·have h:=Option.some.inj h83;subst h;rfl
  exact ⟨g2,i2,l2 (l1 hl),by omega,by omega⟩
theorem lp_good:∀ (f i:Nat) (s s':PO),Good s→i≤s.L.length→s.L.length≤120→s.T.length≤i→s.S.length≤i→lpP f s i = some s'→Good s'∧s'.L.length≤120:=by
 intro f
 induction f with
 | zero=>intro i s s' hg _ hl _ _ h;have h:=Option.some.inj h;subst h;exact ⟨hg,hl⟩
 | succ f ih =>
  intro i s s' hg hi hl hT hS h
  rw [lpP] at h
  by_cases c:i < s.L.length
  ·rw [if_pos c] at h
   cases e:roundP i s with
   | none=>rw [e] at h;cases h
   | some s1 =>
    rw [e] at h
    obtain ⟨g1,i1,l1,t1,u1⟩:=round_good hg c hl hT hS e
    exact ih (i + 1) s1 s' g1 (by omega) l1 t1 u1 h
  ·rw [if_neg c] at h
   have h:=Option.some.inj h
   subst h
   exact ⟨hg,hl⟩
theorem orbP_good {a:List Nat × List Nat} (ha:Sf a.1 a.2) {s:PO} (h:orbP a = some s):Good s∧s.L.length≤120 :=
 lp_good 121 0 (start0 a) s (start_good ha) (Nat.zero_le _) (by simp [start0]) (by simp [start0]) (by simp [start0]) h
theorem orbR_good {r u:List Int} {s:PO} (h:orbR r u = some s):Good s∧s.L.length≤120:=by
 unfold orbR at h
 by_cases c:surfB r u = true
 ·rw [if_pos c] at h
  obtain ⟨r',u',rfl,rfl,hs⟩:=surf_nat c
  rw [N_I',N_I'] at h
  exact orbP_good (a:=(r',u')) hs h
 ·rw [if_neg c] at h;cases h
end Go.Proofs.YtcggfjpnfodbaaaGreat.M
end
section
/- Drawn surfaces. No conditions. -/
namespace Go.Proofs.YtcggfjpnfodbaaaGreat.M
set_option linter.unusedVariables false
set_option linter.unusedSimpArgs false
open Go.RowKit Go.Proofs.YtcggfjpnfodbaaaGreatW.PrintWords Go.Proofs.YtcggfjpnfodbaaaGreatW.PrintLast Go.Proofs.YtcggfjpnfodbaaaGreatW.PrintMore Go.Proofs.YtcggfjpnfodbaaaGreat.A
theorem spec_shear {r u:List Nat} (hs:Sf r u):Ev (fun k=>Z59.f k (I r) (I u)) (I r,I (thn (inv r) u)):=by
 have hle:=hs.le
 unfold Z59.f
 have c1:([]:List Int).length + (I r).length < 17592186044416:=by rw [I_len];simp;omega
 simp only [Option.bind_some,c1,if_true,List.nil_append]
 refine Ev.bind (spec_inv hs.pr hs.le) (Ev.bind (spec_then (p:=inv r) (q:=u) (fun i hi=>?_) (by rw [inv_len];omega)) (Ev.now _))
 have:=g_lt (isP_inv hs.pr) hi
 rw [inv_len] at this
 rw [hs.eq]
 exact this
end Go.Proofs.YtcggfjpnfodbaaaGreat.M
end
section
/- The shear as a permutation of the orbit. No conditions. -/
namespace Go.Proofs.YtcggfjpnfodbaaaGreat.M
set_option linter.unusedVariables false
set_option linter.unusedSimpArgs false
open Go.RowKit Go.Proofs.YtcggfjpnfodbaaaGreatW.PrintWords Go.Proofs.YtcggfjpnfodbaaaGreatW.PrintLast Go.Proofs.YtcggfjpnfodbaaaGreatW.PrintMore Go.Proofs.YtcggfjpnfodbaaaGreat.A
theorem fi_app {L X:List (List Nat × List Nat)} {y:List Nat × List Nat} (h:y ∈ L):fi (L ++ X) y = fi L y:=by
 unfold fi
 rw [if_pos h,if_pos (List.mem_append_left _ h),List.idxOf_append,if_pos h]
structure TI (s:PO) (i:Nat):Prop where
 t:s.T = (List.range i).map (fun j=>fi s.L (nxt 84 (atL s.L j)))
 m:∀ j,j < i→nxt 84 (atL s.L j) ∈ s.L
theorem TI_app {s s':PO} {i:Nat} (h:TI s i) (hi:i≤s.L.length) (x:List Nat × List Nat) (hL:s'.L = s.L ++ [x]) (hT:s'.T = s.T):TI s' i:=by
 refine ⟨?_,fun j hj=>?_⟩
 ·rw [hT,h.t,hL]
  apply List.map_congr_left
  intro j hj
  have hj:=List.mem_range.mp hj
  rw [atL_app (by omega),fi_app (h.m j hj)]
 ·rw [hL,atL_app (by omega)]
  exact List.mem_append_left _ (h.m j hj)
theorem step84_T {s s':PO} {i:Nat} (h:TI s i) (hi:i < s.L.length) (e:stepP i 84 s = some s'):TI s' (i + 1):=by
 unfold stepP at e
 split at e
 ·rename_i hm
  have e:=Option.some.inj e
  subst e
  refine ⟨?_,fun j hj=>?_⟩
  ·show (if (84:Int) = 84 then s.T ++ [((s.L.idxOf (nxt 84 (atL s.L i)):Nat):Int)] else s.T) = _
   rw [if_pos rfl,List.range_succ,List.map_append,← h.t]
   congr 1
   show [_] = [fi s.L (nxt 84 (atL s.L i))]
   unfold fi
   rw [if_pos hm]
  ·by_cases ej:j = i
   ·rw [ej];exact hm
   ·exact h.m j (by omega)
 ·rename_i hm
  split at e
  ·cases e
  ·have e:=Option.some.inj e
   subst e
   refine ⟨?_,fun j hj=>?_⟩
   ·show (if (84:Int) = 84 then s.T ++ [(s.L.length:Int)] else s.T) = (List.range (i + 1)).map (fun j=>fi (s.L ++ [nxt 84 (atL s.L i)]) (nxt 84 (atL (s.L ++ [nxt 84 (atL s.L i)]) j)))
    rw [if_pos rfl,List.range_succ,List.map_append,h.t]
    congr 1
    ·apply List.map_congr_left
     intro j hj
     have hj:=List.mem_range.mp hj
     rw [atL_app (by omega),fi_app (h.m j hj)]
    ·show [(s.L.length:Int)] = [fi (s.L ++ [nxt 84 (atL s.L i)]) (nxt 84 (atL (s.L ++ [nxt 84 (atL s.L i)]) i))]
     rw [atL_app hi]
     unfold fi
     rw [if_pos (by simp),List.idxOf_append,if_neg hm]
     simp
   ·show nxt 84 (atL (s.L ++ [nxt 84 (atL s.L i)]) j) ∈ s.L ++ [nxt 84 (atL s.L i)]
    rw [atL_app (by omega)]
    by_cases ej:j = i
    ·rw [ej];simp
    ·exact List.mem_append_left _ (h.m j (by omega))
theorem step83_T {s s':PO} {i:Nat} {n:Nat} (h:TI s n) (hn:n≤s.L.length) (e:stepP i 83 s = some s'):TI s' n:=by
 unfold stepP at e
 split at e
 ·have e:=Option.some.inj e
  subst e
  exact ⟨h.t,h.m⟩
 ·split at e
  ·cases e
  ·have e:=Option.some.inj e
   subst e
   exact TI_app h hn _ rfl rfl
theorem lp_T:∀ (f i:Nat) (s s':PO),121≤f + i→Good s→i≤s.L.length→s.L.length≤120→s.T.length≤i→s.S.length≤i→TI s i→lpP f s i = some s'→TI s' s'.L.length:=by
 intro f
 induction f with
 | zero=>intro i s s' h1 _ h2 h3;omega
 | succ f ih =>
  intro i s s' hf hg hi hl hT hS hti h
  rw [lpP] at h
  by_cases c:i < s.L.length
  ·rw [if_pos c] at h
   cases e:roundP i s with
   | none=>rw [e] at h;cases h
   | some s1 =>
    rw [e] at h
    obtain ⟨g1,i1,l1,t1,u1⟩:=round_good hg c hl hT hS e
    refine ih (i + 1) s1 s' (by omega) g1 (by omega) l1 t1 u1 ?_ h
    unfold roundP at e
    cases e84:stepP i 84 s with
    | none=>rw [e84] at e;cases e
    | some s0 =>
     rw [e84] at e
     have e83:stepP i 83 s0 = some s1:=e
     have h0:=step_good hg c (by omega) (by omega) e84
     exact step83_T (step84_T hti c e84) (by have:=h0.2.1;omega) e83
  ·rw [if_neg c] at h
   have h:=Option.some.inj h
   subst h
   have e:s.L.length = i:=by omega
   rw [e]
   exact hti
theorem orbP_T {a:List Nat × List Nat} (ha:Sf a.1 a.2) {s:PO} (h:orbP a = some s):TI s s.L.length :=
 lp_T 121 0 (start0 a) s (by omega) (start_good ha) (Nat.zero_le _) (by simp [start0]) (by simp [start0]) (by simp [start0]) ⟨rfl,fun j hj=>by omega⟩ h
theorem orbR_T {r u:List Int} {s:PO} (h:orbR r u = some s):TI s s.L.length:=by
 unfold orbR at h
 by_cases c:surfB r u = true
 ·rw [if_pos c] at h
  obtain ⟨r',u',rfl,rfl,hs⟩:=surf_nat c
  rw [N_I',N_I'] at h
  exact orbP_T (a:=(r',u')) hs h
 ·rw [if_neg c] at h;cases h
theorem shears_ev {L:List (List Nat × List Nat)} (hL:∀ x ∈ L,Sf x.1 x.2) (hl:L.length≤1000):Ev (fun k=>Z50.f k (L.map oS)) ((List.range L.length).map (fun j=>fi L (nxt 84 (atL L j)))):=by
 unfold Z50.f
 have H:∀ d i:Nat,i + d = L.length→Ev (fun k=>Z50.l0 k (L.map oS) ((List.range i).map (fun j=>fi L (nxt 84 (atL L j)))) (L.map oS) (L.length:Int) (i:Int)) ((List.range L.length).map (fun j=>fi L (nxt 84 (atL L j)))):=by
  intro d
  induction d with
  | zero =>
   intro i hi
   obtain rfl:i = L.length:=by omega
   have c1:¬ ((L.length:Int) < (L.length:Int)):=by omega
   refine ev_succ ?_
   simp only [Z50.l0,c1,if_false]
   exact Ev.now _
  | succ d ih =>
   intro i hi
   have hil:i < L.length:=by omega
   have hy:=hL _ (atL_mem hil)
   have c1:(i:Int) < (L.length:Int):=by omega
   have c2:(0:Int)≤(i:Int):=by omega
   have c5:((List.range i).map (fun j=>fi L (nxt 84 (atL L j)))).length < 17592186044416:=by rw [List.length_map,List.length_range];omega
   have key:=ih (i + 1) (by omega)
   have c3:=w64s i (by omega)
   have el:lt 84 (atL L i) = ((atL L i).1,thn (inv (atL L i).1) (atL L i).2):=if_pos rfl
   have h1:Ev (fun k=>Z59.f k (I (atL L i).1) (I (atL L i).2)) (I (lt 84 (atL L i)).1,I (lt 84 (atL L i)).2):=by rw [el];exact spec_shear hy
   refine ev_succ ?_
   simp only [Z50.l0,c1,c2,List.length_map,rd_oS hil,if_true]
   refine Ev.bind h1 (Ev.bind (spec_canon (sf_lt hy 84).1) (Ev.bind (ofind_ev hL hl (nxt 84 (atL L i))) ?_))
   rw [List.length_map] at c5
   simp only [c5,c3,if_true]
   rw [List.range_succ,List.map_append] at key
   exact key
 rw [List.length_map]
 exact H L.length 0 (Nat.zero_add _)
theorem step_len {s s':PO} {i:Nat} {c:Int} (e:stepP i c s = some s'):s.L.length≤s'.L.length:=by
 unfold stepP at e
 split at e
 ·have e:=Option.some.inj e
  subst e
  exact Nat.le_refl _
 ·split at e
  ·cases e
  ·have e:=Option.some.inj e
   subst e
   show s.L.length≤(s.L ++ [_]).length
   rw [List.length_append]
   omega
theorem lp_len:∀ (f i:Nat) (s s':PO),lpP f s i = some s'→s.L.length≤s'.L.length:=by
 intro f
 induction f with
 | zero=>intro i s s' h;have h:=Option.some.inj h;subst h;exact Nat.le_refl _
 | succ f ih =>
  intro i s s' h
  rw [lpP] at h
  split at h
  ·cases e:roundP i s with
   | none=>rw [e] at h;cases h
   | some s1 =>
    rw [e] at h
    have h1:=ih _ _ _ h
    unfold roundP at e
    cases e84:stepP i 84 s with
    | none=>rw [e84] at e;cases e
    | some s0 =>
     rw [e84] at e
     have e83:stepP i 83 s0 = some s1:=e
     exact Nat.le_trans (step_len e84) (Nat.le_trans (step_len e83) h1)
  ·have h:=Option.some.inj h;subst h;exact Nat.le_refl _
theorem orbR_pos {r u:List Int} {s:PO} (h:orbR r u = some s):0 < s.L.length:=by
 unfold orbR at h
 by_cases c:surfB r u = true
 ·rw [if_pos c] at h
  exact lp_len _ _ _ _ h
 ·rw [if_neg c] at h;cases h
end Go.Proofs.YtcggfjpnfodbaaaGreat.M
end
section
/- The reference's sorting. No conditions. -/
namespace Go.Proofs.YtcggfjpnfodbaaaGreat.M
set_option linter.unusedVariables false
set_option linter.unusedSimpArgs false
open Go.RowKit Go.Proofs.YtcggfjpnfodbaaaGreatW.PrintWords Go.Proofs.YtcggfjpnfodbaaaGreatW.PrintLast Go.Proofs.YtcggfjpnfodbaaaGreatW.PrintMore Go.Proofs.YtcggfjpnfodbaaaGreat.A
theorem rd_leftD (a:List Nat) (z:Int) (b:List Nat) {k:Nat} (h:k < a.length):rd (I a ++ z :: I b) (k:Int) = ((g a k:Nat):Int):=by
 rw [← rdI]
 unfold rd
 rw [Int.toNat_natCast,List.getD_eq_getElem?_getD,List.getD_eq_getElem?_getD,List.getElem?_append_left (by rw [I_len];exact h)]
theorem set_atD (a:List Nat) (z v:Int) (b:List Nat):(I a ++ z :: I b).set a.length v = I a ++ v :: I b:=by
 rw [← I_len a]
 exact set_mid (I a) z v (I b)
theorem take_gD {a:List Nat} {k:Nat} (h:k < a.length):a.take (k + 1) = a.take k ++ [g a k]:=by
 rw [g_get h,List.take_append_getElem h]
theorem down_put (acc:List Nat) (hf:Fall acc) (hl:acc.length≤1000) (x:Nat) (L:List Int) (n j:Int) (res:List Int)
  (h:Ev (fun k=>Z72.l0 k (I (insD x acc)) L n (wrap64 (j + 1))) res) :
  ∀ (k:Nat) (z:Int),k≤acc.length→(∀ y ∈ acc.drop k,y < x)→Ev (fun q=>Z72.l1 q (I (acc.take k) ++ z :: I (acc.drop k)) (x:Int) (k:Int) L n j) res:=by
 intro k
 induction k with
 | zero =>
  intro z _ hd
  have e:=insD_at hf 0 (Nat.zero_le _) hd (.inl rfl)
  have hs:=set_atD (acc.take 0) z (x:Int) (acc.drop 0)
  refine ev_succ ?_
  have c1:¬ (((0:Nat):Int) > 0):=by omega
  have c2:(0:Int)≤((0:Nat):Int):=by omega
  have c3:((0:Nat):Int) < ((I (acc.take 0) ++ z :: I (acc.drop 0)).length:Int):=by simp;omega
  have c4:(I (acc.take 0) ++ z :: I (acc.drop 0)).set ((0:Nat):Int).toNat (x:Int) = I (insD x acc):=by
   rw [e,← I_app]
   exact hs
  simp only [Z72.l1,c1,c2,c3,c4,if_true,if_false]
  exact h
 | succ k ih =>
  intro z hk hd
  have hk':k < acc.length:=by omega
  have htl:(acc.take (k + 1)).length = k + 1:=by rw [List.length_take];omega
  have c1:((k + 1:Nat):Int) > 0:=by omega
  have c5:(0:Int)≤(k:Int):=by omega
  have hlen:(I (acc.take (k + 1)) ++ z :: I (acc.drop (k + 1))).length = acc.length + 1:=by
   rw [List.length_append,List.length_cons,I_len,I_len,htl,List.length_drop]
   omega
  have c6:(k:Int) < ((I (acc.take (k + 1)) ++ z :: I (acc.drop (k + 1))).length:Int):=by rw [hlen];omega
  have c7:(0:Int)≤((k + 1:Nat):Int):=by omega
  have c8:((k + 1:Nat):Int) < ((I (acc.take (k + 1)) ++ z :: I (acc.drop (k + 1))).length:Int):=by rw [hlen];omega
  have hgk:g (acc.take (k + 1)) k = g acc k:=by
   unfold g
   rw [List.getD_eq_getElem?_getD,List.getD_eq_getElem?_getD,List.getElem?_take]
   simp
  have c9:rd (I (acc.take (k + 1)) ++ z :: I (acc.drop (k + 1))) (k:Int) = ((g acc k:Nat):Int):=by
   rw [rd_leftD _ _ _ (by rw [htl];omega),hgk]
  have c3:wrap64 (((k + 1:Nat):Int) - 1) = (k:Int):=by rw [w64 (by omega) (by omega)];omega
  refine ev_succ ?_
  by_cases hlt:g acc k < x
  ·have c10:((g acc k:Nat):Int) < (x:Int):=by exact_mod_cast hlt
   have hs:(I (acc.take (k + 1)) ++ z :: I (acc.drop (k + 1))).set (((k + 1:Nat):Int)).toNat ((g acc k:Nat):Int) = I (acc.take k) ++ ((g acc k:Nat):Int) :: I (acc.drop k):=by
    have h1:=set_atD (acc.take (k + 1)) z ((g acc k:Nat):Int) (acc.drop (k + 1))
    rw [htl] at h1
    rw [Int.toNat_natCast,h1,take_gD hk',← I_app,I_one,List.append_assoc]
    have h2:acc.drop k = g acc k :: acc.drop (k + 1):=by rw [g_get hk'];exact List.drop_eq_getElem_cons hk'
    rw [h2]
    rfl
   have key:=ih ((g acc k:Nat):Int) (by omega) (fun y hy=>by
    have h2:acc.drop k = g acc k :: acc.drop (k + 1):=by rw [g_get hk'];exact List.drop_eq_getElem_cons hk'
    rw [h2] at hy
    rcases List.mem_cons.mp hy with rfl | hy
    ·exact hlt
    ·exact hd y hy)
   simp only [Z72.l1,c1,c3,c5,c6,c7,c8,c9,c10,hs,if_true]
   exact key
  ·have c10:¬ (((g acc k:Nat):Int) < (x:Int)):=by omega
   have e:=insD_at hf (k + 1) hk hd (.inr (by show x≤g acc k;omega))
   have c4:(I (acc.take (k + 1)) ++ z :: I (acc.drop (k + 1))).set (((k + 1:Nat):Int)).toNat (x:Int) = I (insD x acc):=by
    have h1:=set_atD (acc.take (k + 1)) z (x:Int) (acc.drop (k + 1))
    rw [htl] at h1
    rw [Int.toNat_natCast,h1,e,← I_app]
    rfl
   simp only [Z72.l1,c1,c3,c4,c5,c6,c7,c8,c9,c10,if_true,if_false]
   exact h
theorem down_sorted (l:List Nat) (hl:l.length≤1000):Ev (fun k=>Z72.f k (I l)) (I (sortD l)):=by
 unfold Z72.f
 have H:∀ d j:Nat,j + d = l.length→∀ acc:List Nat,Fall acc→acc.length = j→(l.drop j).foldl (fun a x=>insD x a) acc = sortD l→Ev (fun k=>Z72.l0 k (I acc) (I l) (l.length:Int) (j:Int)) (I (sortD l)):=by
  intro d
  induction d with
  | zero =>
   intro j hj acc hf ha he
   rw [List.drop_of_length_le (by omega)] at he
   refine ev_succ ?_
   have c1:¬ ((j:Int) < (l.length:Int)):=by omega
   simp only [Z72.l0,c1,if_false]
   rw [← he]
   exact Ev.now _
  | succ d ih =>
   intro j hj acc hf ha he
   have hjl:j < l.length:=by omega
   rw [List.drop_eq_getElem_cons hjl,List.foldl_cons,← g_get hjl] at he
   have key:=ih (j + 1) (by omega) (insD (g l j) acc) (insD_fall hf) (by rw [insD_len,ha]) he
   have c3:=w64s j (by omega)
   rw [← c3] at key
   have put:=down_put acc hf (by omega) (g l j) (I l) (l.length:Int) (j:Int) _ key acc.length 0 (Nat.le_refl _) (fun y hy=>by rw [List.drop_length] at hy;simp at hy)
   rw [List.take_length,List.drop_length,I_nil] at put
   have q1:acc.length + 1≤9000000000000000000:=by omega
   have c1:(j:Int) < (l.length:Int):=by omega
   have c2:(0:Int)≤(j:Int):=by omega
   have c5:(I acc).length < 17592186044416:=by rw [I_len];omega
   have c4:wrap64 (((I acc ++ [0]).length:Int) - 1) = (acc.length:Int):=by
    have e:((I acc ++ [0]).length:Int) - 1 = (acc.length:Int):=by rw [List.length_append,I_len];simp
    rw [e]
    exact w64 (by omega) (by omega)
   refine ev_succ ?_
   simp only [Z72.l0,c1,c2,c4,c5,rdI,I_len',if_true,Option.bind_some]
   exact put
 have key:=H l.length 0 (Nat.zero_add _) [] List.Pairwise.nil rfl (by rw [List.drop_zero];rfl)
 rw [← I_len l] at key
 exact key
end Go.Proofs.YtcggfjpnfodbaaaGreat.M
end
section
/- The cusps: the program and the reference agree. No conditions. -/
namespace Go.Proofs.YtcggfjpnfodbaaaGreat.M
set_option linter.unusedVariables false
set_option linter.unusedSimpArgs false
open Go.RowKit Go.Proofs.YtcggfjpnfodbaaaGreatW.PrintWords Go.Proofs.YtcggfjpnfodbaaaGreatW.PrintLast Go.Proofs.YtcggfjpnfodbaaaGreatW.PrintMore Go.Proofs.YtcggfjpnfodbaaaGreat.A
theorem sort_ints (l:List Nat) (hl:l.length≤1000) (h:∀ y ∈ l,y≤1000):Z0.f (I l) = some (I (sortD l)):=by
 unfold Z0.f
 have e1:(I l).map Int.toNat = l:=N_I _
 have e2:∀ x ∈ I l,0≤x∧x≤4611686018427387904:=by
  intro x hx
  obtain ⟨y,hy,rfl⟩:=List.mem_map.mp hx
  have:=h y hy
  show 0≤(y:Int)∧(y:Int)≤4611686018427387904
  omega
 rw [if_pos ⟨e2,by rw [I_len];omega⟩,e1]
 rfl
theorem cnt_set {seen:List Bool} {x:Nat} (hx:x < seen.length) (h:rdOf false seen (x:Int) = false):(seen.set x true).count false + 1 = seen.count false:=by
 have e:seen[x] = false:=by
  have:rdOf false seen (x:Int) = seen[x]:=by unfold rdOf;rw [Int.toNat_natCast,List.getD_eq_getElem?_getD,List.getElem?_eq_getElem hx];rfl
  rw [← this];exact h
 have hp:0 < seen.count false:=List.count_pos_iff.mpr (by rw [← e];exact List.getElem_mem hx)
 rw [List.count_set hx,e]
 simp
 omega
theorem cusps_both (T:List Int) (n:Nat) (hT:T.length = n) (hn:n≤120) (hr:∀ j:Nat,j < n→∃ y:Nat,y < n∧rd T (j:Int) = (y:Int)):∀ d i:Nat,i + d = n→∀ (out:List Nat) (seen:List Bool),seen.length = n→out.length≤i→(∀ y ∈ out,y≤n) →
  ∃ res:List Int,res.length≤n∧Ev (fun k=>Z66.l0 k T (I out) seen (n:Int) (i:Int)) (res,true)∧Ev (fun k=>Z63.l0 k T (I out) seen (n:Int) (i:Int)) (res,true):=by
 intro d
 induction d with
 | zero =>
  intro i hi out seen hs ho hy
  obtain rfl:i = n:=by omega
  have c1:¬ ((i:Int) < (i:Int)):=by omega
  refine ⟨I (sortD out),by rw [I_len,sortD_len];exact ho,ev_succ ?_,ev_succ ?_⟩
  ·simp only [Z66.l0,c1,if_false]
   exact Ev.bind (down_sorted out (by omega)) (Ev.now _)
  ·have e:=sort_ints out (by omega) (fun y h=>by have:=hy y h;omega)
   simp only [Z63.l0,c1,if_false,e,Option.bind_some]
   exact Ev.now _
 | succ d ih =>
  intro i hi out seen hs ho hy
  have hin:i < n:=by omega
  have c1:(i:Int) < (n:Int):=by omega
  have c3:=w64s i (by omega)
  have H:∀ (m:Nat) (seen:List Bool),seen.length = n→seen.count false = m→∀ c x:Nat,c + m≤n→x < n →
    ∃ res:List Int,res.length≤n∧Ev (fun k=>Z66.l1 k T (I out) seen (c:Int) (x:Int) (n:Int) (i:Int)) (res,true)∧Ev (fun k=>Z63.l1 k T (I out) seen (c:Int) (x:Int) (n:Int) (i:Int)) (res,true):=by
   intro m
   induction m with
   | zero =>
    intro seen hs hc c x hcm hx
    have b:rdOf false seen (x:Int) = true:=by
     cases e:rdOf false seen (x:Int) with
     | true=>rfl
     | false=>have:=cnt_set (by omega) e;omega
    have d1:(0:Int)≤(x:Int):=by omega
    have d2:(x:Int) < (seen.length:Int):=by omega
    by_cases d3:(c:Int) > 0
    ·obtain ⟨res,h0,h1,h2⟩:=ih (i + 1) (by omega) (out ++ [c]) seen hs (by rw [List.length_append,List.length_singleton];omega) (fun y h=>by
      rcases List.mem_append.mp h with h | h
      ·exact hy y h
      ·obtain rfl:y = c:=by simpa using h
       omega)
     have d4:(I out).length < 17592186044416:=by rw [I_len];omega
     have e1:I out ++ [(c:Int)] = I (out ++ [c]):=by show I out ++ I [c] = I (out ++ [c]);rw [I_app]
     refine ⟨res,h0,ev_succ ?_,ev_succ ?_⟩
     ·simp only [Z66.l1,d1,d2,b,d3,d4,c3,e1,if_true];exact h1
     ·simp only [Z63.l1,d1,d2,b,d3,d4,c3,e1,if_true];exact h2
    ·obtain ⟨res,h0,h1,h2⟩:=ih (i + 1) (by omega) out seen hs (by omega) hy
     refine ⟨res,h0,ev_succ ?_,ev_succ ?_⟩
     ·simp only [Z66.l1,d1,d2,b,d3,c3,if_true,if_false];exact h1
     ·simp only [Z63.l1,d1,d2,b,d3,c3,if_true,if_false];exact h2
   | succ m ihm =>
    intro seen hs hc c x hcm hx
    have d1:(0:Int)≤(x:Int):=by omega
    have d2:(x:Int) < (seen.length:Int):=by omega
    cases b:rdOf false seen (x:Int) with
    | true =>
     by_cases d3:(c:Int) > 0
     ·obtain ⟨res,h0,h1,h2⟩:=ih (i + 1) (by omega) (out ++ [c]) seen hs (by rw [List.length_append,List.length_singleton];omega) (fun y h=>by
       rcases List.mem_append.mp h with h | h
       ·exact hy y h
       ·obtain rfl:y = c:=by simpa using h
        omega)
      have d4:(I out).length < 17592186044416:=by rw [I_len];omega
      have e1:I out ++ [(c:Int)] = I (out ++ [c]):=by show I out ++ I [c] = I (out ++ [c]);rw [I_app]
      refine ⟨res,h0,ev_succ ?_,ev_succ ?_⟩
      ·simp only [Z66.l1,d1,d2,b,d3,d4,c3,e1,if_true];exact h1
      ·simp only [Z63.l1,d1,d2,b,d3,d4,c3,e1,if_true];exact h2
     ·obtain ⟨res,h0,h1,h2⟩:=ih (i + 1) (by omega) out seen hs (by omega) hy
      refine ⟨res,h0,ev_succ ?_,ev_succ ?_⟩
      ·simp only [Z66.l1,d1,d2,b,d3,c3,if_true,if_false];exact h1
      ·simp only [Z63.l1,d1,d2,b,d3,c3,if_true,if_false];exact h2
    | false =>
     have hc2:=cnt_set (by omega) b
     obtain ⟨y,hyn,ey⟩:=hr x hx
     have hsl:(seen.set x true).length = n:=by rw [List.length_set];exact hs
     obtain ⟨res,h0,h1,h2⟩:=ihm (seen.set x true) hsl (by omega) (c + 1) y (by omega) hyn
     have d5:(x:Int) < (T.length:Int):=by omega
     have d6:=w64s c (by omega)
     refine ⟨res,h0,ev_succ ?_,ev_succ ?_⟩
     ·simp only [Z66.l1,d1,d2,b,d5,d6,ey,Int.toNat_natCast,if_true,if_false,Bool.false_eq_true];exact h1
     ·simp only [Z63.l1,d1,d2,b,d5,d6,ey,Int.toNat_natCast,if_true,if_false,Bool.false_eq_true];exact h2
  have hcl:seen.count false≤n:=by rw [← hs];exact List.count_le_length
  obtain ⟨res,h0,h1,h2⟩:=H (seen.count false) seen hs rfl 0 i (by omega) hin
  refine ⟨res,h0,ev_succ ?_,ev_succ ?_⟩
  ·simp only [Z66.l0,c1,if_true];exact h1
  ·simp only [Z63.l0,c1,if_true];exact h2
theorem cusps_ev (r u:List Int):∃ (l:List Int) (b:Bool),l.length≤120∧Ev (fun k=>Z66.f k r u) (l,b)∧Ev (fun k=>Z63.f k r u) (l,b):=by
 have ho:=orbR_ev r u
 have hs:=specOrb_ev r u
 unfold Z66.f Z63.f
 cases e:orbR r u with
 | none =>
  rw [e] at ho hs
  refine ⟨[],false,by simp,?_,?_⟩
  ·refine Ev.bind hs ?_
   simp only [outL,Bool.false_eq_true,if_false]
   exact Ev.now _
  ·exact Ev.bind ho (Ev.now _)
 | some s =>
  obtain ⟨hg,hl⟩:=orbR_good e
  have ht:=orbR_T e
  have hp:=orbR_pos e
  rw [e] at ho hs
  have hTl:s.T.length = s.L.length:=by rw [ht.t,List.length_map,List.length_range]
  have hrd:∀ j:Nat,j < s.L.length→∃ y:Nat,y < s.L.length∧rd s.T (j:Int) = (y:Int):=by
   intro j hj
   refine ⟨s.L.idxOf (nxt 84 (atL s.L j)),List.idxOf_lt_length_of_mem (ht.m j hj),?_⟩
   have e1:fi s.L (nxt 84 (atL s.L j)) = ((s.L.idxOf (nxt 84 (atL s.L j)):Nat):Int):=if_pos (ht.m j hj)
   rw [ht.t,← e1]
   unfold rd
   rw [Int.toNat_natCast,List.getD_eq_getElem?_getD]
   simp [hj]
  obtain ⟨res,h0,h1,h2⟩:=cusps_both s.T s.L.length hTl hl hrd s.L.length 0 (Nat.zero_add _) [] (List.replicate s.L.length false) (by simp) (Nat.le_refl _) (fun y h=>by cases h)
  refine ⟨res,true,by omega,?_,?_⟩
  ·refine Ev.bind hs ?_
   simp only [outL,if_true]
   refine Ev.bind (shears_ev hg.sf (by omega)) ?_
   rw [← ht.t]
   have q1:(0:Int)≤(s.T.length:Int):=by omega
   have q2:((s.T.length:Int)).toNat≤281474976710656:=by rw [Int.toNat_natCast];omega
   simp only [q1,q2,if_true]
   rw [Int.toNat_natCast,hTl]
   exact h1
  ·refine Ev.bind ho ?_
   have el:s.orb.L.length = s.L.length:=List.length_map _
   have q3:s.orb.L.length≤281474976710656∧0 < s.orb.T.length:=⟨by rw [el];omega,by show 0 < s.T.length;omega⟩
   simp only [Option.map_some,q3,if_true,and_self]
   rw [el]
   exact h2
end Go.Proofs.YtcggfjpnfodbaaaGreat.M
end
section
/- Surfaces of the orbit that a word keeps: the program and the reference agree. No conditions. -/
namespace Go.Proofs.YtcggfjpnfodbaaaGreat.M
set_option linter.unusedSimpArgs false
open Go.RowKit Go.Proofs.YtcggfjpnfodbaaaGreatW.PrintWords Go.Proofs.YtcggfjpnfodbaaaGreatW.PrintLast Go.Proofs.YtcggfjpnfodbaaaGreatW.PrintMore Go.Proofs.YtcggfjpnfodbaaaGreat.A
def cntW (w:ByteArray):List (List Nat × List Nat)→Nat
 | []=>0
 | x :: l=>(if fixP (I x.1) (I x.2) w = true then 1 else 0) + cntW w l
theorem implCnt (w:ByteArray) (hw:w.size≤9000000000000000000):∀ (l:List (List Nat × List Nat)) (n:Nat),n + l.length≤1000000→Ev (fun k=>Z18.l0 k w (l.map oS) (n:Int)) ((n + cntW w l:Nat):Int):=by
 intro l
 induction l with
 | nil=>intro n _;exact Ev.now _
 | cons x l ih =>
  intro n hn
  have hl:(x :: l).length = l.length + 1:=rfl
  have hf:=(fixed_by (I x.1) (I x.2) w hw).2
  rw [List.map_cons]
  simp only [Z18.l0]
  refine Ev.bind hf ?_
  by_cases c:fixP (I x.1) (I x.2) w = true
  ·have c4:=w64s n (by omega)
   have e:((n + cntW w (x :: l):Nat):Int) = ((n + 1 + cntW w l:Nat):Int):=by rw [cntW,if_pos c];congr 1;omega
   rw [e]
   simp only [c,if_true,c4]
   exact ih (n + 1) (by omega)
  ·have e:((n + cntW w (x :: l):Nat):Int) = ((n + cntW w l:Nat):Int):=by rw [cntW,if_neg c];congr 1;omega
   rw [e]
   simp only [c,if_false,Bool.false_eq_true]
   exact ih n (by omega)
theorem specCnt (w:ByteArray) (hw:w.size≤9000000000000000000) (L:List (List Nat × List Nat)) (hL:L.length≤1000):∀ (d i n:Nat),i + d = L.length→n≤i→Ev (fun k=>Z61.l0 k w (n:Int) (L.map oS) (L.length:Int) (i:Int)) ((n + cntW w (L.drop i):Nat):Int):=by
 intro d
 induction d with
 | zero =>
  intro i n hi hn
  obtain rfl:i = L.length:=by omega
  have c1:¬ ((L.length:Int) < (L.length:Int)):=by omega
  refine ev_succ ?_
  simp only [Z61.l0,c1,if_false,List.drop_length,cntW,Nat.add_zero]
  exact Ev.now _
 | succ d ih =>
  intro i n hi hn
  have hil:i < L.length:=by omega
  have c1:(i:Int) < (L.length:Int):=by omega
  have c2:(0:Int)≤(i:Int):=by omega
  have c3:=w64s i (by omega)
  have c4:=w64s n (by omega)
  have hf:=(fixed_by (I (atL L i).1) (I (atL L i).2) w hw).1
  have ed:L.drop i = atL L i :: L.drop (i + 1):=by rw [List.drop_eq_getElem_cons hil,atL_get hil]
  refine ev_succ ?_
  simp only [Z61.l0,c1,c2,c3,List.length_map,rd_oS hil,if_true]
  refine Ev.bind hf ?_
  by_cases c:fixP (I (atL L i).1) (I (atL L i).2) w = true
  ·have e:((n + cntW w (L.drop i):Nat):Int) = ((n + 1 + cntW w (L.drop (i + 1)):Nat):Int):=by rw [ed,cntW,if_pos c];congr 1;omega
   rw [e]
   simp only [c,if_true,c4]
   exact ih (i + 1) (n + 1) (by omega) (by omega)
  ·have e:((n + cntW w (L.drop i):Nat):Int) = ((n + cntW w (L.drop (i + 1)):Nat):Int):=by rw [ed,cntW,if_neg c];congr 1;omega
   rw [e]
   simp only [c,if_false,Bool.false_eq_true]
   exact ih (i + 1) n (by omega) (by omega)
def fixN (w:ByteArray):Option PO→Int
 | none=>-1
 | some s=>((cntW w s.L:Nat):Int)
theorem fixN_both (r u:List Int) (w:ByteArray) (hw:w.size≤9000000000000000000):Ev (fun k=>Z61.f k r u w) (fixN w (orbR r u))∧Ev (fun k=>Z18.f k r u w) (fixN w (orbR r u)):=by
 have ho:=orbR_ev r u
 have hs:=specOrb_ev r u
 unfold Z61.f Z18.f
 cases e:orbR r u with
 | none =>
  rw [e] at ho hs
  constructor
  ·refine Ev.bind hs ?_
   simp only [outL,Bool.false_eq_true,if_false]
   exact Ev.now _
  ·exact Ev.bind ho (Ev.now _)
 | some s =>
  obtain ⟨hg,hl⟩:=orbR_good e
  rw [e] at ho hs
  constructor
  ·refine Ev.bind hs ?_
   simp only [outL,if_true,List.length_map]
   have key:=specCnt w hw s.L (by omega) s.L.length 0 0 (Nat.zero_add _) (Nat.le_refl _)
   rw [List.drop_zero,Nat.zero_add] at key
   exact key
  ·refine Ev.bind ho ?_
   have c:s.orb.L.length < 4611686018427387904:=by show (s.L.map oS).length < _;rw [List.length_map];omega
   simp only [Option.map_some,c,if_true]
   have key:=implCnt w hw s.L 0 (by omega)
   rw [Nat.zero_add] at key
   exact key
end Go.Proofs.YtcggfjpnfodbaaaGreat.M
end
section
/- The law of the genus of the curve answers true. No conditions. -/
namespace Go.Proofs.YtcggfjpnfodbaaaGreat.Pure
set_option linter.unusedVariables false
set_option linter.unusedSimpArgs false
set_option linter.unusedVariables false
set_option linter.unusedSimpArgs false
open Go.RowKit Go.Proofs.YtcggfjpnfodbaaaGreatW.PrintWords Go.Proofs.YtcggfjpnfodbaaaGreatW.PrintLast Go.Proofs.YtcggfjpnfodbaaaGreatW.PrintMore Go.Proofs.YtcggfjpnfodbaaaGreat.A Go.Proofs.YtcggfjpnfodbaaaGreat.M
theorem FnExactCurveGenus (r u:List Int) (hr:r.length≤maxLen) (_:∀ x ∈ r,(Lit.int .i64 x).wf = true) (hu:u.length≤maxLen) (_:∀ x ∈ u,(Lit.int .i64 x).wf = true):∃ k,Z1.F k r u:=by
 unfold maxLen at hr hu
 unfold Z1.F
 by_cases h2:r.length + u.length≤1048576
 ·obtain ⟨l,b,hl,q1,q2⟩:=cusps_ev r u
  have h:=fixed_by r u (⟨#[83,83]⟩:ByteArray) (by decide)
  have h1:Ev (fun k=>Z27.f k r u) (fixP r u (⟨#[83,83]⟩:ByteArray)):=by
   unfold Z27.f
   exact Ev.bind h.1 (Ev.now _)
  have h3:Ev (fun k=>Z22.f k r u) (fixP r u (⟨#[83,83]⟩:ByteArray)):=by
   unfold Z22.f
   exact Ev.bind h.2 (Ev.now _)
  have hb:=fixN_both r u (⟨#[83]⟩:ByteArray) (by decide)
  have t1:Ev (fun k=>Z20.f k r u) (fixN (⟨#[83]⟩:ByteArray) (orbR r u)):=by
   unfold Z20.f
   exact Ev.bind hb.1 (Ev.now _)
  have t2:Ev (fun k=>Z17.f k r u) (fixN (⟨#[83]⟩:ByteArray) (orbR r u)):=by
   unfold Z17.f
   exact Ev.bind hb.2 (Ev.now _)
  have hc:=fixN_both r u (⟨#[84,83]⟩:ByteArray) (by decide)
  have s1:Ev (fun k=>Z13.f k r u) (fixN (⟨#[84,83]⟩:ByteArray) (orbR r u)):=by
   unfold Z13.f
   exact Ev.bind hc.1 (Ev.now _)
  have s2:Ev (fun k=>Z9.f k r u) (fixN (⟨#[84,83]⟩:ByteArray) (orbR r u)):=by
   unfold Z9.f
   exact Ev.bind hc.2 (Ev.now _)
  have i1:=specIdx_ev r u
  have i2:=implIdx_ev r u
  have key:∃ g,Ev (fun k=>Z33.f k r u) g∧Ev (fun k=>Z30.f k r u) g:=by
   unfold Z33.f Z30.f
   generalize fixP r u (⟨#[83,83]⟩:ByteArray) = ht at h1 h3
   cases b with
   | false =>
    refine ⟨-1,Ev.bind q1 ?_,Ev.bind q2 (Ev.bind h3 ?_)⟩
    ·simp only [Bool.false_eq_true,if_false]
     refine ev_succ ?_
     simp only [Z33.j0,if_true]
     exact Ev.now _
    ·simp only [Bool.not_false,ite_self]
     refine ev_succ ?_
     simp only [Z30.j0,if_true]
     exact Ev.now _
   | true =>
    cases ht with
    | false =>
     refine ⟨-1,Ev.bind q1 ?_,Ev.bind q2 (Ev.bind h3 ?_)⟩
     ·simp only [if_true]
      refine Ev.bind h1 ?_
      refine ev_succ ?_
      simp only [Z33.j0,Bool.not_false,if_true]
      exact Ev.now _
     ·simp only [Bool.false_eq_true,if_false]
      refine ev_succ ?_
      simp only [Z30.j0,if_true]
      exact Ev.now _
    | true =>
     refine ⟨wrap64 (Int.tdiv (wrap64 ((wrap64 ((wrap64 ((wrap64 (12 + idxR (orbR r u))) - (wrap64 (3 * fixN (⟨#[83]⟩:ByteArray) (orbR r u))))) - (wrap64 (4 * fixN (⟨#[84,83]⟩:ByteArray) (orbR r u))))) - (wrap64 (6 * (l.length:Int))))) 12),Ev.bind q1 ?_,Ev.bind q2 (Ev.bind h3 ?_)⟩
     rotate_left
     ·simp only [if_true,Bool.not_true]
      refine ev_succ ?_
      simp only [Z30.j0,Bool.false_eq_true,if_false]
      exact Ev.bind i2 (Ev.bind t2 (Ev.bind s2 (Ev.now _)))
     ·simp only [if_true]
      refine Ev.bind h1 ?_
      refine ev_succ ?_
      simp only [Z33.j0,Bool.not_true,Bool.false_eq_true,if_false]
      exact Ev.bind i1 (Ev.bind t1 (Ev.bind s1 (Ev.now _)))
  obtain ⟨g,⟨K1,e1⟩,⟨K2,e2⟩⟩:=key
  obtain ⟨K3,e3⟩:=toSurf_ev r u (by omega) (by omega)
  obtain ⟨K4,e4⟩:=eqSurf_same r u (by omega) (by omega)
  exact ⟨K1 + K2 + K3 + K4,_,sz_small h2,.inr ⟨by omega,_,e3 _ (by omega),e4 _ (by omega),e1 _ (by omega),e2 _ (by omega)⟩⟩
 ·exact ⟨0,_,sz_big (by omega) (by omega) h2,.inl (by omega)⟩
end Go.Proofs.YtcggfjpnfodbaaaGreat.Pure
end
