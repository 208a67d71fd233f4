/- Lemmas for the row FnOrbits: the program's functions told as plain functions, and plain mathematics. No conditions. -/
import Derived.Test.YtcggfjpnfodbaaaQFnOrbits3
section
namespace Go.Proofs.Ytcggfjpnfodbaaa.A
open Go.RowKit Go.Proofs.YtcggfjpnfodbaaaW.PrintWords Go.Proofs.YtcggfjpnfodbaaaW.PrintLast Go.Proofs.YtcggfjpnfodbaaaW.PrintMore
attribute [local go_sem] max2_int min2_int max_two min_two max_three min_three max_four min_four
set_option linter.unusedVariables false
set_option linter.unusedSimpArgs false
mutual
def Z41.j0:Nat→List Int→List (S25)→Bool→List Int→List Int→Option (Bool)
 | 0,_,_,_,_,_=>none
 | k + 1,x0,x4,x42,x668000,x668001=>if x42 = true then (some false) else ((Z55.f k x0 40).bind fun t673=>(if (x4.length:Int) = 0 then (none) else (if 0≤(Int.tmod t673 (x4.length:Int)) then (if (Int.tmod t673 (x4.length:Int)) < (x4.length:Int) then ((Z27.f k x668000 x668001 ((rd_T25 x4 (Int.tmod t673 (x4.length:Int))).f0) ((rd_T25 x4 (Int.tmod t673 (x4.length:Int))).f1)).bind fun bt676=>((Z53.f k x668000 x668001 bt676.1).bind fun bt678=>((Z42.f k x0 50).bind fun t686=>((Z53.f k x668000 x668001 t686).bind fun bt687=>((Z50.f k ((rd_T25 x4 (Int.tmod t673 (x4.length:Int))).f0) ((rd_T25 x4 (Int.tmod t673 (x4.length:Int))).f1)).bind fun bt695=>(if bt676.2 = true then (if bt678.2.2 = true then (if bt687.2.2 = true then (if bt695.2.2 = true then ((Z5.f k bt678.1 bt678.2.1 ((rd_T25 x4 (Int.tmod t673 (x4.length:Int))).f0) ((rd_T25 x4 (Int.tmod t673 (x4.length:Int))).f1)).bind fun t703=>(if t703 = true then ((Z16.f k bt695.1 bt695.2.1 ((rd_T25 x4 (Int.tmod t673 (x4.length:Int))).f0) ((rd_T25 x4 (Int.tmod t673 (x4.length:Int))).f1)).bind fun t704=>(if t704 = true then ((Z28.f k x668000 x668001 bt687.1 bt687.2.1).bind fun t705=>(if t705 = true then ((Z28.f k bt687.1 bt687.2.1 x668000 x668001).bind fun t706=>(if t706 = true then ((Z51.f k ((rd_T25 x4 (Int.tmod t673 (x4.length:Int))).f0) ((rd_T25 x4 (Int.tmod t673 (x4.length:Int))).f1)).bind fun t707=>(Z41.j1 k x4 (t707 != (x4.length:Int)))) else (Z41.j1 k x4 true))) else (Z41.j1 k x4 true))) else (Z41.j1 k x4 true))) else (Z41.j1 k x4 true))) else (Z41.j1 k x4 true)) else (Z41.j1 k x4 true)) else (Z41.j1 k x4 true)) else (Z41.j1 k x4 true))))))) else (none)) else (none))))
def Z41.j1:Nat→List (S25)→Bool→Option (Bool)
 | 0,_,_=>none
 | k + 1,x4,x119=>if x119 = true then (some false) else (Z41.l0 k x4 x4 (x4.length:Int) 0)
def Z41.l0:Nat→List (S25)→List (S25)→Int→Int→Option (Bool)
 | 0,_,_,_,_=>none
 | k + 1,x4,x120,x121,x122=>if x122 < x121 then (if 0≤x122 then (if x122 < (x120.length:Int) then (if x122≤(x4.length:Int) then ((some (x4.take (x122:Int).toNat:List (S25))).bind fun y710=>(Z41.l1 k x4 x120 x121 x122 y710 (y710.length:Int) 0 ((rd_T25 x120 x122).f0) ((rd_T25 x120 x122).f1))) else (none)) else (none)) else (none)) else (some true)
def Z41.l1:Nat→List (S25)→List (S25)→Int→Int→List (S25)→Int→Int→List Int→List Int→Option (Bool)
 | 0,_,_,_,_,_,_,_,_,_=>none
 | k + 1,x4,x120,x121,x122,x129,x130,x131,x710000,x710001=>if x131 < x130 then (if 0≤x131 then (if x131 < (x129.length:Int) then ((Z16.f k x710000 x710001 ((rd_T25 x129 x131).f0) ((rd_T25 x129 x131).f1)).bind fun t716=>(if t716 = true then (some false) else (Z41.l1 k x4 x120 x121 x122 x129 x130 (wrap64 (x131 + 1)) x710000 x710001))) else (none)) else (none)) else (Z41.l0 k x4 x120 x121 (wrap64 (x122 + 1)))
end
def Z41.f (k:Nat) (l0:List Int):Option (Bool):=if (l0.length:Int) > 1048576 then (some true) else ((Z54.f k l0).bind fun bt661=>((Z52.f k bt661.1 bt661.2).bind fun bt668=>(if bt668.2 = true then (if (bt668.1.length:Int) = 0 then (Z41.j0 k l0 bt668.1 true bt661.1 bt661.2) else ((Z51.f k bt661.1 bt661.2).bind fun t672=>(Z41.j0 k l0 bt668.1 (t672 != (bt668.1.length:Int)) bt661.1 bt661.2))) else (Z41.j0 k l0 bt668.1 true bt661.1 bt661.2))))
theorem Z41.mono_l:∀ k,(∀ y0 y1 y2 y3 y4,LeO (Z41.j0 k y0 y1 y2 y3 y4) (Z41.j0 (k + 1) y0 y1 y2 y3 y4))∧(∀ y0 y1,LeO (Z41.j1 k y0 y1) (Z41.j1 (k + 1) y0 y1))∧(∀ y0 y1 y2 y3,LeO (Z41.l0 k y0 y1 y2 y3) (Z41.l0 (k + 1) y0 y1 y2 y3))∧(∀ y0 y1 y2 y3 y4 y5 y6 y7 y8,LeO (Z41.l1 k y0 y1 y2 y3 y4 y5 y6 y7 y8) (Z41.l1 (k + 1) y0 y1 y2 y3 y4 y5 y6 y7 y8))
 | 0=>⟨fun _ _ _ _ _ r h=>by simp [Z41.j0] at h,fun _ _ r h=>by simp [Z41.j1] at h,fun _ _ _ _ r h=>by simp [Z41.l0] at h,fun _ _ _ _ _ _ _ _ _ r h=>by simp [Z41.l1] at h⟩
 | k + 1=>by
  obtain ⟨ih0,ih1,ih2,ih3⟩:=Z41.mono_l k
  refine ⟨?_,?_,?_,?_⟩
  ·intro y0 y1 y2 y3 y4
   unfold Z41.j0
   repeat' first|exact ih0 _ _ _ _ _|exact ih1 _ _|exact ih2 _ _ _ _|exact ih3 _ _ _ _ _ _ _ _ _|exact Z5.mono _ _ _ _ _|exact Z50.mono _ _ _|exact Z51.mono _ _ _|exact Z52.mono _ _ _|exact Z27.mono _ _ _ _ _|exact Z53.mono _ _ _ _|exact Z28.mono _ _ _ _ _|exact Z16.mono _ _ _ _ _|exact Z54.mono _ _|exact Z55.mono _ _ _|exact Z42.mono _ _ _|exact lo_|refine LeO.ite ?_ ?_|refine LeO.bind ?_ (fun _=>?_)
  ·intro y0 y1
   unfold Z41.j1
   repeat' first|exact ih0 _ _ _ _ _|exact ih1 _ _|exact ih2 _ _ _ _|exact ih3 _ _ _ _ _ _ _ _ _|exact Z5.mono _ _ _ _ _|exact Z50.mono _ _ _|exact Z51.mono _ _ _|exact Z52.mono _ _ _|exact Z27.mono _ _ _ _ _|exact Z53.mono _ _ _ _|exact Z28.mono _ _ _ _ _|exact Z16.mono _ _ _ _ _|exact Z54.mono _ _|exact Z55.mono _ _ _|exact Z42.mono _ _ _|exact lo_|refine LeO.ite ?_ ?_|refine LeO.bind ?_ (fun _=>?_)
  ·intro y0 y1 y2 y3
   unfold Z41.l0
   repeat' first|exact ih0 _ _ _ _ _|exact ih1 _ _|exact ih2 _ _ _ _|exact ih3 _ _ _ _ _ _ _ _ _|exact Z5.mono _ _ _ _ _|exact Z50.mono _ _ _|exact Z51.mono _ _ _|exact Z52.mono _ _ _|exact Z27.mono _ _ _ _ _|exact Z53.mono _ _ _ _|exact Z28.mono _ _ _ _ _|exact Z16.mono _ _ _ _ _|exact Z54.mono _ _|exact Z55.mono _ _ _|exact Z42.mono _ _ _|exact lo_|refine LeO.ite ?_ ?_|refine LeO.bind ?_ (fun _=>?_)
  ·intro y0 y1 y2 y3 y4 y5 y6 y7 y8
   unfold Z41.l1
   repeat' first|exact ih0 _ _ _ _ _|exact ih1 _ _|exact ih2 _ _ _ _|exact ih3 _ _ _ _ _ _ _ _ _|exact Z5.mono _ _ _ _ _|exact Z50.mono _ _ _|exact Z51.mono _ _ _|exact Z52.mono _ _ _|exact Z27.mono _ _ _ _ _|exact Z53.mono _ _ _ _|exact Z28.mono _ _ _ _ _|exact Z16.mono _ _ _ _ _|exact Z54.mono _ _|exact Z55.mono _ _ _|exact Z42.mono _ _ _|exact lo_|refine LeO.ite ?_ ?_|refine LeO.bind ?_ (fun _=>?_)
theorem Z41.mono:∀ a0 k,LeO (Z41.f k a0) (Z41.f (k + 1) a0):=by
 intro a0 k
 obtain ⟨ih0,ih1,ih2,ih3⟩:=Z41.mono_l k
 unfold Z41.f
 repeat' first|exact ih0 _ _ _ _ _|exact ih1 _ _|exact ih2 _ _ _ _|exact ih3 _ _ _ _ _ _ _ _ _|exact Z5.mono _ _ _ _ _|exact Z50.mono _ _ _|exact Z51.mono _ _ _|exact Z52.mono _ _ _|exact Z27.mono _ _ _ _ _|exact Z53.mono _ _ _ _|exact Z28.mono _ _ _ _ _|exact Z16.mono _ _ _ _ _|exact Z54.mono _ _|exact Z55.mono _ _ _|exact Z42.mono _ _ _|exact lo_|refine LeO.ite ?_ ?_|refine LeO.bind ?_ (fun _=>?_)
def Z41.T10:Bool × List (List Nat × List Nat):=(true,[([],[]),([],[]),([1],[1]),([0,2,2],[0,2]),([3],[3]),([4],[4]),([4],[4]),([],[]),([7,5,3,0,1,2,3,4,5,7],[5,7]),([6,8,0,1,2,3,4,5,6,7,8],[6])])
def Z41.B10:List Nat:=[0,0,2,7,15,31,31,0,191,511]
theorem Z41.tab10:rtab .any (opsOf Try.f4 10) = Z41.T10:=by kernel_rfl
theorem Z41.bits10:waitsOk Z41.T10.2 Z41.B10 = true:=by kernel_rfl
theorem Z41.j0_true {y0 y1 y2 y4 y5} {r:Bool} (h:Z41.j0 y0 y1 y2 true y4 y5 = some r):r = false:=by
 cases y0 with
 | zero=>cases h
 | succ k=>exact (Option.some.inj (by simpa only [Z41.j0,if_true] using h)).symm
theorem Z41.j1_true {y0 y1} {r:Bool} (h:Z41.j1 y0 y1 true = some r):r = false:=by
 cases y0 with
 | zero=>cases h
 | succ k=>exact (Option.some.inj (by simpa only [Z41.j1,if_true] using h)).symm
theorem le_gd_ {b:Nat} {w W:World} {g:Nat} (h:Below b w W) (hg:g = W.heap.size) (hb:b≤w.heap.size:=by exact nA_ _):b≤g:=by rw [hg];exact Nat.le_trans hb h.size
set_option maxHeartbeats 8000000 in
set_option maxRecDepth 100000 in
theorem Z41.calls (k:Nat) (A0:Option Addr) (c0:Nat) (l0:List Int) (r:Bool) (w:World) (hr0:Kd.C (Kd.int .u8) w A0 l0.length l0) (hc0:l0.length≤c0) (h:Z41.f k l0 = some r) (hr1_:Aside0 (r = true)) :
  Calls Try.prog 4 #[.slice A0 l0.length c0] w fun e w'=>e = .returned (.bool r)∧Below w.heap.size w w':=by
 have hu25:=Try.underlying25
 have HR0:=A_ hr0
 have HC0:=A_ hc0
 clear hr0 hc0
 have HB:=A_ (Below.refl w.heap.size w)
 have H:=h
 unfold Z41.f at H
 clear h
 by_cases c2:(l0.length:Int) > 1048576
 ·rw [if_pos c2] at H
  have c2b0:decide (1048576 < (l0.length:Int)) = true:=oC_ c2
  have c2b1:decide (1048576 < l0.length) = true:=oC_ (by omega)
  clear c2
  obtain rfl:=Option.some.inj H
  go_enter Try.func4,Try.ntmps4
  go_wp2
  go_ret
  exact ⟨qb_,hB_⟩
 ·rw [if_neg c2] at H
  have c2b0:decide (1048576 < (l0.length:Int)) = false:=oD_ c2
  have c2b1:decide (1048576 < l0.length) = false:=oD_ (by omega)
  clear c2
  obtain ⟨⟨t661,t664⟩,A3,H⟩:=bi_ H
  try dsimp only at H
  obtain ⟨⟨t668,t671⟩,A4,H⟩:=bi_ H
  try dsimp only at H
  have HC5:=A_ H
  clear H
  go_enter Try.func4,Try.ntmps4
  go_upto_region 5 with (first | ((with_reducible refine gA_ (f:=14) rfl ?_);refine gL_ (some 23) Try.func14 #[.slice A0 l0.length c0] rfl qa_ ?_;(with_reducible refine (Z54.calls k _ _ l0 t661 t664 _ (cc_ HR0) HC0.out A3.out).mono ?_);rintro e w6 ⟨v662,v665,rfl,ho0,ho1,hb⟩;refine ⟨_,rfl,?_⟩;have HO663:=rl_ w ho0;have HO666:=rl_ w ho1;replace HB:=b1_ hb;clear hb ho0 ho1) | ((with_reducible refine gB_ (N:=3) rfl ?_);(try (refine gate_guard (by rfl) ?_;dsimp only));refine bx_ 3 #[.slice none 0 0,.slice none 0 0] 25 ?_;intro gb667 hg w7 hbox hb;replace HO663:=rb_ HO663 hb;replace HO666:=rb_ HO666 hb;have BK667:=A_ hbox;have GW667:=gw_ w hg;have GE667:=GW667;replace HB:=b1_ hb;clear hb hbox hg;obtain ⟨Ao8,co8,eo8⟩:=Kd.R_slice HO663.out;subst eo8;obtain ⟨hcz9_0,hcz9_1,hfz9_0,hfz9_1⟩:=c2_ BK667;obtain ⟨Ao10,co10,eo10⟩:=Kd.R_slice HO666.out;subst eo10) | ((with_reducible refine gA_ (f:=23) rfl ?_);refine gL_ (some 26) Try.func23 #[.agg #[.slice Ao8 t661.length co8,.slice Ao10 t664.length co10]] rfl qa_ ?_;(with_reducible refine (Z52.calls k _ _ t661 _ _ t664 t668 t671 _ ?side1 ?side2 ?side3 ?side4 A4.out).mono ?_);(case side1=>refine (Kd.R_reads' (e:=3) (base:=w.heap.size) (ok:=fun k_=>some k_≠(.slice Ao10 t664.length co10:Value).ownBlock) (n:=t661.length) (c:=co8) ?_).2.2;exact (rw_ (fa_ HO663 BK667)));(case side2=>exact (Kd.R_reads' HO663.out).2.1);(case side3=>refine (Kd.R_reads' (e:=3) (base:=w.heap.size) (ok:=fun k_=>some k_≠(.slice Ao8 t661.length co8:Value).ownBlock) (n:=t664.length) (c:=co10) ?_).2.2;exact (rw_ (fa_ HO666 BK667)));(case side4=>exact (Kd.R_reads' HO666.out).2.1);rintro e w11 ⟨v669,rfl,ho0,hb⟩;refine ⟨_,rfl,?_⟩;have HO670:=A_ (Kd.S_lower (Kd.S_newB (Kd.S_new' (Kd.S_new' ho0 (Kd.R_lt (rw_ (fa_ HO663 BK667)))) (Kd.R_lt (rw_ (fa_ HO666 BK667)))) (g:=gb667) (o:=.cells #[.slice Ao8 t661.length co8,.slice Ao10 t664.length co10] 25 (0,0)) qp_) (bF_ hB_));replace HO663:=A_ (rD_ (rw_ (fa_ HO663 BK667)) hb);replace HO666:=A_ (rD_ (rw_ (fa_ HO666 BK667)) hb);replace BK667:=A_ (kE_ (g:=gb667) (o:=.cells #[.slice Ao8 t661.length co8,.slice Ao10 t664.length co10] 25 (0,0)) qp_ hb);replace HB:=b1_ hb;clear hb ho0))
  (try simp only [Act.put,sA_,sB_,sC_])
  go_cut [42] (fun v42 wc=>∃ (kq:Nat) (x42_4:Bool),v42 = .bool x42_4∧Aside0 (Z41.j0 kq l0 t668 x42_4 t661 t664 = some r)∧Aside0 (kq≤k)∧Aside0 (Kd.S k25 25 wc w.heap.size (fun k_=>some k_≠((.slice Ao8 t661.length co8):Value).ownBlock∧some k_≠((.slice Ao10 t664.length co10):Value).ownBlock∧k_≠gb667) v669 t668)∧Aside0 (Kd.R (Kd.int .i64) 3 wc w.heap.size (fun k_=>some k_≠((.slice Ao10 t664.length co10):Value).ownBlock) (.slice Ao8 t661.length co8) t661)∧Aside0 (Kd.R (Kd.int .i64) 3 wc w.heap.size (fun k_=>some k_≠((.slice Ao8 t661.length co8):Value).ownBlock) (.slice Ao10 t664.length co10) t664)∧Aside0 (wc.heap[gb667]? = some (.cells #[(.slice Ao8 t661.length co8),(.slice Ao10 t664.length co10)] 25 (0,0)))∧Aside0 (Below w.heap.size w wc))
  case first =>
   have H:=HC5.out
   clear HC5
   by_cases c12:t671 = true
   ·subst c12
    rw [if_pos rfl] at H
    by_cases c13:(t668.length:Int) = 0
    ·rw [if_pos c13] at H
     have c13b0:((t668.length:Int) == 0) = true:=beq_iff_eq.mpr c13
     have c13b1:((t668.length:Int) != 0) = false:=bne_eq_false_iff_eq.mpr c13
     clear c13
     (first | rw [c13b0] | (simp only [i64_w,i32_w];rw [c13b0]) | skip)
     have H':=A_ H
     clear H
     obtain ⟨Ao14,co14,eo14⟩:=Kd.S_slice HO670.out
     subst eo14
     go_wp2
     go_meet
     case rel=>exact ⟨_,(true),qc_,H',⟨qd_⟩,⟨(sw_ (Kd.S_mono HO670.out (fun _ hk=>⟨hk.1.1.2,⟨hk.1.2,hk.2⟩⟩)))⟩,⟨(rr_ HO663)⟩,⟨(rr_ HO666)⟩,⟨(kk_ BK667)⟩,⟨hB_⟩⟩
    ·rw [if_neg c13] at H
     have c13b0:((t668.length:Int) == 0) = false:=beq_eq_false_iff_ne.mpr c13
     have c13b1:((t668.length:Int) != 0) = true:=bne_iff_ne.mpr c13
     have c13b2:¬ (t668 = []):=fun h_=>c13 (by rw [h_];rfl)
     (first | rw [c13b0] | (simp only [i64_w,i32_w];rw [c13b0]) | skip)
     obtain ⟨t672,A15,H⟩:=bi_ H
     have H':=A_ H
     clear H
     obtain ⟨Ao16,co16,eo16⟩:=Kd.S_slice HO670.out
     subst eo16
     obtain ⟨hcz17_0,hcz17_1,hfz17_0,hfz17_1⟩:=c2_ BK667
     go_wp2_with (first | (go_at_call 19;(with_reducible refine (Z51.calls k _ _ t661 _ _ t664 t672 _ (cr_ HO663) ((Kd.R_reads' HO663.out).2.1) (cr_ HO666) ((Kd.R_reads' HO666.out).2.1) A15.out).mono ?_);rintro e w18 ⟨rfl,hb⟩;replace HO663:=rb_ HO663 hb;replace HO666:=rb_ HO666 hb;replace HO670:=sb_ HO670 hb;replace BK667:=bb_ BK667 hb;replace HB:=b1_ hb;clear hb))
     go_meet
     case rel=>exact ⟨_,((t672 != (t668.length:Int))),qc_,H',⟨qd_⟩,⟨(sw_ (Kd.S_mono HO670.out (fun _ hk=>⟨hk.1.1.2,⟨hk.1.2,hk.2⟩⟩)))⟩,⟨(rr_ HO663)⟩,⟨(rr_ HO666)⟩,⟨(kk_ BK667)⟩,⟨hB_⟩⟩
   ·replace c12:=Bool.eq_false_iff.mpr c12
    subst c12
    have H1:(Z41.j0 k l0 t668 true t661 t664) = some r:=by rw [if_neg (show ¬ (false = true) by decide)] at H;exact H
    exact absurd (Z41.j0_true H1) (by rw [hr1_.out];decide)
  case rest =>
   clear HC5
   obtain ⟨kq,x42_4,rfl,HA,HJ4,HO_4,HO_668000,HO_668001,BK667,HB⟩:=hcut
   cases kq with
   | zero=>exact absurd HA.out (by simp [Z41.j0])
   | succ kj4 =>
    have H:=HA.out
    clear HA
    simp only [Z41.j0] at H
    by_cases c19:x42_4 = true
    ·subst c19
     rw [if_pos rfl] at H
     exact absurd (Option.some.inj H) (by rw [hr1_.out];decide)
    ·replace c19:=Bool.eq_false_iff.mpr c19
     subst c19
     have H1:((Z55.f kj4 l0 40).bind fun t673=>(if (t668.length:Int) = 0 then (none) else (if 0≤(Int.tmod t673 (t668.length:Int)) then (if (Int.tmod t673 (t668.length:Int)) < (t668.length:Int) then ((Z27.f kj4 t661 t664 ((rd_T25 t668 (Int.tmod t673 (t668.length:Int))).f0) ((rd_T25 t668 (Int.tmod t673 (t668.length:Int))).f1)).bind fun bt676=>((Z53.f kj4 t661 t664 bt676.1).bind fun bt678=>((Z42.f kj4 l0 50).bind fun t686=>((Z53.f kj4 t661 t664 t686).bind fun bt687=>((Z50.f kj4 ((rd_T25 t668 (Int.tmod t673 (t668.length:Int))).f0) ((rd_T25 t668 (Int.tmod t673 (t668.length:Int))).f1)).bind fun bt695=>(if bt676.2 = true then (if bt678.2.2 = true then (if bt687.2.2 = true then (if bt695.2.2 = true then ((Z5.f kj4 bt678.1 bt678.2.1 ((rd_T25 t668 (Int.tmod t673 (t668.length:Int))).f0) ((rd_T25 t668 (Int.tmod t673 (t668.length:Int))).f1)).bind fun t703=>(if t703 = true then ((Z16.f kj4 bt695.1 bt695.2.1 ((rd_T25 t668 (Int.tmod t673 (t668.length:Int))).f0) ((rd_T25 t668 (Int.tmod t673 (t668.length:Int))).f1)).bind fun t704=>(if t704 = true then ((Z28.f kj4 t661 t664 bt687.1 bt687.2.1).bind fun t705=>(if t705 = true then ((Z28.f kj4 bt687.1 bt687.2.1 t661 t664).bind fun t706=>(if t706 = true then ((Z51.f kj4 ((rd_T25 t668 (Int.tmod t673 (t668.length:Int))).f0) ((rd_T25 t668 (Int.tmod t673 (t668.length:Int))).f1)).bind fun t707=>(Z41.j1 kj4 t668 (t707 != (t668.length:Int)))) else (Z41.j1 kj4 t668 true))) else (Z41.j1 kj4 t668 true))) else (Z41.j1 kj4 t668 true))) else (Z41.j1 kj4 t668 true))) else (Z41.j1 kj4 t668 true)) else (Z41.j1 kj4 t668 true)) else (Z41.j1 kj4 t668 true)) else (Z41.j1 kj4 t668 true))))))) else (none)) else (none)))) = some r:=by rw [if_neg (show ¬ (false = true) by decide)] at H;exact H
     clear H
     have H:=H1
     clear H1
     obtain ⟨t673,A20,H⟩:=bi_ H
     by_cases c21:(t668.length:Int) = 0
     ·rw [if_pos c21] at H
      exact absurd H (by simp)
     ·rw [if_neg c21] at H
      have c21b0:((t668.length:Int) == 0) = false:=beq_eq_false_iff_ne.mpr c21
      have c21b1:((t668.length:Int) != 0) = true:=bne_iff_ne.mpr c21
      have c21b2:¬ (t668 = []):=fun h_=>c21 (by rw [h_];rfl)
      obtain ⟨ji22,hji22⟩:∃ j_:Int,(Int.tmod t673 (t668.length:Int)) = j_:=⟨_,rfl⟩
      replace H:(if 0≤(ji22) then (if (ji22) < (t668.length:Int) then ((Z27.f kj4 t661 t664 ((rd_T25 t668 (ji22)).f0) ((rd_T25 t668 (ji22)).f1)).bind fun bt676=>((Z53.f kj4 t661 t664 bt676.1).bind fun bt678=>((Z42.f kj4 l0 50).bind fun t686=>((Z53.f kj4 t661 t664 t686).bind fun bt687=>((Z50.f kj4 ((rd_T25 t668 (ji22)).f0) ((rd_T25 t668 (ji22)).f1)).bind fun bt695=>(if bt676.2 = true then (if bt678.2.2 = true then (if bt687.2.2 = true then (if bt695.2.2 = true then ((Z5.f kj4 bt678.1 bt678.2.1 ((rd_T25 t668 (ji22)).f0) ((rd_T25 t668 (ji22)).f1)).bind fun t703=>(if t703 = true then ((Z16.f kj4 bt695.1 bt695.2.1 ((rd_T25 t668 (ji22)).f0) ((rd_T25 t668 (ji22)).f1)).bind fun t704=>(if t704 = true then ((Z28.f kj4 t661 t664 bt687.1 bt687.2.1).bind fun t705=>(if t705 = true then ((Z28.f kj4 bt687.1 bt687.2.1 t661 t664).bind fun t706=>(if t706 = true then ((Z51.f kj4 ((rd_T25 t668 (ji22)).f0) ((rd_T25 t668 (ji22)).f1)).bind fun t707=>(Z41.j1 kj4 t668 (t707 != (t668.length:Int)))) else (Z41.j1 kj4 t668 true))) else (Z41.j1 kj4 t668 true))) else (Z41.j1 kj4 t668 true))) else (Z41.j1 kj4 t668 true))) else (Z41.j1 kj4 t668 true)) else (Z41.j1 kj4 t668 true)) else (Z41.j1 kj4 t668 true)) else (Z41.j1 kj4 t668 true))))))) else (none)) else (none)) = some r:=by first | (rw [hji22] at H;exact H) | (simp only [hji22] at H ⊢;exact H)
      (try rw [hji22] at A20)
      replace H:=cx_ H;obtain ⟨c23b0,H⟩:=H
      replace H:=cx_ H;obtain ⟨c24b0,H⟩:=H
      obtain ⟨⟨t676,t677⟩,A25,H⟩:=bi_ H
      try dsimp only at H
      obtain ⟨⟨t678,t681,t684⟩,A26,H⟩:=bi_ H
      try dsimp only at H
      obtain ⟨t686,A27,H⟩:=bi_ H
      obtain ⟨⟨t687,t690,t693⟩,A28,H⟩:=bi_ H
      try dsimp only at H
      obtain ⟨⟨t695,t698,t701⟩,A29,H⟩:=bi_ H
      try dsimp only at H
      have HC30:=A_ H
      clear H
      try go_wp2_with (first | ((with_reducible refine gA_ (f:=24) rfl ?_);refine gL_ (some 45) Try.func24 #[.slice A0 l0.length c0,.int .i64 40] rfl qa_ ?_;(with_reducible refine (Z55.calls kj4 _ _ l0 40 t673 _ (cb_ HR0) HC0.out A20.out).mono ?_);rintro e w31 ⟨rfl,hb⟩;refine ⟨_,rfl,?_⟩;replace HO_4:=sb_ HO_4 hb;replace HO_668000:=rb_ HO_668000 hb;replace HO_668001:=rb_ HO_668001 hb;replace BK667:=bb_ BK667 hb;replace HB:=b1_ hb;clear hb;obtain ⟨Ao32,co32,eo32⟩:=Kd.S_slice HO_4.out;subst eo32;have p674:0≤((ji22):Int):=oB_ qe_;have q674:(ji22) < (t668.length:Int):=oB_ qe_;obtain ⟨ad674,A674_0,c674_0,A674_1,c674_1,e674,hx674_0,hx674_1,hl674_0,hi674_0,hl674_1,hi674_1⟩:=at_T25 (Kd.S_reads' HO_4.out).2.2 (ji22) p674 q674;cases e674;obtain ⟨ce674,hce674,hMe674,hcc674⟩:=Kd.S_get HO_4.out z25 (ji22) p674 (by first | exact q674 | exact oB_ qe_ | (have e_:=(Kd.S_reads' HO_4.out).1;omega));obtain ⟨ve674_0,ve674_1,rfl,ge674_0,ge674_1⟩:=k25_openM hMe674;have hv674_0:=hcc674 0 _ rfl;rw [Nat.add_zero] at hv674_0;replace hv674_0:=Option.some.inj (hv674_0.symm.trans hx674_0);rw [hv674_0] at ge674_0;have HL674_0:=A_ (show Kd.R (Kd.int .i64) 3 _ _ _ _ ((rd_T25 t668 (ji22)).f0) from ge674_0);clear hv674_0 ge674_0;have hv674_1:=hcc674 1 _ rfl;rw [add_field _ _ 1 (by omega)] at hv674_1;replace hv674_1:=Option.some.inj (hv674_1.symm.trans hx674_1);rw [hv674_1] at ge674_1;have HL674_1:=A_ (show Kd.R (Kd.int .i64) 3 _ _ _ _ ((rd_T25 t668 (ji22)).f1) from ge674_1);clear hv674_1 ge674_1;clear hcc674 hce674;have HR674_0:=A_ hi674_0;have HC674_0:=A_ hl674_0;clear hi674_0 hl674_0;have HR674_1:=A_ hi674_1;have HC674_1:=A_ hl674_1;clear hi674_1 hl674_1;replace p674:=eq_true p674;replace q674:=eq_true q674) | ((with_reducible refine gB_ (N:=6) rfl ?_);(try (refine gate_guard (by rfl) ?_;dsimp only));refine bx_ 6 #[.slice none 0 0,.slice none 0 0] 25 ?_;intro gb675 hg w33 hbox hb;replace HO_4:=A_ (Kd.S_below (Kd.S_elderB (ss_ HO_4) gb675 (Nat.le_of_eq hg.symm)) hb);replace HO_668000:=rb_ HO_668000 hb;replace HO_668001:=rb_ HO_668001 hb;replace HL674_0:=rb_ HL674_0 hb;replace HL674_1:=rb_ HL674_1 hb;replace HR674_0:=A_ (cD_ (by repeat (first | (with_reducible exact HR674_0.out) | (with_reducible refine cA_ ?_ _) | (with_reducible refine cB_ ?_ _) | (with_reducible refine cC_ ?_) | exact HR674_0.out)) hb);replace HR674_1:=A_ (cD_ (by repeat (first | (with_reducible exact HR674_1.out) | (with_reducible refine cA_ ?_ _) | (with_reducible refine cB_ ?_ _) | (with_reducible refine cC_ ?_) | exact HR674_1.out)) hb);have BK675:=A_ hbox;have GW675:=gw_ w hg;have GE675:=GW675;replace HB:=b1_ hb;have NB667_675:=gN_ BK667 hg;have NB675_667:=gP_ BK667 hg;replace BK667:=bb_ BK667 hb;clear hb hbox hg;have hnb34:=NB675_667.out;have hnc34:=NB667_675.out;obtain ⟨hcz35_0,hcz35_1,hfz35_0,hfz35_1⟩:=c2_ BK675;obtain ⟨hcz36_0,hcz36_1,hfz36_0,hfz36_1⟩:=c2_ BK667) | ((with_reducible refine gA_ (f:=25) rfl ?_);refine gL_ (some 54) Try.func25 #[.agg #[.slice Ao8 t661.length co8,.slice Ao10 t664.length co10],.agg #[.slice A674_0 ((rd_T25 t668 (ji22)).f0).length c674_0,.slice A674_1 ((rd_T25 t668 (ji22)).f1).length c674_1]] rfl (by (try simp only [mA_,mB_,mC_]);first | done | (simp only [hji22];rfl) | rfl | (simp only [lA_,lB_];rfl)) ?_;(with_reducible refine (Z27.calls kj4 _ _ t661 _ _ t664 _ _ ((rd_T25 t668 (ji22)).f0) _ _ ((rd_T25 t668 (ji22)).f1) t676 t677 _ ?side1 ?side2 ?side3 ?side4 ?side5 ?side6 ?side7 ?side8 A25.out).mono ?_);(case side1=>refine (Kd.R_reads' (e:=3) (base:=w.heap.size) (ok:=fun k_=>some k_≠(.slice Ao10 t664.length co10:Value).ownBlock) (n:=t661.length) (c:=co8) ?_).2.2;exact (rw_ (Kd.R_mono (Kd.R_far (p:=⟨gb675,1,none⟩) (Kd.R_far (p:=⟨gb675,0,none⟩) (Kd.R_types HO_668000.out BK675.out (by decide)) (fun _ hk=>hk.2) (.slice A674_0 ((rd_T25 t668 (ji22)).f0).length c674_0)) (fun _ hk=>hk.2) (.slice A674_1 ((rd_T25 t668 (ji22)).f1).length c674_1)) (fun _ h_=>h_.1))));(case side2=>exact (Kd.R_reads' HO_668000.out).2.1);(case side3=>refine (Kd.R_reads' (e:=3) (base:=w.heap.size) (ok:=fun k_=>some k_≠(.slice Ao8 t661.length co8:Value).ownBlock) (n:=t664.length) (c:=co10) ?_).2.2;exact (rw_ (Kd.R_mono (Kd.R_far (p:=⟨gb675,1,none⟩) (Kd.R_far (p:=⟨gb675,0,none⟩) (Kd.R_types HO_668001.out BK675.out (by decide)) (fun _ hk=>hk.2) (.slice A674_0 ((rd_T25 t668 (ji22)).f0).length c674_0)) (fun _ hk=>hk.2) (.slice A674_1 ((rd_T25 t668 (ji22)).f1).length c674_1)) (fun _ h_=>h_.1))));(case side4=>exact (Kd.R_reads' HO_668001.out).2.1);(case side5=>repeat (first | exact ((Kd.R_reads' (rw_ (Kd.R_mono (Kd.R_far (p:=⟨gb675,1,none⟩) (Kd.R_far (p:=⟨gb675,0,none⟩) (Kd.R_types HL674_0.out BK675.out (by decide)) (fun _ hk=>hk.2) (.slice A674_0 ((rd_T25 t668 (ji22)).f0).length c674_0)) (fun _ hk=>hk.2) (.slice A674_1 ((rd_T25 t668 (ji22)).f1).length c674_1)) (fun _ h_=>h_.1)))).2.2) | (with_reducible first | refine cA_ ?_ _ | refine cB_ ?_ _ | refine cC_ ?_)));(case side6=>exact HC674_0.out);(case side7=>repeat (first | exact ((Kd.R_reads' (rw_ (Kd.R_mono (Kd.R_far (p:=⟨gb675,1,none⟩) (Kd.R_far (p:=⟨gb675,0,none⟩) (Kd.R_types HL674_1.out BK675.out (by decide)) (fun _ hk=>hk.2) (.slice A674_0 ((rd_T25 t668 (ji22)).f0).length c674_0)) (fun _ hk=>hk.2) (.slice A674_1 ((rd_T25 t668 (ji22)).f1).length c674_1)) (fun _ h_=>h_.1)))).2.2) | (with_reducible first | refine cA_ ?_ _ | refine cB_ ?_ _ | refine cC_ ?_)));(case side8=>exact HC674_1.out);rintro e w37 ⟨rfl,hb⟩;refine ⟨_,rfl,?_⟩;replace HO_4:=A_ (Kd.S_below (sw_ (Kd.S_mono (Kd.S_far (p:=⟨gb675,1,none⟩) (Kd.S_far (p:=⟨gb675,0,none⟩) (Kd.S_mono HO_4.out (fun k_ hk=>(⟨hk,hk.2⟩:_∧k_≠gb675))) (fun _ hk=>hk.2) (.slice A674_0 ((rd_T25 t668 (ji22)).f0).length c674_0)) (fun _ hk=>hk.2) (.slice A674_1 ((rd_T25 t668 (ji22)).f1).length c674_1)) (fun _ h_=>h_.1))) hb);replace HO_668000:=A_ (rD_ (rw_ (Kd.R_mono (Kd.R_far (p:=⟨gb675,1,none⟩) (Kd.R_far (p:=⟨gb675,0,none⟩) (Kd.R_types HO_668000.out BK675.out (by decide)) (fun _ hk=>hk.2) (.slice A674_0 ((rd_T25 t668 (ji22)).f0).length c674_0)) (fun _ hk=>hk.2) (.slice A674_1 ((rd_T25 t668 (ji22)).f1).length c674_1)) (fun _ h_=>h_.1))) hb);replace HO_668001:=A_ (rD_ (rw_ (Kd.R_mono (Kd.R_far (p:=⟨gb675,1,none⟩) (Kd.R_far (p:=⟨gb675,0,none⟩) (Kd.R_types HO_668001.out BK675.out (by decide)) (fun _ hk=>hk.2) (.slice A674_0 ((rd_T25 t668 (ji22)).f0).length c674_0)) (fun _ hk=>hk.2) (.slice A674_1 ((rd_T25 t668 (ji22)).f1).length c674_1)) (fun _ h_=>h_.1))) hb);replace BK667:=A_ (kE_ (g:=gb667) (o:=.cells #[.slice Ao8 t661.length co8,.slice Ao10 t664.length co10] 25 (0,0)) (by (with_reducible repeat (first | refine kA_ ?_ _ | refine kB_ ?_ | refine kC_ ?_ _));refine blk_far ?_ NB667_675.out _;(with_reducible repeat (first | refine kA_ ?_ _ | refine kB_ ?_ | refine kC_ ?_ _));refine blk_far ?_ NB667_675.out _;(with_reducible repeat (first | refine kA_ ?_ _ | refine kB_ ?_ | refine kC_ ?_ _));exact BK667.out) hb);replace HR674_0:=A_ (cD_ ((Kd.R_reads' (rw_ (Kd.R_mono (Kd.R_far (p:=⟨gb675,1,none⟩) (Kd.R_far (p:=⟨gb675,0,none⟩) (Kd.R_types HL674_0.out BK675.out (by decide)) (fun _ hk=>hk.2) (.slice A674_0 ((rd_T25 t668 (ji22)).f0).length c674_0)) (fun _ hk=>hk.2) (.slice A674_1 ((rd_T25 t668 (ji22)).f1).length c674_1)) (fun _ h_=>h_.1)))).2.2) hb);replace HL674_0:=A_ (rD_ (rw_ (Kd.R_mono (Kd.R_far (p:=⟨gb675,1,none⟩) (Kd.R_far (p:=⟨gb675,0,none⟩) (Kd.R_types HL674_0.out BK675.out (by decide)) (fun _ hk=>hk.2) (.slice A674_0 ((rd_T25 t668 (ji22)).f0).length c674_0)) (fun _ hk=>hk.2) (.slice A674_1 ((rd_T25 t668 (ji22)).f1).length c674_1)) (fun _ h_=>h_.1))) hb);replace HR674_1:=A_ (cD_ ((Kd.R_reads' (rw_ (Kd.R_mono (Kd.R_far (p:=⟨gb675,1,none⟩) (Kd.R_far (p:=⟨gb675,0,none⟩) (Kd.R_types HL674_1.out BK675.out (by decide)) (fun _ hk=>hk.2) (.slice A674_0 ((rd_T25 t668 (ji22)).f0).length c674_0)) (fun _ hk=>hk.2) (.slice A674_1 ((rd_T25 t668 (ji22)).f1).length c674_1)) (fun _ h_=>h_.1)))).2.2) hb);replace HL674_1:=A_ (rD_ (rw_ (Kd.R_mono (Kd.R_far (p:=⟨gb675,1,none⟩) (Kd.R_far (p:=⟨gb675,0,none⟩) (Kd.R_types HL674_1.out BK675.out (by decide)) (fun _ hk=>hk.2) (.slice A674_0 ((rd_T25 t668 (ji22)).f0).length c674_0)) (fun _ hk=>hk.2) (.slice A674_1 ((rd_T25 t668 (ji22)).f1).length c674_1)) (fun _ h_=>h_.1))) hb);replace BK675:=A_ (kE_ (g:=gb675) (o:=.cells #[.slice A674_0 ((rd_T25 t668 (ji22)).f0).length c674_0,.slice A674_1 ((rd_T25 t668 (ji22)).f1).length c674_1] 25 (0,0)) qp_ hb);replace HB:=b1_ hb;clear hb;obtain ⟨hcz38_0,hcz38_1,hfz38_0,hfz38_1⟩:=c2_ BK667) | ((with_reducible refine gA_ (f:=26) rfl ?_);refine gL_ (some 60) Try.func26 #[.agg #[.slice Ao8 t661.length co8,.slice Ao10 t664.length co10],.string t676] rfl qa_ ?_;(with_reducible refine (Z53.calls kj4 _ _ t661 _ _ t664 t676 t678 t681 t684 _ (cr_ HO_668000) ((Kd.R_reads' HO_668000.out).2.1) (cr_ HO_668001) ((Kd.R_reads' HO_668001.out).2.1) A26.out).mono ?_);rintro e w39 ⟨v679,v682,rfl,ho0,ho1,hb⟩;refine ⟨_,rfl,?_⟩;replace HO_4:=A_ (Kd.S_mono (Kd.S_told (Kd.S_told (Kd.S_old (ss_ HO_4) hb) (Kd.R_base ho0)) (Kd.R_base ho1)) (fun _ h_=>h_.1));have HO680:=A_ (rE_ (Kd.R_new' (Kd.R_new' (Kd.R_new' (Kd.R_new' ho0 (Kd.R_lt (rr_ HO_668000))) (Kd.R_lt (rr_ HO_668001))) (Kd.R_lt (rr_ HL674_0))) (Kd.R_lt (rr_ HL674_1))) (bF_ hB_));have HO683:=A_ (rE_ (Kd.R_new' (Kd.R_new' (Kd.R_new' (Kd.R_new' ho1 (Kd.R_lt (rr_ HO_668000))) (Kd.R_lt (rr_ HO_668001))) (Kd.R_lt (rr_ HL674_0))) (Kd.R_lt (rr_ HL674_1))) (bF_ hB_));replace HO_668000:=A_ (Kd.R_mono (Kd.R_told (Kd.R_told (Kd.R_old (rr_ HO_668000) hb) (Kd.R_base ho0)) (Kd.R_base ho1)) (fun _ h_=>h_.1));replace HO_668001:=A_ (Kd.R_mono (Kd.R_told (Kd.R_told (Kd.R_old (rr_ HO_668001) hb) (Kd.R_base ho0)) (Kd.R_base ho1)) (fun _ h_=>h_.1));replace HL674_0:=A_ (Kd.R_mono (Kd.R_told (Kd.R_told (Kd.R_old (rr_ HL674_0) hb) (Kd.R_base ho0)) (Kd.R_base ho1)) (fun _ h_=>h_.1));replace HL674_1:=A_ (Kd.R_mono (Kd.R_told (Kd.R_told (Kd.R_old (rr_ HL674_1) hb) (Kd.R_base ho0)) (Kd.R_base ho1)) (fun _ h_=>h_.1));replace BK667:=bb_ BK667 hb;replace HR674_0:=A_ (cD_ (by repeat (first | (with_reducible exact HR674_0.out) | (with_reducible refine cA_ ?_ _) | (with_reducible refine cB_ ?_ _) | (with_reducible refine cC_ ?_) | exact HR674_0.out)) hb);replace HR674_1:=A_ (cD_ (by repeat (first | (with_reducible exact HR674_1.out) | (with_reducible refine cA_ ?_ _) | (with_reducible refine cB_ ?_ _) | (with_reducible refine cC_ ?_) | exact HR674_1.out)) hb);replace BK675:=bb_ BK675 hb;replace HB:=b1_ hb;clear hb ho0 ho1) | ((with_reducible refine gB_ (N:=9) rfl ?_);(try (refine gate_guard (by rfl) ?_;dsimp only));refine bx_ 9 #[.slice none 0 0,.slice none 0 0] 25 ?_;intro gb685 hg w40 hbox hb;replace HO_4:=A_ (Kd.S_below (Kd.S_elderB (ss_ HO_4) gb685 (Nat.le_of_eq hg.symm)) hb);replace HO_668000:=rb_ HO_668000 hb;replace HO_668001:=rb_ HO_668001 hb;replace HL674_0:=rb_ HL674_0 hb;replace HL674_1:=rb_ HL674_1 hb;replace HO680:=rb_ HO680 hb;replace HO683:=rb_ HO683 hb;replace HR674_0:=A_ (cD_ (by repeat (first | (with_reducible exact HR674_0.out) | (with_reducible refine cA_ ?_ _) | (with_reducible refine cB_ ?_ _) | (with_reducible refine cC_ ?_) | exact HR674_0.out)) hb);replace HR674_1:=A_ (cD_ (by repeat (first | (with_reducible exact HR674_1.out) | (with_reducible refine cA_ ?_ _) | (with_reducible refine cB_ ?_ _) | (with_reducible refine cC_ ?_) | exact HR674_1.out)) hb);have BK685:=A_ hbox;have GW685:=gw_ w hg;have GE685:=GW685;replace HB:=b1_ hb;have NB667_685:=gN_ BK667 hg;have NB685_667:=gP_ BK667 hg;replace BK667:=bb_ BK667 hb;have NB675_685:=gN_ BK675 hg;have NB685_675:=gP_ BK675 hg;replace BK675:=bb_ BK675 hb;clear hb hbox hg;obtain ⟨Ao41,co41,eo41⟩:=Kd.R_slice HO680.out;subst eo41;have hnb42:=NB685_667.out;have hnc42:=NB667_685.out;have hnb43:=NB685_675.out;have hnc43:=NB675_685.out;obtain ⟨hcz44_0,hcz44_1,hfz44_0,hfz44_1⟩:=c2_ BK685;obtain ⟨Ao45,co45,eo45⟩:=Kd.R_slice HO683.out;subst eo45))
      have n0_:Aside0 (Kd.S k25 25 ((w40.setCell ⟨gb685,0,none⟩ (.slice Ao41 t678.length co41)).setCell ⟨gb685,1,none⟩ (.slice Ao45 t681.length co45)) w.heap.size (fun k_=>some k_≠(.slice Ao8 t661.length co8:Value).ownBlock∧some k_≠(.slice Ao10 t664.length co10:Value).ownBlock∧some k_≠(.slice Ao41 t678.length co41:Value).ownBlock∧some k_≠(.slice Ao45 t681.length co45:Value).ownBlock∧k_≠gb667∧k_≠gb675∧k_≠gb685) (.slice (some ad674) t668.length co32) t668):=⟨(sw_ (Kd.S_mono (Kd.S_far (p:=⟨gb685,1,none⟩) (Kd.S_far (p:=⟨gb685,0,none⟩) (Kd.S_mono HO_4.out (fun k_ hk=>(⟨hk,hk.2⟩:_∧k_≠gb685))) (fun _ hk=>hk.2) (.slice Ao41 t678.length co41)) (fun _ hk=>hk.2) (.slice Ao45 t681.length co45)) (fun _ hk=>⟨hk.1.1.1.1.1.1,⟨hk.1.1.1.1.1.2.1,⟨hk.1.1.1.2,⟨hk.1.1.2,⟨hk.1.1.1.1.1.2.2,⟨hk.1.1.1.1.2,hk.1.2⟩⟩⟩⟩⟩⟩)))⟩
      have n1_:Aside0 (Kd.R (Kd.int .i64) 3 ((w40.setCell ⟨gb685,0,none⟩ (.slice Ao41 t678.length co41)).setCell ⟨gb685,1,none⟩ (.slice Ao45 t681.length co45)) w.heap.size (fun k_=>some k_≠(.slice Ao10 t664.length co10:Value).ownBlock∧some k_≠(.slice Ao41 t678.length co41:Value).ownBlock∧some k_≠(.slice Ao45 t681.length co45:Value).ownBlock) (.slice Ao8 t661.length co8) t661):=⟨(rw_ (Kd.R_mono (Kd.R_far (p:=⟨gb685,1,none⟩) (Kd.R_far (p:=⟨gb685,0,none⟩) (Kd.R_types HO_668000.out BK685.out (by decide)) (fun _ hk=>hk.2) (.slice Ao41 t678.length co41)) (fun _ hk=>hk.2) (.slice Ao45 t681.length co45)) (fun _ hk=>⟨hk.1.1.1,⟨hk.1.1.2,hk.1.2⟩⟩)))⟩
      have n2_:Aside0 (Kd.R (Kd.int .i64) 3 ((w40.setCell ⟨gb685,0,none⟩ (.slice Ao41 t678.length co41)).setCell ⟨gb685,1,none⟩ (.slice Ao45 t681.length co45)) w.heap.size (fun k_=>some k_≠(.slice Ao8 t661.length co8:Value).ownBlock∧some k_≠(.slice Ao41 t678.length co41:Value).ownBlock∧some k_≠(.slice Ao45 t681.length co45:Value).ownBlock) (.slice Ao10 t664.length co10) t664):=⟨(rw_ (Kd.R_mono (Kd.R_far (p:=⟨gb685,1,none⟩) (Kd.R_far (p:=⟨gb685,0,none⟩) (Kd.R_types HO_668001.out BK685.out (by decide)) (fun _ hk=>hk.2) (.slice Ao41 t678.length co41)) (fun _ hk=>hk.2) (.slice Ao45 t681.length co45)) (fun _ hk=>⟨hk.1.1.1,⟨hk.1.1.2,hk.1.2⟩⟩)))⟩
      have n3_:Aside0 (Kd.R (Kd.int .i64) 3 ((w40.setCell ⟨gb685,0,none⟩ (.slice Ao41 t678.length co41)).setCell ⟨gb685,1,none⟩ (.slice Ao45 t681.length co45)) w.heap.size (fun k_=>some k_≠(.slice (some ad674) t668.length co32:Value).ownBlock∧some k_≠(.slice Ao8 t661.length co8:Value).ownBlock∧some k_≠(.slice Ao10 t664.length co10:Value).ownBlock∧some k_≠(.slice Ao41 t678.length co41:Value).ownBlock∧some k_≠(.slice Ao45 t681.length co45:Value).ownBlock∧k_≠gb667) (.slice A674_0 ((rd_T25 t668 (ji22)).f0).length c674_0) ((rd_T25 t668 (ji22)).f0)):=⟨(rw_ (Kd.R_mono (Kd.R_far (p:=⟨gb685,1,none⟩) (Kd.R_far (p:=⟨gb685,0,none⟩) (Kd.R_types HL674_0.out BK685.out (by decide)) (fun _ hk=>hk.2) (.slice Ao41 t678.length co41)) (fun _ hk=>hk.2) (.slice Ao45 t681.length co45)) (fun _ hk=>⟨hk.1.1.1.2,⟨hk.1.1.1.1.1,⟨hk.1.1.1.1.2.1,⟨hk.1.1.2,⟨hk.1.2,hk.1.1.1.1.2.2⟩⟩⟩⟩⟩)))⟩
      have n4_:Aside0 (Kd.R (Kd.int .i64) 3 ((w40.setCell ⟨gb685,0,none⟩ (.slice Ao41 t678.length co41)).setCell ⟨gb685,1,none⟩ (.slice Ao45 t681.length co45)) w.heap.size (fun k_=>some k_≠(.slice (some ad674) t668.length co32:Value).ownBlock∧some k_≠(.slice Ao8 t661.length co8:Value).ownBlock∧some k_≠(.slice Ao10 t664.length co10:Value).ownBlock∧some k_≠(.slice Ao41 t678.length co41:Value).ownBlock∧some k_≠(.slice Ao45 t681.length co45:Value).ownBlock∧k_≠gb667) (.slice A674_1 ((rd_T25 t668 (ji22)).f1).length c674_1) ((rd_T25 t668 (ji22)).f1)):=⟨(rw_ (Kd.R_mono (Kd.R_far (p:=⟨gb685,1,none⟩) (Kd.R_far (p:=⟨gb685,0,none⟩) (Kd.R_types HL674_1.out BK685.out (by decide)) (fun _ hk=>hk.2) (.slice Ao41 t678.length co41)) (fun _ hk=>hk.2) (.slice Ao45 t681.length co45)) (fun _ hk=>⟨hk.1.1.1.2,⟨hk.1.1.1.1.1,⟨hk.1.1.1.1.2.1,⟨hk.1.1.2,⟨hk.1.2,hk.1.1.1.1.2.2⟩⟩⟩⟩⟩)))⟩
      have n5_:Aside0 (Kd.R (Kd.int .i64) 3 ((w40.setCell ⟨gb685,0,none⟩ (.slice Ao41 t678.length co41)).setCell ⟨gb685,1,none⟩ (.slice Ao45 t681.length co45)) w.heap.size (fun k_=>some k_≠(.slice Ao8 t661.length co8:Value).ownBlock∧some k_≠(.slice Ao10 t664.length co10:Value).ownBlock∧some k_≠(.slice A674_0 ((rd_T25 t668 (ji22)).f0).length c674_0:Value).ownBlock∧some k_≠(.slice A674_1 ((rd_T25 t668 (ji22)).f1).length c674_1:Value).ownBlock∧some k_≠(.slice Ao45 t681.length co45:Value).ownBlock) (.slice Ao41 t678.length co41) t678):=⟨(rw_ (Kd.R_mono (Kd.R_far (p:=⟨gb685,1,none⟩) (Kd.R_far (p:=⟨gb685,0,none⟩) (Kd.R_types HO680.out BK685.out (by decide)) (fun _ hk=>hk.2) (.slice Ao41 t678.length co41)) (fun _ hk=>hk.2) (.slice Ao45 t681.length co45)) (fun _ hk=>⟨hk.1.1.1.1.2,⟨hk.1.1.1.2,⟨hk.1.1.2,⟨hk.1.2,hk.1.1.1.1.1⟩⟩⟩⟩)))⟩
      have n6_:Aside0 (Kd.R (Kd.int .i64) 3 ((w40.setCell ⟨gb685,0,none⟩ (.slice Ao41 t678.length co41)).setCell ⟨gb685,1,none⟩ (.slice Ao45 t681.length co45)) w.heap.size (fun k_=>some k_≠(.slice Ao8 t661.length co8:Value).ownBlock∧some k_≠(.slice Ao10 t664.length co10:Value).ownBlock∧some k_≠(.slice A674_0 ((rd_T25 t668 (ji22)).f0).length c674_0:Value).ownBlock∧some k_≠(.slice A674_1 ((rd_T25 t668 (ji22)).f1).length c674_1:Value).ownBlock∧some k_≠(.slice Ao41 t678.length co41:Value).ownBlock) (.slice Ao45 t681.length co45) t681):=⟨(rw_ (Kd.R_mono (Kd.R_far (p:=⟨gb685,1,none⟩) (Kd.R_far (p:=⟨gb685,0,none⟩) (Kd.R_types HO683.out BK685.out (by decide)) (fun _ hk=>hk.2) (.slice Ao41 t678.length co41)) (fun _ hk=>hk.2) (.slice Ao45 t681.length co45)) (fun _ hk=>⟨hk.1.1.1.1.2,⟨hk.1.1.1.2,⟨hk.1.1.2,⟨hk.1.2,hk.1.1.1.1.1⟩⟩⟩⟩)))⟩
      have n7_:Aside0 (((w40.setCell ⟨gb685,0,none⟩ (.slice Ao41 t678.length co41)).setCell ⟨gb685,1,none⟩ (.slice Ao45 t681.length co45)).heap[gb667]? = some (.cells #[.slice Ao8 t661.length co8,.slice Ao10 t664.length co10] 25 (0,0))):=⟨by (with_reducible repeat (first | refine kA_ ?_ _ | refine kB_ ?_ | refine kC_ ?_ _));refine blk_far ?_ NB667_685.out _;(with_reducible repeat (first | refine kA_ ?_ _ | refine kB_ ?_ | refine kC_ ?_ _));refine blk_far ?_ NB667_685.out _;(with_reducible repeat (first | refine kA_ ?_ _ | refine kB_ ?_ | refine kC_ ?_ _));exact BK667.out⟩
      have n8_:Aside0 (((w40.setCell ⟨gb685,0,none⟩ (.slice Ao41 t678.length co41)).setCell ⟨gb685,1,none⟩ (.slice Ao45 t681.length co45)).heap[gb675]? = some (.cells #[.slice A674_0 ((rd_T25 t668 (ji22)).f0).length c674_0,.slice A674_1 ((rd_T25 t668 (ji22)).f1).length c674_1] 25 (0,0))):=⟨by (with_reducible repeat (first | refine kA_ ?_ _ | refine kB_ ?_ | refine kC_ ?_ _));refine blk_far ?_ NB675_685.out _;(with_reducible repeat (first | refine kA_ ?_ _ | refine kB_ ?_ | refine kC_ ?_ _));refine blk_far ?_ NB675_685.out _;(with_reducible repeat (first | refine kA_ ?_ _ | refine kB_ ?_ | refine kC_ ?_ _));exact BK675.out⟩
      have n9_:Aside0 (((w40.setCell ⟨gb685,0,none⟩ (.slice Ao41 t678.length co41)).setCell ⟨gb685,1,none⟩ (.slice Ao45 t681.length co45)).heap[gb685]? = some (.cells #[.slice Ao41 t678.length co41,.slice Ao45 t681.length co45] 25 (0,0))):=⟨qp_⟩
      have n10_:Aside0 (Below w.heap.size w ((w40.setCell ⟨gb685,0,none⟩ (.slice Ao41 t678.length co41)).setCell ⟨gb685,1,none⟩ (.slice Ao45 t681.length co45))):=⟨hB_⟩
      (try clear HO_4)
      (try clear HO_668000)
      (try clear HO_668001)
      (try clear HL674_0)
      (try clear HL674_1)
      (try clear HO680)
      (try clear HO683)
      (try clear BK667)
      (try clear BK675)
      (try clear BK685)
      (try clear HB)
      generalize ((w40.setCell ⟨gb685,0,none⟩ (.slice Ao41 t678.length co41)).setCell ⟨gb685,1,none⟩ (.slice Ao45 t681.length co45)) = w46 at n0_ n1_ n2_ n3_ n4_ n5_ n6_ n7_ n8_ n9_ n10_ ⊢
      have HO_4:=n0_
      have HO_668000:=n1_
      have HO_668001:=n2_
      have HL674_0:=n3_
      have HL674_1:=n4_
      have HO680:=n5_
      have HO683:=n6_
      have BK667:=n7_
      have BK675:=n8_
      have BK685:=n9_
      have HB:=n10_
      clear n0_ n1_ n2_ n3_ n4_ n5_ n6_ n7_ n8_ n9_ n10_
      replace HO_4:=A_ (Kd.S_drew HO_4.out)
      replace HO_668000:=A_ (rC_ HO_668000.out)
      replace HO_668001:=A_ (rC_ HO_668001.out)
      replace HL674_0:=A_ (rC_ HL674_0.out)
      replace HL674_1:=A_ (rC_ HL674_1.out)
      replace HO680:=A_ (rC_ HO680.out)
      replace HO683:=A_ (rC_ HO683.out)
      replace BK667:=A_ (kB_ BK667.out)
      replace BK675:=A_ (kB_ BK675.out)
      replace BK685:=A_ (kB_ BK685.out)
      replace HB:=A_ (bC_ HB.out)
      refine start_ (n:=10) (S:=fun w'=>w'.cell? ⟨gb667,0,none⟩ = some (.slice Ao8 t661.length co8)∧w'.cell? ⟨gb667,1,none⟩ = some (.slice Ao10 t664.length co10)) (ds:=[]) (bl_ 10 0) (by kernel_rfl) rfl (by kernel_rfl) ⟨cz0_ BK667,cz1_ BK667⟩ (fun hHeld=>?_);refine with_tabW Z41.tab10 Z41.bits10 (fun HT_ HW_=>?_)
      generalize w46.drew = w47 at HO_4 HO_668000 HO_668001 HL674_0 HL674_1 HO680 HO683 BK667 BK675 BK685 HB hHeld ⊢
      refine pu_ 1 (some 65) (bl_ 10 2) HT_ ?_
      refine ta_ 0 (some 64) (bl_ 10 3) HT_ HW_ hHeld ?_
      refine join_ (σ:=Value × Value × Nat) 2 (bl_ 10 255) (fun s_=>[(66,.string t686),(67,.tuple #[.agg #[s_.1,s_.2.1],.bool t693]),(11,.pointer (some ⟨s_.2.2,0,none⟩)),(63,.tuple #[.agg #[s_.1,s_.2.1],.bool t693]),(68,.agg #[s_.1,s_.2.1]),(69,.bool t693)]) (fun s_ w'=>(w'.cell? ⟨gb667,0,none⟩ = some (.slice Ao8 t661.length co8)∧w'.cell? ⟨gb667,1,none⟩ = some (.slice Ao10 t664.length co10))∧(Kd.R (Kd.int .i64) 3 w' w.heap.size (fun k_=>some k_≠(.slice Ao41 t678.length co41:Value).ownBlock∧some k_≠(.slice Ao45 t681.length co45:Value).ownBlock∧some k_≠(s_.1:Value).ownBlock∧some k_≠(s_.2.1:Value).ownBlock∧some k_≠(.slice (some ad674) t668.length co32:Value).ownBlock∧some k_≠(.slice Ao8 t661.length co8:Value).ownBlock∧some k_≠(.slice Ao10 t664.length co10:Value).ownBlock∧k_≠gb667) (.slice A674_0 ((rd_T25 t668 (ji22)).f0).length c674_0) ((rd_T25 t668 (ji22)).f0))∧(Kd.R (Kd.int .i64) 3 w' w.heap.size (fun k_=>some k_≠(.slice Ao41 t678.length co41:Value).ownBlock∧some k_≠(.slice Ao45 t681.length co45:Value).ownBlock∧some k_≠(s_.1:Value).ownBlock∧some k_≠(s_.2.1:Value).ownBlock∧some k_≠(.slice (some ad674) t668.length co32:Value).ownBlock∧some k_≠(.slice Ao8 t661.length co8:Value).ownBlock∧some k_≠(.slice Ao10 t664.length co10:Value).ownBlock∧k_≠gb667) (.slice A674_1 ((rd_T25 t668 (ji22)).f1).length c674_1) ((rd_T25 t668 (ji22)).f1))∧(Kd.R (Kd.int .i64) 3 w' w.heap.size (fun k_=>some k_≠(.slice A674_0 ((rd_T25 t668 (ji22)).f0).length c674_0:Value).ownBlock∧some k_≠(.slice A674_1 ((rd_T25 t668 (ji22)).f1).length c674_1:Value).ownBlock∧some k_≠(.slice Ao45 t681.length co45:Value).ownBlock∧some k_≠(s_.1:Value).ownBlock∧some k_≠(s_.2.1:Value).ownBlock∧some k_≠(.slice Ao8 t661.length co8:Value).ownBlock∧some k_≠(.slice Ao10 t664.length co10:Value).ownBlock) (.slice Ao41 t678.length co41) t678)∧(Kd.R (Kd.int .i64) 3 w' w.heap.size (fun k_=>some k_≠(.slice A674_0 ((rd_T25 t668 (ji22)).f0).length c674_0:Value).ownBlock∧some k_≠(.slice A674_1 ((rd_T25 t668 (ji22)).f1).length c674_1:Value).ownBlock∧some k_≠(.slice Ao41 t678.length co41:Value).ownBlock∧some k_≠(s_.1:Value).ownBlock∧some k_≠(s_.2.1:Value).ownBlock∧some k_≠(.slice Ao8 t661.length co8:Value).ownBlock∧some k_≠(.slice Ao10 t664.length co10:Value).ownBlock) (.slice Ao45 t681.length co45) t681)∧(Kd.R (Kd.int .i64) 3 w' w.heap.size (fun k_=>some k_≠(.slice A674_0 ((rd_T25 t668 (ji22)).f0).length c674_0:Value).ownBlock∧some k_≠(.slice A674_1 ((rd_T25 t668 (ji22)).f1).length c674_1:Value).ownBlock∧some k_≠(.slice Ao41 t678.length co41:Value).ownBlock∧some k_≠(.slice Ao45 t681.length co45:Value).ownBlock∧some k_≠(s_.2.1:Value).ownBlock∧some k_≠(.slice Ao8 t661.length co8:Value).ownBlock∧some k_≠(.slice Ao10 t664.length co10:Value).ownBlock) s_.1 t687)∧(Kd.R (Kd.int .i64) 3 w' w.heap.size (fun k_=>some k_≠(.slice A674_0 ((rd_T25 t668 (ji22)).f0).length c674_0:Value).ownBlock∧some k_≠(.slice A674_1 ((rd_T25 t668 (ji22)).f1).length c674_1:Value).ownBlock∧some k_≠(.slice Ao41 t678.length co41:Value).ownBlock∧some k_≠(.slice Ao45 t681.length co45:Value).ownBlock∧some k_≠(s_.1:Value).ownBlock∧some k_≠(.slice Ao8 t661.length co8:Value).ownBlock∧some k_≠(.slice Ao10 t664.length co10:Value).ownBlock) s_.2.1 t690)∧(Kd.S k25 25 w' w.heap.size (fun k_=>some k_≠(.slice Ao41 t678.length co41:Value).ownBlock∧some k_≠(.slice Ao45 t681.length co45:Value).ownBlock∧some k_≠(s_.1:Value).ownBlock∧some k_≠(s_.2.1:Value).ownBlock∧some k_≠(.slice Ao8 t661.length co8:Value).ownBlock∧some k_≠(.slice Ao10 t664.length co10:Value).ownBlock∧k_≠gb667∧k_≠gb675∧k_≠gb685∧k_≠s_.2.2) (.slice (some ad674) t668.length co32) t668)∧(Kd.R (Kd.int .i64) 3 w' w.heap.size (fun k_=>some k_≠(.slice Ao41 t678.length co41:Value).ownBlock∧some k_≠(.slice Ao45 t681.length co45:Value).ownBlock∧some k_≠(s_.1:Value).ownBlock∧some k_≠(s_.2.1:Value).ownBlock∧some k_≠(.slice Ao10 t664.length co10:Value).ownBlock) (.slice Ao8 t661.length co8) t661)∧(Kd.R (Kd.int .i64) 3 w' w.heap.size (fun k_=>some k_≠(.slice Ao41 t678.length co41:Value).ownBlock∧some k_≠(.slice Ao45 t681.length co45:Value).ownBlock∧some k_≠(s_.1:Value).ownBlock∧some k_≠(s_.2.1:Value).ownBlock∧some k_≠(.slice Ao8 t661.length co8:Value).ownBlock) (.slice Ao10 t664.length co10) t664)∧(w'.heap[gb667]? = some (.cells #[.slice Ao8 t661.length co8,.slice Ao10 t664.length co10] 25 (0,0)))∧(w'.heap[gb675]? = some (.cells #[.slice A674_0 ((rd_T25 t668 (ji22)).f0).length c674_0,.slice A674_1 ((rd_T25 t668 (ji22)).f1).length c674_1] 25 (0,0)))∧(w'.heap[gb685]? = some (.cells #[.slice Ao41 t678.length co41,.slice Ao45 t681.length co45] 25 (0,0)))∧(w'.heap[s_.2.2]? = some (.cells #[.slice none 0 0,.slice none 0 0] 25 (0,0)))∧(w.heap.size≤s_.2.2)∧(w.heap.size≤s_.2.2)∧(gb667≠s_.2.2)∧(s_.2.2≠gb667)∧(gb675≠s_.2.2)∧(s_.2.2≠gb675)∧(gb685≠s_.2.2)∧(s_.2.2≠gb685)∧(Below w.heap.size w w')) ?_ ?_
      rotate_left
      ·intro hCont
       refine two_ (i:=2) (j:=7) (Ni:=some 66) (Nj:=some 11) (bl_ 10 7) (bl_ 10 131) rfl rfl rfl rfl (two_of HT_.out (by kernel_rfl)) (by decide) (by decide) (fun K hK=>?_) (fun K hK=>?_)
       ·skip
        refine gO_ Try.func27 #[.slice A0 l0.length c0,.int .i64 50] (by rfl) rfl rfl qa_ ?_
        with_reducible refine (Z42.calls kj4 _ _ l0 50 t686 _ (cb_ HR0) HC0.out A27.out).mono ?_
        rintro e w48 ⟨rfl,hb⟩
        refine ⟨_,rfl,?_⟩
        replace HO_4:=sb_ HO_4 hb
        replace HO_668000:=rb_ HO_668000 hb
        replace HO_668001:=rb_ HO_668001 hb
        replace HL674_0:=rb_ HL674_0 hb
        replace HL674_1:=rb_ HL674_1 hb
        replace HO680:=rb_ HO680 hb
        replace HO683:=rb_ HO683 hb
        replace BK667:=bb_ BK667 hb
        replace BK675:=bb_ BK675 hb
        replace BK685:=bb_ BK685 hb
        replace HB:=b1_ hb
        clear hb
        refine hK.out _ _ ⟨cz0_ BK667,cz1_ BK667⟩ (fun hHeld=>?_)
        clear hK K
        refine no_ (some 66) ?_
        refine two_ (i:=3) (j:=7) (Ni:=some 67) (Nj:=some 11) (bl_ 10 15) (bl_ 10 135) rfl rfl rfl rfl (two_of HT_.out (by kernel_rfl)) (by decide) (by decide) (fun K hK=>?_) (fun K hK=>?_)
        ·skip
         refine gO_ Try.func26 #[.agg #[.slice Ao8 t661.length co8,.slice Ao10 t664.length co10],.string t686] (by rfl) rfl rfl qa_ ?_
         with_reducible refine (Z53.calls kj4 _ _ t661 _ _ t664 t686 t687 t690 t693 _ (cr_ HO_668000) ((Kd.R_reads' HO_668000.out).2.1) (cr_ HO_668001) ((Kd.R_reads' HO_668001.out).2.1) A28.out).mono ?_
         rintro e w49 ⟨v688,v691,rfl,ho0,ho1,hb⟩
         refine ⟨_,rfl,?_⟩
         replace HO_4:=A_ (Kd.S_mono (Kd.S_told (Kd.S_told (Kd.S_old (ss_ HO_4) hb) (Kd.R_base ho0)) (Kd.R_base ho1)) (fun _ h_=>h_.1))
         have HO689:=A_ (rE_ (Kd.R_new' (Kd.R_new' (Kd.R_new' (Kd.R_new' (Kd.R_new' (Kd.R_new' ho0 (Kd.R_lt (rr_ HO_668000))) (Kd.R_lt (rr_ HO_668001))) (Kd.R_lt (rr_ HL674_0))) (Kd.R_lt (rr_ HL674_1))) (Kd.R_lt (rr_ HO680))) (Kd.R_lt (rr_ HO683))) (bF_ hB_))
         have HO692:=A_ (rE_ (Kd.R_new' (Kd.R_new' (Kd.R_new' (Kd.R_new' (Kd.R_new' (Kd.R_new' ho1 (Kd.R_lt (rr_ HO_668000))) (Kd.R_lt (rr_ HO_668001))) (Kd.R_lt (rr_ HL674_0))) (Kd.R_lt (rr_ HL674_1))) (Kd.R_lt (rr_ HO680))) (Kd.R_lt (rr_ HO683))) (bF_ hB_))
         replace HO_668000:=A_ (Kd.R_mono (Kd.R_told (Kd.R_told (Kd.R_old (rr_ HO_668000) hb) (Kd.R_base ho0)) (Kd.R_base ho1)) (fun _ h_=>h_.1))
         replace HO_668001:=A_ (Kd.R_mono (Kd.R_told (Kd.R_told (Kd.R_old (rr_ HO_668001) hb) (Kd.R_base ho0)) (Kd.R_base ho1)) (fun _ h_=>h_.1))
         replace HL674_0:=A_ (Kd.R_mono (Kd.R_told (Kd.R_told (Kd.R_old (rr_ HL674_0) hb) (Kd.R_base ho0)) (Kd.R_base ho1)) (fun _ h_=>h_.1))
         replace HL674_1:=A_ (Kd.R_mono (Kd.R_told (Kd.R_told (Kd.R_old (rr_ HL674_1) hb) (Kd.R_base ho0)) (Kd.R_base ho1)) (fun _ h_=>h_.1))
         replace HO680:=A_ (Kd.R_mono (Kd.R_told (Kd.R_told (Kd.R_old (rr_ HO680) hb) (Kd.R_base ho0)) (Kd.R_base ho1)) (fun _ h_=>h_.1))
         replace HO683:=A_ (Kd.R_mono (Kd.R_told (Kd.R_told (Kd.R_old (rr_ HO683) hb) (Kd.R_base ho0)) (Kd.R_base ho1)) (fun _ h_=>h_.1))
         replace BK667:=bb_ BK667 hb
         replace BK675:=bb_ BK675 hb
         replace BK685:=bb_ BK685 hb
         replace HB:=b1_ hb
         clear hb ho0 ho1
         refine hK.out _ _ ⟨cz0_ BK667,cz1_ BK667⟩ (fun hHeld=>?_)
         clear hK K
         refine no_ (some 67) ?_
         refine pu_ 4 (some 63) (bl_ 10 31) HT_ ?_
         refine pu_ 5 (some 68) (bl_ 10 63) HT_ ?_
         refine pu_ 6 (some 69) (bl_ 10 127) HT_ ?_
         refine on_ 7 (some 11) (bl_ 10 255) HT_ (fun K hK=>?_)
         refine box_step ?hg (N:=11) ?hd (cs:=#[.slice none 0 0,.slice none 0 0]) (t:=25) ?hr ?_;(case hd=>rfl);(case hg=>rfl);(case hr=>first | (go_simp;done) | (go_simp;rfl))
         intro gb694 hg w50 hbox hb
         replace HO_4:=A_ (Kd.S_below (Kd.S_elderB (ss_ HO_4) gb694 (Nat.le_of_eq hg.symm)) hb)
         replace HO_668000:=rb_ HO_668000 hb
         replace HO_668001:=rb_ HO_668001 hb
         replace HL674_0:=rb_ HL674_0 hb
         replace HL674_1:=rb_ HL674_1 hb
         replace HO680:=rb_ HO680 hb
         replace HO683:=rb_ HO683 hb
         replace HO689:=rb_ HO689 hb
         replace HO692:=rb_ HO692 hb
         have BK694:=A_ hbox
         have GW694:=gw_ w hg
         have GE694:=GW694
         replace HB:=b1_ hb
         have NB667_694:=gN_ BK667 hg
         have NB694_667:=gP_ BK667 hg
         replace BK667:=bb_ BK667 hb
         have NB675_694:=gN_ BK675 hg
         have NB694_675:=gP_ BK675 hg
         replace BK675:=bb_ BK675 hb
         have NB685_694:=gN_ BK685 hg
         have NB694_685:=gP_ BK685 hg
         replace BK685:=bb_ BK685 hb
         clear hb hbox hg
         refine hK.out _ _ ⟨cz0_ BK667,cz1_ BK667⟩ (fun hHeld=>?_)
         clear hK K
         refine no_ (some 11) ?_
         exact norm_ (by simp only [putAll,Act.put,sA_,sB_,sC_]) (hCont (v688,v691,gb694) _ ⟨hHeld,(rw_ (Kd.R_mono HL674_0.out (fun _ hk=>⟨hk.1.1.2.2.2.1,⟨hk.1.1.2.2.2.2.1,⟨hk.1.2,⟨hk.2,⟨hk.1.1.1,⟨hk.1.1.2.1,⟨hk.1.1.2.2.1,hk.1.1.2.2.2.2.2⟩⟩⟩⟩⟩⟩⟩))),(rw_ (Kd.R_mono HL674_1.out (fun _ hk=>⟨hk.1.1.2.2.2.1,⟨hk.1.1.2.2.2.2.1,⟨hk.1.2,⟨hk.2,⟨hk.1.1.1,⟨hk.1.1.2.1,⟨hk.1.1.2.2.1,hk.1.1.2.2.2.2.2⟩⟩⟩⟩⟩⟩⟩))),(rw_ (Kd.R_mono HO680.out (fun _ hk=>⟨hk.1.1.2.2.1,⟨hk.1.1.2.2.2.1,⟨hk.1.1.2.2.2.2,⟨hk.1.2,⟨hk.2,⟨hk.1.1.1,hk.1.1.2.1⟩⟩⟩⟩⟩⟩))),(rw_ (Kd.R_mono HO683.out (fun _ hk=>⟨hk.1.1.2.2.1,⟨hk.1.1.2.2.2.1,⟨hk.1.1.2.2.2.2,⟨hk.1.2,⟨hk.2,⟨hk.1.1.1,hk.1.1.2.1⟩⟩⟩⟩⟩⟩))),(rw_ (Kd.R_mono HO689.out (fun _ hk=>⟨hk.1.1.1.2,⟨hk.1.1.2,⟨hk.1.2,⟨hk.2,⟨hk.1.1.1.1.1.1,⟨hk.1.1.1.1.1.2,hk.1.1.1.1.2⟩⟩⟩⟩⟩⟩))),(rw_ (Kd.R_mono HO692.out (fun _ hk=>⟨hk.1.1.1.2,⟨hk.1.1.2,⟨hk.1.2,⟨hk.2,⟨hk.1.1.1.1.1.1,⟨hk.1.1.1.1.1.2,hk.1.1.1.1.2⟩⟩⟩⟩⟩⟩))),(sw_ (Kd.S_mono HO_4.out (fun _ hk=>⟨hk.1.1.1.2.2.1,⟨hk.1.1.1.2.2.2.1,⟨hk.1.1.2,⟨hk.1.2,⟨hk.1.1.1.1,⟨hk.1.1.1.2.1,⟨hk.1.1.1.2.2.2.2.1,⟨hk.1.1.1.2.2.2.2.2.1,⟨hk.1.1.1.2.2.2.2.2.2,hk.2⟩⟩⟩⟩⟩⟩⟩⟩⟩))),(rw_ (Kd.R_mono HO_668000.out (fun _ hk=>⟨hk.1.1.2.1,⟨hk.1.1.2.2,⟨hk.1.2,⟨hk.2,hk.1.1.1⟩⟩⟩⟩))),(rw_ (Kd.R_mono HO_668001.out (fun _ hk=>⟨hk.1.1.2.1,⟨hk.1.1.2.2,⟨hk.1.2,⟨hk.2,hk.1.1.1⟩⟩⟩⟩))),(kk_ BK667),(kk_ BK675),(kk_ BK685),(kk_ BK694),GW694.out,GE694.out,NB667_694.out,NB694_667.out,NB675_694.out,NB694_675.out,NB685_694.out,NB694_685.out,hB_⟩)
        ·skip
         refine box_step ?hg (N:=11) ?hd (cs:=#[.slice none 0 0,.slice none 0 0]) (t:=25) ?hr ?_;(case hd=>rfl);(case hg=>rfl);(case hr=>first | (go_simp;done) | (go_simp;rfl))
         intro gb694 hg w49 hbox hb
         replace HO_4:=A_ (Kd.S_below (Kd.S_elderB (ss_ HO_4) gb694 (Nat.le_of_eq hg.symm)) hb)
         replace HO_668000:=rb_ HO_668000 hb
         replace HO_668001:=rb_ HO_668001 hb
         replace HL674_0:=rb_ HL674_0 hb
         replace HL674_1:=rb_ HL674_1 hb
         replace HO680:=rb_ HO680 hb
         replace HO683:=rb_ HO683 hb
         have BK694:=A_ hbox
         have GW694:=gw_ w hg
         have GE694:=GW694
         replace HB:=b1_ hb
         have NB667_694:=gN_ BK667 hg
         have NB694_667:=gP_ BK667 hg
         replace BK667:=bb_ BK667 hb
         have NB675_694:=gN_ BK675 hg
         have NB694_675:=gP_ BK675 hg
         replace BK675:=bb_ BK675 hb
         have NB685_694:=gN_ BK685 hg
         have NB694_685:=gP_ BK685 hg
         replace BK685:=bb_ BK685 hb
         clear hb hbox hg
         refine hK.out _ _ ⟨cz0_ BK667,cz1_ BK667⟩ (fun hHeld=>?_)
         clear hK K
         refine no_ (some 11) ?_
         refine on_ 3 (some 67) (bl_ 10 143) HT_ (fun K hK=>?_)
         refine gO_ Try.func26 #[.agg #[.slice Ao8 t661.length co8,.slice Ao10 t664.length co10],.string t686] (by rfl) rfl rfl qa_ ?_
         with_reducible refine (Z53.calls kj4 _ _ t661 _ _ t664 t686 t687 t690 t693 _ (cr_ HO_668000) ((Kd.R_reads' HO_668000.out).2.1) (cr_ HO_668001) ((Kd.R_reads' HO_668001.out).2.1) A28.out).mono ?_
         rintro e w50 ⟨v688,v691,rfl,ho0,ho1,hb⟩
         refine ⟨_,rfl,?_⟩
         replace HO_4:=A_ (Kd.S_mono (Kd.S_told (Kd.S_told (Kd.S_old (ss_ HO_4) hb) (Kd.R_base ho0)) (Kd.R_base ho1)) (fun _ h_=>h_.1))
         have HO689:=A_ (rE_ (Kd.R_new' (Kd.R_new' (Kd.R_new' (Kd.R_new' (Kd.R_new' (Kd.R_new' ho0 (Kd.R_lt (rr_ HO_668000))) (Kd.R_lt (rr_ HO_668001))) (Kd.R_lt (rr_ HL674_0))) (Kd.R_lt (rr_ HL674_1))) (Kd.R_lt (rr_ HO680))) (Kd.R_lt (rr_ HO683))) (bF_ hB_))
         have HO692:=A_ (rE_ (Kd.R_new' (Kd.R_new' (Kd.R_new' (Kd.R_new' (Kd.R_new' (Kd.R_new' ho1 (Kd.R_lt (rr_ HO_668000))) (Kd.R_lt (rr_ HO_668001))) (Kd.R_lt (rr_ HL674_0))) (Kd.R_lt (rr_ HL674_1))) (Kd.R_lt (rr_ HO680))) (Kd.R_lt (rr_ HO683))) (bF_ hB_))
         replace HO_668000:=A_ (Kd.R_mono (Kd.R_told (Kd.R_told (Kd.R_old (rr_ HO_668000) hb) (Kd.R_base ho0)) (Kd.R_base ho1)) (fun _ h_=>h_.1))
         replace HO_668001:=A_ (Kd.R_mono (Kd.R_told (Kd.R_told (Kd.R_old (rr_ HO_668001) hb) (Kd.R_base ho0)) (Kd.R_base ho1)) (fun _ h_=>h_.1))
         replace HL674_0:=A_ (Kd.R_mono (Kd.R_told (Kd.R_told (Kd.R_old (rr_ HL674_0) hb) (Kd.R_base ho0)) (Kd.R_base ho1)) (fun _ h_=>h_.1))
         replace HL674_1:=A_ (Kd.R_mono (Kd.R_told (Kd.R_told (Kd.R_old (rr_ HL674_1) hb) (Kd.R_base ho0)) (Kd.R_base ho1)) (fun _ h_=>h_.1))
         replace HO680:=A_ (Kd.R_mono (Kd.R_told (Kd.R_told (Kd.R_old (rr_ HO680) hb) (Kd.R_base ho0)) (Kd.R_base ho1)) (fun _ h_=>h_.1))
         replace HO683:=A_ (Kd.R_mono (Kd.R_told (Kd.R_told (Kd.R_old (rr_ HO683) hb) (Kd.R_base ho0)) (Kd.R_base ho1)) (fun _ h_=>h_.1))
         replace BK667:=bb_ BK667 hb
         replace BK675:=bb_ BK675 hb
         replace BK685:=bb_ BK685 hb
         replace BK694:=bb_ BK694 hb
         replace HB:=b1_ hb
         clear hb ho0 ho1
         refine hK.out _ _ ⟨cz0_ BK667,cz1_ BK667⟩ (fun hHeld=>?_)
         clear hK K
         refine no_ (some 67) ?_
         refine pu_ 4 (some 63) (bl_ 10 159) HT_ ?_
         refine pu_ 5 (some 68) (bl_ 10 191) HT_ ?_
         refine pu_ 6 (some 69) (bl_ 10 255) HT_ ?_
         exact norm_ (by simp only [putAll,Act.put,sA_,sB_,sC_]) (hCont (v688,v691,gb694) _ ⟨hHeld,(rw_ (Kd.R_mono HL674_0.out (fun _ hk=>⟨hk.1.1.2.2.2.1,⟨hk.1.1.2.2.2.2.1,⟨hk.1.2,⟨hk.2,⟨hk.1.1.1,⟨hk.1.1.2.1,⟨hk.1.1.2.2.1,hk.1.1.2.2.2.2.2⟩⟩⟩⟩⟩⟩⟩))),(rw_ (Kd.R_mono HL674_1.out (fun _ hk=>⟨hk.1.1.2.2.2.1,⟨hk.1.1.2.2.2.2.1,⟨hk.1.2,⟨hk.2,⟨hk.1.1.1,⟨hk.1.1.2.1,⟨hk.1.1.2.2.1,hk.1.1.2.2.2.2.2⟩⟩⟩⟩⟩⟩⟩))),(rw_ (Kd.R_mono HO680.out (fun _ hk=>⟨hk.1.1.2.2.1,⟨hk.1.1.2.2.2.1,⟨hk.1.1.2.2.2.2,⟨hk.1.2,⟨hk.2,⟨hk.1.1.1,hk.1.1.2.1⟩⟩⟩⟩⟩⟩))),(rw_ (Kd.R_mono HO683.out (fun _ hk=>⟨hk.1.1.2.2.1,⟨hk.1.1.2.2.2.1,⟨hk.1.1.2.2.2.2,⟨hk.1.2,⟨hk.2,⟨hk.1.1.1,hk.1.1.2.1⟩⟩⟩⟩⟩⟩))),(rw_ (Kd.R_mono HO689.out (fun _ hk=>⟨hk.1.1.1.2,⟨hk.1.1.2,⟨hk.1.2,⟨hk.2,⟨hk.1.1.1.1.1.1,⟨hk.1.1.1.1.1.2,hk.1.1.1.1.2⟩⟩⟩⟩⟩⟩))),(rw_ (Kd.R_mono HO692.out (fun _ hk=>⟨hk.1.1.1.2,⟨hk.1.1.2,⟨hk.1.2,⟨hk.2,⟨hk.1.1.1.1.1.1,⟨hk.1.1.1.1.1.2,hk.1.1.1.1.2⟩⟩⟩⟩⟩⟩))),(sw_ (Kd.S_mono HO_4.out (fun _ hk=>⟨hk.1.1.1.2.2.1,⟨hk.1.1.1.2.2.2.1,⟨hk.1.2,⟨hk.2,⟨hk.1.1.1.1,⟨hk.1.1.1.2.1,⟨hk.1.1.1.2.2.2.2.1,⟨hk.1.1.1.2.2.2.2.2.1,⟨hk.1.1.1.2.2.2.2.2.2,hk.1.1.2⟩⟩⟩⟩⟩⟩⟩⟩⟩))),(rw_ (Kd.R_mono HO_668000.out (fun _ hk=>⟨hk.1.1.2.1,⟨hk.1.1.2.2,⟨hk.1.2,⟨hk.2,hk.1.1.1⟩⟩⟩⟩))),(rw_ (Kd.R_mono HO_668001.out (fun _ hk=>⟨hk.1.1.2.1,⟨hk.1.1.2.2,⟨hk.1.2,⟨hk.2,hk.1.1.1⟩⟩⟩⟩))),(kk_ BK667),(kk_ BK675),(kk_ BK685),(kk_ BK694),GW694.out,GE694.out,NB667_694.out,NB694_667.out,NB675_694.out,NB694_675.out,NB685_694.out,NB694_685.out,hB_⟩)
       ·skip
        refine box_step ?hg (N:=11) ?hd (cs:=#[.slice none 0 0,.slice none 0 0]) (t:=25) ?hr ?_;(case hd=>rfl);(case hg=>rfl);(case hr=>first | (go_simp;done) | (go_simp;rfl))
        intro gb694 hg w48 hbox hb
        replace HO_4:=A_ (Kd.S_below (Kd.S_elderB (ss_ HO_4) gb694 (Nat.le_of_eq hg.symm)) hb)
        replace HO_668000:=rb_ HO_668000 hb
        replace HO_668001:=rb_ HO_668001 hb
        replace HL674_0:=rb_ HL674_0 hb
        replace HL674_1:=rb_ HL674_1 hb
        replace HO680:=rb_ HO680 hb
        replace HO683:=rb_ HO683 hb
        have BK694:=A_ hbox
        have GW694:=gw_ w hg
        have GE694:=GW694
        replace HB:=b1_ hb
        have NB667_694:=gN_ BK667 hg
        have NB694_667:=gP_ BK667 hg
        replace BK667:=bb_ BK667 hb
        have NB675_694:=gN_ BK675 hg
        have NB694_675:=gP_ BK675 hg
        replace BK675:=bb_ BK675 hb
        have NB685_694:=gN_ BK685 hg
        have NB694_685:=gP_ BK685 hg
        replace BK685:=bb_ BK685 hb
        clear hb hbox hg
        refine hK.out _ _ ⟨cz0_ BK667,cz1_ BK667⟩ (fun hHeld=>?_)
        clear hK K
        refine no_ (some 11) ?_
        refine on_ 2 (some 66) (bl_ 10 135) HT_ (fun K hK=>?_)
        refine gO_ Try.func27 #[.slice A0 l0.length c0,.int .i64 50] (by rfl) rfl rfl qa_ ?_
        with_reducible refine (Z42.calls kj4 _ _ l0 50 t686 _ (cb_ HR0) HC0.out A27.out).mono ?_
        rintro e w49 ⟨rfl,hb⟩
        refine ⟨_,rfl,?_⟩
        replace HO_4:=sb_ HO_4 hb
        replace HO_668000:=rb_ HO_668000 hb
        replace HO_668001:=rb_ HO_668001 hb
        replace HL674_0:=rb_ HL674_0 hb
        replace HL674_1:=rb_ HL674_1 hb
        replace HO680:=rb_ HO680 hb
        replace HO683:=rb_ HO683 hb
        replace BK667:=bb_ BK667 hb
        replace BK675:=bb_ BK675 hb
        replace BK685:=bb_ BK685 hb
        replace BK694:=bb_ BK694 hb
        replace HB:=b1_ hb
        clear hb
        refine hK.out _ _ ⟨cz0_ BK667,cz1_ BK667⟩ (fun hHeld=>?_)
        clear hK K
        refine no_ (some 66) ?_
        refine on_ 3 (some 67) (bl_ 10 143) HT_ (fun K hK=>?_)
        refine gO_ Try.func26 #[.agg #[.slice Ao8 t661.length co8,.slice Ao10 t664.length co10],.string t686] (by rfl) rfl rfl qa_ ?_
        with_reducible refine (Z53.calls kj4 _ _ t661 _ _ t664 t686 t687 t690 t693 _ (cr_ HO_668000) ((Kd.R_reads' HO_668000.out).2.1) (cr_ HO_668001) ((Kd.R_reads' HO_668001.out).2.1) A28.out).mono ?_
        rintro e w50 ⟨v688,v691,rfl,ho0,ho1,hb⟩
        refine ⟨_,rfl,?_⟩
        replace HO_4:=A_ (Kd.S_mono (Kd.S_told (Kd.S_told (Kd.S_old (ss_ HO_4) hb) (Kd.R_base ho0)) (Kd.R_base ho1)) (fun _ h_=>h_.1))
        have HO689:=A_ (rE_ (Kd.R_new' (Kd.R_new' (Kd.R_new' (Kd.R_new' (Kd.R_new' (Kd.R_new' ho0 (Kd.R_lt (rr_ HO_668000))) (Kd.R_lt (rr_ HO_668001))) (Kd.R_lt (rr_ HL674_0))) (Kd.R_lt (rr_ HL674_1))) (Kd.R_lt (rr_ HO680))) (Kd.R_lt (rr_ HO683))) (bF_ hB_))
        have HO692:=A_ (rE_ (Kd.R_new' (Kd.R_new' (Kd.R_new' (Kd.R_new' (Kd.R_new' (Kd.R_new' ho1 (Kd.R_lt (rr_ HO_668000))) (Kd.R_lt (rr_ HO_668001))) (Kd.R_lt (rr_ HL674_0))) (Kd.R_lt (rr_ HL674_1))) (Kd.R_lt (rr_ HO680))) (Kd.R_lt (rr_ HO683))) (bF_ hB_))
        replace HO_668000:=A_ (Kd.R_mono (Kd.R_told (Kd.R_told (Kd.R_old (rr_ HO_668000) hb) (Kd.R_base ho0)) (Kd.R_base ho1)) (fun _ h_=>h_.1))
        replace HO_668001:=A_ (Kd.R_mono (Kd.R_told (Kd.R_told (Kd.R_old (rr_ HO_668001) hb) (Kd.R_base ho0)) (Kd.R_base ho1)) (fun _ h_=>h_.1))
        replace HL674_0:=A_ (Kd.R_mono (Kd.R_told (Kd.R_told (Kd.R_old (rr_ HL674_0) hb) (Kd.R_base ho0)) (Kd.R_base ho1)) (fun _ h_=>h_.1))
        replace HL674_1:=A_ (Kd.R_mono (Kd.R_told (Kd.R_told (Kd.R_old (rr_ HL674_1) hb) (Kd.R_base ho0)) (Kd.R_base ho1)) (fun _ h_=>h_.1))
        replace HO680:=A_ (Kd.R_mono (Kd.R_told (Kd.R_told (Kd.R_old (rr_ HO680) hb) (Kd.R_base ho0)) (Kd.R_base ho1)) (fun _ h_=>h_.1))
        replace HO683:=A_ (Kd.R_mono (Kd.R_told (Kd.R_told (Kd.R_old (rr_ HO683) hb) (Kd.R_base ho0)) (Kd.R_base ho1)) (fun _ h_=>h_.1))
        replace BK667:=bb_ BK667 hb
        replace BK675:=bb_ BK675 hb
        replace BK685:=bb_ BK685 hb
        replace BK694:=bb_ BK694 hb
        replace HB:=b1_ hb
        clear hb ho0 ho1
        refine hK.out _ _ ⟨cz0_ BK667,cz1_ BK667⟩ (fun hHeld=>?_)
        clear hK K
        refine no_ (some 67) ?_
        refine pu_ 4 (some 63) (bl_ 10 159) HT_ ?_
        refine pu_ 5 (some 68) (bl_ 10 191) HT_ ?_
        refine pu_ 6 (some 69) (bl_ 10 255) HT_ ?_
        exact norm_ (by simp only [putAll,Act.put,sA_,sB_,sC_]) (hCont (v688,v691,gb694) _ ⟨hHeld,(rw_ (Kd.R_mono HL674_0.out (fun _ hk=>⟨hk.1.1.2.2.2.1,⟨hk.1.1.2.2.2.2.1,⟨hk.1.2,⟨hk.2,⟨hk.1.1.1,⟨hk.1.1.2.1,⟨hk.1.1.2.2.1,hk.1.1.2.2.2.2.2⟩⟩⟩⟩⟩⟩⟩))),(rw_ (Kd.R_mono HL674_1.out (fun _ hk=>⟨hk.1.1.2.2.2.1,⟨hk.1.1.2.2.2.2.1,⟨hk.1.2,⟨hk.2,⟨hk.1.1.1,⟨hk.1.1.2.1,⟨hk.1.1.2.2.1,hk.1.1.2.2.2.2.2⟩⟩⟩⟩⟩⟩⟩))),(rw_ (Kd.R_mono HO680.out (fun _ hk=>⟨hk.1.1.2.2.1,⟨hk.1.1.2.2.2.1,⟨hk.1.1.2.2.2.2,⟨hk.1.2,⟨hk.2,⟨hk.1.1.1,hk.1.1.2.1⟩⟩⟩⟩⟩⟩))),(rw_ (Kd.R_mono HO683.out (fun _ hk=>⟨hk.1.1.2.2.1,⟨hk.1.1.2.2.2.1,⟨hk.1.1.2.2.2.2,⟨hk.1.2,⟨hk.2,⟨hk.1.1.1,hk.1.1.2.1⟩⟩⟩⟩⟩⟩))),(rw_ (Kd.R_mono HO689.out (fun _ hk=>⟨hk.1.1.1.2,⟨hk.1.1.2,⟨hk.1.2,⟨hk.2,⟨hk.1.1.1.1.1.1,⟨hk.1.1.1.1.1.2,hk.1.1.1.1.2⟩⟩⟩⟩⟩⟩))),(rw_ (Kd.R_mono HO692.out (fun _ hk=>⟨hk.1.1.1.2,⟨hk.1.1.2,⟨hk.1.2,⟨hk.2,⟨hk.1.1.1.1.1.1,⟨hk.1.1.1.1.1.2,hk.1.1.1.1.2⟩⟩⟩⟩⟩⟩))),(sw_ (Kd.S_mono HO_4.out (fun _ hk=>⟨hk.1.1.1.2.2.1,⟨hk.1.1.1.2.2.2.1,⟨hk.1.2,⟨hk.2,⟨hk.1.1.1.1,⟨hk.1.1.1.2.1,⟨hk.1.1.1.2.2.2.2.1,⟨hk.1.1.1.2.2.2.2.2.1,⟨hk.1.1.1.2.2.2.2.2.2,hk.1.1.2⟩⟩⟩⟩⟩⟩⟩⟩⟩))),(rw_ (Kd.R_mono HO_668000.out (fun _ hk=>⟨hk.1.1.2.1,⟨hk.1.1.2.2,⟨hk.1.2,⟨hk.2,hk.1.1.1⟩⟩⟩⟩))),(rw_ (Kd.R_mono HO_668001.out (fun _ hk=>⟨hk.1.1.2.1,⟨hk.1.1.2.2,⟨hk.1.2,⟨hk.2,hk.1.1.1⟩⟩⟩⟩))),(kk_ BK667),(kk_ BK675),(kk_ BK685),(kk_ BK694),GW694.out,GE694.out,NB667_694.out,NB694_667.out,NB675_694.out,NB694_675.out,NB685_694.out,NB694_685.out,hB_⟩)
      rintro ⟨v688,v691,gb694⟩ w51 ⟨hS_,h0_,h1_,h2_,h3_,h4_,h5_,h6_,h7_,h8_,h9_,h10_,h11_,h12_,h13_,h14_,h15_,h16_,h17_,h18_,h19_,h20_,h21_⟩
      have n0_:Aside0 (Kd.R (Kd.int .i64) 3 w51 w.heap.size (fun k_=>some k_≠(.slice Ao41 t678.length co41:Value).ownBlock∧some k_≠(.slice Ao45 t681.length co45:Value).ownBlock∧some k_≠(v688:Value).ownBlock∧some k_≠(v691:Value).ownBlock∧some k_≠(.slice (some ad674) t668.length co32:Value).ownBlock∧some k_≠(.slice Ao8 t661.length co8:Value).ownBlock∧some k_≠(.slice Ao10 t664.length co10:Value).ownBlock∧k_≠gb667) (.slice A674_0 ((rd_T25 t668 (ji22)).f0).length c674_0) ((rd_T25 t668 (ji22)).f0)):=⟨h0_⟩
      have n1_:Aside0 (Kd.R (Kd.int .i64) 3 w51 w.heap.size (fun k_=>some k_≠(.slice Ao41 t678.length co41:Value).ownBlock∧some k_≠(.slice Ao45 t681.length co45:Value).ownBlock∧some k_≠(v688:Value).ownBlock∧some k_≠(v691:Value).ownBlock∧some k_≠(.slice (some ad674) t668.length co32:Value).ownBlock∧some k_≠(.slice Ao8 t661.length co8:Value).ownBlock∧some k_≠(.slice Ao10 t664.length co10:Value).ownBlock∧k_≠gb667) (.slice A674_1 ((rd_T25 t668 (ji22)).f1).length c674_1) ((rd_T25 t668 (ji22)).f1)):=⟨h1_⟩
      have n2_:Aside0 (Kd.R (Kd.int .i64) 3 w51 w.heap.size (fun k_=>some k_≠(.slice A674_0 ((rd_T25 t668 (ji22)).f0).length c674_0:Value).ownBlock∧some k_≠(.slice A674_1 ((rd_T25 t668 (ji22)).f1).length c674_1:Value).ownBlock∧some k_≠(.slice Ao45 t681.length co45:Value).ownBlock∧some k_≠(v688:Value).ownBlock∧some k_≠(v691:Value).ownBlock∧some k_≠(.slice Ao8 t661.length co8:Value).ownBlock∧some k_≠(.slice Ao10 t664.length co10:Value).ownBlock) (.slice Ao41 t678.length co41) t678):=⟨h2_⟩
      have n3_:Aside0 (Kd.R (Kd.int .i64) 3 w51 w.heap.size (fun k_=>some k_≠(.slice A674_0 ((rd_T25 t668 (ji22)).f0).length c674_0:Value).ownBlock∧some k_≠(.slice A674_1 ((rd_T25 t668 (ji22)).f1).length c674_1:Value).ownBlock∧some k_≠(.slice Ao41 t678.length co41:Value).ownBlock∧some k_≠(v688:Value).ownBlock∧some k_≠(v691:Value).ownBlock∧some k_≠(.slice Ao8 t661.length co8:Value).ownBlock∧some k_≠(.slice Ao10 t664.length co10:Value).ownBlock) (.slice Ao45 t681.length co45) t681):=⟨h3_⟩
      have n4_:Aside0 (Kd.R (Kd.int .i64) 3 w51 w.heap.size (fun k_=>some k_≠(.slice A674_0 ((rd_T25 t668 (ji22)).f0).length c674_0:Value).ownBlock∧some k_≠(.slice A674_1 ((rd_T25 t668 (ji22)).f1).length c674_1:Value).ownBlock∧some k_≠(.slice Ao41 t678.length co41:Value).ownBlock∧some k_≠(.slice Ao45 t681.length co45:Value).ownBlock∧some k_≠(v691:Value).ownBlock∧some k_≠(.slice Ao8 t661.length co8:Value).ownBlock∧some k_≠(.slice Ao10 t664.length co10:Value).ownBlock) v688 t687):=⟨h4_⟩
      have n5_:Aside0 (Kd.R (Kd.int .i64) 3 w51 w.heap.size (fun k_=>some k_≠(.slice A674_0 ((rd_T25 t668 (ji22)).f0).length c674_0:Value).ownBlock∧some k_≠(.slice A674_1 ((rd_T25 t668 (ji22)).f1).length c674_1:Value).ownBlock∧some k_≠(.slice Ao41 t678.length co41:Value).ownBlock∧some k_≠(.slice Ao45 t681.length co45:Value).ownBlock∧some k_≠(v688:Value).ownBlock∧some k_≠(.slice Ao8 t661.length co8:Value).ownBlock∧some k_≠(.slice Ao10 t664.length co10:Value).ownBlock) v691 t690):=⟨h5_⟩
      have n6_:Aside0 (Kd.S k25 25 w51 w.heap.size (fun k_=>some k_≠(.slice Ao41 t678.length co41:Value).ownBlock∧some k_≠(.slice Ao45 t681.length co45:Value).ownBlock∧some k_≠(v688:Value).ownBlock∧some k_≠(v691:Value).ownBlock∧some k_≠(.slice Ao8 t661.length co8:Value).ownBlock∧some k_≠(.slice Ao10 t664.length co10:Value).ownBlock∧k_≠gb667∧k_≠gb675∧k_≠gb685∧k_≠gb694) (.slice (some ad674) t668.length co32) t668):=⟨h6_⟩
      have n7_:Aside0 (Kd.R (Kd.int .i64) 3 w51 w.heap.size (fun k_=>some k_≠(.slice Ao41 t678.length co41:Value).ownBlock∧some k_≠(.slice Ao45 t681.length co45:Value).ownBlock∧some k_≠(v688:Value).ownBlock∧some k_≠(v691:Value).ownBlock∧some k_≠(.slice Ao10 t664.length co10:Value).ownBlock) (.slice Ao8 t661.length co8) t661):=⟨h7_⟩
      have n8_:Aside0 (Kd.R (Kd.int .i64) 3 w51 w.heap.size (fun k_=>some k_≠(.slice Ao41 t678.length co41:Value).ownBlock∧some k_≠(.slice Ao45 t681.length co45:Value).ownBlock∧some k_≠(v688:Value).ownBlock∧some k_≠(v691:Value).ownBlock∧some k_≠(.slice Ao8 t661.length co8:Value).ownBlock) (.slice Ao10 t664.length co10) t664):=⟨h8_⟩
      have n9_:Aside0 (w51.heap[gb667]? = some (.cells #[.slice Ao8 t661.length co8,.slice Ao10 t664.length co10] 25 (0,0))):=⟨h9_⟩
      have n10_:Aside0 (w51.heap[gb675]? = some (.cells #[.slice A674_0 ((rd_T25 t668 (ji22)).f0).length c674_0,.slice A674_1 ((rd_T25 t668 (ji22)).f1).length c674_1] 25 (0,0))):=⟨h10_⟩
      have n11_:Aside0 (w51.heap[gb685]? = some (.cells #[.slice Ao41 t678.length co41,.slice Ao45 t681.length co45] 25 (0,0))):=⟨h11_⟩
      have n12_:Aside0 (w51.heap[gb694]? = some (.cells #[.slice none 0 0,.slice none 0 0] 25 (0,0))):=⟨h12_⟩
      have n13_:Aside0 (w.heap.size≤gb694):=⟨h13_⟩
      have n14_:Aside0 (w.heap.size≤gb694):=⟨h14_⟩
      have n15_:Aside0 (gb667≠gb694):=⟨h15_⟩
      have n16_:Aside0 (gb694≠gb667):=⟨h16_⟩
      have n17_:Aside0 (gb675≠gb694):=⟨h17_⟩
      have n18_:Aside0 (gb694≠gb675):=⟨h18_⟩
      have n19_:Aside0 (gb685≠gb694):=⟨h19_⟩
      have n20_:Aside0 (gb694≠gb685):=⟨h20_⟩
      have n21_:Aside0 (Below w.heap.size w w51):=⟨h21_⟩
      clear HO_4
      clear HO_668000
      clear HO_668001
      clear HL674_0
      clear HL674_1
      clear HO680
      clear HO683
      clear BK667
      clear BK675
      clear BK685
      clear HB
      clear h0_ h1_ h2_ h3_ h4_ h5_ h6_ h7_ h8_ h9_ h10_ h11_ h12_ h13_ h14_ h15_ h16_ h17_ h18_ h19_ h20_ h21_
      have HL674_0:=n0_
      have HL674_1:=n1_
      have HO680:=n2_
      have HO683:=n3_
      have HO689:=n4_
      have HO692:=n5_
      have HO_4:=n6_
      have HO_668000:=n7_
      have HO_668001:=n8_
      have BK667:=n9_
      have BK675:=n10_
      have BK685:=n11_
      have BK694:=n12_
      have GW694:=n13_
      have GE694:=n14_
      have NB667_694:=n15_
      have NB694_667:=n16_
      have NB675_694:=n17_
      have NB694_675:=n18_
      have NB685_694:=n19_
      have NB694_685:=n20_
      have HB:=n21_
      clear n0_ n1_ n2_ n3_ n4_ n5_ n6_ n7_ n8_ n9_ n10_ n11_ n12_ n13_ n14_ n15_ n16_ n17_ n18_ n19_ n20_ n21_
      have hHeld:w51.cell? ⟨gb667,0,none⟩ = some (.slice Ao8 t661.length co8)∧w51.cell? ⟨gb667,1,none⟩ = some (.slice Ao10 t664.length co10):=hS_
      obtain ⟨Ao52,co52,eo52⟩:=Kd.R_slice HO689.out
      (first|subst eo52|(injection eo52 with a_ b_ c_;have a_:=a_.symm;have c_:=c_.symm;clear b_;subst a_;subst c_))
      obtain ⟨Ao54,co54,eo54⟩:=Kd.R_slice HO692.out
      (first|subst eo54|(injection eo54 with a_ b_ c_;have a_:=a_.symm;have c_:=c_.symm;clear b_;subst a_;subst c_))
      refine norm_ (a':=?_) ?_ ?_
      rotate_left
      ·simp only [putAll,Act.put,sA_,sB_,sC_]
       rfl
      refine on_ 8 (none) (bl_ 10 511) HT_ (fun K hK=>?_)
      have hs53:w51.cell? ⟨gb694,0,none⟩ = some (.slice none 0 0):=cz0_ BK694
      have hfs53:=kD_ BK694.out 0
      have hns53_0:=NB667_694.out
      have hns53_1:=NB675_694.out
      have hns53_2:=NB685_694.out
      have hms53_0:=NB694_667.out
      have hms53_1:=NB694_675.out
      have hms53_2:=NB694_685.out
      have hs55:w51.cell? ⟨gb694,1,none⟩ = some (.slice none 0 0):=cz1_ BK694
      have hfs55:=kD_ BK694.out 1
      have hns55_0:=NB667_694.out
      have hns55_1:=NB675_694.out
      have hns55_2:=NB685_694.out
      have hms55_0:=NB694_667.out
      have hms55_1:=NB694_675.out
      have hms55_2:=NB694_685.out
      refine skip_ (w1:=?_) (by rfl) rfl ?_ ?_
      rotate_left
      ·go_simp
       rfl
      refine hK.out _ _ ⟨((cell_far (p:=⟨gb694,_,none⟩) NB667_694.out _).trans (((cell_far (p:=⟨gb694,_,none⟩) NB667_694.out _).trans (hHeld.1)))),((cell_far (p:=⟨gb694,_,none⟩) NB667_694.out _).trans (((cell_far (p:=⟨gb694,_,none⟩) NB667_694.out _).trans (hHeld.2))))⟩ (fun hHeld=>?_)
      clear hK K
      refine pu_ 9 (some 12) (bl_ 10 1023) HT_ ?_
      refine done_ (done_of HT_.out (by kernel_rfl)) ?_
      have hnb56:=NB675_694.out
      have hnc56:=NB694_675.out
      have hcz57_0:w51.cell? ⟨gb675,0,none⟩ = some (.slice A674_0 ((rd_T25 t668 (ji22)).f0).length c674_0):=cz0_ BK675
      have hcz57_1:w51.cell? ⟨gb675,1,none⟩ = some (.slice A674_1 ((rd_T25 t668 (ji22)).f1).length c674_1):=cz1_ BK675
      have hfz57_0:=kD_ BK675.out 0
      have hfz57_1:=kD_ BK675.out 1
      go_upto_region 12 with (first | ((with_reducible refine gA_ (f:=28) rfl ?_);refine gL_ (some 72) Try.func28 #[.agg #[.slice A674_0 ((rd_T25 t668 (ji22)).f0).length c674_0,.slice A674_1 ((rd_T25 t668 (ji22)).f1).length c674_1]] rfl (by (try simp only [mA_,mB_,mC_]);first | done | (simp only [hji22];rfl) | rfl | (simp only [lA_,lB_];rfl)) ?_;(with_reducible refine (Z50.calls kj4 _ _ ((rd_T25 t668 (ji22)).f0) _ _ ((rd_T25 t668 (ji22)).f1) t695 t698 t701 _ ?side1 ?side2 ?side3 ?side4 A29.out).mono ?_);(case side1=>repeat (first | exact ((Kd.R_reads' (rw_ (fa_ HL674_0 BK694))).2.2) | (with_reducible first | refine cA_ ?_ _ | refine cB_ ?_ _ | refine cC_ ?_)));(case side2=>exact HC674_0.out);(case side3=>repeat (first | exact ((Kd.R_reads' (rw_ (fa_ HL674_1 BK694))).2.2) | (with_reducible first | refine cA_ ?_ _ | refine cB_ ?_ _ | refine cC_ ?_)));(case side4=>exact HC674_1.out);rintro e w58 ⟨v696,v699,rfl,ho0,ho1,hb⟩;refine ⟨_,rfl,?_⟩;replace HO_4:=A_ (Kd.S_mono (Kd.S_told (Kd.S_told (Kd.S_old (sw_ (Kd.S_mono (Kd.S_far (p:=⟨gb694,1,none⟩) (Kd.S_far (p:=⟨gb694,0,none⟩) (Kd.S_mono HO_4.out (fun k_ hk=>(⟨hk,hk.2.2.2.2.2.2.2.2.2⟩:_∧k_≠gb694))) (fun _ hk=>hk.2) (.slice Ao52 t687.length co52)) (fun _ hk=>hk.2) (.slice Ao54 t690.length co54)) (fun _ h_=>h_.1))) hb) (Kd.R_base ho0)) (Kd.R_base ho1)) (fun _ h_=>h_.1));have HO697:=A_ (rE_ (Kd.R_new' (Kd.R_new' (Kd.R_new' (Kd.R_new' (Kd.R_new' (Kd.R_new' (Kd.R_new' (Kd.R_new' ho0 (Kd.R_lt (rw_ (fa_ HO_668000 BK694)))) (Kd.R_lt (rw_ (fa_ HO_668001 BK694)))) (Kd.R_lt (rw_ (fa_ HL674_0 BK694)))) (Kd.R_lt (rw_ (fa_ HL674_1 BK694)))) (Kd.R_lt (rw_ (fa_ HO680 BK694)))) (Kd.R_lt (rw_ (fa_ HO683 BK694)))) (Kd.R_lt (rw_ (fa_ HO689 BK694)))) (Kd.R_lt (rw_ (fa_ HO692 BK694)))) (bF_ hB_));have HO700:=A_ (rE_ (Kd.R_new' (Kd.R_new' (Kd.R_new' (Kd.R_new' (Kd.R_new' (Kd.R_new' (Kd.R_new' (Kd.R_new' ho1 (Kd.R_lt (rw_ (fa_ HO_668000 BK694)))) (Kd.R_lt (rw_ (fa_ HO_668001 BK694)))) (Kd.R_lt (rw_ (fa_ HL674_0 BK694)))) (Kd.R_lt (rw_ (fa_ HL674_1 BK694)))) (Kd.R_lt (rw_ (fa_ HO680 BK694)))) (Kd.R_lt (rw_ (fa_ HO683 BK694)))) (Kd.R_lt (rw_ (fa_ HO689 BK694)))) (Kd.R_lt (rw_ (fa_ HO692 BK694)))) (bF_ hB_));replace HO_668000:=A_ (Kd.R_mono (Kd.R_told (Kd.R_told (Kd.R_old (rw_ (fa_ HO_668000 BK694)) hb) (Kd.R_base ho0)) (Kd.R_base ho1)) (fun _ h_=>h_.1));replace HO_668001:=A_ (Kd.R_mono (Kd.R_told (Kd.R_told (Kd.R_old (rw_ (fa_ HO_668001 BK694)) hb) (Kd.R_base ho0)) (Kd.R_base ho1)) (fun _ h_=>h_.1));replace HL674_0:=A_ (Kd.R_mono (Kd.R_told (Kd.R_told (Kd.R_old (rw_ (fa_ HL674_0 BK694)) hb) (Kd.R_base ho0)) (Kd.R_base ho1)) (fun _ h_=>h_.1));replace HL674_1:=A_ (Kd.R_mono (Kd.R_told (Kd.R_told (Kd.R_old (rw_ (fa_ HL674_1 BK694)) hb) (Kd.R_base ho0)) (Kd.R_base ho1)) (fun _ h_=>h_.1));replace HO680:=A_ (Kd.R_mono (Kd.R_told (Kd.R_told (Kd.R_old (rw_ (fa_ HO680 BK694)) hb) (Kd.R_base ho0)) (Kd.R_base ho1)) (fun _ h_=>h_.1));replace HO683:=A_ (Kd.R_mono (Kd.R_told (Kd.R_told (Kd.R_old (rw_ (fa_ HO683 BK694)) hb) (Kd.R_base ho0)) (Kd.R_base ho1)) (fun _ h_=>h_.1));replace HO689:=A_ (Kd.R_mono (Kd.R_told (Kd.R_told (Kd.R_old (rw_ (fa_ HO689 BK694)) hb) (Kd.R_base ho0)) (Kd.R_base ho1)) (fun _ h_=>h_.1));replace HO692:=A_ (Kd.R_mono (Kd.R_told (Kd.R_told (Kd.R_old (rw_ (fa_ HO692 BK694)) hb) (Kd.R_base ho0)) (Kd.R_base ho1)) (fun _ h_=>h_.1));replace BK667:=A_ (kE_ (g:=gb667) (o:=.cells #[.slice Ao8 t661.length co8,.slice Ao10 t664.length co10] 25 (0,0)) (by (with_reducible repeat (first | refine kA_ ?_ _ | refine kB_ ?_ | refine kC_ ?_ _));refine blk_far ?_ NB667_694.out _;(with_reducible repeat (first | refine kA_ ?_ _ | refine kB_ ?_ | refine kC_ ?_ _));refine blk_far ?_ NB667_694.out _;(with_reducible repeat (first | refine kA_ ?_ _ | refine kB_ ?_ | refine kC_ ?_ _));exact BK667.out) hb);replace BK675:=A_ (kE_ (g:=gb675) (o:=.cells #[.slice A674_0 ((rd_T25 t668 (ji22)).f0).length c674_0,.slice A674_1 ((rd_T25 t668 (ji22)).f1).length c674_1] 25 (0,0)) (by (with_reducible repeat (first | refine kA_ ?_ _ | refine kB_ ?_ | refine kC_ ?_ _));refine blk_far ?_ NB675_694.out _;(with_reducible repeat (first | refine kA_ ?_ _ | refine kB_ ?_ | refine kC_ ?_ _));refine blk_far ?_ NB675_694.out _;(with_reducible repeat (first | refine kA_ ?_ _ | refine kB_ ?_ | refine kC_ ?_ _));exact BK675.out) hb);replace BK685:=A_ (kE_ (g:=gb685) (o:=.cells #[.slice Ao41 t678.length co41,.slice Ao45 t681.length co45] 25 (0,0)) (by (with_reducible repeat (first | refine kA_ ?_ _ | refine kB_ ?_ | refine kC_ ?_ _));refine blk_far ?_ NB685_694.out _;(with_reducible repeat (first | refine kA_ ?_ _ | refine kB_ ?_ | refine kC_ ?_ _));refine blk_far ?_ NB685_694.out _;(with_reducible repeat (first | refine kA_ ?_ _ | refine kB_ ?_ | refine kC_ ?_ _));exact BK685.out) hb);replace BK694:=A_ (kE_ (g:=gb694) (o:=.cells #[.slice Ao52 t687.length co52,.slice Ao54 t690.length co54] 25 (0,0)) qp_ hb);replace HB:=b1_ hb;clear hb ho0 ho1) | ((with_reducible refine gB_ (N:=13) rfl ?_);(try (refine gate_guard (by rfl) ?_;dsimp only));refine bx_ 13 #[.slice none 0 0,.slice none 0 0] 25 ?_;intro gb702 hg w59 hbox hb;replace HO_4:=A_ (Kd.S_below (Kd.S_elderB (ss_ HO_4) gb702 (Nat.le_of_eq hg.symm)) hb);replace HO_668000:=rb_ HO_668000 hb;replace HO_668001:=rb_ HO_668001 hb;replace HL674_0:=rb_ HL674_0 hb;replace HL674_1:=rb_ HL674_1 hb;replace HO680:=rb_ HO680 hb;replace HO683:=rb_ HO683 hb;replace HO689:=rb_ HO689 hb;replace HO692:=rb_ HO692 hb;replace HO697:=rb_ HO697 hb;replace HO700:=rb_ HO700 hb;have BK702:=A_ hbox;have GW702:=gw_ w hg;have GE702:=GW702;replace HB:=b1_ hb;have NB667_702:=gN_ BK667 hg;have NB702_667:=gP_ BK667 hg;replace BK667:=bb_ BK667 hb;have NB675_702:=gN_ BK675 hg;have NB702_675:=gP_ BK675 hg;replace BK675:=bb_ BK675 hb;have NB685_702:=gN_ BK685 hg;have NB702_685:=gP_ BK685 hg;replace BK685:=bb_ BK685 hb;have NB694_702:=gN_ BK694 hg;have NB702_694:=gP_ BK694 hg;replace BK694:=bb_ BK694 hb;clear hb hbox hg;obtain ⟨Ao60,co60,eo60⟩:=Kd.R_slice HO697.out;subst eo60;have hnb61:=NB702_667.out;have hnc61:=NB667_702.out;have hnb62:=NB702_675.out;have hnc62:=NB675_702.out;have hnb63:=NB702_685.out;have hnc63:=NB685_702.out;have hnb64:=NB702_694.out;have hnc64:=NB694_702.out;obtain ⟨hcz65_0,hcz65_1,hfz65_0,hfz65_1⟩:=c2_ BK702;obtain ⟨Ao66,co66,eo66⟩:=Kd.R_slice HO700.out;subst eo66))
      (try simp only [Act.put,sA_,sB_,sC_])
      go_cut [119] (fun v119 wc=>∃ (kq:Nat) (x119_29:Bool),v119 = .bool x119_29∧Aside0 (Z41.j1 kq t668 x119_29 = some r)∧Aside0 (kq≤kj4)∧Aside0 (Kd.S k25 25 wc w.heap.size (fun k_=>some k_≠((.slice Ao8 t661.length co8):Value).ownBlock∧some k_≠((.slice Ao10 t664.length co10):Value).ownBlock∧some k_≠((.slice Ao41 t678.length co41):Value).ownBlock∧some k_≠((.slice Ao45 t681.length co45):Value).ownBlock∧some k_≠((.slice Ao52 t687.length co52):Value).ownBlock∧some k_≠((.slice Ao54 t690.length co54):Value).ownBlock∧some k_≠((.slice Ao60 t695.length co60):Value).ownBlock∧some k_≠((.slice Ao66 t698.length co66):Value).ownBlock∧k_≠gb667∧k_≠gb685∧k_≠gb694∧k_≠gb702) (.slice (some ad674) t668.length co32) t668)∧Aside0 (Kd.R (Kd.int .i64) 3 wc w.heap.size (fun k_=>some k_≠((.slice Ao10 t664.length co10):Value).ownBlock∧some k_≠((.slice Ao41 t678.length co41):Value).ownBlock∧some k_≠((.slice Ao45 t681.length co45):Value).ownBlock∧some k_≠((.slice Ao52 t687.length co52):Value).ownBlock∧some k_≠((.slice Ao54 t690.length co54):Value).ownBlock∧some k_≠((.slice Ao60 t695.length co60):Value).ownBlock∧some k_≠((.slice Ao66 t698.length co66):Value).ownBlock) (.slice Ao8 t661.length co8) t661)∧Aside0 (Kd.R (Kd.int .i64) 3 wc w.heap.size (fun k_=>some k_≠((.slice Ao8 t661.length co8):Value).ownBlock∧some k_≠((.slice Ao41 t678.length co41):Value).ownBlock∧some k_≠((.slice Ao45 t681.length co45):Value).ownBlock∧some k_≠((.slice Ao52 t687.length co52):Value).ownBlock∧some k_≠((.slice Ao54 t690.length co54):Value).ownBlock∧some k_≠((.slice Ao60 t695.length co60):Value).ownBlock∧some k_≠((.slice Ao66 t698.length co66):Value).ownBlock) (.slice Ao10 t664.length co10) t664)∧Aside0 (Kd.R (Kd.int .i64) 3 wc w.heap.size (fun k_=>some k_≠((.slice Ao8 t661.length co8):Value).ownBlock∧some k_≠((.slice Ao10 t664.length co10):Value).ownBlock∧some k_≠((.slice Ao45 t681.length co45):Value).ownBlock∧some k_≠((.slice Ao52 t687.length co52):Value).ownBlock∧some k_≠((.slice Ao54 t690.length co54):Value).ownBlock∧some k_≠((.slice Ao60 t695.length co60):Value).ownBlock∧some k_≠((.slice Ao66 t698.length co66):Value).ownBlock) (.slice Ao41 t678.length co41) t678)∧Aside0 (Kd.R (Kd.int .i64) 3 wc w.heap.size (fun k_=>some k_≠((.slice Ao8 t661.length co8):Value).ownBlock∧some k_≠((.slice Ao10 t664.length co10):Value).ownBlock∧some k_≠((.slice Ao41 t678.length co41):Value).ownBlock∧some k_≠((.slice Ao52 t687.length co52):Value).ownBlock∧some k_≠((.slice Ao54 t690.length co54):Value).ownBlock∧some k_≠((.slice Ao60 t695.length co60):Value).ownBlock∧some k_≠((.slice Ao66 t698.length co66):Value).ownBlock) (.slice Ao45 t681.length co45) t681)∧Aside0 (Kd.R (Kd.int .i64) 3 wc w.heap.size (fun k_=>some k_≠((.slice Ao8 t661.length co8):Value).ownBlock∧some k_≠((.slice Ao10 t664.length co10):Value).ownBlock∧some k_≠((.slice Ao41 t678.length co41):Value).ownBlock∧some k_≠((.slice Ao45 t681.length co45):Value).ownBlock∧some k_≠((.slice Ao54 t690.length co54):Value).ownBlock∧some k_≠((.slice Ao60 t695.length co60):Value).ownBlock∧some k_≠((.slice Ao66 t698.length co66):Value).ownBlock) (.slice Ao52 t687.length co52) t687)∧Aside0 (Kd.R (Kd.int .i64) 3 wc w.heap.size (fun k_=>some k_≠((.slice Ao8 t661.length co8):Value).ownBlock∧some k_≠((.slice Ao10 t664.length co10):Value).ownBlock∧some k_≠((.slice Ao41 t678.length co41):Value).ownBlock∧some k_≠((.slice Ao45 t681.length co45):Value).ownBlock∧some k_≠((.slice Ao52 t687.length co52):Value).ownBlock∧some k_≠((.slice Ao60 t695.length co60):Value).ownBlock∧some k_≠((.slice Ao66 t698.length co66):Value).ownBlock) (.slice Ao54 t690.length co54) t690)∧Aside0 (Kd.R (Kd.int .i64) 3 wc w.heap.size (fun k_=>some k_≠((.slice Ao8 t661.length co8):Value).ownBlock∧some k_≠((.slice Ao10 t664.length co10):Value).ownBlock∧some k_≠((.slice Ao41 t678.length co41):Value).ownBlock∧some k_≠((.slice Ao45 t681.length co45):Value).ownBlock∧some k_≠((.slice Ao52 t687.length co52):Value).ownBlock∧some k_≠((.slice Ao54 t690.length co54):Value).ownBlock∧some k_≠((.slice Ao66 t698.length co66):Value).ownBlock) (.slice Ao60 t695.length co60) t695)∧Aside0 (Kd.R (Kd.int .i64) 3 wc w.heap.size (fun k_=>some k_≠((.slice Ao8 t661.length co8):Value).ownBlock∧some k_≠((.slice Ao10 t664.length co10):Value).ownBlock∧some k_≠((.slice Ao41 t678.length co41):Value).ownBlock∧some k_≠((.slice Ao45 t681.length co45):Value).ownBlock∧some k_≠((.slice Ao52 t687.length co52):Value).ownBlock∧some k_≠((.slice Ao54 t690.length co54):Value).ownBlock∧some k_≠((.slice Ao60 t695.length co60):Value).ownBlock) (.slice Ao66 t698.length co66) t698)∧Aside0 (wc.heap[gb667]? = some (.cells #[(.slice Ao8 t661.length co8),(.slice Ao10 t664.length co10)] 25 (0,0)))∧Aside0 (wc.heap[gb685]? = some (.cells #[(.slice Ao41 t678.length co41),(.slice Ao45 t681.length co45)] 25 (0,0)))∧Aside0 (wc.heap[gb694]? = some (.cells #[(.slice Ao52 t687.length co52),(.slice Ao54 t690.length co54)] 25 (0,0)))∧Aside0 (wc.heap[gb702]? = some (.cells #[(.slice Ao60 t695.length co60),(.slice Ao66 t698.length co66)] 25 (0,0)))∧Aside0 (Below w.heap.size w wc))
      case first =>
       have H:=HC30.out
       clear HC30
       by_cases c67:t677 = true
       ·subst c67
        rw [if_pos rfl] at H
        by_cases c68:t684 = true
        ·subst c68
         rw [if_pos rfl] at H
         by_cases c69:t693 = true
         ·subst c69
          rw [if_pos rfl] at H
          by_cases c70:t701 = true
          ·subst c70
           rw [if_pos rfl] at H
           obtain ⟨t703,A71,H⟩:=bi_ H
           by_cases c72:t703 = true
           ·subst c72
            rw [if_pos rfl] at H
            obtain ⟨t704,A73,H⟩:=bi_ H
            by_cases c74:t704 = true
            ·subst c74
             rw [if_pos rfl] at H
             obtain ⟨t705,A75,H⟩:=bi_ H
             by_cases c76:t705 = true
             ·subst c76
              rw [if_pos rfl] at H
              obtain ⟨t706,A77,H⟩:=bi_ H
              by_cases c78:t706 = true
              ·subst c78
               rw [if_pos rfl] at H
               obtain ⟨t707,A79,H⟩:=bi_ H
               have H':=A_ H
               clear H
               have hnb80:=NB685_667.out
               have hnc80:=NB667_685.out
               have hnb81:=NB685_675.out
               have hnc81:=NB675_685.out
               have hnb82:=NB685_694.out
               have hnc82:=NB694_685.out
               have hnb83:=NB685_702.out
               have hnc83:=NB702_685.out
               obtain ⟨hcz84_0,hcz84_1,hfz84_0,hfz84_1⟩:=c2_ BK685
               have hnb85:=NB675_667.out
               have hnc85:=NB667_675.out
               have hnb86:=NB675_694.out
               have hnc86:=NB694_675.out
               have hnb87:=NB675_702.out
               have hnc87:=NB702_675.out
               have hcz88_0:w59.cell? ⟨gb675,0,none⟩ = some (.slice A674_0 ((rd_T25 t668 (ji22)).f0).length c674_0):=cz0_ BK675
               have hcz88_1:w59.cell? ⟨gb675,1,none⟩ = some (.slice A674_1 ((rd_T25 t668 (ji22)).f1).length c674_1):=cz1_ BK675
               have hfz88_0:=kD_ BK675.out 0
               have hfz88_1:=kD_ BK675.out 1
               go_wp2_with (first | (go_at_call 21;(with_reducible refine (Z5.calls kj4 _ _ t678 _ _ t681 _ _ ((rd_T25 t668 (ji22)).f0) _ _ ((rd_T25 t668 (ji22)).f1) true _ ?side1 ?side2 ?side3 ?side4 ?side5 ?side6 ?side7 ?side8 A71.out).mono ?_);(case side1=>refine (Kd.R_reads' (e:=3) (base:=w.heap.size) (ok:=fun k_=>(((some k_≠(.slice A674_0 ((rd_T25 t668 (ji22)).f0).length c674_0:Value).ownBlock∧(some k_≠(.slice A674_1 ((rd_T25 t668 (ji22)).f1).length c674_1:Value).ownBlock∧(some k_≠(.slice Ao45 t681.length co45:Value).ownBlock∧(some k_≠(.slice Ao52 t687.length co52:Value).ownBlock∧(some k_≠(.slice Ao54 t690.length co54:Value).ownBlock∧(some k_≠(.slice Ao8 t661.length co8:Value).ownBlock∧some k_≠(.slice Ao10 t664.length co10:Value).ownBlock))))))∧some k_≠(.slice Ao60 t695.length co60:Value).ownBlock)∧some k_≠(.slice Ao66 t698.length co66:Value).ownBlock)) (n:=t678.length) (c:=co41) ?_).2.2;exact (rw_ (fa_ HO680 BK702)));(case side2=>exact (Kd.R_reads' HO680.out).2.1);(case side3=>refine (Kd.R_reads' (e:=3) (base:=w.heap.size) (ok:=fun k_=>(((some k_≠(.slice A674_0 ((rd_T25 t668 (ji22)).f0).length c674_0:Value).ownBlock∧(some k_≠(.slice A674_1 ((rd_T25 t668 (ji22)).f1).length c674_1:Value).ownBlock∧(some k_≠(.slice Ao41 t678.length co41:Value).ownBlock∧(some k_≠(.slice Ao52 t687.length co52:Value).ownBlock∧(some k_≠(.slice Ao54 t690.length co54:Value).ownBlock∧(some k_≠(.slice Ao8 t661.length co8:Value).ownBlock∧some k_≠(.slice Ao10 t664.length co10:Value).ownBlock))))))∧some k_≠(.slice Ao60 t695.length co60:Value).ownBlock)∧some k_≠(.slice Ao66 t698.length co66:Value).ownBlock)) (n:=t681.length) (c:=co45) ?_).2.2;exact (rw_ (fa_ HO683 BK702)));(case side4=>exact (Kd.R_reads' HO683.out).2.1);(case side5=>repeat (first | exact ((Kd.R_reads' (rw_ (fa_ HL674_0 BK702))).2.2) | (with_reducible first | refine cA_ ?_ _ | refine cB_ ?_ _ | refine cC_ ?_)));(case side6=>exact HC674_0.out);(case side7=>repeat (first | exact ((Kd.R_reads' (rw_ (fa_ HL674_1 BK702))).2.2) | (with_reducible first | refine cA_ ?_ _ | refine cB_ ?_ _ | refine cC_ ?_)));(case side8=>exact HC674_1.out);rintro e w89 ⟨rfl,hb⟩;replace HO_4:=A_ (Kd.S_below (sw_ (Kd.S_mono (Kd.S_far (p:=⟨gb702,1,none⟩) (Kd.S_far (p:=⟨gb702,0,none⟩) (Kd.S_mono HO_4.out (fun k_ hk=>(⟨hk,hk.2⟩:_∧k_≠gb702))) (fun _ hk=>hk.2) (.slice Ao60 t695.length co60)) (fun _ hk=>hk.2) (.slice Ao66 t698.length co66)) (fun _ h_=>h_.1))) hb);replace HO_668000:=A_ (rD_ (rw_ (fa_ HO_668000 BK702)) hb);replace HO_668001:=A_ (rD_ (rw_ (fa_ HO_668001 BK702)) hb);replace HL674_0:=A_ (rD_ (rw_ (fa_ HL674_0 BK702)) hb);replace HL674_1:=A_ (rD_ (rw_ (fa_ HL674_1 BK702)) hb);replace HO680:=A_ (rD_ (rw_ (fa_ HO680 BK702)) hb);replace HO683:=A_ (rD_ (rw_ (fa_ HO683 BK702)) hb);replace HO689:=A_ (rD_ (rw_ (fa_ HO689 BK702)) hb);replace HO692:=A_ (rD_ (rw_ (fa_ HO692 BK702)) hb);replace HO697:=A_ (rD_ (rw_ (fa_ HO697 BK702)) hb);replace HO700:=A_ (rD_ (rw_ (fa_ HO700 BK702)) hb);replace BK667:=A_ (kE_ (g:=gb667) (o:=.cells #[.slice Ao8 t661.length co8,.slice Ao10 t664.length co10] 25 (0,0)) (by (with_reducible repeat (first | refine kA_ ?_ _ | refine kB_ ?_ | refine kC_ ?_ _));refine blk_far ?_ NB667_702.out _;(with_reducible repeat (first | refine kA_ ?_ _ | refine kB_ ?_ | refine kC_ ?_ _));refine blk_far ?_ NB667_702.out _;(with_reducible repeat (first | refine kA_ ?_ _ | refine kB_ ?_ | refine kC_ ?_ _));exact BK667.out) hb);replace BK675:=A_ (kE_ (g:=gb675) (o:=.cells #[.slice A674_0 ((rd_T25 t668 (ji22)).f0).length c674_0,.slice A674_1 ((rd_T25 t668 (ji22)).f1).length c674_1] 25 (0,0)) (by (with_reducible repeat (first | refine kA_ ?_ _ | refine kB_ ?_ | refine kC_ ?_ _));refine blk_far ?_ NB675_702.out _;(with_reducible repeat (first | refine kA_ ?_ _ | refine kB_ ?_ | refine kC_ ?_ _));refine blk_far ?_ NB675_702.out _;(with_reducible repeat (first | refine kA_ ?_ _ | refine kB_ ?_ | refine kC_ ?_ _));exact BK675.out) hb);replace BK685:=A_ (kE_ (g:=gb685) (o:=.cells #[.slice Ao41 t678.length co41,.slice Ao45 t681.length co45] 25 (0,0)) (by (with_reducible repeat (first | refine kA_ ?_ _ | refine kB_ ?_ | refine kC_ ?_ _));refine blk_far ?_ NB685_702.out _;(with_reducible repeat (first | refine kA_ ?_ _ | refine kB_ ?_ | refine kC_ ?_ _));refine blk_far ?_ NB685_702.out _;(with_reducible repeat (first | refine kA_ ?_ _ | refine kB_ ?_ | refine kC_ ?_ _));exact BK685.out) hb);replace BK694:=A_ (kE_ (g:=gb694) (o:=.cells #[.slice Ao52 t687.length co52,.slice Ao54 t690.length co54] 25 (0,0)) (by (with_reducible repeat (first | refine kA_ ?_ _ | refine kB_ ?_ | refine kC_ ?_ _));refine blk_far ?_ NB694_702.out _;(with_reducible repeat (first | refine kA_ ?_ _ | refine kB_ ?_ | refine kC_ ?_ _));refine blk_far ?_ NB694_702.out _;(with_reducible repeat (first | refine kA_ ?_ _ | refine kB_ ?_ | refine kC_ ?_ _));exact BK694.out) hb);replace BK702:=A_ (kE_ (g:=gb702) (o:=.cells #[.slice Ao60 t695.length co60,.slice Ao66 t698.length co66] 25 (0,0)) qp_ hb);replace HB:=b1_ hb;clear hb;have hnb90:=NB702_667.out;have hnc90:=NB667_702.out;have hnb91:=NB702_694.out;have hnc91:=NB694_702.out;obtain ⟨hcz92_0,hcz92_1,hfz92_0,hfz92_1⟩:=c2_ BK702;have hcz93_0:w89.cell? ⟨gb675,0,none⟩ = some (.slice A674_0 ((rd_T25 t668 (ji22)).f0).length c674_0):=cz0_ BK675;have hcz93_1:w89.cell? ⟨gb675,1,none⟩ = some (.slice A674_1 ((rd_T25 t668 (ji22)).f1).length c674_1):=cz1_ BK675;have hfz93_0:=kD_ BK675.out 0;have hfz93_1:=kD_ BK675.out 1) | (go_at_call 29;(with_reducible refine (Z16.calls kj4 _ _ t695 _ _ t698 _ _ ((rd_T25 t668 (ji22)).f0) _ _ ((rd_T25 t668 (ji22)).f1) true _ (cr_ HO697) ((Kd.R_reads' HO697.out).2.1) (cr_ HO700) ((Kd.R_reads' HO700.out).2.1) (cw_ ((Kd.R_reads' (rr_ HL674_0)).2.2)) HC674_0.out (cw_ ((Kd.R_reads' (rr_ HL674_1)).2.2)) HC674_1.out A73.out).mono ?_);rintro e w94 ⟨rfl,hb⟩;replace HO_4:=sb_ HO_4 hb;replace HO_668000:=rb_ HO_668000 hb;replace HO_668001:=rb_ HO_668001 hb;replace HL674_0:=rb_ HL674_0 hb;replace HL674_1:=rb_ HL674_1 hb;replace HO680:=rb_ HO680 hb;replace HO683:=rb_ HO683 hb;replace HO689:=rb_ HO689 hb;replace HO692:=rb_ HO692 hb;replace HO697:=rb_ HO697 hb;replace HO700:=rb_ HO700 hb;replace BK667:=bb_ BK667 hb;replace BK675:=bb_ BK675 hb;replace BK685:=bb_ BK685 hb;replace BK694:=bb_ BK694 hb;replace BK702:=bb_ BK702 hb;replace HB:=b1_ hb;clear hb;have hnb95:=NB667_694.out;have hnc95:=NB694_667.out;obtain ⟨hcz96_0,hcz96_1,hfz96_0,hfz96_1⟩:=c2_ BK667;obtain ⟨hcz97_0,hcz97_1,hfz97_0,hfz97_1⟩:=c2_ BK694) | (go_at_call 30;(with_reducible refine (Z28.calls kj4 _ _ t661 _ _ t664 _ _ t687 _ _ t690 true _ (cr_ HO_668000) ((Kd.R_reads' HO_668000.out).2.1) (cr_ HO_668001) ((Kd.R_reads' HO_668001.out).2.1) (cr_ HO689) ((Kd.R_reads' HO689.out).2.1) (cr_ HO692) ((Kd.R_reads' HO692.out).2.1) A75.out).mono ?_);rintro e w98 ⟨rfl,hb⟩;replace HO_4:=sb_ HO_4 hb;replace HO_668000:=rb_ HO_668000 hb;replace HO_668001:=rb_ HO_668001 hb;replace HL674_0:=rb_ HL674_0 hb;replace HL674_1:=rb_ HL674_1 hb;replace HO680:=rb_ HO680 hb;replace HO683:=rb_ HO683 hb;replace HO689:=rb_ HO689 hb;replace HO692:=rb_ HO692 hb;replace HO697:=rb_ HO697 hb;replace HO700:=rb_ HO700 hb;replace BK667:=bb_ BK667 hb;replace BK675:=bb_ BK675 hb;replace BK685:=bb_ BK685 hb;replace BK694:=bb_ BK694 hb;replace BK702:=bb_ BK702 hb;replace HB:=b1_ hb;clear hb;obtain ⟨hcz99_0,hcz99_1,hfz99_0,hfz99_1⟩:=c2_ BK694;obtain ⟨hcz100_0,hcz100_1,hfz100_0,hfz100_1⟩:=c2_ BK667) | (go_at_call 30;(with_reducible refine (Z28.calls kj4 _ _ t687 _ _ t690 _ _ t661 _ _ t664 true _ (cr_ HO689) ((Kd.R_reads' HO689.out).2.1) (cr_ HO692) ((Kd.R_reads' HO692.out).2.1) (cr_ HO_668000) ((Kd.R_reads' HO_668000.out).2.1) (cr_ HO_668001) ((Kd.R_reads' HO_668001.out).2.1) A77.out).mono ?_);rintro e w101 ⟨rfl,hb⟩;replace HO_4:=sb_ HO_4 hb;replace HO_668000:=rb_ HO_668000 hb;replace HO_668001:=rb_ HO_668001 hb;replace HL674_0:=rb_ HL674_0 hb;replace HL674_1:=rb_ HL674_1 hb;replace HO680:=rb_ HO680 hb;replace HO683:=rb_ HO683 hb;replace HO689:=rb_ HO689 hb;replace HO692:=rb_ HO692 hb;replace HO697:=rb_ HO697 hb;replace HO700:=rb_ HO700 hb;replace BK667:=bb_ BK667 hb;replace BK675:=bb_ BK675 hb;replace BK685:=bb_ BK685 hb;replace BK694:=bb_ BK694 hb;replace BK702:=bb_ BK702 hb;replace HB:=b1_ hb;clear hb;have hcz102_0:w101.cell? ⟨gb675,0,none⟩ = some (.slice A674_0 ((rd_T25 t668 (ji22)).f0).length c674_0):=cz0_ BK675;have hcz102_1:w101.cell? ⟨gb675,1,none⟩ = some (.slice A674_1 ((rd_T25 t668 (ji22)).f1).length c674_1):=cz1_ BK675;have hfz102_0:=kD_ BK675.out 0;have hfz102_1:=kD_ BK675.out 1) | (go_at_call 19;(with_reducible refine (Z51.calls kj4 _ _ ((rd_T25 t668 (ji22)).f0) _ _ ((rd_T25 t668 (ji22)).f1) t707 _ (cw_ ((Kd.R_reads' (rr_ HL674_0)).2.2)) HC674_0.out (cw_ ((Kd.R_reads' (rr_ HL674_1)).2.2)) HC674_1.out A79.out).mono ?_);rintro e w103 ⟨rfl,hb⟩;replace HO_4:=sb_ HO_4 hb;replace HO_668000:=rb_ HO_668000 hb;replace HO_668001:=rb_ HO_668001 hb;replace HL674_0:=rb_ HL674_0 hb;replace HL674_1:=rb_ HL674_1 hb;replace HO680:=rb_ HO680 hb;replace HO683:=rb_ HO683 hb;replace HO689:=rb_ HO689 hb;replace HO692:=rb_ HO692 hb;replace HO697:=rb_ HO697 hb;replace HO700:=rb_ HO700 hb;replace BK667:=bb_ BK667 hb;replace BK675:=bb_ BK675 hb;replace BK685:=bb_ BK685 hb;replace BK694:=bb_ BK694 hb;replace BK702:=bb_ BK702 hb;replace HB:=b1_ hb;clear hb))
               go_meet
               case rel=>exact ⟨_,((t707 != (t668.length:Int))),qc_,H',⟨by have:=HJ4.out;first | omega | exact nA_ _⟩,⟨(sw_ (Kd.S_mono HO_4.out (fun _ hk=>⟨hk.1.1.1.2.2.2.2.1,⟨hk.1.1.1.2.2.2.2.2.1,⟨hk.1.1.1.1,⟨hk.1.1.1.2.1,⟨hk.1.1.1.2.2.1,⟨hk.1.1.1.2.2.2.1,⟨hk.1.1.2,⟨hk.1.2,⟨hk.1.1.1.2.2.2.2.2.2.1,⟨hk.1.1.1.2.2.2.2.2.2.2.2.1,⟨hk.1.1.1.2.2.2.2.2.2.2.2.2,hk.2⟩⟩⟩⟩⟩⟩⟩⟩⟩⟩⟩)))⟩,⟨(rw_ (Kd.R_mono HO_668000.out (fun _ hk=>⟨hk.1.1.2.2.2.2,⟨hk.1.1.1,⟨hk.1.1.2.1,⟨hk.1.1.2.2.1,⟨hk.1.1.2.2.2.1,⟨hk.1.2,hk.2⟩⟩⟩⟩⟩⟩)))⟩,⟨(rw_ (Kd.R_mono HO_668001.out (fun _ hk=>⟨hk.1.1.2.2.2.2,⟨hk.1.1.1,⟨hk.1.1.2.1,⟨hk.1.1.2.2.1,⟨hk.1.1.2.2.2.1,⟨hk.1.2,hk.2⟩⟩⟩⟩⟩⟩)))⟩,⟨(rw_ (Kd.R_mono HO680.out (fun _ hk=>⟨hk.1.1.2.2.2.2.2.1,⟨hk.1.1.2.2.2.2.2.2,⟨hk.1.1.2.2.1,⟨hk.1.1.2.2.2.1,⟨hk.1.1.2.2.2.2.1,⟨hk.1.2,hk.2⟩⟩⟩⟩⟩⟩)))⟩,⟨(rw_ (Kd.R_mono HO683.out (fun _ hk=>⟨hk.1.1.2.2.2.2.2.1,⟨hk.1.1.2.2.2.2.2.2,⟨hk.1.1.2.2.1,⟨hk.1.1.2.2.2.1,⟨hk.1.1.2.2.2.2.1,⟨hk.1.2,hk.2⟩⟩⟩⟩⟩⟩)))⟩,⟨(rw_ (Kd.R_mono HO689.out (fun _ hk=>⟨hk.1.1.2.2.2.2.2.1,⟨hk.1.1.2.2.2.2.2.2,⟨hk.1.1.2.2.1,⟨hk.1.1.2.2.2.1,⟨hk.1.1.2.2.2.2.1,⟨hk.1.2,hk.2⟩⟩⟩⟩⟩⟩)))⟩,⟨(rw_ (Kd.R_mono HO692.out (fun _ hk=>⟨hk.1.1.2.2.2.2.2.1,⟨hk.1.1.2.2.2.2.2.2,⟨hk.1.1.2.2.1,⟨hk.1.1.2.2.2.1,⟨hk.1.1.2.2.2.2.1,⟨hk.1.2,hk.2⟩⟩⟩⟩⟩⟩)))⟩,⟨(rw_ (Kd.R_mono HO697.out (fun _ hk=>⟨hk.1.1.1.1.1.1.1.2,⟨hk.1.1.1.1.1.1.2,⟨hk.1.1.1.2,⟨hk.1.1.2,⟨hk.1.2,⟨hk.2,hk.1.1.1.1.1.1.1.1⟩⟩⟩⟩⟩⟩)))⟩,⟨(rw_ (Kd.R_mono HO700.out (fun _ hk=>⟨hk.1.1.1.1.1.1.1.2,⟨hk.1.1.1.1.1.1.2,⟨hk.1.1.1.2,⟨hk.1.1.2,⟨hk.1.2,⟨hk.2,hk.1.1.1.1.1.1.1.1⟩⟩⟩⟩⟩⟩)))⟩,⟨(kk_ BK667)⟩,⟨(kk_ BK685)⟩,⟨(kk_ BK694)⟩,⟨(kk_ BK702)⟩,⟨hB_⟩⟩
              ·replace c78:=Bool.eq_false_iff.mpr c78
               subst c78
               have H1:(Z41.j1 kj4 t668 true) = some r:=by rw [if_neg (show ¬ (false = true) by decide)] at H;exact H
               exact absurd (Z41.j1_true H1) (by rw [hr1_.out];decide)
             ·replace c76:=Bool.eq_false_iff.mpr c76
              subst c76
              have H1:(Z41.j1 kj4 t668 true) = some r:=by rw [if_neg (show ¬ (false = true) by decide)] at H;exact H
              exact absurd (Z41.j1_true H1) (by rw [hr1_.out];decide)
            ·replace c74:=Bool.eq_false_iff.mpr c74
             subst c74
             have H1:(Z41.j1 kj4 t668 true) = some r:=by rw [if_neg (show ¬ (false = true) by decide)] at H;exact H
             exact absurd (Z41.j1_true H1) (by rw [hr1_.out];decide)
           ·replace c72:=Bool.eq_false_iff.mpr c72
            subst c72
            have H1:(Z41.j1 kj4 t668 true) = some r:=by rw [if_neg (show ¬ (false = true) by decide)] at H;exact H
            exact absurd (Z41.j1_true H1) (by rw [hr1_.out];decide)
          ·replace c70:=Bool.eq_false_iff.mpr c70
           subst c70
           have H1:(Z41.j1 kj4 t668 true) = some r:=by rw [if_neg (show ¬ (false = true) by decide)] at H;exact H
           exact absurd (Z41.j1_true H1) (by rw [hr1_.out];decide)
         ·replace c69:=Bool.eq_false_iff.mpr c69
          subst c69
          have H1:(Z41.j1 kj4 t668 true) = some r:=by rw [if_neg (show ¬ (false = true) by decide)] at H;exact H
          exact absurd (Z41.j1_true H1) (by rw [hr1_.out];decide)
        ·replace c68:=Bool.eq_false_iff.mpr c68
         subst c68
         have H1:(Z41.j1 kj4 t668 true) = some r:=by rw [if_neg (show ¬ (false = true) by decide)] at H;exact H
         exact absurd (Z41.j1_true H1) (by rw [hr1_.out];decide)
       ·replace c67:=Bool.eq_false_iff.mpr c67
        subst c67
        have H1:(Z41.j1 kj4 t668 true) = some r:=by rw [if_neg (show ¬ (false = true) by decide)] at H;exact H
        exact absurd (Z41.j1_true H1) (by rw [hr1_.out];decide)
      case rest =>
       clear HC30
       obtain ⟨kq,x119_29,rfl,HA,HJ29,HO_4,HO_668000,HO_668001,HO_686000,HO_686001,HO_695000,HO_695001,HO_703000,HO_703001,BK667,BK685,BK694,BK702,HB⟩:=hcut
       cases kq with
       | zero=>exact absurd HA.out (by simp [Z41.j1])
       | succ kj29 =>
        have H:=HA.out
        clear HA
        simp only [Z41.j1] at H
        by_cases c170:x119_29 = true
        ·subst c170
         rw [if_pos rfl] at H
         exact absurd (Option.some.inj H) (by rw [hr1_.out];decide)
        ·replace c170:=Bool.eq_false_iff.mpr c170
         subst c170
         have H1:(Z41.l0 kj29 t668 t668 (t668.length:Int) 0) = some r:=by rw [if_neg (show ¬ (false = true) by decide)] at H;exact H
         clear H
         have H:=H1
         clear H1
         have H':=A_ H
         clear H
         go_wp2
         go_loopg [122] kj29 (fun kq v122 w'=>∃ (x122_3:Int),v122 = .int .i64 x122_3∧Aside0 (Z41.l0 kq t668 t668 (t668.length:Int) x122_3 = some r)∧Aside0 (kq≤kj29)∧Aside0 (Kd.S k25 25 w' w.heap.size (fun k_=>some k_≠((.slice Ao8 t661.length co8):Value).ownBlock∧some k_≠((.slice Ao10 t664.length co10):Value).ownBlock∧some k_≠((.slice Ao41 t678.length co41):Value).ownBlock∧some k_≠((.slice Ao45 t681.length co45):Value).ownBlock∧some k_≠((.slice Ao52 t687.length co52):Value).ownBlock∧some k_≠((.slice Ao54 t690.length co54):Value).ownBlock∧some k_≠((.slice Ao60 t695.length co60):Value).ownBlock∧some k_≠((.slice Ao66 t698.length co66):Value).ownBlock∧k_≠gb667∧k_≠gb685∧k_≠gb694∧k_≠gb702) (.slice (some ad674) t668.length co32) t668)∧Aside0 (Kd.S k25 25 w' w.heap.size (fun k_=>some k_≠((.slice Ao8 t661.length co8):Value).ownBlock∧some k_≠((.slice Ao10 t664.length co10):Value).ownBlock∧some k_≠((.slice Ao41 t678.length co41):Value).ownBlock∧some k_≠((.slice Ao45 t681.length co45):Value).ownBlock∧some k_≠((.slice Ao52 t687.length co52):Value).ownBlock∧some k_≠((.slice Ao54 t690.length co54):Value).ownBlock∧some k_≠((.slice Ao60 t695.length co60):Value).ownBlock∧some k_≠((.slice Ao66 t698.length co66):Value).ownBlock∧k_≠gb667∧k_≠gb685∧k_≠gb694∧k_≠gb702) (.slice (some ad674) t668.length co32) t668)∧Aside0 (Kd.R (Kd.int .i64) 3 w' w.heap.size (fun k_=>some k_≠((.slice Ao10 t664.length co10):Value).ownBlock∧some k_≠((.slice Ao41 t678.length co41):Value).ownBlock∧some k_≠((.slice Ao45 t681.length co45):Value).ownBlock∧some k_≠((.slice Ao52 t687.length co52):Value).ownBlock∧some k_≠((.slice Ao54 t690.length co54):Value).ownBlock∧some k_≠((.slice Ao60 t695.length co60):Value).ownBlock∧some k_≠((.slice Ao66 t698.length co66):Value).ownBlock) (.slice Ao8 t661.length co8) t661)∧Aside0 (Kd.R (Kd.int .i64) 3 w' w.heap.size (fun k_=>some k_≠((.slice Ao8 t661.length co8):Value).ownBlock∧some k_≠((.slice Ao41 t678.length co41):Value).ownBlock∧some k_≠((.slice Ao45 t681.length co45):Value).ownBlock∧some k_≠((.slice Ao52 t687.length co52):Value).ownBlock∧some k_≠((.slice Ao54 t690.length co54):Value).ownBlock∧some k_≠((.slice Ao60 t695.length co60):Value).ownBlock∧some k_≠((.slice Ao66 t698.length co66):Value).ownBlock) (.slice Ao10 t664.length co10) t664)∧Aside0 (Kd.R (Kd.int .i64) 3 w' w.heap.size (fun k_=>some k_≠((.slice Ao8 t661.length co8):Value).ownBlock∧some k_≠((.slice Ao10 t664.length co10):Value).ownBlock∧some k_≠((.slice Ao45 t681.length co45):Value).ownBlock∧some k_≠((.slice Ao52 t687.length co52):Value).ownBlock∧some k_≠((.slice Ao54 t690.length co54):Value).ownBlock∧some k_≠((.slice Ao60 t695.length co60):Value).ownBlock∧some k_≠((.slice Ao66 t698.length co66):Value).ownBlock) (.slice Ao41 t678.length co41) t678)∧Aside0 (Kd.R (Kd.int .i64) 3 w' w.heap.size (fun k_=>some k_≠((.slice Ao8 t661.length co8):Value).ownBlock∧some k_≠((.slice Ao10 t664.length co10):Value).ownBlock∧some k_≠((.slice Ao41 t678.length co41):Value).ownBlock∧some k_≠((.slice Ao52 t687.length co52):Value).ownBlock∧some k_≠((.slice Ao54 t690.length co54):Value).ownBlock∧some k_≠((.slice Ao60 t695.length co60):Value).ownBlock∧some k_≠((.slice Ao66 t698.length co66):Value).ownBlock) (.slice Ao45 t681.length co45) t681)∧Aside0 (Kd.R (Kd.int .i64) 3 w' w.heap.size (fun k_=>some k_≠((.slice Ao8 t661.length co8):Value).ownBlock∧some k_≠((.slice Ao10 t664.length co10):Value).ownBlock∧some k_≠((.slice Ao41 t678.length co41):Value).ownBlock∧some k_≠((.slice Ao45 t681.length co45):Value).ownBlock∧some k_≠((.slice Ao54 t690.length co54):Value).ownBlock∧some k_≠((.slice Ao60 t695.length co60):Value).ownBlock∧some k_≠((.slice Ao66 t698.length co66):Value).ownBlock) (.slice Ao52 t687.length co52) t687)∧Aside0 (Kd.R (Kd.int .i64) 3 w' w.heap.size (fun k_=>some k_≠((.slice Ao8 t661.length co8):Value).ownBlock∧some k_≠((.slice Ao10 t664.length co10):Value).ownBlock∧some k_≠((.slice Ao41 t678.length co41):Value).ownBlock∧some k_≠((.slice Ao45 t681.length co45):Value).ownBlock∧some k_≠((.slice Ao52 t687.length co52):Value).ownBlock∧some k_≠((.slice Ao60 t695.length co60):Value).ownBlock∧some k_≠((.slice Ao66 t698.length co66):Value).ownBlock) (.slice Ao54 t690.length co54) t690)∧Aside0 (Kd.R (Kd.int .i64) 3 w' w.heap.size (fun k_=>some k_≠((.slice Ao8 t661.length co8):Value).ownBlock∧some k_≠((.slice Ao10 t664.length co10):Value).ownBlock∧some k_≠((.slice Ao41 t678.length co41):Value).ownBlock∧some k_≠((.slice Ao45 t681.length co45):Value).ownBlock∧some k_≠((.slice Ao52 t687.length co52):Value).ownBlock∧some k_≠((.slice Ao54 t690.length co54):Value).ownBlock∧some k_≠((.slice Ao66 t698.length co66):Value).ownBlock) (.slice Ao60 t695.length co60) t695)∧Aside0 (Kd.R (Kd.int .i64) 3 w' w.heap.size (fun k_=>some k_≠((.slice Ao8 t661.length co8):Value).ownBlock∧some k_≠((.slice Ao10 t664.length co10):Value).ownBlock∧some k_≠((.slice Ao41 t678.length co41):Value).ownBlock∧some k_≠((.slice Ao45 t681.length co45):Value).ownBlock∧some k_≠((.slice Ao52 t687.length co52):Value).ownBlock∧some k_≠((.slice Ao54 t690.length co54):Value).ownBlock∧some k_≠((.slice Ao60 t695.length co60):Value).ownBlock) (.slice Ao66 t698.length co66) t698)∧Aside0 (w'.heap[gb667]? = some (.cells #[(.slice Ao8 t661.length co8),(.slice Ao10 t664.length co10)] 25 (0,0)))∧Aside0 (w'.heap[gb685]? = some (.cells #[(.slice Ao41 t678.length co41),(.slice Ao45 t681.length co45)] 25 (0,0)))∧Aside0 (w'.heap[gb694]? = some (.cells #[(.slice Ao52 t687.length co52),(.slice Ao54 t690.length co54)] 25 (0,0)))∧Aside0 (w'.heap[gb702]? = some (.cells #[(.slice Ao60 t695.length co60),(.slice Ao66 t698.length co66)] 25 (0,0)))∧Aside0 (Below w.heap.size w w'))
         case atStart=>exact ⟨(0),qc_,H',⟨nA_ _⟩,⟨(ss_ HO_4)⟩,⟨(ss_ HO_4)⟩,⟨(rr_ HO_668000)⟩,⟨(rr_ HO_668001)⟩,⟨(rr_ HO_686000)⟩,⟨(rr_ HO_686001)⟩,⟨(rr_ HO_695000)⟩,⟨(rr_ HO_695001)⟩,⟨(rr_ HO_703000)⟩,⟨(rr_ HO_703001)⟩,⟨(kk_ BK667)⟩,⟨(kk_ BK685)⟩,⟨(kk_ BK694)⟩,⟨(kk_ BK702)⟩,⟨hB_⟩⟩
         case round =>
          clear H'
          obtain ⟨x122_3,rfl,HA,HK3,HO_4,HO_120,HO_668000,HO_668001,HO_686000,HO_686001,HO_695000,HO_695001,HO_703000,HO_703001,BK667,BK685,BK694,BK702,HB⟩:=hrel
          cases gk with
          | zero=>exact absurd HA.out (by simp [Z41.l0])
          | succ k3 =>
           have H:=HA.out
           clear HA
           simp only [Z41.l0] at H
           by_cases c171:x122_3 < (t668.length:Int)
           ·rw [if_pos c171] at H
            have c171b0:=oC_ c171
            clear c171
            replace H:=cx_ H;obtain ⟨c172b0,H⟩:=H
            replace H:=cx_ H;obtain ⟨c173b0,H⟩:=H
            have c174b0:=eq_true (oB_ qe_:0≤x122_3)
            have c175:=cp_ H
            replace H:=ca_ H
            have c175b0:=eq_true c175
            have c175b1:=oC_ c175
            clear c175
            obtain ⟨y710,hy710⟩:∃ y_:List (S25),y_ = (t668.take (x122_3:Int).toNat):=⟨_,rfl⟩
            replace H:(Z41.l1 k3 t668 t668 (t668.length:Int) x122_3 y710 (y710.length:Int) 0 ((rd_T25 t668 x122_3).f0) ((rd_T25 t668 x122_3).f1)) = some r:=by first | (rw [hy710];exact H) | exact H
            have Ny710:=A_ hy710
            clear hy710
            have H':=A_ H
            clear H
            have p708:0≤(x122_3:Int):=oB_ qe_
            have q708:x122_3 < (t668.length:Int):=oB_ qe_
            obtain ⟨ad708,A708_0,c708_0,A708_1,c708_1,e708,hx708_0,hx708_1,hl708_0,hi708_0,hl708_1,hi708_1⟩:=at_T25 (Kd.S_reads' HO_120.out).2.2 x122_3 p708 q708
            obtain rfl:ad674 = ad708:=(by injection e708)
            obtain ⟨ce708,hce708,hMe708,hcc708⟩:=Kd.S_get HO_120.out z25 x122_3 p708 (by first | exact q708 | exact oB_ qe_ | (have e_:=(Kd.S_reads' HO_120.out).1;omega))
            obtain ⟨ve708_0,ve708_1,rfl,ge708_0,ge708_1⟩:=k25_openM hMe708
            have hv708_0:=hcc708 0 _ rfl
            rw [Nat.add_zero] at hv708_0
            replace hv708_0:=Option.some.inj (hv708_0.symm.trans hx708_0)
            rw [hv708_0] at ge708_0
            have HL708_0:=A_ (show Kd.R (Kd.int .i64) 3 _ _ _ _ ((rd_T25 t668 x122_3).f0) from ge708_0)
            clear hv708_0 ge708_0
            have hv708_1:=hcc708 1 _ rfl
            rw [add_field _ _ 1 (by omega)] at hv708_1
            replace hv708_1:=Option.some.inj (hv708_1.symm.trans hx708_1)
            rw [hv708_1] at ge708_1
            have HL708_1:=A_ (show Kd.R (Kd.int .i64) 3 _ _ _ _ ((rd_T25 t668 x122_3).f1) from ge708_1)
            clear hv708_1 ge708_1
            clear hcc708 hce708
            have HR708_0:=A_ hi708_0
            have HC708_0:=A_ hl708_0
            clear hi708_0 hl708_0
            have HR708_1:=A_ hi708_1
            have HC708_1:=A_ hl708_1
            clear hi708_1 hl708_1
            replace p708:=eq_true p708
            replace q708:=eq_true q708
            have HDo_:=A_ (Below.refl wr.heap.size wr)
            go_wp2_with (first | ((with_reducible refine gB_ (N:=16) rfl ?_);(try (refine gate_guard (by rfl) ?_;dsimp only));refine bx_ 16 #[.slice none 0 0,.slice none 0 0] 25 ?_;intro gb709 hg w176 hbox hb;have GDo_:=A_ (show wr.heap.size≤gb709 from by rw [hg];exact HDo_.out.size);replace HDo_:=A_ (bE_ HDo_.out hb);replace HO_4:=A_ (Kd.S_below (Kd.S_elderB (ss_ HO_4) gb709 (Nat.le_of_eq hg.symm)) hb);replace HO_120:=A_ (Kd.S_below (Kd.S_elderB (ss_ HO_120) gb709 (Nat.le_of_eq hg.symm)) hb);replace HO_668000:=rb_ HO_668000 hb;replace HO_668001:=rb_ HO_668001 hb;replace HO_686000:=rb_ HO_686000 hb;replace HO_686001:=rb_ HO_686001 hb;replace HO_695000:=rb_ HO_695000 hb;replace HO_695001:=rb_ HO_695001 hb;replace HO_703000:=rb_ HO_703000 hb;replace HO_703001:=rb_ HO_703001 hb;replace HL708_0:=rb_ HL708_0 hb;replace HL708_1:=rb_ HL708_1 hb;have BK709:=A_ hbox;have GW709:=gw_ w hg;have GE709:=GW709;replace HB:=b1_ hb;have NB667_709:=gN_ BK667 hg;have NB709_667:=gP_ BK667 hg;replace BK667:=bb_ BK667 hb;have NB685_709:=gN_ BK685 hg;have NB709_685:=gP_ BK685 hg;replace BK685:=bb_ BK685 hb;have NB694_709:=gN_ BK694 hg;have NB709_694:=gP_ BK694 hg;replace BK694:=bb_ BK694 hb;have NB702_709:=gN_ BK702 hg;have NB709_702:=gP_ BK702 hg;replace BK702:=bb_ BK702 hb;clear hb hbox hg;have hnb177:=NB709_667.out;have hnc177:=NB667_709.out;have hnb178:=NB709_685.out;have hnc178:=NB685_709.out;have hnb179:=NB709_694.out;have hnc179:=NB694_709.out;have hnb180:=NB709_702.out;have hnc180:=NB702_709.out;obtain ⟨hcz181_0,hcz181_1,hfz181_0,hfz181_1⟩:=c2_ BK709) | ((with_reducible refine gate_store (t:=25) (p:=16) rfl ?_);refine store_event (t:=25) (p:=16) (v:=?vo_w182) (w1:=((w176.setCell ⟨gb709,0,none⟩ (.slice A708_0 ((rd_T25 t668 x122_3).f0).length c708_0)).setCell ⟨gb709,1,none⟩ (.slice A708_1 ((rd_T25 t668 x122_3).f1).length c708_1))) ?hg ?ho ?hn ?hr ?_;(case ho=>rfl);(case hg=>rfl);(case hn=>rfl);(case hr=>first | (go_simp;done) | (go_simp;rfl));intro w182 hw;have nD_:Aside0 (Below wr.heap.size wr w182):=⟨by rw [hw];exact bD_ (bD_ HDo_.out GDo_.out) GDo_.out⟩;clear HDo_;have HDo_:=nD_;clear nD_;have n0_:Aside0 (Kd.S k25 25 w182 w.heap.size (fun k_=>some k_≠(.slice Ao8 t661.length co8:Value).ownBlock∧some k_≠(.slice Ao10 t664.length co10:Value).ownBlock∧some k_≠(.slice Ao41 t678.length co41:Value).ownBlock∧some k_≠(.slice Ao45 t681.length co45:Value).ownBlock∧some k_≠(.slice Ao52 t687.length co52:Value).ownBlock∧some k_≠(.slice Ao54 t690.length co54:Value).ownBlock∧some k_≠(.slice Ao60 t695.length co60:Value).ownBlock∧some k_≠(.slice Ao66 t698.length co66:Value).ownBlock∧k_≠gb667∧k_≠gb685∧k_≠gb694∧k_≠gb702∧k_≠gb709) (.slice (some ad674) t668.length co32) t668):=⟨(by rw [hw];exact (sw_ (Kd.S_mono (Kd.S_far (p:=⟨gb709,1,none⟩) (Kd.S_far (p:=⟨gb709,0,none⟩) (Kd.S_mono HO_4.out (fun k_ hk=>(⟨hk,hk.2⟩:_∧k_≠gb709))) (fun _ hk=>hk.2) (.slice A708_0 ((rd_T25 t668 x122_3).f0).length c708_0)) (fun _ hk=>hk.2) (.slice A708_1 ((rd_T25 t668 x122_3).f1).length c708_1)) (fun _ hk=>⟨hk.1.1.1,⟨hk.1.1.2.1,⟨hk.1.1.2.2.1,⟨hk.1.1.2.2.2.1,⟨hk.1.1.2.2.2.2.1,⟨hk.1.1.2.2.2.2.2.1,⟨hk.1.1.2.2.2.2.2.2.1,⟨hk.1.1.2.2.2.2.2.2.2.1,⟨hk.1.1.2.2.2.2.2.2.2.2.1,⟨hk.1.1.2.2.2.2.2.2.2.2.2.1,⟨hk.1.1.2.2.2.2.2.2.2.2.2.2.1,⟨hk.1.1.2.2.2.2.2.2.2.2.2.2.2,hk.1.2⟩⟩⟩⟩⟩⟩⟩⟩⟩⟩⟩⟩))))⟩;have n1_:Aside0 (Kd.S k25 25 w182 w.heap.size (fun k_=>some k_≠(.slice Ao8 t661.length co8:Value).ownBlock∧some k_≠(.slice Ao10 t664.length co10:Value).ownBlock∧some k_≠(.slice Ao41 t678.length co41:Value).ownBlock∧some k_≠(.slice Ao45 t681.length co45:Value).ownBlock∧some k_≠(.slice Ao52 t687.length co52:Value).ownBlock∧some k_≠(.slice Ao54 t690.length co54:Value).ownBlock∧some k_≠(.slice Ao60 t695.length co60:Value).ownBlock∧some k_≠(.slice Ao66 t698.length co66:Value).ownBlock∧k_≠gb667∧k_≠gb685∧k_≠gb694∧k_≠gb702∧k_≠gb709) (.slice (some ad674) t668.length co32) t668):=⟨(by rw [hw];exact (sw_ (Kd.S_mono (Kd.S_far (p:=⟨gb709,1,none⟩) (Kd.S_far (p:=⟨gb709,0,none⟩) (Kd.S_mono HO_120.out (fun k_ hk=>(⟨hk,hk.2⟩:_∧k_≠gb709))) (fun _ hk=>hk.2) (.slice A708_0 ((rd_T25 t668 x122_3).f0).length c708_0)) (fun _ hk=>hk.2) (.slice A708_1 ((rd_T25 t668 x122_3).f1).length c708_1)) (fun _ hk=>⟨hk.1.1.1,⟨hk.1.1.2.1,⟨hk.1.1.2.2.1,⟨hk.1.1.2.2.2.1,⟨hk.1.1.2.2.2.2.1,⟨hk.1.1.2.2.2.2.2.1,⟨hk.1.1.2.2.2.2.2.2.1,⟨hk.1.1.2.2.2.2.2.2.2.1,⟨hk.1.1.2.2.2.2.2.2.2.2.1,⟨hk.1.1.2.2.2.2.2.2.2.2.2.1,⟨hk.1.1.2.2.2.2.2.2.2.2.2.2.1,⟨hk.1.1.2.2.2.2.2.2.2.2.2.2.2,hk.1.2⟩⟩⟩⟩⟩⟩⟩⟩⟩⟩⟩⟩))))⟩;have n2_:Aside0 (Kd.R (Kd.int .i64) 3 w182 w.heap.size (fun k_=>some k_≠(.slice Ao10 t664.length co10:Value).ownBlock∧some k_≠(.slice Ao41 t678.length co41:Value).ownBlock∧some k_≠(.slice Ao45 t681.length co45:Value).ownBlock∧some k_≠(.slice Ao52 t687.length co52:Value).ownBlock∧some k_≠(.slice Ao54 t690.length co54:Value).ownBlock∧some k_≠(.slice Ao60 t695.length co60:Value).ownBlock∧some k_≠(.slice Ao66 t698.length co66:Value).ownBlock) (.slice Ao8 t661.length co8) t661):=⟨(by rw [hw];exact (rw_ (Kd.R_mono (Kd.R_far (p:=⟨gb709,1,none⟩) (Kd.R_far (p:=⟨gb709,0,none⟩) (Kd.R_types HO_668000.out BK709.out (by decide)) (fun _ hk=>hk.2) (.slice A708_0 ((rd_T25 t668 x122_3).f0).length c708_0)) (fun _ hk=>hk.2) (.slice A708_1 ((rd_T25 t668 x122_3).f1).length c708_1)) (fun _ hk=>⟨hk.1.1,⟨hk.1.2.1,⟨hk.1.2.2.1,⟨hk.1.2.2.2.1,⟨hk.1.2.2.2.2.1,⟨hk.1.2.2.2.2.2.1,hk.1.2.2.2.2.2.2⟩⟩⟩⟩⟩⟩))))⟩;have n3_:Aside0 (Kd.R (Kd.int .i64) 3 w182 w.heap.size (fun k_=>some k_≠(.slice Ao8 t661.length co8:Value).ownBlock∧some k_≠(.slice Ao41 t678.length co41:Value).ownBlock∧some k_≠(.slice Ao45 t681.length co45:Value).ownBlock∧some k_≠(.slice Ao52 t687.length co52:Value).ownBlock∧some k_≠(.slice Ao54 t690.length co54:Value).ownBlock∧some k_≠(.slice Ao60 t695.length co60:Value).ownBlock∧some k_≠(.slice Ao66 t698.length co66:Value).ownBlock) (.slice Ao10 t664.length co10) t664):=⟨(by rw [hw];exact (rw_ (Kd.R_mono (Kd.R_far (p:=⟨gb709,1,none⟩) (Kd.R_far (p:=⟨gb709,0,none⟩) (Kd.R_types HO_668001.out BK709.out (by decide)) (fun _ hk=>hk.2) (.slice A708_0 ((rd_T25 t668 x122_3).f0).length c708_0)) (fun _ hk=>hk.2) (.slice A708_1 ((rd_T25 t668 x122_3).f1).length c708_1)) (fun _ hk=>⟨hk.1.1,⟨hk.1.2.1,⟨hk.1.2.2.1,⟨hk.1.2.2.2.1,⟨hk.1.2.2.2.2.1,⟨hk.1.2.2.2.2.2.1,hk.1.2.2.2.2.2.2⟩⟩⟩⟩⟩⟩))))⟩;have n4_:Aside0 (Kd.R (Kd.int .i64) 3 w182 w.heap.size (fun k_=>some k_≠(.slice Ao8 t661.length co8:Value).ownBlock∧some k_≠(.slice Ao10 t664.length co10:Value).ownBlock∧some k_≠(.slice Ao45 t681.length co45:Value).ownBlock∧some k_≠(.slice Ao52 t687.length co52:Value).ownBlock∧some k_≠(.slice Ao54 t690.length co54:Value).ownBlock∧some k_≠(.slice Ao60 t695.length co60:Value).ownBlock∧some k_≠(.slice Ao66 t698.length co66:Value).ownBlock) (.slice Ao41 t678.length co41) t678):=⟨(by rw [hw];exact (rw_ (Kd.R_mono (Kd.R_far (p:=⟨gb709,1,none⟩) (Kd.R_far (p:=⟨gb709,0,none⟩) (Kd.R_types HO_686000.out BK709.out (by decide)) (fun _ hk=>hk.2) (.slice A708_0 ((rd_T25 t668 x122_3).f0).length c708_0)) (fun _ hk=>hk.2) (.slice A708_1 ((rd_T25 t668 x122_3).f1).length c708_1)) (fun _ hk=>⟨hk.1.1,⟨hk.1.2.1,⟨hk.1.2.2.1,⟨hk.1.2.2.2.1,⟨hk.1.2.2.2.2.1,⟨hk.1.2.2.2.2.2.1,hk.1.2.2.2.2.2.2⟩⟩⟩⟩⟩⟩))))⟩;have n5_:Aside0 (Kd.R (Kd.int .i64) 3 w182 w.heap.size (fun k_=>some k_≠(.slice Ao8 t661.length co8:Value).ownBlock∧some k_≠(.slice Ao10 t664.length co10:Value).ownBlock∧some k_≠(.slice Ao41 t678.length co41:Value).ownBlock∧some k_≠(.slice Ao52 t687.length co52:Value).ownBlock∧some k_≠(.slice Ao54 t690.length co54:Value).ownBlock∧some k_≠(.slice Ao60 t695.length co60:Value).ownBlock∧some k_≠(.slice Ao66 t698.length co66:Value).ownBlock) (.slice Ao45 t681.length co45) t681):=⟨(by rw [hw];exact (rw_ (Kd.R_mono (Kd.R_far (p:=⟨gb709,1,none⟩) (Kd.R_far (p:=⟨gb709,0,none⟩) (Kd.R_types HO_686001.out BK709.out (by decide)) (fun _ hk=>hk.2) (.slice A708_0 ((rd_T25 t668 x122_3).f0).length c708_0)) (fun _ hk=>hk.2) (.slice A708_1 ((rd_T25 t668 x122_3).f1).length c708_1)) (fun _ hk=>⟨hk.1.1,⟨hk.1.2.1,⟨hk.1.2.2.1,⟨hk.1.2.2.2.1,⟨hk.1.2.2.2.2.1,⟨hk.1.2.2.2.2.2.1,hk.1.2.2.2.2.2.2⟩⟩⟩⟩⟩⟩))))⟩;have n6_:Aside0 (Kd.R (Kd.int .i64) 3 w182 w.heap.size (fun k_=>some k_≠(.slice Ao8 t661.length co8:Value).ownBlock∧some k_≠(.slice Ao10 t664.length co10:Value).ownBlock∧some k_≠(.slice Ao41 t678.length co41:Value).ownBlock∧some k_≠(.slice Ao45 t681.length co45:Value).ownBlock∧some k_≠(.slice Ao54 t690.length co54:Value).ownBlock∧some k_≠(.slice Ao60 t695.length co60:Value).ownBlock∧some k_≠(.slice Ao66 t698.length co66:Value).ownBlock) (.slice Ao52 t687.length co52) t687):=⟨(by rw [hw];exact (rw_ (Kd.R_mono (Kd.R_far (p:=⟨gb709,1,none⟩) (Kd.R_far (p:=⟨gb709,0,none⟩) (Kd.R_types HO_695000.out BK709.out (by decide)) (fun _ hk=>hk.2) (.slice A708_0 ((rd_T25 t668 x122_3).f0).length c708_0)) (fun _ hk=>hk.2) (.slice A708_1 ((rd_T25 t668 x122_3).f1).length c708_1)) (fun _ hk=>⟨hk.1.1,⟨hk.1.2.1,⟨hk.1.2.2.1,⟨hk.1.2.2.2.1,⟨hk.1.2.2.2.2.1,⟨hk.1.2.2.2.2.2.1,hk.1.2.2.2.2.2.2⟩⟩⟩⟩⟩⟩))))⟩;have n7_:Aside0 (Kd.R (Kd.int .i64) 3 w182 w.heap.size (fun k_=>some k_≠(.slice Ao8 t661.length co8:Value).ownBlock∧some k_≠(.slice Ao10 t664.length co10:Value).ownBlock∧some k_≠(.slice Ao41 t678.length co41:Value).ownBlock∧some k_≠(.slice Ao45 t681.length co45:Value).ownBlock∧some k_≠(.slice Ao52 t687.length co52:Value).ownBlock∧some k_≠(.slice Ao60 t695.length co60:Value).ownBlock∧some k_≠(.slice Ao66 t698.length co66:Value).ownBlock) (.slice Ao54 t690.length co54) t690):=⟨(by rw [hw];exact (rw_ (Kd.R_mono (Kd.R_far (p:=⟨gb709,1,none⟩) (Kd.R_far (p:=⟨gb709,0,none⟩) (Kd.R_types HO_695001.out BK709.out (by decide)) (fun _ hk=>hk.2) (.slice A708_0 ((rd_T25 t668 x122_3).f0).length c708_0)) (fun _ hk=>hk.2) (.slice A708_1 ((rd_T25 t668 x122_3).f1).length c708_1)) (fun _ hk=>⟨hk.1.1,⟨hk.1.2.1,⟨hk.1.2.2.1,⟨hk.1.2.2.2.1,⟨hk.1.2.2.2.2.1,⟨hk.1.2.2.2.2.2.1,hk.1.2.2.2.2.2.2⟩⟩⟩⟩⟩⟩))))⟩;have n8_:Aside0 (Kd.R (Kd.int .i64) 3 w182 w.heap.size (fun k_=>some k_≠(.slice Ao8 t661.length co8:Value).ownBlock∧some k_≠(.slice Ao10 t664.length co10:Value).ownBlock∧some k_≠(.slice Ao41 t678.length co41:Value).ownBlock∧some k_≠(.slice Ao45 t681.length co45:Value).ownBlock∧some k_≠(.slice Ao52 t687.length co52:Value).ownBlock∧some k_≠(.slice Ao54 t690.length co54:Value).ownBlock∧some k_≠(.slice Ao66 t698.length co66:Value).ownBlock) (.slice Ao60 t695.length co60) t695):=⟨(by rw [hw];exact (rw_ (Kd.R_mono (Kd.R_far (p:=⟨gb709,1,none⟩) (Kd.R_far (p:=⟨gb709,0,none⟩) (Kd.R_types HO_703000.out BK709.out (by decide)) (fun _ hk=>hk.2) (.slice A708_0 ((rd_T25 t668 x122_3).f0).length c708_0)) (fun _ hk=>hk.2) (.slice A708_1 ((rd_T25 t668 x122_3).f1).length c708_1)) (fun _ hk=>⟨hk.1.1,⟨hk.1.2.1,⟨hk.1.2.2.1,⟨hk.1.2.2.2.1,⟨hk.1.2.2.2.2.1,⟨hk.1.2.2.2.2.2.1,hk.1.2.2.2.2.2.2⟩⟩⟩⟩⟩⟩))))⟩;have n9_:Aside0 (Kd.R (Kd.int .i64) 3 w182 w.heap.size (fun k_=>some k_≠(.slice Ao8 t661.length co8:Value).ownBlock∧some k_≠(.slice Ao10 t664.length co10:Value).ownBlock∧some k_≠(.slice Ao41 t678.length co41:Value).ownBlock∧some k_≠(.slice Ao45 t681.length co45:Value).ownBlock∧some k_≠(.slice Ao52 t687.length co52:Value).ownBlock∧some k_≠(.slice Ao54 t690.length co54:Value).ownBlock∧some k_≠(.slice Ao60 t695.length co60:Value).ownBlock) (.slice Ao66 t698.length co66) t698):=⟨(by rw [hw];exact (rw_ (Kd.R_mono (Kd.R_far (p:=⟨gb709,1,none⟩) (Kd.R_far (p:=⟨gb709,0,none⟩) (Kd.R_types HO_703001.out BK709.out (by decide)) (fun _ hk=>hk.2) (.slice A708_0 ((rd_T25 t668 x122_3).f0).length c708_0)) (fun _ hk=>hk.2) (.slice A708_1 ((rd_T25 t668 x122_3).f1).length c708_1)) (fun _ hk=>⟨hk.1.1,⟨hk.1.2.1,⟨hk.1.2.2.1,⟨hk.1.2.2.2.1,⟨hk.1.2.2.2.2.1,⟨hk.1.2.2.2.2.2.1,hk.1.2.2.2.2.2.2⟩⟩⟩⟩⟩⟩))))⟩;have n10_:Aside0 (Kd.R (Kd.int .i64) 3 w182 w.heap.size (fun k_=>some k_≠(.slice (some ad674) t668.length co32:Value).ownBlock∧some k_≠(.slice Ao8 t661.length co8:Value).ownBlock∧some k_≠(.slice Ao10 t664.length co10:Value).ownBlock∧some k_≠(.slice Ao41 t678.length co41:Value).ownBlock∧some k_≠(.slice Ao45 t681.length co45:Value).ownBlock∧some k_≠(.slice Ao52 t687.length co52:Value).ownBlock∧some k_≠(.slice Ao54 t690.length co54:Value).ownBlock∧some k_≠(.slice Ao60 t695.length co60:Value).ownBlock∧some k_≠(.slice Ao66 t698.length co66:Value).ownBlock∧k_≠gb667∧k_≠gb685∧k_≠gb694∧k_≠gb702) (.slice A708_0 ((rd_T25 t668 x122_3).f0).length c708_0) ((rd_T25 t668 x122_3).f0)):=⟨(by rw [hw];exact (rw_ (Kd.R_mono (Kd.R_far (p:=⟨gb709,1,none⟩) (Kd.R_far (p:=⟨gb709,0,none⟩) (Kd.R_types HL708_0.out BK709.out (by decide)) (fun _ hk=>hk.2) (.slice A708_0 ((rd_T25 t668 x122_3).f0).length c708_0)) (fun _ hk=>hk.2) (.slice A708_1 ((rd_T25 t668 x122_3).f1).length c708_1)) (fun _ hk=>⟨hk.1.2,⟨hk.1.1.1,⟨hk.1.1.2.1,⟨hk.1.1.2.2.1,⟨hk.1.1.2.2.2.1,⟨hk.1.1.2.2.2.2.1,⟨hk.1.1.2.2.2.2.2.1,⟨hk.1.1.2.2.2.2.2.2.1,⟨hk.1.1.2.2.2.2.2.2.2.1,⟨hk.1.1.2.2.2.2.2.2.2.2.1,⟨hk.1.1.2.2.2.2.2.2.2.2.2.1,⟨hk.1.1.2.2.2.2.2.2.2.2.2.2.1,hk.1.1.2.2.2.2.2.2.2.2.2.2.2⟩⟩⟩⟩⟩⟩⟩⟩⟩⟩⟩⟩))))⟩;have n11_:Aside0 (Kd.R (Kd.int .i64) 3 w182 w.heap.size (fun k_=>some k_≠(.slice (some ad674) t668.length co32:Value).ownBlock∧some k_≠(.slice Ao8 t661.length co8:Value).ownBlock∧some k_≠(.slice Ao10 t664.length co10:Value).ownBlock∧some k_≠(.slice Ao41 t678.length co41:Value).ownBlock∧some k_≠(.slice Ao45 t681.length co45:Value).ownBlock∧some k_≠(.slice Ao52 t687.length co52:Value).ownBlock∧some k_≠(.slice Ao54 t690.length co54:Value).ownBlock∧some k_≠(.slice Ao60 t695.length co60:Value).ownBlock∧some k_≠(.slice Ao66 t698.length co66:Value).ownBlock∧k_≠gb667∧k_≠gb685∧k_≠gb694∧k_≠gb702) (.slice A708_1 ((rd_T25 t668 x122_3).f1).length c708_1) ((rd_T25 t668 x122_3).f1)):=⟨(by rw [hw];exact (rw_ (Kd.R_mono (Kd.R_far (p:=⟨gb709,1,none⟩) (Kd.R_far (p:=⟨gb709,0,none⟩) (Kd.R_types HL708_1.out BK709.out (by decide)) (fun _ hk=>hk.2) (.slice A708_0 ((rd_T25 t668 x122_3).f0).length c708_0)) (fun _ hk=>hk.2) (.slice A708_1 ((rd_T25 t668 x122_3).f1).length c708_1)) (fun _ hk=>⟨hk.1.2,⟨hk.1.1.1,⟨hk.1.1.2.1,⟨hk.1.1.2.2.1,⟨hk.1.1.2.2.2.1,⟨hk.1.1.2.2.2.2.1,⟨hk.1.1.2.2.2.2.2.1,⟨hk.1.1.2.2.2.2.2.2.1,⟨hk.1.1.2.2.2.2.2.2.2.1,⟨hk.1.1.2.2.2.2.2.2.2.2.1,⟨hk.1.1.2.2.2.2.2.2.2.2.2.1,⟨hk.1.1.2.2.2.2.2.2.2.2.2.2.1,hk.1.1.2.2.2.2.2.2.2.2.2.2.2⟩⟩⟩⟩⟩⟩⟩⟩⟩⟩⟩⟩))))⟩;have n12_:Aside0 (w182.heap[gb667]? = some (.cells #[.slice Ao8 t661.length co8,.slice Ao10 t664.length co10] 25 (0,0))):=⟨(by rw [hw];exact (by (with_reducible repeat (first | refine kA_ ?_ _ | refine kB_ ?_ | refine kC_ ?_ _));refine blk_far ?_ NB667_709.out _;(with_reducible repeat (first | refine kA_ ?_ _ | refine kB_ ?_ | refine kC_ ?_ _));refine blk_far ?_ NB667_709.out _;(with_reducible repeat (first | refine kA_ ?_ _ | refine kB_ ?_ | refine kC_ ?_ _));exact BK667.out))⟩;have n13_:Aside0 (w182.heap[gb685]? = some (.cells #[.slice Ao41 t678.length co41,.slice Ao45 t681.length co45] 25 (0,0))):=⟨(by rw [hw];exact (by (with_reducible repeat (first | refine kA_ ?_ _ | refine kB_ ?_ | refine kC_ ?_ _));refine blk_far ?_ NB685_709.out _;(with_reducible repeat (first | refine kA_ ?_ _ | refine kB_ ?_ | refine kC_ ?_ _));refine blk_far ?_ NB685_709.out _;(with_reducible repeat (first | refine kA_ ?_ _ | refine kB_ ?_ | refine kC_ ?_ _));exact BK685.out))⟩;have n14_:Aside0 (w182.heap[gb694]? = some (.cells #[.slice Ao52 t687.length co52,.slice Ao54 t690.length co54] 25 (0,0))):=⟨(by rw [hw];exact (by (with_reducible repeat (first | refine kA_ ?_ _ | refine kB_ ?_ | refine kC_ ?_ _));refine blk_far ?_ NB694_709.out _;(with_reducible repeat (first | refine kA_ ?_ _ | refine kB_ ?_ | refine kC_ ?_ _));refine blk_far ?_ NB694_709.out _;(with_reducible repeat (first | refine kA_ ?_ _ | refine kB_ ?_ | refine kC_ ?_ _));exact BK694.out))⟩;have n15_:Aside0 (w182.heap[gb702]? = some (.cells #[.slice Ao60 t695.length co60,.slice Ao66 t698.length co66] 25 (0,0))):=⟨(by rw [hw];exact (by (with_reducible repeat (first | refine kA_ ?_ _ | refine kB_ ?_ | refine kC_ ?_ _));refine blk_far ?_ NB702_709.out _;(with_reducible repeat (first | refine kA_ ?_ _ | refine kB_ ?_ | refine kC_ ?_ _));refine blk_far ?_ NB702_709.out _;(with_reducible repeat (first | refine kA_ ?_ _ | refine kB_ ?_ | refine kC_ ?_ _));exact BK702.out))⟩;have n16_:Aside0 (w182.heap[gb709]? = some (.cells #[.slice A708_0 ((rd_T25 t668 x122_3).f0).length c708_0,.slice A708_1 ((rd_T25 t668 x122_3).f1).length c708_1] 25 (0,0))):=⟨(by rw [hw];exact qp_)⟩;have n17_:Aside0 (Below w.heap.size w w182):=⟨(by rw [hw];exact hB_)⟩;clear hw;clear HO_4;clear HO_120;clear HO_668000;clear HO_668001;clear HO_686000;clear HO_686001;clear HO_695000;clear HO_695001;clear HO_703000;clear HO_703001;clear HL708_0;clear HL708_1;clear BK667;clear BK685;clear BK694;clear BK702;clear BK709;clear HB;have HO_4:=n0_;have HO_120:=n1_;have HO_668000:=n2_;have HO_668001:=n3_;have HO_686000:=n4_;have HO_686001:=n5_;have HO_695000:=n6_;have HO_695001:=n7_;have HO_703000:=n8_;have HO_703001:=n9_;have HL708_0:=n10_;have HL708_1:=n11_;have BK667:=n12_;have BK685:=n13_;have BK694:=n14_;have BK702:=n15_;have BK709:=n16_;have HB:=n17_;clear n0_ n1_ n2_ n3_ n4_ n5_ n6_ n7_ n8_ n9_ n10_ n11_ n12_ n13_ n14_ n15_ n16_ n17_;have q183:(x122_3:Int)≤((t668.length:Int):Int):=oB_ qe_;obtain ⟨i0183,hi0183,_,hsz183,_⟩:=info_parts info25;have hroom183:t668.length≤co32:=(Kd.S_reads' HO_4.out).2.1;have hC183:Kd.C k25 _ (some ad674) t668.length t668:=(Kd.S_reads' HO_4.out).2.2;have hcut183:=cut_to (P:=Try.prog) 36 25 .i64 Try.underlying36 hi0183 (some ad674) t668.length co32 x122_3 (oB_ qe_) q183 hroom183;have hr183:=Kd.C_take (m:=(x122_3:Int).toNat) hC183 (by omega);have hy183:y710.length = (x122_3:Int).toNat:=(by rw [Ny710.out,lB_];omega);rw [← Ny710.out] at hr183;rw [← hy183] at hcut183;have HR713:=A_ hr183;have HC713:=A_ (show y710.length≤co32 from by omega);clear hr183 hC183 hroom183 hi0183 hsz183;have KY183:=A_ hy183;clear hy183;have KL183:=A_ (show (x122_3:Int).toNat≤t668.length from by omega);replace q183:=eq_true q183))
            go_loopg [131] k3 (fun kq v131 w'=>∃ (x131_4:Int),v131 = .int .i64 x131_4∧Aside0 (Z41.l1 kq t668 t668 (t668.length:Int) x122_3 y710 (y710.length:Int) x131_4 ((rd_T25 t668 x122_3).f0) ((rd_T25 t668 x122_3).f1) = some r)∧Aside0 (kq≤k3)∧Aside0 (Kd.S k25 25 w' w.heap.size (fun k_=>some k_≠((.slice Ao8 t661.length co8):Value).ownBlock∧some k_≠((.slice Ao10 t664.length co10):Value).ownBlock∧some k_≠((.slice Ao41 t678.length co41):Value).ownBlock∧some k_≠((.slice Ao45 t681.length co45):Value).ownBlock∧some k_≠((.slice Ao52 t687.length co52):Value).ownBlock∧some k_≠((.slice Ao54 t690.length co54):Value).ownBlock∧some k_≠((.slice Ao60 t695.length co60):Value).ownBlock∧some k_≠((.slice Ao66 t698.length co66):Value).ownBlock∧k_≠gb667∧k_≠gb685∧k_≠gb694∧k_≠gb702∧k_≠gb709) (.slice (some ad674) t668.length co32) t668)∧Aside0 (Kd.S k25 25 w' w.heap.size (fun k_=>some k_≠((.slice Ao8 t661.length co8):Value).ownBlock∧some k_≠((.slice Ao10 t664.length co10):Value).ownBlock∧some k_≠((.slice Ao41 t678.length co41):Value).ownBlock∧some k_≠((.slice Ao45 t681.length co45):Value).ownBlock∧some k_≠((.slice Ao52 t687.length co52):Value).ownBlock∧some k_≠((.slice Ao54 t690.length co54):Value).ownBlock∧some k_≠((.slice Ao60 t695.length co60):Value).ownBlock∧some k_≠((.slice Ao66 t698.length co66):Value).ownBlock∧k_≠gb667∧k_≠gb685∧k_≠gb694∧k_≠gb702∧k_≠gb709) (.slice (some ad674) t668.length co32) t668)∧Aside0 (Kd.R (Kd.int .i64) 3 w' w.heap.size (fun k_=>some k_≠((.slice Ao10 t664.length co10):Value).ownBlock∧some k_≠((.slice Ao41 t678.length co41):Value).ownBlock∧some k_≠((.slice Ao45 t681.length co45):Value).ownBlock∧some k_≠((.slice Ao52 t687.length co52):Value).ownBlock∧some k_≠((.slice Ao54 t690.length co54):Value).ownBlock∧some k_≠((.slice Ao60 t695.length co60):Value).ownBlock∧some k_≠((.slice Ao66 t698.length co66):Value).ownBlock) (.slice Ao8 t661.length co8) t661)∧Aside0 (Kd.R (Kd.int .i64) 3 w' w.heap.size (fun k_=>some k_≠((.slice Ao8 t661.length co8):Value).ownBlock∧some k_≠((.slice Ao41 t678.length co41):Value).ownBlock∧some k_≠((.slice Ao45 t681.length co45):Value).ownBlock∧some k_≠((.slice Ao52 t687.length co52):Value).ownBlock∧some k_≠((.slice Ao54 t690.length co54):Value).ownBlock∧some k_≠((.slice Ao60 t695.length co60):Value).ownBlock∧some k_≠((.slice Ao66 t698.length co66):Value).ownBlock) (.slice Ao10 t664.length co10) t664)∧Aside0 (Kd.R (Kd.int .i64) 3 w' w.heap.size (fun k_=>some k_≠((.slice Ao8 t661.length co8):Value).ownBlock∧some k_≠((.slice Ao10 t664.length co10):Value).ownBlock∧some k_≠((.slice Ao45 t681.length co45):Value).ownBlock∧some k_≠((.slice Ao52 t687.length co52):Value).ownBlock∧some k_≠((.slice Ao54 t690.length co54):Value).ownBlock∧some k_≠((.slice Ao60 t695.length co60):Value).ownBlock∧some k_≠((.slice Ao66 t698.length co66):Value).ownBlock) (.slice Ao41 t678.length co41) t678)∧Aside0 (Kd.R (Kd.int .i64) 3 w' w.heap.size (fun k_=>some k_≠((.slice Ao8 t661.length co8):Value).ownBlock∧some k_≠((.slice Ao10 t664.length co10):Value).ownBlock∧some k_≠((.slice Ao41 t678.length co41):Value).ownBlock∧some k_≠((.slice Ao52 t687.length co52):Value).ownBlock∧some k_≠((.slice Ao54 t690.length co54):Value).ownBlock∧some k_≠((.slice Ao60 t695.length co60):Value).ownBlock∧some k_≠((.slice Ao66 t698.length co66):Value).ownBlock) (.slice Ao45 t681.length co45) t681)∧Aside0 (Kd.R (Kd.int .i64) 3 w' w.heap.size (fun k_=>some k_≠((.slice Ao8 t661.length co8):Value).ownBlock∧some k_≠((.slice Ao10 t664.length co10):Value).ownBlock∧some k_≠((.slice Ao41 t678.length co41):Value).ownBlock∧some k_≠((.slice Ao45 t681.length co45):Value).ownBlock∧some k_≠((.slice Ao54 t690.length co54):Value).ownBlock∧some k_≠((.slice Ao60 t695.length co60):Value).ownBlock∧some k_≠((.slice Ao66 t698.length co66):Value).ownBlock) (.slice Ao52 t687.length co52) t687)∧Aside0 (Kd.R (Kd.int .i64) 3 w' w.heap.size (fun k_=>some k_≠((.slice Ao8 t661.length co8):Value).ownBlock∧some k_≠((.slice Ao10 t664.length co10):Value).ownBlock∧some k_≠((.slice Ao41 t678.length co41):Value).ownBlock∧some k_≠((.slice Ao45 t681.length co45):Value).ownBlock∧some k_≠((.slice Ao52 t687.length co52):Value).ownBlock∧some k_≠((.slice Ao60 t695.length co60):Value).ownBlock∧some k_≠((.slice Ao66 t698.length co66):Value).ownBlock) (.slice Ao54 t690.length co54) t690)∧Aside0 (Kd.R (Kd.int .i64) 3 w' w.heap.size (fun k_=>some k_≠((.slice Ao8 t661.length co8):Value).ownBlock∧some k_≠((.slice Ao10 t664.length co10):Value).ownBlock∧some k_≠((.slice Ao41 t678.length co41):Value).ownBlock∧some k_≠((.slice Ao45 t681.length co45):Value).ownBlock∧some k_≠((.slice Ao52 t687.length co52):Value).ownBlock∧some k_≠((.slice Ao54 t690.length co54):Value).ownBlock∧some k_≠((.slice Ao66 t698.length co66):Value).ownBlock) (.slice Ao60 t695.length co60) t695)∧Aside0 (Kd.R (Kd.int .i64) 3 w' w.heap.size (fun k_=>some k_≠((.slice Ao8 t661.length co8):Value).ownBlock∧some k_≠((.slice Ao10 t664.length co10):Value).ownBlock∧some k_≠((.slice Ao41 t678.length co41):Value).ownBlock∧some k_≠((.slice Ao45 t681.length co45):Value).ownBlock∧some k_≠((.slice Ao52 t687.length co52):Value).ownBlock∧some k_≠((.slice Ao54 t690.length co54):Value).ownBlock∧some k_≠((.slice Ao60 t695.length co60):Value).ownBlock) (.slice Ao66 t698.length co66) t698)∧Aside0 (w'.heap[gb667]? = some (.cells #[(.slice Ao8 t661.length co8),(.slice Ao10 t664.length co10)] 25 (0,0)))∧Aside0 (w'.heap[gb685]? = some (.cells #[(.slice Ao41 t678.length co41),(.slice Ao45 t681.length co45)] 25 (0,0)))∧Aside0 (w'.heap[gb694]? = some (.cells #[(.slice Ao52 t687.length co52),(.slice Ao54 t690.length co54)] 25 (0,0)))∧Aside0 (w'.heap[gb702]? = some (.cells #[(.slice Ao60 t695.length co60),(.slice Ao66 t698.length co66)] 25 (0,0)))∧Aside0 (w'.heap[gb709]? = some (.cells #[(.slice A708_0 ((rd_T25 t668 x122_3).f0).length c708_0),(.slice A708_1 ((rd_T25 t668 x122_3).f1).length c708_1)] 25 (0,0)))∧Aside0 (Below wr.heap.size wr w')∧Aside0 (Below w.heap.size w w'))
            case atStart=>exact ⟨(0),qc_,H',⟨nA_ _⟩,⟨(ss_ HO_4)⟩,⟨(ss_ HO_120)⟩,⟨(rr_ HO_668000)⟩,⟨(rr_ HO_668001)⟩,⟨(rr_ HO_686000)⟩,⟨(rr_ HO_686001)⟩,⟨(rr_ HO_695000)⟩,⟨(rr_ HO_695001)⟩,⟨(rr_ HO_703000)⟩,⟨(rr_ HO_703001)⟩,⟨(kk_ BK667)⟩,⟨(kk_ BK685)⟩,⟨(kk_ BK694)⟩,⟨(kk_ BK702)⟩,⟨(kk_ BK709)⟩,⟨by repeat (first | (with_reducible first | exact HDo_.out | apply bA_ | apply bB_ | apply bC_) | exact HDo_.out)⟩,⟨hB_⟩⟩
            case round =>
             clear H'
             obtain ⟨x131_4,rfl,HA,HK4,HO_4,HO_120,HO_668000,HO_668001,HO_686000,HO_686001,HO_695000,HO_695001,HO_703000,HO_703001,BK667,BK685,BK694,BK702,BK709,HDo_,HB⟩:=hrel
             cases gk with
             | zero=>exact absurd HA.out (by simp [Z41.l1])
             | succ k4 =>
              have H:=HA.out
              clear HA
              simp only [Z41.l1] at H
              by_cases c184:x131_4 < (y710.length:Int)
              ·rw [if_pos c184] at H
               have c184b0:=oC_ c184
               clear c184
               replace H:=cx_ H;obtain ⟨c185b0,H⟩:=H
               replace H:=cx_ H;obtain ⟨c186b0,H⟩:=H
               obtain ⟨t716,A187,H⟩:=bi_ H
               by_cases c188:t716 = true
               ·subst c188
                rw [if_pos rfl] at H
                exact absurd (Option.some.inj H) (by rw [hr1_.out];decide)
               ·replace c188:=Bool.eq_false_iff.mpr c188
                subst c188
                have H1:(Z41.l1 k4 t668 t668 (t668.length:Int) x122_3 y710 (y710.length:Int) (wrap64 (x131_4 + 1)) ((rd_T25 t668 x122_3).f0) ((rd_T25 t668 x122_3).f1)) = some r:=by rw [if_neg (show ¬ (false = true) by decide)] at H;exact H
                clear H
                have H:=H1
                clear H1
                have H':=A_ H
                clear H
                have p714:0≤(x131_4:Int):=oB_ qe_
                have q714:x131_4 < (y710.length:Int):=oB_ qe_
                replace HR713:Aside0 (Kd.C k25 _ (some ad674) y710.length y710):=⟨by have h_:=Kd.C_take (m:=(x122_3:Int).toNat) (Kd.S_reads' HO_120.out).2.2 KL183.out;rw [← Ny710.out] at h_;exact h_⟩
                obtain ⟨ad714,A714_0,c714_0,A714_1,c714_1,e714,hx714_0,hx714_1,hl714_0,hi714_0,hl714_1,hi714_1⟩:=at_T25 HR713.out x131_4 p714 q714
                obtain rfl:ad674 = ad714:=(by injection e714)
                have HR714_0:=A_ hi714_0
                have HC714_0:=A_ hl714_0
                clear hi714_0 hl714_0
                have HR714_1:=A_ hi714_1
                have HC714_1:=A_ hl714_1
                clear hi714_1 hl714_1
                replace p714:=eq_true p714
                replace q714:=eq_true q714
                have HD_:=A_ (Below.refl wr.heap.size wr)
                go_wp2_with (first | ((with_reducible refine gB_ (N:=18) rfl ?_);(try (refine gate_guard (by rfl) ?_;dsimp only));refine bx_ 18 #[.slice none 0 0,.slice none 0 0] 25 ?_;intro gb715 hg w189 hbox hb;have GDi_:=A_ (le_gd_ HDo_.out hg);replace HDo_:=A_ (bE_ HDo_.out hb);have GD_:=A_ (show wr.heap.size≤gb715 from by rw [hg];exact HD_.out.size);replace HD_:=A_ (bE_ HD_.out hb);replace HO_4:=A_ (Kd.S_below (Kd.S_elderB (ss_ HO_4) gb715 (Nat.le_of_eq hg.symm)) hb);replace HO_120:=A_ (Kd.S_below (Kd.S_elderB (ss_ HO_120) gb715 (Nat.le_of_eq hg.symm)) hb);replace HO_668000:=rb_ HO_668000 hb;replace HO_668001:=rb_ HO_668001 hb;replace HO_686000:=rb_ HO_686000 hb;replace HO_686001:=rb_ HO_686001 hb;replace HO_695000:=rb_ HO_695000 hb;replace HO_695001:=rb_ HO_695001 hb;replace HO_703000:=rb_ HO_703000 hb;replace HO_703001:=rb_ HO_703001 hb;have BK715:=A_ hbox;have GW715:=gw_ w hg;have GE715:=GW715;replace HB:=b1_ hb;have NB667_715:=gN_ BK667 hg;have NB715_667:=gP_ BK667 hg;replace BK667:=bb_ BK667 hb;have NB685_715:=gN_ BK685 hg;have NB715_685:=gP_ BK685 hg;replace BK685:=bb_ BK685 hb;have NB694_715:=gN_ BK694 hg;have NB715_694:=gP_ BK694 hg;replace BK694:=bb_ BK694 hb;have NB702_715:=gN_ BK702 hg;have NB715_702:=gP_ BK702 hg;replace BK702:=bb_ BK702 hb;have NB709_715:=gN_ BK709 hg;have NB715_709:=gP_ BK709 hg;replace BK709:=bb_ BK709 hb;clear hb hbox hg;have hnb190:=NB715_667.out;have hnc190:=NB667_715.out;have hnb191:=NB715_685.out;have hnc191:=NB685_715.out;have hnb192:=NB715_694.out;have hnc192:=NB694_715.out;have hnb193:=NB715_702.out;have hnc193:=NB702_715.out;have hnb194:=NB715_709.out;have hnc194:=NB709_715.out;obtain ⟨hcz195_0,hcz195_1,hfz195_0,hfz195_1⟩:=c2_ BK715;have hnb196:=NB709_667.out;have hnc196:=NB667_709.out;have hnb197:=NB709_685.out;have hnc197:=NB685_709.out;have hnb198:=NB709_694.out;have hnc198:=NB694_709.out;have hnb199:=NB709_702.out;have hnc199:=NB702_709.out;have hcz200_0:w189.cell? ⟨gb709,0,none⟩ = some (.slice A708_0 ((rd_T25 t668 x122_3).f0).length c708_0):=cz0_ BK709;have hcz200_1:w189.cell? ⟨gb709,1,none⟩ = some (.slice A708_1 ((rd_T25 t668 x122_3).f1).length c708_1):=cz1_ BK709;have hfz200_0:=kD_ BK709.out 0;have hfz200_1:=kD_ BK709.out 1) | ((with_reducible refine gA_ (f:=29) rfl ?_);refine gL_ (some 137) Try.func29 #[.agg #[.slice A708_0 ((rd_T25 t668 x122_3).f0).length c708_0,.slice A708_1 ((rd_T25 t668 x122_3).f1).length c708_1],.agg #[.slice A714_0 ((rd_T25 y710 x131_4).f0).length c714_0,.slice A714_1 ((rd_T25 y710 x131_4).f1).length c714_1]] rfl qa_ ?_;(with_reducible refine (Z16.calls k4 _ _ ((rd_T25 t668 x122_3).f0) _ _ ((rd_T25 t668 x122_3).f1) _ _ ((rd_T25 y710 x131_4).f0) _ _ ((rd_T25 y710 x131_4).f1) false _ (cD_ HR708_0.out (by repeat (first | (with_reducible first | exact HDo_.out | apply bA_ | apply bB_ | apply bC_ | refine bD_ ?_ GDi_.out) | exact HDo_.out))) HC708_0.out (cD_ HR708_1.out (by repeat (first | (with_reducible first | exact HDo_.out | apply bA_ | apply bB_ | apply bC_ | refine bD_ ?_ GDi_.out) | exact HDo_.out))) HC708_1.out (cD_ HR714_0.out (by repeat (first | (with_reducible first | exact HD_.out | apply bA_ | apply bB_ | apply bC_ | refine bD_ ?_ GD_.out) | exact HD_.out))) HC714_0.out (cD_ HR714_1.out (by repeat (first | (with_reducible first | exact HD_.out | apply bA_ | apply bB_ | apply bC_ | refine bD_ ?_ GD_.out) | exact HD_.out))) HC714_1.out A187.out).mono ?_);rintro e w201 ⟨rfl,hb⟩;refine ⟨_,rfl,?_⟩;replace HDo_:=A_ (bE_ (by repeat (first | (with_reducible first | exact HDo_.out | apply bA_ | apply bB_ | apply bC_ | refine bD_ ?_ GDi_.out) | exact HDo_.out)) hb);replace HO_4:=A_ (Kd.S_below (sw_ (Kd.S_mono (Kd.S_far (p:=⟨gb715,1,none⟩) (Kd.S_far (p:=⟨gb715,0,none⟩) (Kd.S_mono HO_4.out (fun k_ hk=>(⟨hk,hk.2⟩:_∧k_≠gb715))) (fun _ hk=>hk.2) (.slice A714_0 ((rd_T25 y710 x131_4).f0).length c714_0)) (fun _ hk=>hk.2) (.slice A714_1 ((rd_T25 y710 x131_4).f1).length c714_1)) (fun _ h_=>h_.1))) hb);replace HO_120:=A_ (Kd.S_below (sw_ (Kd.S_mono (Kd.S_far (p:=⟨gb715,1,none⟩) (Kd.S_far (p:=⟨gb715,0,none⟩) (Kd.S_mono HO_120.out (fun k_ hk=>(⟨hk,hk.2⟩:_∧k_≠gb715))) (fun _ hk=>hk.2) (.slice A714_0 ((rd_T25 y710 x131_4).f0).length c714_0)) (fun _ hk=>hk.2) (.slice A714_1 ((rd_T25 y710 x131_4).f1).length c714_1)) (fun _ h_=>h_.1))) hb);replace HO_668000:=A_ (rD_ (rw_ (Kd.R_mono (Kd.R_far (p:=⟨gb715,1,none⟩) (Kd.R_far (p:=⟨gb715,0,none⟩) (Kd.R_types HO_668000.out BK715.out (by decide)) (fun _ hk=>hk.2) (.slice A714_0 ((rd_T25 y710 x131_4).f0).length c714_0)) (fun _ hk=>hk.2) (.slice A714_1 ((rd_T25 y710 x131_4).f1).length c714_1)) (fun _ h_=>h_.1))) hb);replace HO_668001:=A_ (rD_ (rw_ (Kd.R_mono (Kd.R_far (p:=⟨gb715,1,none⟩) (Kd.R_far (p:=⟨gb715,0,none⟩) (Kd.R_types HO_668001.out BK715.out (by decide)) (fun _ hk=>hk.2) (.slice A714_0 ((rd_T25 y710 x131_4).f0).length c714_0)) (fun _ hk=>hk.2) (.slice A714_1 ((rd_T25 y710 x131_4).f1).length c714_1)) (fun _ h_=>h_.1))) hb);replace HO_686000:=A_ (rD_ (rw_ (Kd.R_mono (Kd.R_far (p:=⟨gb715,1,none⟩) (Kd.R_far (p:=⟨gb715,0,none⟩) (Kd.R_types HO_686000.out BK715.out (by decide)) (fun _ hk=>hk.2) (.slice A714_0 ((rd_T25 y710 x131_4).f0).length c714_0)) (fun _ hk=>hk.2) (.slice A714_1 ((rd_T25 y710 x131_4).f1).length c714_1)) (fun _ h_=>h_.1))) hb);replace HO_686001:=A_ (rD_ (rw_ (Kd.R_mono (Kd.R_far (p:=⟨gb715,1,none⟩) (Kd.R_far (p:=⟨gb715,0,none⟩) (Kd.R_types HO_686001.out BK715.out (by decide)) (fun _ hk=>hk.2) (.slice A714_0 ((rd_T25 y710 x131_4).f0).length c714_0)) (fun _ hk=>hk.2) (.slice A714_1 ((rd_T25 y710 x131_4).f1).length c714_1)) (fun _ h_=>h_.1))) hb);replace HO_695000:=A_ (rD_ (rw_ (Kd.R_mono (Kd.R_far (p:=⟨gb715,1,none⟩) (Kd.R_far (p:=⟨gb715,0,none⟩) (Kd.R_types HO_695000.out BK715.out (by decide)) (fun _ hk=>hk.2) (.slice A714_0 ((rd_T25 y710 x131_4).f0).length c714_0)) (fun _ hk=>hk.2) (.slice A714_1 ((rd_T25 y710 x131_4).f1).length c714_1)) (fun _ h_=>h_.1))) hb);replace HO_695001:=A_ (rD_ (rw_ (Kd.R_mono (Kd.R_far (p:=⟨gb715,1,none⟩) (Kd.R_far (p:=⟨gb715,0,none⟩) (Kd.R_types HO_695001.out BK715.out (by decide)) (fun _ hk=>hk.2) (.slice A714_0 ((rd_T25 y710 x131_4).f0).length c714_0)) (fun _ hk=>hk.2) (.slice A714_1 ((rd_T25 y710 x131_4).f1).length c714_1)) (fun _ h_=>h_.1))) hb);replace HO_703000:=A_ (rD_ (rw_ (Kd.R_mono (Kd.R_far (p:=⟨gb715,1,none⟩) (Kd.R_far (p:=⟨gb715,0,none⟩) (Kd.R_types HO_703000.out BK715.out (by decide)) (fun _ hk=>hk.2) (.slice A714_0 ((rd_T25 y710 x131_4).f0).length c714_0)) (fun _ hk=>hk.2) (.slice A714_1 ((rd_T25 y710 x131_4).f1).length c714_1)) (fun _ h_=>h_.1))) hb);replace HO_703001:=A_ (rD_ (rw_ (Kd.R_mono (Kd.R_far (p:=⟨gb715,1,none⟩) (Kd.R_far (p:=⟨gb715,0,none⟩) (Kd.R_types HO_703001.out BK715.out (by decide)) (fun _ hk=>hk.2) (.slice A714_0 ((rd_T25 y710 x131_4).f0).length c714_0)) (fun _ hk=>hk.2) (.slice A714_1 ((rd_T25 y710 x131_4).f1).length c714_1)) (fun _ h_=>h_.1))) hb);replace BK667:=A_ (kE_ (g:=gb667) (o:=.cells #[.slice Ao8 t661.length co8,.slice Ao10 t664.length co10] 25 (0,0)) (by (with_reducible repeat (first | refine kA_ ?_ _ | refine kB_ ?_ | refine kC_ ?_ _));refine blk_far ?_ NB667_715.out _;(with_reducible repeat (first | refine kA_ ?_ _ | refine kB_ ?_ | refine kC_ ?_ _));refine blk_far ?_ NB667_715.out _;(with_reducible repeat (first | refine kA_ ?_ _ | refine kB_ ?_ | refine kC_ ?_ _));exact BK667.out) hb);replace BK685:=A_ (kE_ (g:=gb685) (o:=.cells #[.slice Ao41 t678.length co41,.slice Ao45 t681.length co45] 25 (0,0)) (by (with_reducible repeat (first | refine kA_ ?_ _ | refine kB_ ?_ | refine kC_ ?_ _));refine blk_far ?_ NB685_715.out _;(with_reducible repeat (first | refine kA_ ?_ _ | refine kB_ ?_ | refine kC_ ?_ _));refine blk_far ?_ NB685_715.out _;(with_reducible repeat (first | refine kA_ ?_ _ | refine kB_ ?_ | refine kC_ ?_ _));exact BK685.out) hb);replace BK694:=A_ (kE_ (g:=gb694) (o:=.cells #[.slice Ao52 t687.length co52,.slice Ao54 t690.length co54] 25 (0,0)) (by (with_reducible repeat (first | refine kA_ ?_ _ | refine kB_ ?_ | refine kC_ ?_ _));refine blk_far ?_ NB694_715.out _;(with_reducible repeat (first | refine kA_ ?_ _ | refine kB_ ?_ | refine kC_ ?_ _));refine blk_far ?_ NB694_715.out _;(with_reducible repeat (first | refine kA_ ?_ _ | refine kB_ ?_ | refine kC_ ?_ _));exact BK694.out) hb);replace BK702:=A_ (kE_ (g:=gb702) (o:=.cells #[.slice Ao60 t695.length co60,.slice Ao66 t698.length co66] 25 (0,0)) (by (with_reducible repeat (first | refine kA_ ?_ _ | refine kB_ ?_ | refine kC_ ?_ _));refine blk_far ?_ NB702_715.out _;(with_reducible repeat (first | refine kA_ ?_ _ | refine kB_ ?_ | refine kC_ ?_ _));refine blk_far ?_ NB702_715.out _;(with_reducible repeat (first | refine kA_ ?_ _ | refine kB_ ?_ | refine kC_ ?_ _));exact BK702.out) hb);replace BK709:=A_ (kE_ (g:=gb709) (o:=.cells #[.slice A708_0 ((rd_T25 t668 x122_3).f0).length c708_0,.slice A708_1 ((rd_T25 t668 x122_3).f1).length c708_1] 25 (0,0)) (by (with_reducible repeat (first | refine kA_ ?_ _ | refine kB_ ?_ | refine kC_ ?_ _));refine blk_far ?_ NB709_715.out _;(with_reducible repeat (first | refine kA_ ?_ _ | refine kB_ ?_ | refine kC_ ?_ _));refine blk_far ?_ NB709_715.out _;(with_reducible repeat (first | refine kA_ ?_ _ | refine kB_ ?_ | refine kC_ ?_ _));exact BK709.out) hb);replace BK715:=A_ (kE_ (g:=gb715) (o:=.cells #[.slice A714_0 ((rd_T25 y710 x131_4).f0).length c714_0,.slice A714_1 ((rd_T25 y710 x131_4).f1).length c714_1] 25 (0,0)) qp_ hb);replace HB:=b1_ hb;clear hb))
                go_roundg k4
                case measure=>have:=HJ4.out;have:=HJ29.out;have:=HK3.out;have:=HK4.out;omega
                case rel=>exact ⟨(wrap64 (x131_4 + 1)),qc_,H',⟨by have:=HJ4.out;have:=HJ29.out;have:=HK3.out;have:=HK4.out;omega⟩,⟨(sw_ (Kd.S_mono HO_4.out (fun _ hk=>⟨hk.1.1,⟨hk.1.2.1,⟨hk.1.2.2.1,⟨hk.1.2.2.2.1,⟨hk.1.2.2.2.2.1,⟨hk.1.2.2.2.2.2.1,⟨hk.1.2.2.2.2.2.2.1,⟨hk.1.2.2.2.2.2.2.2.1,⟨hk.1.2.2.2.2.2.2.2.2.1,⟨hk.1.2.2.2.2.2.2.2.2.2.1,⟨hk.1.2.2.2.2.2.2.2.2.2.2.1,⟨hk.1.2.2.2.2.2.2.2.2.2.2.2.1,hk.1.2.2.2.2.2.2.2.2.2.2.2.2⟩⟩⟩⟩⟩⟩⟩⟩⟩⟩⟩⟩)))⟩,⟨(sw_ (Kd.S_mono HO_120.out (fun _ hk=>⟨hk.1.1,⟨hk.1.2.1,⟨hk.1.2.2.1,⟨hk.1.2.2.2.1,⟨hk.1.2.2.2.2.1,⟨hk.1.2.2.2.2.2.1,⟨hk.1.2.2.2.2.2.2.1,⟨hk.1.2.2.2.2.2.2.2.1,⟨hk.1.2.2.2.2.2.2.2.2.1,⟨hk.1.2.2.2.2.2.2.2.2.2.1,⟨hk.1.2.2.2.2.2.2.2.2.2.2.1,⟨hk.1.2.2.2.2.2.2.2.2.2.2.2.1,hk.1.2.2.2.2.2.2.2.2.2.2.2.2⟩⟩⟩⟩⟩⟩⟩⟩⟩⟩⟩⟩)))⟩,⟨(rr_ HO_668000)⟩,⟨(rr_ HO_668001)⟩,⟨(rr_ HO_686000)⟩,⟨(rr_ HO_686001)⟩,⟨(rr_ HO_695000)⟩,⟨(rr_ HO_695001)⟩,⟨(rr_ HO_703000)⟩,⟨(rr_ HO_703001)⟩,⟨(kk_ BK667)⟩,⟨(kk_ BK685)⟩,⟨(kk_ BK694)⟩,⟨(kk_ BK702)⟩,⟨(kk_ BK709)⟩,⟨by repeat (first | (with_reducible first | exact HDo_.out | apply bA_ | apply bB_ | apply bC_) | exact HDo_.out)⟩,⟨hB_⟩⟩
              ·rw [if_neg c184] at H
               have c184b0:=oD_ c184
               clear c184
               have H':=A_ H
               clear H
               go_wp2
               go_roundg k4
               case measure=>have:=HJ4.out;have:=HJ29.out;have:=HK3.out;have:=HK4.out;omega
               case rel=>exact ⟨(wrap64 (x122_3 + 1)),qc_,H',⟨by have:=HJ4.out;have:=HJ29.out;have:=HK3.out;have:=HK4.out;omega⟩,⟨(sw_ (Kd.S_mono HO_4.out (fun _ hk=>⟨hk.1,⟨hk.2.1,⟨hk.2.2.1,⟨hk.2.2.2.1,⟨hk.2.2.2.2.1,⟨hk.2.2.2.2.2.1,⟨hk.2.2.2.2.2.2.1,⟨hk.2.2.2.2.2.2.2.1,⟨hk.2.2.2.2.2.2.2.2.1,⟨hk.2.2.2.2.2.2.2.2.2.1,⟨hk.2.2.2.2.2.2.2.2.2.2.1,hk.2.2.2.2.2.2.2.2.2.2.2.1⟩⟩⟩⟩⟩⟩⟩⟩⟩⟩⟩)))⟩,⟨(sw_ (Kd.S_mono HO_120.out (fun _ hk=>⟨hk.1,⟨hk.2.1,⟨hk.2.2.1,⟨hk.2.2.2.1,⟨hk.2.2.2.2.1,⟨hk.2.2.2.2.2.1,⟨hk.2.2.2.2.2.2.1,⟨hk.2.2.2.2.2.2.2.1,⟨hk.2.2.2.2.2.2.2.2.1,⟨hk.2.2.2.2.2.2.2.2.2.1,⟨hk.2.2.2.2.2.2.2.2.2.2.1,hk.2.2.2.2.2.2.2.2.2.2.2.1⟩⟩⟩⟩⟩⟩⟩⟩⟩⟩⟩)))⟩,⟨(rr_ HO_668000)⟩,⟨(rr_ HO_668001)⟩,⟨(rr_ HO_686000)⟩,⟨(rr_ HO_686001)⟩,⟨(rr_ HO_695000)⟩,⟨(rr_ HO_695001)⟩,⟨(rr_ HO_703000)⟩,⟨(rr_ HO_703001)⟩,⟨(kk_ BK667)⟩,⟨(kk_ BK685)⟩,⟨(kk_ BK694)⟩,⟨(kk_ BK702)⟩,⟨hB_⟩⟩
           ·rw [if_neg c171] at H
            have c171b0:=oD_ c171
            clear c171
            obtain rfl:=Option.some.inj H
            go_wp2
            go_ret
            exact ⟨by first | rfl | (simp [errW_none,errW_some] <;> rfl) | (simp only [← hji22];first | rfl | (simp [errW_none,errW_some] <;> rfl)) | (simp [*,errW_none,errW_some] <;> rfl),hB_⟩
end Go.Proofs.Ytcggfjpnfodbaaa.A
end
section
/- Plain mathematics: permutations as lists of numbers. No conditions. -/
namespace Go.Proofs.Ytcggfjpnfodbaaa.M
set_option linter.unusedVariables false
set_option linter.unusedSimpArgs false
def I (l:List Nat):List Int:=l.map Int.ofNat
def g (p:List Nat) (i:Nat):Nat:=p.getD i 0
def tab (n:Nat) (f:Nat→Nat):List Nat:=(List.range n).map f
theorem I_len (l:List Nat):(I l).length = l.length:=by simp [I]
theorem I_inj {a b:List Nat} (h:I a = I b):a = b:=by
 unfold I at h
 exact (List.map_inj_right (fun x y hxy=>Int.ofNat.inj hxy)).mp h
theorem tab_len (n:Nat) (f:Nat→Nat):(tab n f).length = n:=by simp [tab]
theorem g_tab {n:Nat} {f:Nat→Nat} {i:Nat} (h:i < n):g (tab n f) i = f i:=by simp [g,tab,List.getD_eq_getElem?_getD,h]
theorem g_get {p:List Nat} {i:Nat} (h:i < p.length):g p i = p[i]:=by simp [g,List.getD_eq_getElem?_getD,h]
theorem g_mem {p:List Nat} {i:Nat} (h:i < p.length):g p i ∈ p:=by rw [g_get h];exact List.getElem_mem h
theorem mem_g {p:List Nat} {x:Nat} (h:x ∈ p):∃ i,i < p.length∧g p i = x:=by
 obtain ⟨i,hi,rfl⟩:=List.mem_iff_getElem.mp h
 exact ⟨i,hi,g_get hi⟩
theorem ext_g {a b:List Nat} (hl:a.length = b.length) (h:∀ i,i < a.length→g a i = g b i):a = b:=by
 apply List.ext_getElem hl
 intro i h1 h2
 rw [← g_get h1,← g_get h2]
 exact h i h1
theorem eq_tab {l:List Nat} {n:Nat} {f:Nat→Nat} (hl:l.length = n) (h:∀ i,i < n→g l i = f i):l = tab n f :=
 ext_g (by rw [tab_len,hl]) (fun i hi=>by rw [hl] at hi;rw [g_tab hi,h i hi])
theorem g_set {p:List Nat} {i x j:Nat} (h:i < p.length):g (p.set i x) j = if i = j then x else g p j:=by
 unfold g
 rw [List.getD_eq_getElem?_getD,List.getD_eq_getElem?_getD,List.getElem?_set]
 by_cases e:i = j
 ·subst e
  simp [h]
 ·simp [e]
theorem I_set (p:List Nat) (i x:Nat):(I p).set i (x:Int) = I (p.set i x):=by simp [I,List.map_set]
theorem I_snoc (p:List Nat) (x:Nat):I p ++ [(x:Int)] = I (p ++ [x]):=by simp [I]
theorem I_rep (n x:Nat):I (List.replicate n x) = List.replicate n (x:Int):=by simp [I]
structure IsP (p:List Nat):Prop where
 lt:∀ x ∈ p,x < p.length
 nd:p.Nodup
instance (p:List Nat):Decidable (IsP p):=decidable_of_iff ((∀ x ∈ p,x < p.length)∧p.Nodup) ⟨fun h=>⟨h.1,h.2⟩,fun h=>⟨h.lt,h.nd⟩⟩
theorem nodup_le (n:Nat):∀ l:List Nat,l.Nodup→(∀ x ∈ l,x < n)→l.length≤n:=by
 induction n with
 | zero =>
  intro l _ h
  cases l with
  | nil=>simp
  | cons a l=>exact absurd (h a (by simp)) (by omega)
 | succ n ih =>
  intro l hn h
  have h1:=ih (l.erase n) (hn.erase n) (fun x hx=>by
   have h2:=(List.Nodup.mem_erase_iff hn).mp hx
   have h3:=h x h2.2
   have h4:=h2.1
   omega)
  have h5:=@List.length_erase _ _ _ n l
  split at h5 <;> omega
theorem mem_all {p:List Nat} (hp:IsP p) {x:Nat} (h:x < p.length):x ∈ p:=by
 apply Classical.byContradiction
 intro hx
 have:=nodup_le p.length (x :: p) (List.nodup_cons.mpr ⟨hx,hp.nd⟩) (fun y hy=>by
  rcases List.mem_cons.mp hy with rfl | hy
  ·exact h
  ·exact hp.lt y hy)
 simp at this
 omega
theorem g_lt {p:List Nat} (hp:IsP p) {i:Nat} (h:i < p.length):g p i < p.length:=hp.lt _ (g_mem h)
theorem g_inj {p:List Nat} (hp:IsP p) {i j:Nat} (hi:i < p.length) (hj:j < p.length) (h:g p i = g p j):i = j:=by
 rw [g_get hi,g_get hj] at h
 have hw:=List.pairwise_iff_getElem.mp hp.nd
 rcases Nat.lt_trichotomy i j with hij | hij | hij
 ·exact absurd h (hw i j hi hj hij)
 ·exact hij
 ·exact absurd h.symm (hw j i hj hi hij)
def ix (p:List Nat) (x:Nat):Nat:=p.idxOf x
theorem ix_lt {p:List Nat} (hp:IsP p) {x:Nat} (h:x < p.length):ix p x < p.length:=List.idxOf_lt_length_of_mem (mem_all hp h)
theorem g_ix {p:List Nat} (hp:IsP p) {x:Nat} (h:x < p.length):g p (ix p x) = x:=by
 rw [g_get (ix_lt hp h)]
 exact List.getElem_idxOf (ix_lt hp h)
theorem ix_g {p:List Nat} (hp:IsP p) {i:Nat} (h:i < p.length):ix p (g p i) = i :=
 g_inj hp (ix_lt hp (g_lt hp h)) h (g_ix hp (g_lt hp h))
theorem ix_eq {p:List Nat} (hp:IsP p) {i x:Nat} (h:i < p.length) (e:g p i = x):ix p x = i:=by rw [← e];exact ix_g hp h
theorem isP_mk {p:List Nat} (h1:∀ i,i < p.length→g p i < p.length) (h2:∀ i j,i < p.length→j < p.length→g p i = g p j→i = j):IsP p:=by
 refine ⟨fun x hx=>?_,?_⟩
 ·obtain ⟨i,hi,rfl⟩:=mem_g hx
  exact h1 i hi
 ·refine List.pairwise_iff_getElem.mpr ?_
  intro i j hi hj hij e'
  rw [← g_get hi,← g_get hj] at e'
  have:=h2 i j hi hj e'
  omega
theorem isP_tab {n:Nat} {f:Nat→Nat} (h1:∀ i,i < n→f i < n) (h2:∀ i j,i < n→j < n→f i = f j→i = j):IsP (tab n f):=by
 refine isP_mk (fun i hi=>?_) (fun i j hi hj e=>?_)
 ·rw [tab_len] at hi ⊢;rw [g_tab hi];exact h1 i hi
 ·rw [tab_len] at hi hj;rw [g_tab hi,g_tab hj] at e;exact h2 i j hi hj e
def inv (p:List Nat):List Nat:=tab p.length (ix p)
theorem inv_len (p:List Nat):(inv p).length = p.length:=tab_len _ _
theorem g_inv {p:List Nat} {i:Nat} (h:i < p.length):g (inv p) i = ix p i:=g_tab h
theorem isP_inv {p:List Nat} (hp:IsP p):IsP (inv p):=isP_tab (fun i hi=>ix_lt hp hi) (fun i j hi hj e=>by rw [← g_ix hp hi,← g_ix hp hj,e])
theorem ix_inv {p:List Nat} (hp:IsP p) {i:Nat} (h:i < p.length):ix (inv p) i = g p i :=
 ix_eq (isP_inv hp) (by rw [inv_len];exact g_lt hp h) (by rw [g_inv (g_lt hp h)];exact ix_g hp h)
theorem inv_inv {p:List Nat} (hp:IsP p):inv (inv p) = p :=
 (eq_tab (by rw [inv_len]) (fun i hi=>by rw [inv_len] at hi;rw [ix_inv hp hi])).symm
def thn (p q:List Nat):List Nat:=tab p.length (fun i=>g q (g p i))
theorem thn_len (p q:List Nat):(thn p q).length = p.length:=tab_len _ _
theorem g_thn {p q:List Nat} {i:Nat} (h:i < p.length):g (thn p q) i = g q (g p i):=g_tab h
theorem isP_thn {p q:List Nat} (hp:IsP p) (hq:IsP q) (hl:p.length = q.length):IsP (thn p q) :=
 isP_tab (fun i hi=>by have h1:=g_lt hp hi;have h2:=g_lt hq (i:=g p i) (by omega);omega)
  (fun i j hi hj e=>g_inj hp hi hj (g_inj hq (by have:=g_lt hp hi;omega) (by have:=g_lt hp hj;omega) e))
def ren (p names:List Nat):List Nat:=tab p.length (fun j=>g names (g p (ix names j)))
theorem ren_len (p names:List Nat):(ren p names).length = p.length:=tab_len _ _
theorem g_ren {p names:List Nat} {j:Nat} (h:j < p.length):g (ren p names) j = g names (g p (ix names j)):=g_tab h
theorem isP_ren {p names:List Nat} (hp:IsP p) (hn:IsP names) (hl:p.length = names.length):IsP (ren p names):=by
 refine isP_tab (fun i hi=>?_) (fun i j hi hj e=>?_)
 ·have h1:=ix_lt hn (x:=i) (by omega)
  have h2:=g_lt hp (i:=ix names i) (by omega)
  have h3:=g_lt hn (i:=g p (ix names i)) (by omega)
  omega
 ·have h1:=ix_lt hn (x:=i) (by omega)
  have h2:=ix_lt hn (x:=j) (by omega)
  have h3:=g_lt hp (i:=ix names i) (by omega)
  have h4:=g_lt hp (i:=ix names j) (by omega)
  have h5:=g_inj hn (by omega) (by omega) e
  have h6:=g_inj hp (by omega) (by omega) h5
  have h7:=g_ix hn (x:=i) (by omega)
  have h8:=g_ix hn (x:=j) (by omega)
  rw [← h7,← h8,h6]
end Go.Proofs.Ytcggfjpnfodbaaa.M
end
section
/- Plain mathematics: permutations of whole numbers, and what is reached by two of them. No conditions. -/
namespace Go.Proofs.Ytcggfjpnfodbaaa.M
set_option linter.unusedVariables false
set_option linter.unusedSimpArgs false
open Go.RowKit Go.Proofs.YtcggfjpnfodbaaaW.PrintWords Go.Proofs.YtcggfjpnfodbaaaW.PrintLast Go.Proofs.YtcggfjpnfodbaaaW.PrintMore
theorem w64 {x:Int} (h0:-9223372036854775808≤x) (h1:x≤9223372036854775807):wrap64 x = x:=by unfold wrap64;omega
theorem w64s (i:Nat) (h:i≤9000000000000000000):wrap64 ((i:Int) + 1) = ((i + 1:Nat):Int):=by rw [w64 (by omega) (by omega)];omega
theorem ev_succ {α:Type} {f:Nat→Option α} {r:α} (h:Ev (fun k=>f (k + 1)) r):Ev f r:=Ev.step (fun _=>rfl) h
theorem rdI (p:List Nat) (i:Nat):rd (I p) (i:Int) = ((g p i:Nat):Int):=by
 unfold rd g I
 simp only [Int.toNat_natCast,List.getD_eq_getElem?_getD,List.getElem?_map]
 cases p[i]? <;> rfl
theorem rd_get (l:List Int) (i:Nat) (h:i < l.length):rd l (i:Int) = l[i]:=by
 unfold rd
 simp [List.getD_eq_getElem?_getD,h]
theorem mem_I {p:List Nat} {x:Nat}:(x:Int) ∈ I p ↔ x ∈ p:=by
 unfold I
 constructor
 ·intro h
  obtain ⟨y,hy,e⟩:=List.mem_map.mp h
  have:y = x:=Int.ofNat.inj e
  exact this ▸ hy
 ·intro h
  exact List.mem_map.mpr ⟨x,h,rfl⟩
def PI (l:List Int):Prop:=l.length≤24∧(∀ x ∈ l,0≤x∧x < (l.length:Int))∧l.Nodup
instance:DecidablePred PI:=fun l=>by unfold PI;infer_instance
def permB (l:List Int):Bool:=decide (PI l)
def N (l:List Int):List Nat:=l.map Int.toNat
theorem N_I (p:List Nat):N (I p) = p:=by
 unfold N I
 rw [List.map_map]
 exact List.map_id'' (fun x=>rfl) p
theorem N_len (l:List Int):(N l).length = l.length:=by simp [N]
theorem I_N {l:List Int} (h:∀ x ∈ l,0≤x):I (N l) = l:=by
 unfold N I
 rw [List.map_map]
 conv=>rhs;rw [← List.map_id l]
 apply List.map_congr_left
 intro x hx
 have:=h x hx
 simp only [Function.comp,id]
 show ((x.toNat:Nat):Int) = x
 omega
theorem PI_nat {l:List Int} (h:PI l):∃ p,l = I p∧IsP p∧p.length≤24:=by
 obtain ⟨h1,h2,h3⟩:=h
 refine ⟨N l,(I_N (fun x hx=>(h2 x hx).1)).symm,?_,by rw [N_len];exact h1⟩
 have e:=I_N (fun x hx=>(h2 x hx).1)
 refine ⟨fun x hx=>?_,?_⟩
 ·have:=(h2 (x:Int) (by rw [← e];exact mem_I.mpr hx)).2
  rw [N_len]
  omega
 ·rw [← e] at h3
  unfold I at h3
  exact (List.pairwise_map.mp h3).imp (fun {a b} hab hh=>hab (by rw [hh]))
theorem PI_I {p:List Nat}:PI (I p) ↔ IsP p∧p.length≤24:=by
 constructor
 ·intro h
  obtain ⟨q,e,h1,h2⟩:=PI_nat h
  have:=I_inj e
  subst this
  exact ⟨h1,h2⟩
 ·intro ⟨h1,h2⟩
  refine ⟨by rw [I_len];exact h2,fun x hx=>?_,?_⟩
  ·unfold I at hx
   obtain ⟨y,hy,rfl⟩:=List.mem_map.mp hx
   have:=h1.lt y hy
   rw [I_len]
   exact ⟨Int.natCast_nonneg y,Int.ofNat_lt.mpr this⟩
  ·unfold I
   exact List.pairwise_map.mpr (h1.nd.imp (fun {a b} hab hh=>hab (Int.ofNat.inj hh)))
theorem permB_I {p:List Nat}:permB (I p) = true ↔ IsP p∧p.length≤24:=by
 unfold permB
 rw [decide_eq_true_iff]
 exact PI_I
def okFrom (l:List Int) (i:Nat):Prop:=∀ j:Nat,i≤j→j < l.length→0≤rd l (j:Int)∧rd l (j:Int) < (l.length:Int)∧rd l (j:Int) ∉ l.take j
theorem okFrom_end (l:List Int) (i:Nat) (h:l.length≤i):okFrom l i:=fun j h1 h2=>by omega
theorem okFrom_step {l:List Int} {i:Nat} (h:0≤rd l (i:Int)∧rd l (i:Int) < (l.length:Int)∧rd l (i:Int) ∉ l.take i):okFrom l i ↔ okFrom l (i + 1):=by
 constructor
 ·intro k j h1 h2
  exact k j (by omega) h2
 ·intro k j h1 h2
  by_cases e:j = i
  ·subst e
   exact h
  ·exact k j (by omega) h2
theorem okFrom_not {l:List Int} {i:Nat} (hi:i < l.length) (h:¬ (0≤rd l (i:Int)∧rd l (i:Int) < (l.length:Int)∧rd l (i:Int) ∉ l.take i)):¬ okFrom l i:=fun k=>h (k i (Nat.le_refl _) hi)
theorem okFrom_PI {l:List Int} (h:l.length≤24):okFrom l 0 ↔ PI l:=by
 constructor
 ·intro k
  refine ⟨h,fun x hx=>?_,?_⟩
  ·obtain ⟨i,hi,rfl⟩:=List.mem_iff_getElem.mp hx
   have:=k i (Nat.zero_le _) hi
   rw [rd_get l i hi] at this
   exact ⟨this.1,this.2.1⟩
  ·refine List.pairwise_iff_getElem.mpr ?_
   intro i j hi hj hij e
   have:=(k j (Nat.zero_le _) hj).2.2
   rw [rd_get l j hj,← e] at this
   exact this (List.mem_take_iff_getElem.mpr ⟨i,by omega,rfl⟩)
 ·intro ⟨_,h2,h3⟩ j _ hj
  rw [rd_get l j hj]
  refine ⟨(h2 _ (List.getElem_mem hj)).1,(h2 _ (List.getElem_mem hj)).2,fun hm=>?_⟩
  obtain ⟨i,hi,e⟩:=List.mem_take_iff_getElem.mp hm
  exact List.pairwise_iff_getElem.mp h3 i j (by omega) hj (by omega) e
theorem permB_of {l:List Int} {b:Bool} (h:l.length≤24) (hb:b = true ↔ okFrom l 0):b = permB l:=by
 rw [Bool.eq_iff_iff,hb,okFrom_PI h]
 unfold permB
 rw [decide_eq_true_iff]
theorem take_succ (l:List Int) (i:Nat) (h:i < l.length):l.take (i + 1) = l.take i ++ [rd l (i:Int)]:=by
 rw [rd_get l i h,List.take_append_getElem h]
def st1 (out:List Nat) (x:Nat):List Nat:=if x ∈ out then out else out ++ [x]
def bfs (p q:List Nat):Nat→Nat→List Nat→List Nat
 | 0,_,out=>out
 | f + 1,a,out=>if a < out.length then bfs p q f (a + 1) (st1 (st1 out (g p (g out a))) (g q (g out a))) else out
def reach (p q:List Nat) (s:Nat):List Nat:=bfs p q (p.length + 1) 0 [s]
structure RInv (n:Nat) (out:List Nat):Prop where
 nd:out.Nodup
 lt:∀ x ∈ out,x < n
theorem RInv.le {n:Nat} {out:List Nat} (h:RInv n out):out.length≤n:=nodup_le n out h.nd h.lt
theorem RInv.st {n:Nat} {out:List Nat} {x:Nat} (h:RInv n out) (hx:x < n):RInv n (st1 out x):=by
 unfold st1
 split
 ·exact h
 ·rename_i hn
  refine ⟨List.nodup_append.mpr ⟨h.nd,by simp,fun a ha b hb e=>?_⟩,fun y hy=>?_⟩
  ·have:b = x:=by simpa using hb
   subst this
   exact hn (e ▸ ha)
  ·rcases List.mem_append.mp hy with hy | hy
   ·exact h.lt y hy
   ·have:y = x:=by simpa using hy
    omega
theorem st1_len (out:List Nat) (x:Nat):out.length≤(st1 out x).length:=by
 unfold st1
 split <;> simp
theorem RInv.g {n:Nat} {out:List Nat} {a:Nat} (h:RInv n out) (ha:a < out.length):M.g out a < n:=h.lt _ (g_mem ha)
structure Sf (r u:List Nat):Prop where
 pr:IsP r
 pu:IsP u
 le:r.length≤24
 eq:u.length = r.length
 pos:0 < r.length
 all:(reach r u 0).length = r.length
def surfB (r u:List Int):Bool:=permB r && permB u && decide (r.length = u.length) && decide (0 < r.length) && ((reach (N r) (N u) 0).length == r.length)
theorem surf_nat {r u:List Int} (h:surfB r u = true):∃ r' u',r = I r'∧u = I u'∧Sf r' u':=by
 unfold surfB at h
 simp only [Bool.and_eq_true,decide_eq_true_eq,beq_iff_eq] at h
 obtain ⟨⟨⟨⟨h1,h2⟩,h3⟩,h4⟩,h5⟩:=h
 obtain ⟨r',rfl,a1,a2⟩:=PI_nat (of_decide_eq_true h1)
 obtain ⟨u',rfl,b1,b2⟩:=PI_nat (of_decide_eq_true h2)
 rw [N_I,N_I,I_len] at h5
 rw [I_len,I_len] at h3
 rw [I_len] at h4
 exact ⟨r',u',rfl,rfl,a1,b1,a2,h3.symm,h4,h5⟩
theorem surfB_I {r u:List Nat}:surfB (I r) (I u) = true ↔ Sf r u:=by
 constructor
 ·intro h
  obtain ⟨r',u',e1,e2,hs⟩:=surf_nat h
  have:=I_inj e1
  have:=I_inj e2
  subst_vars
  exact hs
 ·intro h
  unfold surfB
  simp only [Bool.and_eq_true,decide_eq_true_eq,beq_iff_eq]
  rw [N_I,N_I,I_len,I_len]
  exact ⟨⟨⟨⟨permB_I.mpr ⟨h.pr,h.le⟩,permB_I.mpr ⟨h.pu,by have:=h.le;have:=h.eq;omega⟩⟩,h.eq.symm⟩,h.pos⟩,h.all⟩
end Go.Proofs.Ytcggfjpnfodbaaa.M
end
section
/- Plain mathematics: going round a permutation. No conditions. -/
namespace Go.Proofs.Ytcggfjpnfodbaaa.M
set_option linter.unusedVariables false
set_option linter.unusedSimpArgs false
def itr (p:List Nat):Nat→Nat→Nat
 | 0,s=>s
 | m + 1,s=>g p (itr p m s)
theorem itr_lt {p:List Nat} (hp:IsP p) (m:Nat) {s:Nat} (hs:s < p.length):itr p m s < p.length:=by
 induction m with
 | zero=>exact hs
 | succ m ih=>exact g_lt hp ih
theorem itr_add (p:List Nat) (a b s:Nat):itr p (a + b) s = itr p a (itr p b s):=by
 induction a with
 | zero=>simp [itr]
 | succ a ih =>
  have e:a + 1 + b = (a + b) + 1:=by omega
  rw [e,itr,itr,ih]
theorem itr_back {p:List Nat} (hp:IsP p) {s:Nat} (hs:s < p.length) (i d:Nat) (h:itr p (i + d) s = itr p i s):itr p d s = s:=by
 induction i with
 | zero =>
  have e:0 + d = d:=by omega
  rw [e] at h
  exact h
 | succ i ih =>
  have e:i + 1 + d = (i + d) + 1:=by omega
  rw [e] at h
  exact ih (g_inj hp (itr_lt hp _ hs) (itr_lt hp _ hs) h)
theorem period {p:List Nat} (hp:IsP p) {s:Nat} (hs:s < p.length):∃ m,1≤m∧m≤p.length∧itr p m s = s:=by
 apply Classical.byContradiction
 intro hn
 have hd:((List.range (p.length + 1)).map (fun m=>itr p m s)).Nodup:=by
  refine List.pairwise_map.mpr ?_
  refine List.pairwise_iff_getElem.mpr ?_
  intro i j hi hj hij
  rw [List.length_range] at hi hj
  rw [List.getElem_range,List.getElem_range]
  intro e
  have:itr p (j - i) s = s:=itr_back hp hs i (j - i) (by
   have e2:i + (j - i) = j:=by omega
   rw [e2]
   exact e.symm)
  exact hn ⟨j - i,by omega,by omega,this⟩
 have:=nodup_le p.length _ hd (fun x hx=>by
  obtain ⟨m,_,rfl⟩:=List.mem_map.mp hx
  exact itr_lt hp m hs)
 simp at this
 omega
def per (p:List Nat) (s:Nat):Nat:=(((List.range p.length).find? (fun m=>itr p (m + 1) s == s)).getD 0) + 1
def orbTo (p:List Nat) (s m:Nat):List Nat:=(List.range m).map (fun k=>itr p k s)
def orb (p:List Nat) (s:Nat):List Nat:=orbTo p s (per p s)
def cyc (p:List Nat):Nat→List (List Nat)
 | 0=>[]
 | i + 1=>if ∃ c ∈ cyc p i,i ∈ c then cyc p i else cyc p i ++ [orb p i]
def cycles (p:List Nat):List (List Nat):=cyc p p.length
end Go.Proofs.Ytcggfjpnfodbaaa.M
end
section
/- Plain mathematics: surfaces, and what the four letters make of them. No conditions. -/
namespace Go.Proofs.Ytcggfjpnfodbaaa.M
set_option linter.unusedVariables false
set_option linter.unusedSimpArgs false
theorem st1_mem {out:List Nat} {x y:Nat}:y ∈ st1 out x ↔ y ∈ out ∨ y = x:=by
 unfold st1
 split
 ·rename_i h
  constructor
  ·exact Or.inl
  ·rintro (h' | rfl)
   ·exact h'
   ·exact h
 ·simp
theorem st1_g {out:List Nat} {x i:Nat} (h:i < out.length):g (st1 out x) i = g out i:=by
 unfold st1
 split
 ·rfl
 ·unfold g
  rw [List.getD_eq_getElem?_getD,List.getD_eq_getElem?_getD,List.getElem?_append_left h]
theorem st1_le (out:List Nat) (x:Nat):out.length≤(st1 out x).length:=by
 unfold st1
 split
 ·exact Nat.le_refl _
 ·simp
theorem bfs_ind {r u:List Nat} {n:Nat} (S:Nat→Prop) (h1:∀ x,x < n→S x→S (g r x)∧g r x < n) (h2:∀ x,x < n→S x→S (g u x)∧g u x < n):∀ (F a:Nat) (out:List Nat),(∀ x ∈ out,S x∧x < n)→∀ x ∈ bfs r u F a out,S x∧x < n:=by
 intro F
 induction F with
 | zero=>intro a out h;exact h
 | succ F ih =>
  intro a out h
  unfold bfs
  split
  ·rename_i ha
   obtain ⟨s,l⟩:=h _ (g_mem ha)
   refine ih _ _ (fun x hx=>?_)
   rcases st1_mem.mp hx with hx | rfl
   ·rcases st1_mem.mp hx with hx | rfl
    ·exact h x hx
    ·exact h1 _ l s
   ·exact h2 _ l s
  ·exact h
theorem bfs_sub {r u:List Nat}:∀ (F a:Nat) (out:List Nat),∀ x ∈ out,x ∈ bfs r u F a out:=by
 intro F
 induction F with
 | zero=>intro a out x h;exact h
 | succ F ih =>
  intro a out x h
  unfold bfs
  split
  ·exact ih _ _ x (st1_mem.mpr (.inl (st1_mem.mpr (.inl h))))
  ·exact h
theorem bfs_rinv {r u:List Nat} {n:Nat} (h1:∀ x,x < n→g r x < n) (h2:∀ x,x < n→g u x < n):∀ (F a:Nat) (out:List Nat),RInv n out→RInv n (bfs r u F a out):=by
 intro F
 induction F with
 | zero=>intro a out h;exact h
 | succ F ih =>
  intro a out h
  unfold bfs
  split
  ·rename_i ha
   have hx:=h.g ha
   exact ih _ _ ((h.st (h1 _ hx)).st (h2 _ hx))
  ·exact h
theorem bfs_shut {r u:List Nat} {n:Nat} (h1:∀ x,x < n→g r x < n) (h2:∀ x,x < n→g u x < n):∀ (F a:Nat) (out:List Nat),RInv n out→a≤out.length→n < F + a→(∀ i,i < a→g r (g out i) ∈ out∧g u (g out i) ∈ out)→∀ x ∈ bfs r u F a out,g r x ∈ bfs r u F a out∧g u x ∈ bfs r u F a out:=by
 intro F
 induction F with
 | zero =>
  intro a out h ha hF
  have:=h.le
  omega
 | succ F ih =>
  intro a out h ha hF hc
  unfold bfs
  split
  ·rename_i ha'
   have hx:=h.g ha'
   have r1:=h.st (h1 _ hx)
   have l1:=st1_le out (g r (g out a))
   have l2:=st1_le (st1 out (g r (g out a))) (g u (g out a))
   refine ih _ _ (r1.st (h2 _ hx)) (by omega) (by omega) (fun i hi=>?_)
   have e:g (st1 (st1 out (g r (g out a))) (g u (g out a))) i = g out i:=by
    rw [st1_g (by omega),st1_g (by omega)]
   rw [e]
   by_cases hia:i < a
   ·exact ⟨st1_mem.mpr (.inl (st1_mem.mpr (.inl (hc i hia).1))),st1_mem.mpr (.inl (st1_mem.mpr (.inl (hc i hia).2)))⟩
   ·obtain rfl:i = a:=by omega
    exact ⟨st1_mem.mpr (.inl (st1_mem.mpr (.inr rfl))),st1_mem.mpr (.inr rfl)⟩
  ·intro x hx
   obtain ⟨i,hi,rfl⟩:=mem_g hx
   exact hc i (by omega)
theorem nodup_sub_len5:∀ (a b:List Nat),a.Nodup→(∀ x ∈ a,x ∈ b)→a.length≤b.length:=by
 intro a
 induction a with
 | nil=>intro b _ _;simp
 | cons x a ih =>
  intro b hn h
  obtain ⟨h1,h2⟩:=List.nodup_cons.mp hn
  have hx:x ∈ b:=h x (by simp)
  have:=ih (b.erase x) h2 (fun y hy=>(List.mem_erase_of_ne (fun e=>h1 (by rw [← e];exact hy))).mpr (h y (by simp [hy])))
  rw [List.length_erase_of_mem hx] at this
  have hp:=List.length_pos_of_mem hx
  simp
  omega
def Tr (r u:List Nat):Prop:=∀ S:Nat→Prop,S 0→(∀ x,x < r.length→S x→S (g r x))→(∀ x,x < r.length→S x→S (g u x))→∀ x,x < r.length→S x
theorem sf_of_tr {r u:List Nat} (pr:IsP r) (pu:IsP u) (le:r.length≤24) (eq:u.length = r.length) (pos:0 < r.length) (h:Tr r u):Sf r u:=by
 have b1:∀ x,x < r.length→g r x < r.length:=fun x hx=>g_lt pr hx
 have b2:∀ x,x < r.length→g u x < r.length:=fun x hx=>by have:=g_lt pu (i:=x) (by omega);omega
 have hri:RInv r.length (reach r u 0):=bfs_rinv b1 b2 _ _ _ ⟨by simp,by simpa using pos⟩
 have hsh:=bfs_shut b1 b2 (r.length + 1) 0 [0] ⟨by simp,by simpa using pos⟩ (by simp) (by omega) (fun i hi=>by omega)
 have hall:∀ x,x < r.length→x ∈ reach r u 0:=h (fun x=>x ∈ reach r u 0) (bfs_sub _ _ _ 0 (by simp)) (fun x _ hx=>(hsh x hx).1) (fun x _ hx=>(hsh x hx).2)
 refine ⟨pr,pu,le,eq,pos,?_⟩
 have l1:=hri.le
 have l2:=nodup_sub_len5 (List.range r.length) (reach r u 0) List.nodup_range (fun x hx=>hall x (List.mem_range.mp hx))
 rw [List.length_range] at l2
 omega
theorem Sf.tr {r u:List Nat} (hs:Sf r u):Tr r u:=by
 intro S s0 h1 h2 x hx
 have b1:∀ x,x < r.length→g r x < r.length:=fun x hx=>g_lt hs.pr hx
 have b2:∀ x,x < r.length→g u x < r.length:=fun x hx=>by have:=g_lt hs.pu (i:=x) (by rw [hs.eq];exact hx);rw [hs.eq] at this;exact this
 have hri:RInv r.length (reach r u 0):=bfs_rinv b1 b2 _ _ _ ⟨by simp,by simpa using hs.pos⟩
 have hp:IsP (reach r u 0):=⟨fun x hx=>by rw [hs.all];exact hri.lt x hx,hri.nd⟩
 have hm:=mem_all hp (x:=x) (by rw [hs.all];exact hx)
 have h0:∀ y ∈ [0],S y∧y < r.length:=by
  intro y hy
  obtain rfl:y = 0:=by simpa using hy
  exact ⟨s0,hs.pos⟩
 exact (bfs_ind S (fun x hx h=>⟨h1 x hx h,b1 x hx⟩) (fun x hx h=>⟨h2 x hx h,b2 x hx⟩) _ _ [0] h0 x hm).1
theorem closed_back {p:List Nat} (hp:IsP p) {S:Nat→Prop} (hS:∀ x,x < p.length→S x→S (g p x)) {x:Nat} (hx:x < p.length) (h:S (g p x)):S x:=by
 obtain ⟨m,h1,_,h3⟩:=period hp hx
 have H:∀ k,S (itr p k (g p x)):=by
  intro k
  induction k with
  | zero=>exact h
  | succ k ih=>exact hS _ (itr_lt hp k (g_lt hp hx)) ih
 have e:itr p (m - 1) (g p x) = itr p m x:=by
  have:=itr_add p (m - 1) 1 x
  rw [show m - 1 + 1 = m by omega] at this
  exact this.symm
 have:=H (m - 1)
 rw [e,h3] at this
 exact this
theorem reach_full {r u:List Nat} (hs:Sf r u) {s:Nat} (hb:s < r.length):RInv r.length (reach r u s)∧∀ x,x < r.length→x ∈ reach r u s:=by
 have b1:∀ x,x < r.length→g r x < r.length:=fun x hx=>g_lt hs.pr hx
 have b2:∀ x,x < r.length→g u x < r.length:=fun x hx=>by have:=g_lt hs.pu (i:=x) (by rw [hs.eq];exact hx);rw [hs.eq] at this;exact this
 have h0:RInv r.length [s]:=⟨by simp,by simpa using hb⟩
 have hsh:=bfs_shut b1 b2 (r.length + 1) 0 [s] h0 (by simp) (by omega) (fun i hi=>by omega)
 have hmem:s ∈ reach r u s:=bfs_sub _ _ _ s (by simp)
 refine ⟨bfs_rinv b1 b2 _ _ _ h0,?_⟩
 have z:(0:Nat) ∈ reach r u s:=by
  apply Classical.byContradiction
  intro hz
  refine hs.tr (fun x=>x ∉ reach r u s) hz (fun x hx hn hm=>?_) (fun x hx hn hm=>?_) s hb hmem
  ·exact hn (closed_back hs.pr (S:=fun x=>x ∈ reach r u s) (fun y _ hy=>(hsh y hy).1) hx hm)
  ·exact hn (closed_back hs.pu (S:=fun x=>x ∈ reach r u s) (fun y _ hy=>(hsh y hy).2) (by rw [hs.eq];exact hx) hm)
 exact hs.tr (fun x=>x ∈ reach r u s) z (fun x _ hx=>(hsh x hx).1) (fun x _ hx=>(hsh x hx).2)
theorem sf_T {r u:List Nat} (hs:Sf r u):Sf r (thn (inv r) u):=by
 have h1:(inv r).length = u.length:=by rw [inv_len,hs.eq]
 refine sf_of_tr hs.pr (isP_thn (isP_inv hs.pr) hs.pu h1) hs.le (by rw [thn_len,inv_len]) hs.pos (fun S s0 k1 k2=>hs.tr S s0 k1 (fun x hx hsx=>?_))
 have:=k2 (g r x) (g_lt hs.pr hx) (k1 x hx hsx)
 rw [g_thn (by rw [inv_len];exact g_lt hs.pr hx),g_inv (g_lt hs.pr hx),ix_g hs.pr hx] at this
 exact this
theorem sf_t {r u:List Nat} (hs:Sf r u):Sf r (thn r u):=by
 have h1:r.length = u.length:=hs.eq.symm
 refine sf_of_tr hs.pr (isP_thn hs.pr hs.pu h1) hs.le (by rw [thn_len]) hs.pos (fun S s0 k1 k2=>hs.tr S s0 k1 (fun y hy hsy=>?_))
 have hx:ix r y < r.length:=ix_lt hs.pr hy
 have e:g r (ix r y) = y:=g_ix hs.pr hy
 have hsx:S (ix r y):=closed_back hs.pr (S:=S) k1 hx (by rw [e];exact hsy)
 have:=k2 _ hx hsx
 rw [g_thn hx,e] at this
 exact this
theorem sf_S {r u:List Nat} (hs:Sf r u):Sf (inv u) r:=by
 have hl:(inv u).length = r.length:=by rw [inv_len,hs.eq]
 refine sf_of_tr (isP_inv hs.pu) hs.pr (by rw [hl];exact hs.le) hl.symm (by rw [hl];exact hs.pos) (fun S s0 k1 k2=>?_)
 rw [hl] at k1 k2 ⊢
 refine hs.tr S s0 k2 (fun x hx hsx=>?_)
 have hx':g u x < u.length:=g_lt hs.pu (by rw [hs.eq];exact hx)
 refine closed_back (isP_inv hs.pu) (S:=S) (fun y hy=>k1 y (by rw [← hl];exact hy)) (x:=g u x) (by rw [inv_len];exact hx') ?_
 rw [g_inv hx',ix_g hs.pu (by rw [hs.eq];exact hx)]
 exact hsx
theorem sf_s {r u:List Nat} (hs:Sf r u):Sf u (inv r):=by
 refine sf_of_tr hs.pu (isP_inv hs.pr) (by rw [hs.eq];exact hs.le) (by rw [inv_len,hs.eq]) (by rw [hs.eq];exact hs.pos) (fun S s0 k1 k2=>?_)
 rw [hs.eq] at k1 k2 ⊢
 refine hs.tr S s0 (fun x hx hsx=>?_) k1
 have hx':g r x < r.length:=g_lt hs.pr hx
 refine closed_back (isP_inv hs.pr) (S:=S) (fun y hy=>k2 y (by rw [inv_len] at hy;exact hy)) (x:=g r x) (by rw [inv_len];exact hx') ?_
 rw [g_inv hx',ix_g hs.pr hx]
 exact hsx
end Go.Proofs.Ytcggfjpnfodbaaa.M
end
section
/- Plain mathematics: surfaces that are alike by renaming. No conditions. -/
namespace Go.Proofs.Ytcggfjpnfodbaaa.M
set_option linter.unusedVariables false
set_option linter.unusedSimpArgs false
structure Is (s t:List Nat × List Nat) (f:Nat→Nat):Prop where
 len:t.1.length = s.1.length
 lt:∀ x,x < s.1.length→f x < s.1.length
 inj:∀ x y,x < s.1.length→y < s.1.length→f x = f y→x = y
 r:∀ x,x < s.1.length→f (g s.1 x) = g t.1 (f x)
 u:∀ x,x < s.1.length→f (g s.2 x) = g t.2 (f x)
theorem Sf.gr {r u:List Nat} (hs:Sf r u) {x:Nat} (h:x < r.length):g r x < r.length:=g_lt hs.pr h
theorem Sf.gu {r u:List Nat} (hs:Sf r u) {x:Nat} (h:x < r.length):g u x < r.length:=by
 have:=g_lt hs.pu (i:=x) (by rw [hs.eq];exact h)
 rw [hs.eq] at this
 exact this
theorem Sf.ir {r u:List Nat} (hs:Sf r u) {x:Nat} (h:x < r.length):ix r x < r.length:=ix_lt hs.pr h
theorem Sf.iu {r u:List Nat} (hs:Sf r u) {x:Nat} (h:x < r.length):ix u x < r.length:=by
 have:=ix_lt hs.pu (x:=x) (by rw [hs.eq];exact h)
 rw [hs.eq] at this
 exact this
theorem Is.refl (s:List Nat × List Nat):Is s s (fun x=>x):=⟨rfl,fun _ h=>h,fun _ _ _ _ h=>h,fun _ _=>rfl,fun _ _=>rfl⟩
theorem Is.trans {s t v:List Nat × List Nat} {f h:Nat→Nat} (a:Is s t f) (b:Is t v h):Is s v (fun x=>h (f x)) where
 len:=b.len.trans a.len
 lt x hx:=by have:=b.lt (f x) (by rw [a.len];exact a.lt x hx);rw [a.len] at this;exact this
 inj x y hx hy e:=a.inj x y hx hy (b.inj _ _ (by rw [a.len];exact a.lt x hx) (by rw [a.len];exact a.lt y hy) e)
 r x hx:=by show h (f (g s.1 x)) = _;rw [a.r x hx,b.r _ (by rw [a.len];exact a.lt x hx)]
 u x hx:=by show h (f (g s.2 x)) = _;rw [a.u x hx,b.u _ (by rw [a.len];exact a.lt x hx)]
def bk (n:Nat) (f:Nat→Nat) (y:Nat):Nat:=ix (tab n f) y
theorem bk_lt {n:Nat} {f:Nat→Nat} (h1:∀ x,x < n→f x < n) (h2:∀ x y,x < n→y < n→f x = f y→x = y) {y:Nat} (hy:y < n):bk n f y < n:=by
 have:=ix_lt (isP_tab h1 h2) (x:=y) (by rw [tab_len];exact hy)
 rw [tab_len] at this
 exact this
theorem f_bk {n:Nat} {f:Nat→Nat} (h1:∀ x,x < n→f x < n) (h2:∀ x y,x < n→y < n→f x = f y→x = y) {y:Nat} (hy:y < n):f (bk n f y) = y:=by
 have h:=g_ix (isP_tab h1 h2) (x:=y) (by rw [tab_len];exact hy)
 have hb:ix (tab n f) y < n:=bk_lt h1 h2 hy
 rw [g_tab hb] at h
 exact h
theorem bk_f {n:Nat} {f:Nat→Nat} (h1:∀ x,x < n→f x < n) (h2:∀ x y,x < n→y < n→f x = f y→x = y) {x:Nat} (hx:x < n):bk n f (f x) = x :=
 h2 _ _ (bk_lt h1 h2 (h1 x hx)) hx (f_bk h1 h2 (h1 x hx))
theorem Is.symm {s t:List Nat × List Nat} {f:Nat→Nat} (hs:Sf s.1 s.2) (a:Is s t f):Is t s (bk s.1.length f) where
 len:=a.len.symm
 lt y hy:=by rw [a.len] at hy ⊢;exact bk_lt a.lt a.inj hy
 inj y z hy hz e:=by
  rw [a.len] at hy hz
  rw [← f_bk a.lt a.inj hy,← f_bk a.lt a.inj hz,e]
 r y hy:=by
  rw [a.len] at hy
  have hb:=bk_lt a.lt a.inj hy
  have e:g t.1 y = f (g s.1 (bk s.1.length f y)):=by rw [a.r _ hb,f_bk a.lt a.inj hy]
  rw [e,bk_f a.lt a.inj (hs.gr hb)]
 u y hy:=by
  rw [a.len] at hy
  have hb:=bk_lt a.lt a.inj hy
  have e:g t.2 y = f (g s.2 (bk s.1.length f y)):=by rw [a.u _ hb,f_bk a.lt a.inj hy]
  rw [e,bk_f a.lt a.inj (hs.gu hb)]
theorem g_map {l:List Nat} {f:Nat→Nat} {i:Nat} (h:i < l.length):g (l.map f) i = f (g l i):=by
 rw [g_get (by rw [List.length_map];exact h),g_get h,List.getElem_map]
theorem st1_map {out:List Nat} {f:Nat→Nat} {n x:Nat} (inj:∀ x y,x < n→y < n→f x = f y→x = y) (ho:∀ y ∈ out,y < n) (hx:x < n):st1 (out.map f) (f x) = (st1 out x).map f:=by
 have e:f x ∈ out.map f ↔ x ∈ out:=by
  constructor
  ·intro h
   obtain ⟨y,hy,e⟩:=List.mem_map.mp h
   exact inj y x (ho y hy) hx e ▸ hy
  ·exact List.mem_map_of_mem
 unfold st1
 by_cases h:x ∈ out
 ·rw [if_pos h,if_pos (e.mpr h)]
 ·rw [if_neg h,if_neg (fun k=>h (e.mp k)),List.map_append]
  rfl
theorem st1_small {out:List Nat} {n x:Nat} (ho:∀ y ∈ out,y < n) (hx:x < n):∀ y ∈ st1 out x,y < n:=by
 intro y hy
 rcases st1_mem.mp hy with hy | rfl
 ·exact ho y hy
 ·exact hx
theorem bfs_map {s t:List Nat × List Nat} {f:Nat→Nat} (hs:Sf s.1 s.2) (a:Is s t f):∀ (F i:Nat) (out:List Nat),(∀ y ∈ out,y < s.1.length)→bfs t.1 t.2 F i (out.map f) = (bfs s.1 s.2 F i out).map f:=by
 intro F
 induction F with
 | zero=>intro i out _;rfl
 | succ F ih =>
  intro i out ho
  unfold bfs
  rw [List.length_map]
  by_cases h:i < out.length
  ·rw [if_pos h,if_pos h]
   have hz:=ho _ (g_mem h)
   rw [g_map h,← a.r _ hz,← a.u _ hz,st1_map a.inj ho (hs.gr hz),st1_map a.inj (st1_small ho (hs.gr hz)) (hs.gu hz)]
   exact ih _ _ (st1_small (st1_small ho (hs.gr hz)) (hs.gu hz))
  ·rw [if_neg h,if_neg h]
theorem reach_map {s t:List Nat × List Nat} {f:Nat→Nat} (hs:Sf s.1 s.2) (a:Is s t f) {i:Nat} (hi:i < s.1.length):reach t.1 t.2 (f i) = (reach s.1 s.2 i).map f:=by
 unfold reach
 rw [a.len]
 exact bfs_map hs a _ _ [i] (by simpa using hi)
theorem ix_map {l:List Nat} {f:Nat→Nat} {n x:Nat} (inj:∀ x y,x < n→y < n→f x = f y→x = y) (hl:∀ y ∈ l,y < n) (hx:x < n):ix (l.map f) (f x) = ix l x:=by
 unfold ix
 induction l with
 | nil=>rfl
 | cons a l ih =>
  have ha:=hl a (by simp)
  rw [List.map_cons,List.idxOf_cons,List.idxOf_cons,ih (fun y hy=>hl y (by simp [hy]))]
  by_cases e:a = x
  ·subst e;simp
  ·have e':¬ f a = f x:=fun k=>e (inj a x ha hx k)
   rw [(beq_eq_false_iff_ne).mpr e,(beq_eq_false_iff_ne).mpr e']
theorem Sf.of_is {s t:List Nat × List Nat} {f:Nat→Nat} (hs:Sf s.1 s.2) (a:Is s t f) (p1:IsP t.1) (p2:IsP t.2) (hl:t.2.length = t.1.length):Sf t.1 t.2:=by
 refine sf_of_tr p1 p2 (by rw [a.len];exact hs.le) hl (by rw [a.len];exact hs.pos) (fun S s0 k1 k2 y hy=>?_)
 rw [a.len] at k1 k2 hy
 have i0:=bk_lt a.lt a.inj hs.pos
 have h0:S (f (bk s.1.length f 0)):=by rw [f_bk a.lt a.inj hs.pos];exact s0
 have hm:=(reach_full hs i0).2 (bk s.1.length f y) (bk_lt a.lt a.inj hy)
 have:=(bfs_ind (fun x=>S (f x)) (n:=s.1.length) (fun x hx h=>⟨by rw [a.r x hx];exact k1 _ (a.lt x hx) h,hs.gr hx⟩) (fun x hx h=>⟨by rw [a.u x hx];exact k2 _ (a.lt x hx) h,hs.gu hx⟩) _ _ [bk s.1.length f 0] (by intro x hx;obtain rfl:x = bk s.1.length f 0:=(by simpa using hx);exact ⟨h0,i0⟩) _ hm).1
 rw [f_bk a.lt a.inj hy] at this
 exact this
theorem Sf.all_of {r u:List Nat} (hs:Sf r u) {S:Nat→Prop} {i:Nat} (hi:i < r.length) (h0:S i) (h1:∀ x,x < r.length→S x→S (g r x)) (h2:∀ x,x < r.length→S x→S (g u x)):∀ y,y < r.length→S y:=by
 intro y hy
 have hm:=(reach_full hs hi).2 y hy
 exact (bfs_ind S (n:=r.length) (fun x hx h=>⟨h1 x hx h,hs.gr hx⟩) (fun x hx h=>⟨h2 x hx h,hs.gu hx⟩) _ _ [i] (by intro x hx;obtain rfl:x = i:=(by simpa using hx);exact ⟨h0,hi⟩) _ hm).1
theorem Is.ir {s t:List Nat × List Nat} {f:Nat→Nat} (hs:Sf s.1 s.2) (ht:Sf t.1 t.2) (a:Is s t f) {x:Nat} (hx:x < s.1.length):f (ix s.1 x) = ix t.1 (f x):=by
 have h1:=hs.ir hx
 refine (ix_eq ht.pr (by rw [a.len];exact a.lt _ h1) ?_).symm
 rw [← a.r _ h1,g_ix hs.pr hx]
theorem Is.iu {s t:List Nat × List Nat} {f:Nat→Nat} (hs:Sf s.1 s.2) (ht:Sf t.1 t.2) (a:Is s t f) {x:Nat} (hx:x < s.1.length):f (ix s.2 x) = ix t.2 (f x):=by
 have h1:=hs.iu hx
 refine (ix_eq ht.pu (by rw [ht.eq,a.len];exact a.lt _ h1) ?_).symm
 rw [← a.u _ h1,g_ix hs.pu (by rw [hs.eq];exact hx)]
end Go.Proofs.Ytcggfjpnfodbaaa.M
end
section
/- The tests of permutations, program and reference, come to one plain test. No conditions. -/
namespace Go.Proofs.Ytcggfjpnfodbaaa.M
set_option linter.unusedVariables false
set_option linter.unusedSimpArgs false
open Go.RowKit Go.Proofs.YtcggfjpnfodbaaaW.PrintWords Go.Proofs.YtcggfjpnfodbaaaW.PrintLast Go.Proofs.YtcggfjpnfodbaaaW.PrintMore Go.Proofs.Ytcggfjpnfodbaaa.A
theorem has_ev (l:List Int) (a:Int) (hl:l.length≤1000000000):Ev (fun k=>Z69.f k l a) (decide (a ∈ l)):=by
 have H:∀ d i:Nat,i + d = l.length→Ev (fun k=>Z69.l0 k a l (l.length:Int) (i:Int)) (decide (a ∈ l.drop i)):=by
  intro d
  induction d with
  | zero =>
   intro i h
   refine ev_succ ?_
   have h1:¬ ((i:Int) < (l.length:Int)):=by omega
   have e:decide (a ∈ l.drop i) = false:=by
    rw [List.drop_of_length_le (by omega)]
    simp
   simp only [Z69.l0,h1,if_false]
   rw [e]
   exact Ev.now _
  | succ d ih =>
   intro i h
   refine ev_succ ?_
   have hi:i < l.length:=by omega
   have h1:(i:Int) < (l.length:Int):=by omega
   have h2:(0:Int)≤(i:Int):=by omega
   have h3:=w64s i (by omega)
   have e:=List.drop_eq_getElem_cons hi
   rw [← rd_get l i hi] at e
   by_cases hr:rd l (i:Int) = a
   ·have e2:decide (a ∈ l.drop i) = true:=by rw [e,hr];simp
    simp only [Z69.l0,h1,h2,hr,if_true]
    rw [e2]
    exact Ev.now _
   ·have e2:decide (a ∈ l.drop i) = decide (a ∈ l.drop (i + 1)):=by
     rw [e]
     have:¬ a = rd l (i:Int):=fun h=>hr h.symm
     simp [this]
    simp only [Z69.l0,h1,h2,h3,hr,if_true,if_false]
    rw [e2]
    exact ih (i + 1) (by omega)
 have:=H l.length 0 (by omega)
 simpa [Z69.f] using this
theorem in_f (x:Int) (n:Nat) (hn:n≤24):Z72.f x 0 (wrap64 ((n:Int) - 1)) = some (decide (0≤x∧x < (n:Int))):=by
 unfold Z72.f
 rw [w64 (by omega) (by omega)]
 by_cases h:x ≥ 0
 ·rw [if_pos h]
  congr 1
  rw [Bool.eq_iff_iff,decide_eq_true_iff,decide_eq_true_iff]
  omega
 ·rw [if_neg h]
  congr 1
  symm
  rw [decide_eq_false_iff_not]
  omega
theorem spec_permOk (l:List Int):Ev (fun k=>Z66.f k l) (permB l):=by
 unfold Z66.f
 by_cases h24:(l.length:Int) > 24
 ·simp only [h24,if_true]
  have:permB l = false:=by
   unfold permB
   rw [decide_eq_false_iff_not]
   intro h
   have:=h.1
   omega
  rw [this]
  exact Ev.now _
 ·simp only [h24,if_false]
  have H:∀ d i:Nat,i + d = l.length→∃ b,Ev (fun k=>Z66.l0 k l l (l.length:Int) (i:Int)) b∧(b = true ↔ okFrom l i):=by
   intro d
   induction d with
   | zero =>
    intro i h
    refine ⟨true,ev_succ ?_,by simp [okFrom_end l i (by omega)]⟩
    have h1:¬ ((i:Int) < (l.length:Int)):=by omega
    simp only [Z66.l0,h1,if_false]
    exact Ev.now _
   | succ d ih =>
    intro i h
    have hi:i < l.length:=by omega
    have h1:(i:Int) < (l.length:Int):=by omega
    have h1':(i:Int)≤(l.length:Int):=by omega
    have h2:(0:Int)≤(i:Int):=by omega
    have h3:=w64s i (by omega)
    have hin:=in_f (rd l (i:Int)) l.length (by omega)
    by_cases c1:0≤rd l (i:Int)∧rd l (i:Int) < (l.length:Int)
    ·have hh:=has_ev (l.take i) (rd l (i:Int)) (by rw [List.length_take];omega)
     by_cases c2:rd l (i:Int) ∈ l.take i
     ·refine ⟨false,ev_succ ?_,by simpa using okFrom_not hi (fun h=>h.2.2 c2)⟩
      simp only [Z66.l0,h1,h1',h2,hin,c1,if_true,Option.bind_some,decide_true,Int.toNat_natCast,and_self]
      refine Ev.bind hh ?_
      simp only [c2,decide_true,if_true]
      exact Ev.now _
     ·obtain ⟨b,i1,i2⟩:=ih (i + 1) (by omega)
      refine ⟨b,ev_succ ?_,by rw [i2];exact (okFrom_step ⟨c1.1,c1.2,c2⟩).symm⟩
      simp only [Z66.l0,h1,h1',h2,h3,hin,c1,if_true,Option.bind_some,decide_true,Int.toNat_natCast,and_self]
      refine Ev.bind hh ?_
      simp only [c2,decide_false,Bool.false_eq_true,if_false]
      exact i1
    ·refine ⟨false,ev_succ ?_,by simpa using okFrom_not hi (fun h=>c1 ⟨h.1,h.2.1⟩)⟩
     simp only [Z66.l0,h1,h2,hin,c1,if_true,if_false,Option.bind_some,decide_false,Bool.false_eq_true]
     exact Ev.now _
  obtain ⟨b,i1,i2⟩:=H l.length 0 (by omega)
  rw [← permB_of (by omega) i2]
  exact i1
theorem rdOf_nat (s:List Bool) (x:Nat):rdOf false s (x:Int) = s.getD x false:=rfl
theorem getD_set (s:List Bool) (x y:Nat) (h:x < s.length):(s.set x true).getD y false = if x = y then true else s.getD y false:=by
 rw [List.getD_eq_getElem?_getD,List.getD_eq_getElem?_getD,List.getElem?_set]
 by_cases e:x = y
 ·subst e
  simp [h]
 ·simp [e]
theorem impl_permOk (l:List Int):Ev (fun k=>Z64.f k l) (permB l):=by
 unfold Z64.f
 by_cases h24:(l.length:Int) > 24
 ·simp only [h24,if_true]
  have:permB l = false:=by
   unfold permB
   rw [decide_eq_false_iff_not]
   intro h
   have:=h.1
   omega
  rw [this]
  exact Ev.now _
 ·simp only [h24,if_false]
  have H:∀ (d i:Nat) (s:List Bool),i + d = l.length→s.length = 24→(∀ x:Nat,x < 24→(s.getD x false = true ↔ (x:Int) ∈ l.take i))→∃ b,Ev (fun k=>Z64.l0 k l s (i:Int)) b∧(b = true ↔ okFrom l i):=by
   intro d
   induction d with
   | zero =>
    intro i s h hs hx
    refine ⟨true,ev_succ ?_,by simp [okFrom_end l i (by omega)]⟩
    have h1:¬ ((i:Int) < (l.length:Int)):=by omega
    simp only [Z64.l0,h1,if_false]
    exact Ev.now _
   | succ d ih =>
    intro i s h hs hx
    have hi:i < l.length:=by omega
    have h1:(i:Int) < (l.length:Int):=by omega
    have h2:(0:Int)≤(i:Int):=by omega
    have h3:=w64s i (by omega)
    by_cases c1:rd l (i:Int) < 0
    ·refine ⟨false,ev_succ ?_,by simpa using okFrom_not hi (fun h=>by omega)⟩
     simp only [Z64.l0,h1,h2,c1,if_true]
     exact Ev.now _
    ·by_cases c2:rd l (i:Int) ≥ (l.length:Int)
     ·refine ⟨false,ev_succ ?_,by simpa using okFrom_not hi (fun h=>by omega)⟩
      simp only [Z64.l0,h1,h2,c1,c2,if_true,if_false]
      exact Ev.now _
     ·obtain ⟨x,ex⟩:∃ x:Nat,rd l (i:Int) = (x:Int):=⟨(rd l (i:Int)).toNat,by omega⟩
      have hx24:x < 24:=by omega
      by_cases c3:s.getD x false = true
      ·have hm:=(hx x hx24).mp c3
       refine ⟨false,ev_succ ?_,by simpa using okFrom_not hi (fun h=>h.2.2 (by rw [ex];exact hm))⟩
       rw [ex] at c1 c2
       simp only [Z64.l0,h1,h2,ex,c1,c2,rdOf_nat,c3,if_true,if_false]
       exact Ev.now _
      ·have hm:(x:Int) ∉ l.take i:=fun h=>c3 ((hx x hx24).mpr h)
       obtain ⟨b,i1,i2⟩:=ih (i + 1) (s.set x true) (by omega) (by rw [List.length_set];exact hs) (fun y hy=>by
        rw [getD_set s x y (by omega),take_succ l i hi,ex]
        by_cases e:x = y
        ·subst e
         simp
        ·rw [if_neg e,hx y hy]
         have:¬ (y:Int) = (x:Int):=by omega
         simp [this])
       refine ⟨b,ev_succ ?_,by rw [i2];exact (okFrom_step ⟨by omega,by omega,by rw [ex];exact hm⟩).symm⟩
       rw [ex] at c1 c2
       simp only [Z64.l0,h1,h2,h3,ex,c1,c2,rdOf_nat,c3,if_true,if_false,Int.toNat_natCast]
       exact i1
  obtain ⟨b,i1,i2⟩:=H l.length 0 (List.replicate 24 false) (by omega) rfl (fun x hx=>by
   have:(List.replicate 24 false).getD x false = false:=by
    rw [List.getD_eq_getElem?_getD,List.getElem?_replicate]
    simp [hx]
   rw [this]
   simp)
  rw [← permB_of (by omega) i2]
  exact i1
end Go.Proofs.Ytcggfjpnfodbaaa.M
end
section
/- The tests of surfaces, program and reference, come to one plain test. No conditions. -/
namespace Go.Proofs.Ytcggfjpnfodbaaa.M
set_option linter.unusedVariables false
set_option linter.unusedSimpArgs false
open Go.RowKit Go.Proofs.YtcggfjpnfodbaaaW.PrintWords Go.Proofs.YtcggfjpnfodbaaaW.PrintLast Go.Proofs.YtcggfjpnfodbaaaW.PrintMore Go.Proofs.Ytcggfjpnfodbaaa.A
theorem I_pair (a b:Nat):([(a:Int),(b:Int)]:List Int) = I [a,b]:=rfl
theorem I_len' (l:List Nat):((I l).length:Int) = (l.length:Int):=by rw [I_len]
theorem st1_I (out:List Nat) (x:Nat):I (st1 out x) = if (x:Int) ∈ I out then I out else I out ++ [(x:Int)]:=by
 unfold st1
 by_cases h:x ∈ out
 ·rw [if_pos h,if_pos (mem_I.mpr h)]
 ·rw [if_neg h,if_neg (fun k=>h (mem_I.mp k)),I_snoc]
theorem reach_one (p q out pr:List Nat) (a:Nat) (j:Nat) (hj:j < pr.length) (hp:pr.length≤2) (hl:out.length≤1000) (r:List Int)
  (H:Ev (fun k=>Z45.l1 k (I p) (I q) (I (st1 out (g pr j))) (a:Int) (I pr) (pr.length:Int) ((j + 1:Nat):Int)) r) :
  Ev (fun k=>Z45.l1 k (I p) (I q) (I out) (a:Int) (I pr) (pr.length:Int) (j:Int)) r:=by
 refine ev_succ ?_
 have h1:(j:Int) < (pr.length:Int):=by omega
 have h2:(0:Int)≤(j:Int):=by omega
 have h3:=w64s j (by omega)
 have h4:(I out).length < 17592186044416:=by rw [I_len];omega
 have hh:=has_ev (I out) ((g pr j:Nat):Int) (by rw [I_len];omega)
 simp only [Z45.l1,h1,h2,h3,h4,rdI,I_len',if_true]
 refine Ev.bind hh ?_
 rw [st1_I] at H
 by_cases hm:((g pr j:Nat):Int) ∈ I out
 ·rw [if_pos hm] at H
  simp only [hm,decide_true,if_true]
  exact H
 ·rw [if_neg hm] at H
  simp only [hm,decide_false,Bool.false_eq_true,if_false]
  exact H
theorem reach_loop {p q:List Nat} (hp:IsP p) (hq:IsP q) (hl:q.length = p.length) (h24:p.length≤24) (f:Nat):∀ (a:Nat) (out:List Nat),RInv p.length out→a≤out.length→p.length < f + a →
  Ev (fun k=>Z45.l0 k (I p) (I q) (I out) (a:Int)) (I (bfs p q f a out)):=by
 induction f with
 | zero =>
  intro a out hr ha hf
  have:=hr.le
  omega
 | succ f ih =>
  intro a out hr ha hf
  have hle:=hr.le
  refine ev_succ ?_
  by_cases h:a < out.length
  ·have h1:(a:Int) < (out.length:Int):=by omega
   have h2:(0:Int)≤(a:Int):=by omega
   have hx:=hr.g h
   have h3:((g out a:Nat):Int) < (p.length:Int):=by omega
   have h4:(0:Int)≤((g out a:Nat):Int):=by omega
   have h5:((g out a:Nat):Int) < (q.length:Int):=by omega
   have h6:=w64s a (by omega)
   simp only [Z45.l0,h1,h2,h3,h4,h5,rdI,I_len',if_true,Option.bind_some,I_pair]
   have r1:=hr.st (g_lt hp hx)
   have r2:=r1.st (x:=g q (g out a)) (by have:=g_lt hq (i:=g out a) (by omega);omega)
   have hb:bfs p q (f + 1) a out = bfs p q f (a + 1) (st1 (st1 out (g p (g out a))) (g q (g out a))):=by
    rw [bfs,if_pos h]
   rw [hb]
   have i1:=ih (a + 1) _ r2 (by have:=st1_len out (g p (g out a));have:=st1_len (st1 out (g p (g out a))) (g q (g out a));omega) (by omega)
   refine reach_one p q out [g p (g out a),g q (g out a)] a 0 (by simp) (by simp) (by omega) _ ?_
   refine reach_one p q _ [g p (g out a),g q (g out a)] a 1 (by simp) (by simp) (by have:=r1.le;simp only [g,List.getD_cons_zero] at this ⊢;omega) _ ?_
   refine ev_succ ?_
   have h7:¬ (((1 + 1:Nat):Int) < (([g p (g out a),g q (g out a)]:List Nat).length:Int)):=by simp
   simp only [Z45.l1,h7,h6,if_false]
   exact i1
  ·have h1:¬ ((a:Int) < (out.length:Int)):=by omega
   have hb:bfs p q (f + 1) a out = out:=by rw [bfs,if_neg h]
   rw [hb]
   simp only [Z45.l0,h1,I_len',if_false]
   exact Ev.now _
theorem reach_ev {p q:List Nat} (hp:IsP p) (hq:IsP q) (hl:q.length = p.length) (h24:p.length≤24) (s:Nat) (hs:s < p.length):Ev (fun k=>Z45.f k (I p) (I q) (s:Int)) (I (reach p q s)):=by
 unfold Z45.f reach
 exact reach_loop hp hq hl h24 (p.length + 1) 0 [s] ⟨by simp,by simpa using hs⟩ (by simp) (by omega)
theorem len_ne_false {r u:List Int} (h:r.length≠u.length):surfB r u = false:=by
 unfold surfB
 simp [h]
theorem surfB_mk {r u:List Int} (h1:permB r = true) (h2:permB u = true) (h3:r.length = u.length) (h4:0 < r.length):surfB r u = ((reach (N r) (N u) 0).length == r.length):=by
 unfold surfB
 simp [h1,h2,h3,h4]
 intro _
 omega
theorem spec_trans (r u:List Int):Ev (fun k=>Z13.f k r u) (surfB r u):=by
 unfold Z13.f
 refine Ev.bind (spec_permOk r) ?_
 by_cases h1:permB r = true
 ·simp only [h1,if_true]
  refine Ev.bind (spec_permOk u) ?_
  by_cases h2:permB u = true
  ·simp only [h2,if_true]
   by_cases h3:(r.length:Int) = (u.length:Int)
   ·have h3':r.length = u.length:=by omega
    by_cases h4:(r.length:Int) > 0
    ·have h4':0 < r.length:=by omega
     rw [surfB_mk h1 h2 h3' h4']
     obtain ⟨p,rfl,a1,a2⟩:=PI_nat (of_decide_eq_true h1)
     obtain ⟨q,rfl,b1,b2⟩:=PI_nat (of_decide_eq_true h2)
     rw [I_len,I_len] at h3'
     rw [I_len] at h4'
     have:=reach_ev a1 b1 h3'.symm a2 0 h4'
     simp only [h3,h4,if_true]
     rw [h3] at h4
     simp only [h4,if_true]
     refine Ev.bind this ?_
     rw [N_I,N_I]
     have e:(((I (reach p q 0)).length:Int) == ((I q).length:Int)) = ((reach p q 0).length == (I p).length):=by
      rw [I_len,I_len,I_len,Bool.eq_iff_iff,beq_iff_eq,beq_iff_eq]
      omega
     rw [← h3] at e
     simp only [h3] at e
     rw [← e]
     exact Ev.now _
    ·simp only [h3,if_true]
     rw [h3] at h4
     simp only [h4,if_false]
     have:surfB r u = false:=by
      unfold surfB
      have:¬ 0 < r.length:=by omega
      simp [this]
     rw [this]
     exact Ev.now _
   ·simp only [h3,if_false]
    rw [len_ne_false (by omega)]
    exact Ev.now _
  ·have h2':=Bool.eq_false_iff.mpr h2
   simp only [h2',Bool.false_eq_true,if_false]
   have:surfB r u = false:=by unfold surfB;simp [h2']
   rw [this]
   exact Ev.now _
 ·have h1':=Bool.eq_false_iff.mpr h1
  simp only [h1',Bool.false_eq_true,if_false]
  have:surfB r u = false:=by unfold surfB;simp [h1']
  rw [this]
  exact Ev.now _
theorem spec_surf (r u:List Int):Ev (fun k=>Z31.f k r u) (surfB r u):=by
 unfold Z31.f
 exact Ev.bind (spec_trans r u) (Ev.now _)
def Marks (n:Nat) (s:List Bool) (out:List Nat):Prop:=s.length = n∧∀ x,x < n→(s.getD x false = true ↔ x ∈ out)
theorem Marks.add {n:Nat} {s:List Bool} {out:List Nat} {x:Nat} (h:Marks n s out) (hx:x < n):Marks n (s.set x true) (out ++ [x]):=by
 refine ⟨by rw [List.length_set];exact h.1,fun y hy=>?_⟩
 rw [getD_set s x y (by rw [h.1];exact hx)]
 by_cases e:x = y
 ·subst e
  simp
 ·rw [if_neg e,h.2 y hy]
  have:¬ y = x:=fun k=>e k.symm
  simp [this]
theorem trans_one (p q out pr:List Nat) (s:List Bool) (a:Nat) (j:Nat) (hj:j < pr.length) (hp:pr.length≤2) (hl:out.length≤1000) (hm:Marks p.length s out) (hx:g pr j < p.length) (r:Bool)
  (H:∀ s',Marks p.length s' (st1 out (g pr j))→Ev (fun k=>Z11.l1 k (I p) (I q) s' (I (st1 out (g pr j))) (a:Int) (I pr) (pr.length:Int) ((j + 1:Nat):Int)) r) :
  Ev (fun k=>Z11.l1 k (I p) (I q) s (I out) (a:Int) (I pr) (pr.length:Int) (j:Int)) r:=by
 refine ev_succ ?_
 have h1:(j:Int) < (pr.length:Int):=by omega
 have h2:(0:Int)≤(j:Int):=by omega
 have h3:=w64s j (by omega)
 have h4:(I out).length < 17592186044416:=by rw [I_len];omega
 have h5:(0:Int)≤((g pr j:Nat):Int):=by omega
 have h6:((g pr j:Nat):Int) < (s.length:Int):=by rw [hm.1];omega
 simp only [Z11.l1,h1,h2,h3,h4,h5,h6,rdI,I_len',rdOf_nat,if_true,Int.toNat_natCast]
 by_cases hin:g pr j ∈ out
 ·have hs:=(hm.2 _ hx).mpr hin
  have e:st1 out (g pr j) = out:=by unfold st1;rw [if_pos hin]
  have:=H s (by rw [e];exact hm)
  rw [e] at this
  simp only [hs,if_true]
  exact this
 ·have hs:s.getD (g pr j) false = false:=Bool.eq_false_iff.mpr (fun h=>hin ((hm.2 _ hx).mp h))
  have e:st1 out (g pr j) = out ++ [g pr j]:=by unfold st1;rw [if_neg hin]
  have:=H (s.set (g pr j) true) (by rw [e];exact hm.add hx)
  rw [e,← I_snoc] at this
  simp only [hs,Bool.false_eq_true,if_false]
  exact this
theorem trans_loop {p q:List Nat} (hp:IsP p) (hq:IsP q) (hl:q.length = p.length) (h24:p.length≤24) (f:Nat):∀ (a:Nat) (out:List Nat) (s:List Bool),RInv p.length out→Marks p.length s out→a≤out.length→p.length < f + a →
  Ev (fun k=>Z11.l0 k (I p) (I q) s (I out) (a:Int)) ((bfs p q f a out).length == p.length):=by
 induction f with
 | zero =>
  intro a out s hr hm ha hf
  have:=hr.le
  omega
 | succ f ih =>
  intro a out s hr hm ha hf
  have hle:=hr.le
  refine ev_succ ?_
  by_cases h:a < out.length
  ·have h1:(a:Int) < (out.length:Int):=by omega
   have h2:(0:Int)≤(a:Int):=by omega
   have hx:=hr.g h
   have h3:((g out a:Nat):Int) < (p.length:Int):=by omega
   have h4:(0:Int)≤((g out a:Nat):Int):=by omega
   have h5:((g out a:Nat):Int) < (q.length:Int):=by omega
   have h6:=w64s a (by omega)
   simp only [Z11.l0,h1,h2,h3,h4,h5,rdI,I_len',if_true,Option.bind_some,I_pair]
   have hg1:=g_lt hp hx
   have hg2:g q (g out a) < p.length:=by have:=g_lt hq (i:=g out a) (by omega);omega
   have r1:=hr.st hg1
   have r2:=r1.st hg2
   have hb:bfs p q (f + 1) a out = bfs p q f (a + 1) (st1 (st1 out (g p (g out a))) (g q (g out a))):=by
    rw [bfs,if_pos h]
   rw [hb]
   refine trans_one p q out [g p (g out a),g q (g out a)] s a 0 (by simp) (by simp) (by omega) hm hg1 _ (fun s1 hm1=>?_)
   refine trans_one p q _ [g p (g out a),g q (g out a)] s1 a 1 (by simp) (by simp) (by have:=r1.le;simp only [g,List.getD_cons_zero] at this ⊢;omega) hm1 hg2 _ (fun s2 hm2=>?_)
   refine ev_succ ?_
   have h7:¬ (((1 + 1:Nat):Int) < (([g p (g out a),g q (g out a)]:List Nat).length:Int)):=by simp
   simp only [Z11.l1,h7,h6,if_false]
   exact ih (a + 1) _ s2 r2 hm2 (Nat.le_trans (by omega:a + 1≤out.length) (Nat.le_trans (st1_len _ _) (st1_len _ _))) (by omega)
  ·have h1:¬ ((a:Int) < (out.length:Int)):=by omega
   have hb:bfs p q (f + 1) a out = out:=by rw [bfs,if_neg h]
   rw [hb]
   simp only [Z11.l0,h1,I_len',if_false]
   have e:((out.length:Int) == (p.length:Int)) = (out.length == p.length):=by
    rw [Bool.eq_iff_iff,beq_iff_eq,beq_iff_eq]
    omega
   rw [e]
   exact Ev.now _
theorem j0_true (r u:List Int):Ev (fun k=>Z11.j0 k r u true) false:=by
 refine ev_succ ?_
 simp only [Z11.j0,if_true]
 exact Ev.now _
theorem impl_trans (r u:List Int):Ev (fun k=>Z11.f k r u) (surfB r u):=by
 unfold Z11.f
 refine Ev.bind (impl_permOk r) ?_
 by_cases h1:permB r = true
 ·simp only [h1,if_true]
  refine Ev.bind (impl_permOk u) ?_
  by_cases h2:permB u = true
  ·simp only [h2,if_true]
   by_cases h3:(r.length:Int) = (u.length:Int)
   ·have h3':r.length = u.length:=by omega
    simp only [h3,if_true]
    by_cases h4:0 < r.length
    ·rw [surfB_mk h1 h2 h3' h4]
     obtain ⟨p,rfl,a1,a2⟩:=PI_nat (of_decide_eq_true h1)
     obtain ⟨q,rfl,b1,b2⟩:=PI_nat (of_decide_eq_true h2)
     rw [I_len,I_len] at h3'
     rw [I_len] at h4
     refine ev_succ ?_
     have e0:((q.length:Int) == 0) = false:=by rw [beq_eq_false_iff_ne];omega
     have e1:(0:Int)≤(p.length:Int):=by omega
     have e2:((p.length:Int)).toNat≤281474976710656:=by omega
     have e3:(0:Int) < ((List.replicate p.length false).length:Int):=by rw [List.length_replicate];omega
     simp only [Z11.j0,e0,I_len',e1,e2,Bool.false_eq_true,if_true,if_false,Option.bind_some,Int.toNat_natCast,e3]
     simp only [Int.toNat_natCast] at e2
     simp only [e2,if_true]
     rw [N_I,N_I,I_len]
     refine trans_loop a1 b1 h3'.symm a2 (p.length + 1) 0 [0] _ ⟨by simp,by simpa using h4⟩ ?_ (by simp) (by omega)
     refine ⟨by simp,fun x hx=>?_⟩
     have:(0:Int).toNat = 0:=rfl
     rw [this,getD_set _ 0 x (by simp;omega)]
     by_cases e:0 = x
     ·subst e
      simp
     ·rw [if_neg e]
      have h0:¬ x = 0:=fun h=>e h.symm
      have:(List.replicate p.length false).getD x false = false:=by
       rw [List.getD_eq_getElem?_getD,List.getElem?_replicate]
       simp [hx]
      rw [this]
      simp [h0]
    ·have e0:((u.length:Int) == 0) = true:=by rw [beq_iff_eq];omega
     have:surfB r u = false:=by unfold surfB;simp [h4]
     rw [this]
     simp only [e0]
     exact j0_true r u
   ·simp only [h3,if_false]
    rw [len_ne_false (by omega)]
    exact j0_true r u
  ·have h2':=Bool.eq_false_iff.mpr h2
   simp only [h2',Bool.false_eq_true,if_false]
   have:surfB r u = false:=by unfold surfB;simp [h2']
   rw [this]
   exact j0_true r u
 ·have h1':=Bool.eq_false_iff.mpr h1
  simp only [h1',Bool.false_eq_true,if_false]
  have:surfB r u = false:=by unfold surfB;simp [h1']
  rw [this]
  exact j0_true r u
theorem impl_surf (r u:List Int):Ev (fun k=>Z29.f k r u) (surfB r u):=by
 unfold Z29.f
 exact Ev.bind (impl_trans r u) (Ev.now _)
end Go.Proofs.Ytcggfjpnfodbaaa.M
end
section
namespace Go.Proofs.Ytcggfjpnfodbaaa.A
open Go.RowKit Go.Proofs.YtcggfjpnfodbaaaW.PrintWords Go.Proofs.YtcggfjpnfodbaaaW.PrintLast Go.Proofs.YtcggfjpnfodbaaaW.PrintMore
attribute [local go_sem] max2_int min2_int max_two min_two max_three min_three max_four min_four
set_option linter.unusedVariables false
set_option linter.unusedSimpArgs false
def Z24.l0:Nat→List Int→List Int→Int→Int→Option (List Int)
 | 0,_,_,_,_=>none
 | k + 1,x3,x9,x10,x11=>if x11 < x10 then (if 0≤x11 then (if x11 < (x9.length:Int) then (if 0≤(rd x9 x11) then (if (rd x9 x11) < (x3.length:Int) then (Z24.l0 k (x3.set ((rd x9 x11):Int).toNat x11) x9 x10 (wrap64 (x11 + 1))) else (none)) else (none)) else (none)) else (none)) else (some x3)
def Z24.f (k:Nat) (l0:List Int):Option (List Int):=if 0≤(l0.length:Int) then (if ((l0.length:Int):Int).toNat≤35184372088832 then (Z24.l0 k (List.replicate ((l0.length:Int):Int).toNat 0) l0 (l0.length:Int) 0) else (none)) else (none)
theorem Z24.mono_l:∀ k,(∀ y0 y1 y2 y3,LeO (Z24.l0 k y0 y1 y2 y3) (Z24.l0 (k + 1) y0 y1 y2 y3))
 | 0=>fun _ _ _ _ r h=>by simp [Z24.l0] at h
 | k + 1=>by
  have ih0:=Z24.mono_l k
  ·intro y0 y1 y2 y3
   unfold Z24.l0
   repeat' first|exact ih0 _ _ _ _|exact lo_|refine LeO.ite ?_ ?_|refine LeO.bind ?_ (fun _=>?_)
theorem Z24.mono:∀ a0 k,LeO (Z24.f k a0) (Z24.f (k + 1) a0):=by
 intro a0 k
 have ih0:=Z24.mono_l k
 unfold Z24.f
 repeat' first|exact ih0 _ _ _ _|exact lo_|refine LeO.ite ?_ ?_|refine LeO.bind ?_ (fun _=>?_)
set_option maxHeartbeats 8000000 in
set_option maxRecDepth 100000 in
theorem Z24.calls (k:Nat) (A0:Option Addr) (c0:Nat) (l0:List Int) (r:List Int) (w:World) (hr0:Kd.C (Kd.int .i64) w A0 l0.length l0) (hc0:l0.length≤c0) (h:Z24.f k l0 = some r) :
  Calls Try.prog 150 #[.slice A0 l0.length c0] w fun e w'=>∃ v0_:Value,e = .returned (v0_)∧Kd.R (Kd.int .i64) 3 w' w.heap.size (fun _=>True) v0_ r∧Below w.heap.size w w':=by
 have HR0:=A_ hr0
 have HC0:=A_ hc0
 clear hr0 hc0
 have HB:=A_ (Below.refl w.heap.size w)
 have H:=h
 unfold Z24.f at H
 clear h
 have c2:=cp_ H
 replace H:=ca_ H
 have c2b0:=eq_true c2
 have c2b1:=oC_ c2
 clear c2
 have c3:=cp_ H
 replace H:=ca_ H
 have c3b0:=eq_true c3
 have c3b1:=oC_ c3
 clear c3
 obtain ⟨y745,hy745⟩:∃ y_:List Int,y_ = (List.replicate ((l0.length:Int):Int).toNat 0):=⟨_,rfl⟩
 replace H:(Z24.l0 k y745 l0 (l0.length:Int) 0) = some r:=by first | (rw [hy745];exact H) | exact H
 have Ny745:=A_ hy745
 clear hy745
 have H':=A_ H
 clear H
 go_enter Try.func150,Try.ntmps150
 go_wp2_with (first | ((with_reducible refine gB_ (N:=8) rfl ?_);refine Kd.R_make (Kd.int .i64) _ 3 rfl (N:=8) rfl 23 _ _ rfl (l0.length:Int) rfl rfl Try.underlying23 (.int .i64 0) 8 info3 rfl (by decide) (by omega) 0 (ok:=fun _=>True) (okp:=fun _=>True) rfl (fun _ hk=>hk) trivial (oB_ qe_) (Nat.le_trans (Nat.mul_le_mul_right _ (oB_ qe_:(l0.length:Int).toNat≤35184372088832)) (by omega)) (Below.refl _ _) (nA_ _) ?_;intro v746 w4 ho5 hb hg_ hnew_;clear hg_ hnew_;(first | rw [← Ny745.out] at ho5 | (simp only [Int.reduceToNat] at ho5;rw [← Ny745.out] at ho5));have HO747:=rl_ w ho5;replace HB:=b1_ hb;clear hb ho5))
 go_loopg [11] k (fun kq v11 w'=>∃ (x3_1:List Int) (x11_1:Int),v11 = .int .i64 x11_1∧Aside0 (Z24.l0 kq x3_1 l0 (l0.length:Int) x11_1 = some r)∧Aside0 (kq≤k)∧Aside0 (Kd.R (Kd.int .i64) 3 w' w.heap.size (fun _=>True) v746 x3_1)∧Aside0 (Below w.heap.size w w'))
 case atStart=>exact ⟨(y745),(0),qc_,H',⟨nA_ _⟩,⟨(rr_ HO747)⟩,⟨hB_⟩⟩
 case round =>
  clear H'
  obtain ⟨x3_1,x11_1,rfl,HA,HK1,HO_3,HB⟩:=hrel
  cases gk with
  | zero=>exact absurd HA.out (by simp [Z24.l0])
  | succ k1 =>
   have H:=HA.out
   clear HA
   simp only [Z24.l0] at H
   by_cases c6:x11_1 < (l0.length:Int)
   ·rw [if_pos c6] at H
    have c6b0:=oC_ c6
    clear c6
    replace H:=cx_ H;obtain ⟨c7b0,H⟩:=H
    replace H:=cx_ H;obtain ⟨c8b0,H⟩:=H
    replace H:=cx_ H;obtain ⟨c9b0,H⟩:=H
    replace H:=cx_ H;obtain ⟨c10b0,H⟩:=H
    obtain ⟨y749,hy749⟩:∃ y_:List Int,y_ = (x3_1.set ((rd l0 x11_1):Int).toNat x11_1):=⟨_,rfl⟩
    replace H:(Z24.l0 k1 y749 l0 (l0.length:Int) (wrap64 (x11_1 + 1))) = some r:=by first | (rw [hy749];exact H) | exact H
    have Ny749:=A_ hy749
    clear hy749
    have H':=A_ H
    clear H
    have p748:0≤(x11_1:Int):=oB_ qe_
    have q748:x11_1 < (l0.length:Int):=oB_ qe_
    obtain ⟨ad748,e748,hx748_0⟩:=Kd.at_int HR0.out x11_1 p748 q748
    cases e748
    replace hx748_0:=(HB.out.cell (World.block_lt_of_cell? w _ hx748_0)).trans hx748_0
    replace p748:=eq_true p748
    replace q748:=eq_true q748
    have p11:0≤((rd l0 x11_1):Int):=oB_ qe_
    have q11:((rd l0 x11_1):Int) < ((x3_1.length:Int):Int):=oB_ qe_
    obtain ⟨go11,co11,eo11,gb11,gl11,cl11,HG11⟩:=Kd.R_form HO_3.out (by omega)
    (first | cases eo11 | (injection eo11 with ea_ en_ ec_;(first | subst ea_ | (injection ea_ with ea_;subst ea_));subst ec_;clear en_))
    have GB11:=A_ gb11
    have GG11:=A_ HG11
    clear gb11 gl11 HG11
    obtain ⟨hx11_0,hf11_0⟩:=Kd.R_celln 0 HO_3.out ((rd l0 x11_1):Int) p11 q11
    replace p11:=eq_true p11
    replace q11:=eq_true q11
    have HP12:=Kd.R_putg HO_3.out ((rd l0 x11_1):Int) x11_1
    go_wp2_with (first | ((with_reducible refine gate_store (t:=3) (p:=19) rfl ?_);refine store_event (t:=3) (p:=19) (v:=?vo_w13) (w1:=(wr.setCell ⟨go11,((rd l0 x11_1):Int).toNat,none⟩ (.int .i64 x11_1))) ?hg ?ho ?hn ?hr ?_;(case ho=>rfl);(case hg=>rfl);(case hn=>rfl);(case hr=>first | (go_simp;done) | (go_simp;rfl));intro w13 hw;have hg:wr.grownBy w13 (some go11):=(by rw [hw];exact HP12.2);have hp_:Kd.R (Kd.int .i64) 3 w13 w.heap.size (fun _=>True) (.slice (some ⟨go11,0,none⟩) x3_1.length co11) y749:=(by rw [hw,Ny749.out];exact HP12.1);clear HP12;replace HO_3:=A_ (hp_);replace HB:=A_ ((by rw [hw];exact bD_ (HB.out) GB11.out:Below w.heap.size w w13));clear hg hw hp_))
    go_roundg k1
    case measure=>have:=HK1.out;omega
    case rel=>exact ⟨(y749),(wrap64 (x11_1 + 1)),qc_,H',⟨by have:=HK1.out;omega⟩,⟨(rr_ HO_3)⟩,⟨hB_⟩⟩
   ·rw [if_neg c6] at H
    have c6b0:=oD_ c6
    clear c6
    obtain rfl:=Option.some.inj H
    go_wp2
    go_ret
    exact ⟨_,qb_,(rr_ HO_3),hB_⟩
end Go.Proofs.Ytcggfjpnfodbaaa.A
end
section
/- What every law does with its arguments; inverses. No conditions. -/
namespace Go.Proofs.Ytcggfjpnfodbaaa.M
set_option linter.unusedVariables false
set_option linter.unusedSimpArgs false
open Go.RowKit Go.Proofs.YtcggfjpnfodbaaaW.PrintWords Go.Proofs.YtcggfjpnfodbaaaW.PrintLast Go.Proofs.YtcggfjpnfodbaaaW.PrintMore Go.Proofs.Ytcggfjpnfodbaaa.A
theorem rd_set {l:List Int} {i j:Nat} {x:Int} (h:i < l.length):rd (l.set i x) (j:Int) = if i = j then x else rd l (j:Int):=by
 unfold rd
 simp only [Int.toNat_natCast]
 rw [List.getD_eq_getElem?_getD,List.getD_eq_getElem?_getD,List.getElem?_set]
 by_cases e:i = j
 ·subst e
  simp [h]
 ·simp [e]
theorem ext_rd {a b:List Int} (hl:a.length = b.length) (h:∀ i:Nat,i < a.length→rd a (i:Int) = rd b (i:Int)):a = b:=by
 apply List.ext_getElem hl
 intro i h1 h2
 rw [← rd_get a i h1,← rd_get b i h2]
 exact h i h1
theorem inv_of {p c:List Nat} (hp:IsP p) (hc:c.length = p.length) (h:∀ j,j < p.length→g c (g p j) = j):c = inv p:=by
 refine ext_g (by rw [inv_len,hc]) (fun x hx=>?_)
 rw [hc] at hx
 rw [g_inv hx]
 have:=h (ix p x) (ix_lt hp hx)
 rw [g_ix hp hx] at this
 exact this
theorem inv_step {p c:List Nat} (hp:IsP p) {i:Nat} (hi:i < p.length) (hc:c.length = p.length) (h:∀ j,j < i→g c (g p j) = j):∀ j,j < i + 1→g (c.set (g p i) i) (g p j) = j:=by
 intro j hj
 rw [g_set (by rw [hc];exact g_lt hp hi)]
 by_cases e:j = i
 ·subst e
  simp
 ·rw [if_neg (fun k=>e (g_inj hp (by omega) hi k.symm))]
  exact h j (by omega)
theorem spec_inv {p:List Nat} (hp:IsP p) (h24:p.length≤24):Ev (fun k=>Z24.f k (I p)) (I (inv p)):=by
 unfold Z24.f
 have H:∀ (d i:Nat) (c:List Nat),i + d = p.length→c.length = p.length→(∀ j,j < i→g c (g p j) = j)→Ev (fun k=>Z24.l0 k (I c) (I p) (p.length:Int) (i:Int)) (I (inv p)):=by
  intro d
  induction d with
  | zero =>
   intro i c h hc hx
   refine ev_succ ?_
   have h1:¬ ((i:Int) < (p.length:Int)):=by omega
   rw [← inv_of hp hc (fun j hj=>hx j (by omega))]
   simp only [Z24.l0,h1,if_false]
   exact Ev.now _
  | succ d ih =>
   intro i c h hc hx
   refine ev_succ ?_
   have hi:i < p.length:=by omega
   have h1:(i:Int) < (p.length:Int):=by omega
   have h2:(0:Int)≤(i:Int):=by omega
   have h3:=w64s i (by omega)
   have h4:(0:Int)≤((g p i:Nat):Int):=by omega
   have h5:((g p i:Nat):Int) < (c.length:Int):=by have:=g_lt hp hi;omega
   simp only [Z24.l0,h1,h2,h3,h4,h5,rdI,I_len',I_set,if_true,Int.toNat_natCast]
   exact ih (i + 1) _ (by omega) (by rw [List.length_set];exact hc) (inv_step hp hi hc hx)
 have h1:(0:Int)≤(p.length:Int):=by omega
 have h2:p.length≤35184372088832:=by omega
 simp only [I_len',h1,h2,if_true,Int.toNat_natCast]
 have:=H p.length 0 (List.replicate p.length 0) (by omega) (by simp) (fun j hj=>by omega)
 rw [I_rep] at this
 exact this
theorem impl_inv {p:List Nat} (hp:IsP p) (h24:p.length≤24):Ev (fun k=>Z15.f k (I p)) (I (inv p)):=by
 unfold Z15.f
 have H:∀ (d i:Nat) (c:List Nat),i + d = p.length→c.length = p.length→(∀ j,j < i→g c (g p j) = j)→Ev (fun k=>Z15.l0 k (I c) (I p) (p.length:Int) (i:Int)) (I (inv p)):=by
  intro d
  induction d with
  | zero =>
   intro i c h hc hx
   refine ev_succ ?_
   have h1:¬ ((i:Int) < (p.length:Int)):=by omega
   rw [← inv_of hp hc (fun j hj=>hx j (by omega))]
   simp only [Z15.l0,h1,if_false]
   exact Ev.now _
  | succ d ih =>
   intro i c h hc hx
   refine ev_succ ?_
   have hi:i < p.length:=by omega
   have h1:(i:Int) < (p.length:Int):=by omega
   have h2:(0:Int)≤(i:Int):=by omega
   have h3:=w64s i (by omega)
   have h4:(0:Int)≤((g p i:Nat):Int):=by omega
   have h5:((g p i:Nat):Int) < (c.length:Int):=by have:=g_lt hp hi;omega
   simp only [Z15.l0,h1,h2,h3,h4,h5,rdI,I_len',I_set,if_true,Int.toNat_natCast]
   exact ih (i + 1) _ (by omega) (by rw [List.length_set];exact hc) (inv_step hp hi hc hx)
 refine Ev.bind (impl_permOk (I p)) ?_
 have h0:permB (I p) = true:=permB_I.mpr ⟨hp,h24⟩
 have h1:(0:Int)≤(p.length:Int):=by omega
 have h2:p.length≤35184372088832:=by omega
 simp only [h0,I_len',h1,h2,if_true,Int.toNat_natCast]
 have:=H p.length 0 (List.replicate p.length 0) (by omega) (by simp) (fun j hj=>by omega)
 rw [I_rep] at this
 exact this
end Go.Proofs.Ytcggfjpnfodbaaa.M
end
section
namespace Go.Proofs.Ytcggfjpnfodbaaa.A
open Go.RowKit Go.Proofs.YtcggfjpnfodbaaaW.PrintWords Go.Proofs.YtcggfjpnfodbaaaW.PrintLast Go.Proofs.YtcggfjpnfodbaaaW.PrintMore
attribute [local go_sem] max2_int min2_int max_two min_two max_three min_three max_four min_four
set_option linter.unusedVariables false
set_option linter.unusedSimpArgs false
def Z32.l0:Nat→List Int→List Int→List Int→Int→Int→Option (List Int)
 | 0,_,_,_,_,_=>none
 | k + 1,x1,x5,x11,x12,x13=>if x13 < x12 then (if 0≤x13 then (if x13 < (x11.length:Int) then (if x13 < (x1.length:Int) then (if 0≤(rd x11 x13) then (if (rd x11 x13) < (x1.length:Int) then (if 0≤(rd x1 x13) then (if (rd x1 x13) < (x5.length:Int) then (Z32.l0 k x1 (x5.set ((rd x1 x13):Int).toNat (rd x1 (rd x11 x13))) x11 x12 (wrap64 (x13 + 1))) else (none)) else (none)) else (none)) else (none)) else (none)) else (none)) else (none)) else (some x5)
def Z32.f (k:Nat) (l0:List Int) (l1:List Int):Option (List Int):=if 0≤(l0.length:Int) then (if ((l0.length:Int):Int).toNat≤35184372088832 then (Z32.l0 k l1 (List.replicate ((l0.length:Int):Int).toNat 0) l0 (l0.length:Int) 0) else (none)) else (none)
theorem Z32.mono_l:∀ k,(∀ y0 y1 y2 y3 y4,LeO (Z32.l0 k y0 y1 y2 y3 y4) (Z32.l0 (k + 1) y0 y1 y2 y3 y4))
 | 0=>fun _ _ _ _ _ r h=>by simp [Z32.l0] at h
 | k + 1=>by
  have ih0:=Z32.mono_l k
  ·intro y0 y1 y2 y3 y4
   unfold Z32.l0
   repeat' first|exact ih0 _ _ _ _ _|exact lo_|refine LeO.ite ?_ ?_|refine LeO.bind ?_ (fun _=>?_)
theorem Z32.mono:∀ a0 a1 k,LeO (Z32.f k a0 a1) (Z32.f (k + 1) a0 a1):=by
 intro a0 a1 k
 have ih0:=Z32.mono_l k
 unfold Z32.f
 repeat' first|exact ih0 _ _ _ _ _|exact lo_|refine LeO.ite ?_ ?_|refine LeO.bind ?_ (fun _=>?_)
def Z32.T5:Bool × List (List Nat × List Nat):=(true,[([],[]),([],[]),([],[]),([1,2],[1,2]),([3],[3]),([],[]),([],[]),([5,6],[5,6]),([7],[7]),([0,4,0,1,2,3,4,5,6,7,8],[0,4]),([9,8,0,1,2,3,4,5,6,7,8],[8,9])])
def Z32.B5:List Nat:=[0,0,0,6,14,0,0,96,224,511,1023]
theorem Z32.tab5:rtab .any (opsOf Try.f149 5) = Z32.T5:=by kernel_rfl
theorem Z32.bits5:waitsOk Z32.T5.2 Z32.B5 = true:=by kernel_rfl
set_option maxHeartbeats 8000000 in
set_option maxRecDepth 100000 in
theorem Z32.calls (k:Nat) (A0:Option Addr) (c0:Nat) (l0:List Int) (A1:Option Addr) (c1:Nat) (l1:List Int) (r:List Int) (w:World) (hr0:Kd.C (Kd.int .i64) w A0 l0.length l0) (hc0:l0.length≤c0) (hr1:Kd.C (Kd.int .i64) w A1 l1.length l1) (hc1:l1.length≤c1) (h:Z32.f k l0 l1 = some r) :
  Calls Try.prog 149 #[.slice A0 l0.length c0,.slice A1 l1.length c1] w fun e w'=>∃ v0_:Value,e = .returned (v0_)∧Kd.R (Kd.int .i64) 3 w' w.heap.size (fun _=>True) v0_ r∧Below w.heap.size w w':=by
 have HR0:=A_ hr0
 have HC0:=A_ hc0
 clear hr0 hc0
 have HR1:=A_ hr1
 have HC1:=A_ hc1
 clear hr1 hc1
 have HB:=A_ (Below.refl w.heap.size w)
 have H:=h
 unfold Z32.f at H
 clear h
 have c3:=cp_ H
 replace H:=ca_ H
 have c3b0:=eq_true c3
 have c3b1:=oC_ c3
 clear c3
 have c4:=cp_ H
 replace H:=ca_ H
 have c4b0:=eq_true c4
 have c4b1:=oC_ c4
 clear c4
 obtain ⟨y730,hy730⟩:∃ y_:List Int,y_ = (List.replicate ((l0.length:Int):Int).toNat 0):=⟨_,rfl⟩
 replace H:(Z32.l0 k l1 y730 l0 (l0.length:Int) 0) = some r:=by first | (rw [hy730];exact H) | exact H
 have Ny730:=A_ hy730
 clear hy730
 have H':=A_ H
 clear H
 go_enter Try.func149,Try.ntmps149
 go_wp2_with (first | ((with_reducible refine gB_ (N:=10) rfl ?_);refine Kd.R_make (Kd.int .i64) _ 3 rfl (N:=10) rfl 23 _ _ rfl (l0.length:Int) rfl rfl Try.underlying23 (.int .i64 0) 8 info3 rfl (by decide) (by omega) 0 (ok:=fun _=>True) (okp:=fun _=>True) rfl (fun _ hk=>hk) trivial (oB_ qe_) (Nat.le_trans (Nat.mul_le_mul_right _ (oB_ qe_:(l0.length:Int).toNat≤35184372088832)) (by omega)) (Below.refl _ _) (nA_ _) ?_;intro v731 w5 ho6 hb hg_ hnew_;clear hg_ hnew_;(first | rw [← Ny730.out] at ho6 | (simp only [Int.reduceToNat] at ho6;rw [← Ny730.out] at ho6));have HO732:=rl_ w ho6;replace HB:=b1_ hb;clear hb ho6))
 go_loopg [13] k (fun kq v13 w'=>∃ (x5_1:List Int) (x13_1:Int),v13 = .int .i64 x13_1∧Aside0 (Z32.l0 kq l1 x5_1 l0 (l0.length:Int) x13_1 = some r)∧Aside0 (kq≤k)∧Aside0 (Kd.R (Kd.int .i64) 3 w' w.heap.size (fun _=>True) v731 x5_1)∧Aside0 (Below w.heap.size w w'))
 case atStart=>exact ⟨(y730),(0),qc_,H',⟨nA_ _⟩,⟨(rr_ HO732)⟩,⟨hB_⟩⟩
 case round =>
  clear H'
  obtain ⟨x5_1,x13_1,rfl,HA,HK1,HO_5,HB⟩:=hrel
  cases gk with
  | zero=>exact absurd HA.out (by simp [Z32.l0])
  | succ k1 =>
   have H:=HA.out
   clear HA
   simp only [Z32.l0] at H
   by_cases c7:x13_1 < (l0.length:Int)
   ·rw [if_pos c7] at H
    have c7b0:=oC_ c7
    clear c7
    replace H:=cx_ H;obtain ⟨c8b0,H⟩:=H
    replace H:=cx_ H;obtain ⟨c9b0,H⟩:=H
    replace H:=cx_ H;obtain ⟨c10b0,H⟩:=H
    replace H:=cx_ H;obtain ⟨c11b0,H⟩:=H
    replace H:=cx_ H;obtain ⟨c12b0,H⟩:=H
    replace H:=cx_ H;obtain ⟨c13b0,H⟩:=H
    replace H:=cx_ H;obtain ⟨c14b0,H⟩:=H
    obtain ⟨y736,hy736⟩:∃ y_:List Int,y_ = (x5_1.set ((rd l1 x13_1):Int).toNat (rd l1 (rd l0 x13_1))):=⟨_,rfl⟩
    replace H:(Z32.l0 k1 l1 y736 l0 (l0.length:Int) (wrap64 (x13_1 + 1))) = some r:=by first | (rw [hy736];exact H) | exact H
    have Ny736:=A_ hy736
    clear hy736
    have H':=A_ H
    clear H
    have p733:0≤(x13_1:Int):=oB_ qe_
    have q733:x13_1 < (l0.length:Int):=oB_ qe_
    obtain ⟨ad733,e733,hx733_0⟩:=Kd.at_int HR0.out x13_1 p733 q733
    cases e733
    replace hx733_0:=(HB.out.cell (World.block_lt_of_cell? w _ hx733_0)).trans hx733_0
    replace p733:=eq_true p733
    replace q733:=eq_true q733
    try go_wp2
    replace HO_5:=A_ (rC_ HO_5.out)
    replace HB:=A_ (bC_ HB.out)
    have p734:0≤(x13_1:Int):=oB_ qe_
    have q734:x13_1 < (l1.length:Int):=oB_ qe_
    obtain ⟨ad734,e734,hx734_0⟩:=Kd.at_int HR1.out x13_1 p734 q734
    have hw734_0:=hx734_0
    cases e734
    replace hx734_0:=(HB.out.cell (World.block_lt_of_cell? w _ hx734_0)).trans hx734_0
    replace p734:=eq_true p734
    replace q734:=eq_true q734
    have p735:0≤((rd l0 x13_1):Int):=oB_ qe_
    have q735:(rd l0 x13_1) < (l1.length:Int):=oB_ qe_
    obtain ⟨ad735,e735,hx735_0⟩:=Kd.at_int HR1.out (rd l0 x13_1) p735 q735
    have hw735_0:=hx735_0
    obtain rfl:ad734 = ad735:=(by injection e735)
    replace hx735_0:=(HB.out.cell (World.block_lt_of_cell? w _ hx735_0)).trans hx735_0
    replace p735:=eq_true p735
    replace q735:=eq_true q735
    have p15:0≤((rd l1 x13_1):Int):=oB_ qe_
    have q15:((rd l1 x13_1):Int) < ((x5_1.length:Int):Int):=oB_ qe_
    obtain ⟨go15,co15,eo15,gb15,gl15,cl15,HG15⟩:=Kd.R_form HO_5.out (by omega)
    (first | cases eo15 | (injection eo15 with ea_ en_ ec_;(first | subst ea_ | (injection ea_ with ea_;subst ea_));subst ec_;clear en_))
    have GB15:=A_ gb15
    have GG15:=A_ HG15
    clear gb15 gl15 HG15
    obtain ⟨hx15_0,hf15_0⟩:=Kd.R_celln 0 HO_5.out ((rd l1 x13_1):Int) p15 q15
    replace p15:=eq_true p15
    replace q15:=eq_true q15
    have HP17:=Kd.R_putn HO_5.out ((rd l1 x13_1):Int) (rd l1 (rd l0 x13_1))
    rw [← Ny736.out] at HP17
    have HQ17:=A_ HP17
    clear HP17
    refine start_ (n:=11) (S:=fun w'=>w'.cell? (ad734.add (x13_1).toNat) = some (.int .i64 (rd l1 x13_1))∧w'.cell? (ad734.add ((rd l0 x13_1)).toNat) = some (.int .i64 (rd l1 (rd l0 x13_1)))) (ds:=[10]) (bl_ 11 0) (by kernel_rfl) rfl (by kernel_rfl) ⟨((HB.out.cell (World.block_lt_of_cell? w _ hw734_0)).trans hw734_0),((HB.out.cell (World.block_lt_of_cell? w _ hw735_0)).trans hw735_0)⟩ (fun hHeld=>?_);refine with_tabW Z32.tab5 Z32.bits5 (fun HT_ HW_=>?_)
    generalize wr.drew = w16 at HO_5 HB GG15 HQ17 hf15_0 hx15_0 hx734_0 hx735_0 hHeld ⊢
    refine pu_ 0 (some 18) (bl_ 11 1) HT_ ?_
    refine pu_ 1 (some 19) (bl_ 11 3) HT_ ?_
    refine pu_ 2 (some 20) (bl_ 11 7) HT_ ?_
    refine pu_ 3 (some 21) (bl_ 11 15) HT_ ?_
    refine pu_ 5 (some 23) (bl_ 11 47) HT_ ?_
    refine pu_ 6 (some 24) (bl_ 11 111) HT_ ?_
    refine pu_ 7 (some 25) (bl_ 11 239) HT_ ?_
    refine ta_ 4 (some 22) (bl_ 11 255) HT_ HW_ hHeld ?_
    refine ta_ 8 (some 26) (bl_ 11 511) HT_ HW_ hHeld ?_
    refine pu_ 9 (some 27) (bl_ 11 1023) HT_ ?_
    refine last_ (i:=10) (N:=none) (bl_ 11 2047) rfl rfl (one_of HT_.out (by kernel_rfl)) (by decide) (fun K hK=>?_)
    refine skip_ (w1:=?_) (by rfl) rfl ?_ ?_
    rotate_left
    ·go_simp
     rfl
    refine hK.out _ _ ?_
    clear hK K
    refine done_ (done_of HT_.out (by kernel_rfl)) ?_
    try go_wp2
    go_roundg k1
    case measure=>have:=HK1.out;omega
    case rel=>exact ⟨(y736),(wrap64 (x13_1 + 1)),qc_,H',⟨by have:=HK1.out;omega⟩,⟨(rr_ HQ17)⟩,⟨by repeat (first | (with_reducible first | exact HB.out | apply bA_ | apply bB_ | apply bC_ | refine bD_ ?_ GB15.out) | exact HB.out)⟩⟩
   ·rw [if_neg c7] at H
    have c7b0:=oD_ c7
    clear c7
    obtain rfl:=Option.some.inj H
    go_wp2
    go_ret
    exact ⟨_,qb_,(rr_ HO_5),hB_⟩
def Z34.f (k:Nat) (l0_0:List Int) (l0_1:List Int) (l1:List Int):Option (List Int × List Int):=(Z32.f k l0_0 l1).bind fun t739=>((Z32.f k l0_1 l1).bind fun t742=>(some (t739,t742)))
theorem Z34.mono:∀ a0 a1 a2 k,LeO (Z34.f k a0 a1 a2) (Z34.f (k + 1) a0 a1 a2):=by
 intro a0 a1 a2 k
 unfold Z34.f
 repeat' first|exact Z32.mono _ _ _|exact lo_|refine LeO.ite ?_ ?_|refine LeO.bind ?_ (fun _=>?_)
def Z34.T1:Bool × List (List Nat × List Nat):=(true,[([],[]),([0],[0]),([],[]),([1,2],[1,2]),([],[]),([4],[4]),([],[]),([5,6,3],[5,6]),([3,7],[3,7]),([8,7,0,1,2,3,4,5,6,7,8],[8])])
def Z34.B1:List Nat:=[0,1,0,7,0,16,0,127,255,511]
theorem Z34.tab1:rtab .any (opsOf Try.f119 1) = Z34.T1:=by kernel_rfl
theorem Z34.bits1:waitsOk Z34.T1.2 Z34.B1 = true:=by kernel_rfl
set_option maxHeartbeats 8000000 in
set_option maxRecDepth 100000 in
theorem Z34.calls (k:Nat) (A0_0:Option Addr) (c0_0:Nat) (l0_0:List Int) (A0_1:Option Addr) (c0_1:Nat) (l0_1:List Int) (A1:Option Addr) (c1:Nat) (l1:List Int) (r1:List Int) (r2:List Int) (w:World) (hr0_0:Kd.C (Kd.int .i64) w A0_0 l0_0.length l0_0) (hc0_0:l0_0.length≤c0_0) (hr0_1:Kd.C (Kd.int .i64) w A0_1 l0_1.length l0_1) (hc0_1:l0_1.length≤c0_1) (hr1:Kd.C (Kd.int .i64) w A1 l1.length l1) (hc1:l1.length≤c1) (h:Z34.f k l0_0 l0_1 l1 = some (r1,r2)) :
  Calls Try.prog 119 #[.agg #[.slice A0_0 l0_0.length c0_0,.slice A0_1 l0_1.length c0_1],.slice A1 l1.length c1] w fun e w'=>∃ v0_ v1_:Value,e = .returned (.agg #[v0_,v1_])∧Kd.R (Kd.int .i64) 3 w' w.heap.size (fun k_=>some k_≠(v1_:Value).ownBlock) v0_ r1∧Kd.R (Kd.int .i64) 3 w' w.heap.size (fun k_=>some k_≠(v0_:Value).ownBlock) v1_ r2∧Below w.heap.size w w':=by
 have hu25:=Try.underlying25
 have HR0_0:=A_ hr0_0
 have HC0_0:=A_ hc0_0
 clear hr0_0 hc0_0
 have HR0_1:=A_ hr0_1
 have HC0_1:=A_ hc0_1
 clear hr0_1 hc0_1
 have HR1:=A_ hr1
 have HC1:=A_ hc1
 clear hr1 hc1
 have HB:=A_ (Below.refl w.heap.size w)
 have H:=h
 unfold Z34.f at H
 clear h
 obtain ⟨t739,A3,H⟩:=bi_ H
 obtain ⟨t742,A4,H⟩:=bi_ H
 simp only [Option.some.injEq,Prod.mk.injEq] at H
 obtain ⟨rfl,rfl⟩:=H
 go_enter Try.func119,Try.ntmps119
 try go_wp2_with (first | ((with_reducible refine gB_ (N:=2) rfl ?_);refine bx_ 2 #[.slice A0_0 l0_0.length c0_0,.slice A0_1 l0_1.length c0_1] 25 ?_;intro gb737 hg w5 hbox hb;have BK737:=A_ hbox;have GW737:=gw_ w hg;have GE737:=GW737;replace HB:=b1_ hb;clear hb hbox hg) | ((with_reducible refine gB_ (N:=4) rfl ?_);refine bx_ 4 #[.slice none 0 0,.slice none 0 0] 25 ?_;intro gb738 hg w6 hbox hb;have BK738:=A_ hbox;have GW738:=gw_ w hg;have GE738:=GW738;replace HB:=b1_ hb;have NB737_738:=gN_ BK737 hg;have NB738_737:=gP_ BK737 hg;replace BK737:=bb_ BK737 hb;clear hb hbox hg))
 replace BK737:=A_ (kB_ BK737.out)
 replace BK738:=A_ (kB_ BK738.out)
 replace HB:=A_ (bC_ HB.out)
 refine start_ (n:=10) (S:=fun w'=>w'.cell? ⟨gb737,0,none⟩ = some (.slice A0_0 l0_0.length c0_0)∧w'.cell? ⟨gb737,1,none⟩ = some (.slice A0_1 l0_1.length c0_1)) (ds:=[]) (bl_ 10 0) (by kernel_rfl) rfl (by kernel_rfl) ⟨cz0_ BK737,cz1_ BK737⟩ (fun hHeld=>?_);refine with_tabW Z34.tab1 Z34.bits1 (fun HT_ HW_=>?_)
 generalize w6.drew = w7 at BK737 BK738 HB hHeld ⊢
 refine pu_ 0 (some 5) (bl_ 10 1) HT_ ?_
 refine pu_ 2 (some 7) (bl_ 10 5) HT_ ?_
 refine pu_ 4 (some 9) (bl_ 10 21) HT_ ?_
 refine pu_ 6 (some 11) (bl_ 10 85) HT_ ?_
 refine ta_ 1 (some 6) (bl_ 10 87) HT_ HW_ hHeld ?_
 refine ta_ 5 (some 10) (bl_ 10 119) HT_ HW_ hHeld ?_
 refine on_ 3 (some 8) (bl_ 10 127) HT_ (fun K hK=>?_)
 refine gO_ Try.func149 #[.slice A0_0 l0_0.length c0_0,.slice A1 l1.length c1] (by rfl) rfl rfl qa_ ?_
 with_reducible refine (Z32.calls k _ _ l0_0 _ _ l1 t739 _ (cb_ HR0_0) HC0_0.out (cb_ HR1) HC1.out A3.out).mono ?_
 rintro e w8 ⟨v740,rfl,ho0,hb⟩
 refine ⟨_,rfl,?_⟩
 have HO741:=rl_ w ho0
 replace BK737:=bb_ BK737 hb
 replace BK738:=bb_ BK738 hb
 replace HB:=b1_ hb
 clear hb ho0
 refine hK.out _ _ ⟨cz0_ BK737,cz1_ BK737⟩ (fun hHeld=>?_)
 clear hK K
 refine no_ (some 8) ?_
 refine on_ 7 (some 12) (bl_ 10 255) HT_ (fun K hK=>?_)
 refine gO_ Try.func149 #[.slice A0_1 l0_1.length c0_1,.slice A1 l1.length c1] (by rfl) rfl rfl qa_ ?_
 with_reducible refine (Z32.calls k _ _ l0_1 _ _ l1 t742 _ (cb_ HR0_1) HC0_1.out (cb_ HR1) HC1.out A4.out).mono ?_
 rintro e w9 ⟨v743,rfl,ho0,hb⟩
 refine ⟨_,rfl,?_⟩
 have HO744:=A_ (rE_ (Kd.R_new' ho0 (Kd.R_lt (rr_ HO741))) (bF_ hB_))
 replace HO741:=A_ (Kd.R_elder' (rr_ HO741) (Kd.R_base ho0) hb)
 replace BK737:=bb_ BK737 hb
 replace BK738:=bb_ BK738 hb
 replace HB:=b1_ hb
 clear hb ho0
 obtain ⟨Ao10,co10,eo10⟩:=Kd.R_slice HO744.out
 (first|subst eo10|(injection eo10 with a_ b_ c_;have a_:=a_.symm;have c_:=c_.symm;clear b_;subst a_;subst c_))
 obtain ⟨Ao11,co11,eo11⟩:=Kd.R_slice HO741.out
 (first|subst eo11|(injection eo11 with a_ b_ c_;have a_:=a_.symm;have c_:=c_.symm;clear b_;subst a_;subst c_))
 refine hK.out _ _ ⟨cz0_ BK737,cz1_ BK737⟩ (fun hHeld=>?_)
 clear hK K
 refine no_ (some 12) ?_
 refine pu_ 8 (some 13) (bl_ 10 511) HT_ ?_
 refine on_ 9 (none) (bl_ 10 1023) HT_ (fun K hK=>?_)
 have hs12:w9.cell? ⟨gb738,0,none⟩ = some (.slice none 0 0):=cz0_ BK738
 have hfs12:=kD_ BK738.out 0
 have hns12_0:=NB737_738.out
 have hms12_0:=NB738_737.out
 have hs13:w9.cell? ⟨gb738,1,none⟩ = some (.slice none 0 0):=cz1_ BK738
 have hfs13:=kD_ BK738.out 1
 have hns13_0:=NB737_738.out
 have hms13_0:=NB738_737.out
 refine skip_ (w1:=?_) (by rfl) rfl ?_ ?_
 rotate_left
 ·go_simp
  rfl
 refine hK.out _ _ ⟨((cell_far (p:=⟨gb738,_,none⟩) NB737_738.out _).trans (((cell_far (p:=⟨gb738,_,none⟩) NB737_738.out _).trans (hHeld.1)))),((cell_far (p:=⟨gb738,_,none⟩) NB737_738.out _).trans (((cell_far (p:=⟨gb738,_,none⟩) NB737_738.out _).trans (hHeld.2))))⟩ (fun hHeld=>?_)
 clear hK K
 refine done_ (done_of HT_.out (by kernel_rfl)) ?_
 try go_wp2
 refine bodyPost_ret (results_cell_row rfl _ _ gb738 25 #[.slice Ao11 t739.length co11,.slice Ao10 t742.length co10] (0,0) _ rfl qp_ Try.underlying25 rfl (by kernel_rfl)) rfl ?_
 exact ⟨_,_,qb_,(rw_ (Kd.R_mono (fa_ HO741 BK738) (fun _ hk=>hk.2))),(rw_ (Kd.R_mono (fa_ HO744 BK738) (fun _ hk=>hk.2))),hB_⟩
def Z47.f (k:Nat) (l0_0:List Int) (l0_1:List Int) (a1:Int):Option (List Int):=(Z45.f k l0_0 l0_1 a1).bind fun t751=>((Z24.f k t751).bind fun t754=>(some t754))
theorem Z47.mono:∀ a0 a1 a2 k,LeO (Z47.f k a0 a1 a2) (Z47.f (k + 1) a0 a1 a2):=by
 intro a0 a1 a2 k
 unfold Z47.f
 repeat' first|exact Z24.mono _ _|exact Z45.mono _ _ _ _|exact lo_|refine LeO.ite ?_ ?_|refine LeO.bind ?_ (fun _=>?_)
set_option maxHeartbeats 8000000 in
set_option maxRecDepth 100000 in
theorem Z47.calls (k:Nat) (A0_0:Option Addr) (c0_0:Nat) (l0_0:List Int) (A0_1:Option Addr) (c0_1:Nat) (l0_1:List Int) (a1:Int) (r:List Int) (w:World) (hr0_0:Kd.C (Kd.int .i64) w A0_0 l0_0.length l0_0) (hc0_0:l0_0.length≤c0_0) (hr0_1:Kd.C (Kd.int .i64) w A0_1 l0_1.length l0_1) (hc0_1:l0_1.length≤c0_1) (h:Z47.f k l0_0 l0_1 a1 = some r) :
  Calls Try.prog 120 #[.agg #[.slice A0_0 l0_0.length c0_0,.slice A0_1 l0_1.length c0_1],.int .i64 a1] w fun e w'=>∃ v0_:Value,e = .returned (v0_)∧Kd.R (Kd.int .i64) 3 w' w.heap.size (fun _=>True) v0_ r∧Below w.heap.size w w':=by
 have hu25:=Try.underlying25
 have HR0_0:=A_ hr0_0
 have HC0_0:=A_ hc0_0
 clear hr0_0 hc0_0
 have HR0_1:=A_ hr0_1
 have HC0_1:=A_ hc0_1
 clear hr0_1 hc0_1
 have HB:=A_ (Below.refl w.heap.size w)
 have H:=h
 unfold Z47.f at H
 clear h
 obtain ⟨t751,A3,H⟩:=bi_ H
 obtain ⟨t754,A4,H⟩:=bi_ H
 obtain rfl:=Option.some.inj H
 go_enter Try.func120,Try.ntmps120
 go_wp2_with (first | ((with_reducible refine gB_ (N:=2) rfl ?_);refine bx_ 2 #[.slice A0_0 l0_0.length c0_0,.slice A0_1 l0_1.length c0_1] 25 ?_;intro gb750 hg w5 hbox hb;have BK750:=A_ hbox;have GW750:=gw_ w hg;have GE750:=GW750;replace HB:=b1_ hb;clear hb hbox hg;obtain ⟨hcz6_0,hcz6_1,hfz6_0,hfz6_1⟩:=c2_ BK750) | ((with_reducible refine gA_ (f:=147) rfl ?_);refine gL_ (some 10) Try.func147 #[.slice A0_0 l0_0.length c0_0,.slice A0_1 l0_1.length c0_1,.int .i64 a1] rfl qa_ ?_;(with_reducible refine (Z45.calls k _ _ l0_0 _ _ l0_1 a1 t751 _ (cb_ HR0_0) HC0_0.out (cb_ HR0_1) HC0_1.out A3.out).mono ?_);rintro e w7 ⟨v752,rfl,ho0,hb⟩;refine ⟨_,rfl,?_⟩;have HO753:=rl_ w ho0;replace BK750:=bb_ BK750 hb;replace HB:=b1_ hb;clear hb ho0;obtain ⟨Ao8,co8,eo8⟩:=Kd.R_slice HO753.out;subst eo8) | ((with_reducible refine gA_ (f:=150) rfl ?_);refine gL_ (some 11) Try.func150 #[.slice Ao8 t751.length co8] rfl qa_ ?_;(with_reducible refine (Z24.calls k _ _ t751 t754 _ (cr_ HO753) ((Kd.R_reads' HO753.out).2.1) A4.out).mono ?_);rintro e w9 ⟨v755,rfl,ho0,hb⟩;refine ⟨_,rfl,?_⟩;have HO756:=A_ (rE_ (Kd.R_new' ho0 (Kd.R_lt (rr_ HO753))) (bF_ hB_));replace HO753:=A_ (Kd.R_elder' (rr_ HO753) (Kd.R_base ho0) hb);replace BK750:=bb_ BK750 hb;replace HB:=b1_ hb;clear hb ho0))
 go_ret
 exact ⟨_,qb_,(rw_ (Kd.R_mono HO756.out (fun _ hk=>trivial))),hB_⟩
end Go.Proofs.Ytcggfjpnfodbaaa.A
end
section
/- Names from a square, and renaming: the program and the reference act alike. No conditions. -/
namespace Go.Proofs.Ytcggfjpnfodbaaa.M
set_option linter.unusedVariables false
set_option linter.unusedSimpArgs false
open Go.RowKit Go.Proofs.YtcggfjpnfodbaaaW.PrintWords Go.Proofs.YtcggfjpnfodbaaaW.PrintLast Go.Proofs.YtcggfjpnfodbaaaW.PrintMore Go.Proofs.Ytcggfjpnfodbaaa.A
theorem set_mid5 {α:Type} (p:List α) (x y:α) (xs:List α):(p ++ x :: xs).set p.length y = p ++ y :: xs:=by
 induction p with
 | nil=>rfl
 | cons a p ih=>simp [ih]
theorem isP_reach {r u:List Nat} (hs:Sf r u) {s:Nat} (h:s < r.length):IsP (reach r u s)∧(reach r u s).length = r.length:=by
 obtain ⟨h1,h2⟩:=reach_full hs h
 have l1:=h1.le
 have l2:=nodup_sub_len5 (List.range r.length) (reach r u s) List.nodup_range (fun x hx=>h2 x (List.mem_range.mp hx))
 rw [List.length_range] at l2
 have hl:(reach r u s).length = r.length:=by omega
 exact ⟨⟨fun x hx=>by rw [hl];exact h1.lt x hx,h1.nd⟩,hl⟩
def nm (r u:List Nat) (s:Nat):List Nat:=inv (reach r u s)
theorem isP_nm {r u:List Nat} (hs:Sf r u) {s:Nat} (h:s < r.length):IsP (nm r u s)∧(nm r u s).length = r.length:=by
 obtain ⟨h1,h2⟩:=isP_reach hs h
 exact ⟨isP_inv h1,by unfold nm;rw [inv_len,h2]⟩
theorem ren_of {p q c:List Nat} (hq:IsP q) (hl:q.length = p.length) (hc:c.length = p.length) (h:∀ j,j < p.length→g c (g q j) = g q (g p j)):c = ren p q:=by
 refine ext_g (by rw [ren_len,hc]) (fun x hx=>?_)
 rw [hc] at hx
 rw [g_ren hx]
 have hx':ix q x < q.length:=ix_lt hq (by omega)
 have:=h (ix q x) (by omega)
 rw [g_ix hq (by omega)] at this
 exact this
theorem ren_step {p q c:List Nat} (hq:IsP q) (hl:q.length = p.length) {i:Nat} (hi:i < p.length) (hc:c.length = p.length) (h:∀ j,j < i→g c (g q j) = g q (g p j)):∀ j,j < i + 1→g (c.set (g q i) (g q (g p i))) (g q j) = g q (g p j):=by
 intro j hj
 have hlt:g q i < c.length:=by rw [hc,← hl];exact g_lt hq (by omega)
 rw [g_set hlt]
 by_cases e:j = i
 ·subst e
  simp
 ·rw [if_neg (fun k=>e (g_inj hq (by omega) (by omega) k.symm))]
  exact h j (by omega)
theorem spec_ren {p q:List Nat} (hp:IsP p) (hq:IsP q) (hl:q.length = p.length) (h24:p.length≤24):Ev (fun k=>Z32.f k (I p) (I q)) (I (ren p q)):=by
 unfold Z32.f
 have H:∀ (d i:Nat) (c:List Nat),i + d = p.length→c.length = p.length→(∀ j,j < i→g c (g q j) = g q (g p j))→Ev (fun k=>Z32.l0 k (I q) (I c) (I p) (p.length:Int) (i:Int)) (I (ren p q)):=by
  intro d
  induction d with
  | zero =>
   intro i c h hc hx
   refine ev_succ ?_
   have h1:¬ ((i:Int) < (p.length:Int)):=by omega
   rw [← ren_of hq hl hc (fun j hj=>hx j (by omega))]
   simp only [Z32.l0,h1,if_false]
   exact Ev.now _
  | succ d ih =>
   intro i c h hc hx
   refine ev_succ ?_
   have hi:i < p.length:=by omega
   have k1:=g_lt hp hi
   have k2:=g_lt hq (i:=i) (by omega)
   have h1:(i:Int) < (p.length:Int):=by omega
   have h2:(0:Int)≤(i:Int):=by omega
   have h4:(i:Int) < (q.length:Int):=by omega
   have h5:(0:Int)≤((g p i:Nat):Int):=by omega
   have h6:((g p i:Nat):Int) < (q.length:Int):=by omega
   have h7:(0:Int)≤((g q i:Nat):Int):=by omega
   have h8:((g q i:Nat):Int) < (c.length:Int):=by omega
   have h3:=w64s i (by omega)
   simp only [Z32.l0,h1,h2,h3,h4,h5,h6,h7,h8,rdI,I_len',I_set,if_true,Int.toNat_natCast]
   exact ih (i + 1) _ (by omega) (by rw [List.length_set];exact hc) (ren_step hq hl hi hc hx)
 have h1:(0:Int)≤(p.length:Int):=by omega
 have h2:p.length≤35184372088832:=by omega
 simp only [I_len',h1,h2,if_true,Int.toNat_natCast]
 have:=H p.length 0 (List.replicate p.length 0) (by omega) (by simp) (fun j hj=>by omega)
 rw [I_rep] at this
 exact this
theorem impl_ren {p q:List Nat} (hp:IsP p) (hq:IsP q) (hl:q.length = p.length) (h24:p.length≤24):Ev (fun k=>Z22.f k (I p) (I q)) (I (ren p q)):=by
 unfold Z22.f
 have H:∀ (d i:Nat) (c:List Nat),i + d = p.length→c.length = p.length→(∀ j,j < i→g c (g q j) = g q (g p j))→Ev (fun k=>Z22.l0 k (I q) (I c) (I p) (p.length:Int) (i:Int)) (I (ren p q)):=by
  intro d
  induction d with
  | zero =>
   intro i c h hc hx
   refine ev_succ ?_
   have h1:¬ ((i:Int) < (p.length:Int)):=by omega
   rw [← ren_of hq hl hc (fun j hj=>hx j (by omega))]
   simp only [Z22.l0,h1,if_false]
   exact Ev.now _
  | succ d ih =>
   intro i c h hc hx
   refine ev_succ ?_
   have hi:i < p.length:=by omega
   have k1:=g_lt hp hi
   have k2:=g_lt hq (i:=i) (by omega)
   have h1:(i:Int) < (p.length:Int):=by omega
   have h2:(0:Int)≤(i:Int):=by omega
   have h4:(i:Int) < (q.length:Int):=by omega
   have h5:(0:Int)≤((g p i:Nat):Int):=by omega
   have h6:((g p i:Nat):Int) < (q.length:Int):=by omega
   have h7:(0:Int)≤((g q i:Nat):Int):=by omega
   have h8:((g q i:Nat):Int) < (c.length:Int):=by omega
   have h3:=w64s i (by omega)
   simp only [Z22.l0,h1,h2,h3,h4,h5,h6,h7,h8,rdI,I_len',I_set,if_true,Int.toNat_natCast]
   exact ih (i + 1) _ (by omega) (by rw [List.length_set];exact hc) (ren_step hq hl hi hc hx)
 have b1:permB (I p) = true:=permB_I.mpr ⟨hp,h24⟩
 have b2:permB (I q) = true:=permB_I.mpr ⟨hq,by omega⟩
 refine Ev.bind (impl_permOk _) ?_
 simp only [b1,if_true]
 refine Ev.bind (impl_permOk _) ?_
 have e:((p.length:Int) != (q.length:Int)) = false:=by rw [bne_eq_false_iff_eq];omega
 simp only [b2,I_len',e,if_true]
 refine ev_succ ?_
 have h1:(0:Int)≤(p.length:Int):=by omega
 have h2:p.length≤35184372088832:=by omega
 simp only [Z22.j0,I_len',h1,h2,Bool.false_eq_true,if_false,if_true,Int.toNat_natCast]
 have:=H p.length 0 (List.replicate p.length 0) (by omega) (by simp) (fun j hj=>by omega)
 rw [I_rep] at this
 exact this
def rnS (r u q:List Nat):List Nat × List Nat:=(ren r q,ren u q)
theorem spec_renS {r u q:List Nat} (hs:Sf r u) (hq:IsP q) (hl:q.length = r.length):Ev (fun k=>Z34.f k (I r) (I u) (I q)) (I (rnS r u q).1,I (rnS r u q).2):=by
 unfold Z34.f
 exact Ev.bind (spec_ren hs.pr hq hl hs.le) (Ev.bind (spec_ren hs.pu hq (by rw [hl,hs.eq]) (by rw [hs.eq];exact hs.le)) (Ev.now _))
theorem impl_renS {r u q:List Nat} (hs:Sf r u) (hq:IsP q) (hl:q.length = r.length):Ev (fun k=>Z6.f k (I r) (I u) (I q)) (I (rnS r u q).1,I (rnS r u q).2,true):=by
 unfold Z6.f
 have h0:=surfB_I.mpr hs
 have hle:=hs.le
 have b2:permB (I q) = true:=permB_I.mpr ⟨hq,by omega⟩
 refine Ev.bind (impl_surf _ _) ?_
 simp only [h0,if_true]
 refine Ev.bind (impl_permOk _) ?_
 have e:((q.length:Int) != (r.length:Int)) = false:=by rw [bne_eq_false_iff_eq];omega
 simp only [b2,I_len',e,if_true]
 refine ev_succ ?_
 simp only [Z6.j0,Bool.false_eq_true,if_false]
 exact Ev.bind (impl_ren hs.pr hq hl hs.le) (Ev.bind (impl_ren hs.pu hq (by rw [hl,hs.eq]) (by rw [hs.eq];exact hs.le)) (Ev.now _))
theorem spec_names {r u:List Nat} (hs:Sf r u) {s:Nat} (h:s < r.length):Ev (fun k=>Z47.f k (I r) (I u) (s:Int)) (I (nm r u s)):=by
 obtain ⟨h1,h2⟩:=isP_reach hs h
 unfold Z47.f
 exact Ev.bind (reach_ev hs.pr hs.pu hs.eq hs.le s h) (Ev.bind (spec_inv h1 (by rw [h2];exact hs.le)) (Ev.now _))
def nmP (n:Nat) (out:List Nat):List Int:=(List.range n).map (fun x=>if x ∈ out then ((out.idxOf x:Nat):Int) else -1)
theorem nmP_len (n:Nat) (out:List Nat):(nmP n out).length = n:=by simp [nmP]
theorem rd_nmP {n:Nat} {out:List Nat} {x:Nat} (h:x < n):rd (nmP n out) (x:Int) = if x ∈ out then ((out.idxOf x:Nat):Int) else -1:=by
 rw [rd_get _ _ (by rw [nmP_len];exact h)]
 simp [nmP]
theorem nmP_add {n:Nat} {out:List Nat} {x:Nat} (h:x < n) (hn:x ∉ out):(nmP n out).set x (out.length:Int) = nmP n (out ++ [x]):=by
 refine ext_rd (by rw [List.length_set,nmP_len,nmP_len]) (fun i hi=>?_)
 rw [List.length_set,nmP_len] at hi
 rw [rd_set (by rw [nmP_len];exact h),rd_nmP hi,rd_nmP hi]
 by_cases e:x = i
 ·subst e
  have:x ∈ out ++ [x]:=by simp
  rw [if_pos rfl,if_pos this,List.idxOf_append,if_neg hn]
  simp
 ·rw [if_neg e]
  by_cases hm:i ∈ out
  ·have:i ∈ out ++ [x]:=by simp [hm]
   rw [if_pos hm,if_pos this,List.idxOf_append,if_pos hm]
  ·have:i ∉ out ++ [x]:=by simp [hm];omega
   rw [if_neg hm,if_neg this]
theorem nmP_full {n:Nat} {out:List Nat} (hl:out.length = n) (h:∀ x,x < n→x ∈ out):nmP n out = I (inv out):=by
 refine ext_rd (by rw [nmP_len,I_len,inv_len,hl]) (fun i hi=>?_)
 rw [nmP_len] at hi
 rw [rd_nmP hi,if_pos (h i hi),rdI,g_inv (by omega)]
 rfl
theorem names_one {p q:List Nat} {out pr:List Nat} (a j:Nat) (hj:j < pr.length) (hpr:pr.length≤2) (hl:out.length≤1000) (hx:g pr j < p.length) (res:List Int)
  (H:Ev (fun k=>Z26.l2 k (nmP p.length (st1 out (g pr j))) (I (st1 out (g pr j))) (a:Int) (I pr) (pr.length:Int) ((j + 1:Nat):Int) (I p) (I q)) res) :
  Ev (fun k=>Z26.l2 k (nmP p.length out) (I out) (a:Int) (I pr) (pr.length:Int) (j:Int) (I p) (I q)) res:=by
 refine ev_succ ?_
 have h1:(j:Int) < (pr.length:Int):=by omega
 have h2:(0:Int)≤(j:Int):=by omega
 have h4:(I out).length < 17592186044416:=by rw [I_len];omega
 have h5:(0:Int)≤((g pr j:Nat):Int):=by omega
 have h6:((g pr j:Nat):Int) < ((nmP p.length out).length:Int):=by rw [nmP_len];omega
 have h7:rd (nmP p.length out) ((g pr j:Nat):Int) = if g pr j ∈ out then ((out.idxOf (g pr j):Nat):Int) else -1:=rd_nmP hx
 have h3:=w64s j (by omega)
 by_cases hin:g pr j ∈ out
 ·have e:st1 out (g pr j) = out:=by unfold st1;rw [if_pos hin]
  rw [e] at H
  rw [if_pos hin] at h7
  have h8:¬ (((out.idxOf (g pr j):Nat):Int) < 0):=by omega
  simp only [Z26.l2,h1,h2,h3,h5,h6,h7,h8,rdI,I_len',if_true,if_false]
  exact H
 ·have e:st1 out (g pr j) = out ++ [g pr j]:=by unfold st1;rw [if_neg hin]
  rw [e,← nmP_add hx hin,← I_snoc] at H
  rw [if_neg hin] at h7
  have h8:(-1:Int) < 0:=by omega
  simp only [Z26.l2,h1,h2,h3,h4,h5,h6,h7,h8,rdI,I_len',if_true,Int.toNat_natCast]
  exact H
theorem names_loop {p q:List Nat} (hp:IsP p) (hq:IsP q) (hl:q.length = p.length) (h24:p.length≤24) (f:Nat):∀ (a:Nat) (out:List Nat),RInv p.length out→a≤out.length→p.length < f + a →
  Ev (fun k=>Z26.l1 k (nmP p.length out) (I out) (a:Int) (I p) (I q)) (nmP p.length (bfs p q f a out)):=by
 induction f with
 | zero =>
  intro a out hr ha hf
  have:=hr.le
  omega
 | succ f ih =>
  intro a out hr ha hf
  have hle:=hr.le
  refine ev_succ ?_
  by_cases h:a < out.length
  ·have hx:=hr.g h
   have hg1:=g_lt hp hx
   have hg2:g q (g out a) < p.length:=by have:=g_lt hq (i:=g out a) (by omega);omega
   have r1:=hr.st hg1
   have r2:=r1.st hg2
   have h1:(a:Int) < (out.length:Int):=by omega
   have h2:(0:Int)≤(a:Int):=by omega
   have h3:((g out a:Nat):Int) < (p.length:Int):=by omega
   have h4:(0:Int)≤((g out a:Nat):Int):=by omega
   have h5:((g out a:Nat):Int) < (q.length:Int):=by omega
   have hb:bfs p q (f + 1) a out = bfs p q f (a + 1) (st1 (st1 out (g p (g out a))) (g q (g out a))):=by
    rw [bfs,if_pos h]
   rw [hb]
   have key:=ih (a + 1) _ r2 (Nat.le_trans (by omega:a + 1≤out.length) (Nat.le_trans (st1_len _ _) (st1_len _ _))) (by omega)
   have hq1:a≤9000000000000000000:=by omega
   have l1:=r1.le
   simp only [Z26.l1,h1,h2,h3,h4,h5,rdI,I_len',if_true,Option.bind_some,I_pair]
   refine names_one (q:=q) a 0 (by simp) (by simp) (by omega) hg1 _ ?_
   refine names_one (q:=q) a 1 (by simp) (by simp) (by simp only [g,List.getD_cons_zero] at l1 ⊢;omega) hg2 _ ?_
   refine ev_succ ?_
   have h7:¬ (((1 + 1:Nat):Int) < (([g p (g out a),g q (g out a)]:List Nat).length:Int)):=by simp
   have h6:=w64s a hq1
   simp only [Z26.l2,h7,h6,if_false]
   exact key
  ·have h1:¬ ((a:Int) < (out.length:Int)):=by omega
   have hb:bfs p q (f + 1) a out = out:=by rw [bfs,if_neg h]
   rw [hb]
   simp only [Z26.l1,h1,I_len',if_false]
   exact Ev.now _
theorem impl_names {r u:List Nat} (hs:Sf r u) {s:Nat} (h:s < r.length):Ev (fun k=>Z26.f k (I r) (I u) (s:Int)) (I (nm r u s)):=by
 have hle:=hs.le
 have h0:=surfB_I.mpr hs
 obtain ⟨k1,k2⟩:=reach_full hs h
 obtain ⟨_,k3⟩:=isP_reach hs h
 have fin:=names_loop hs.pr hs.pu hs.eq hs.le (r.length + 1) 0 [s] ⟨by simp,by simpa using h⟩ (by simp) (by omega)
 have e1:bfs r u (r.length + 1) 0 [s] = reach r u s:=rfl
 rw [e1,nmP_full k3 k2] at fin
 have H:∀ d i:Nat,i + d = r.length→Ev (fun k=>Z26.l0 k (s:Int) (List.replicate i (-1) ++ List.replicate d 0) (r.length:Int) (i:Int) (I r) (I u)) (I (nm r u s)):=by
  intro d
  induction d with
  | zero =>
   intro i hi
   obtain rfl:i = r.length:=by omega
   refine ev_succ ?_
   have c1:¬ ((r.length:Int) < (r.length:Int)):=by omega
   have c2:(0:Int)≤(s:Int):=by omega
   have c3:(s:Int) < (((List.replicate r.length (-1) ++ List.replicate 0 0:List Int)).length:Int):=by simp;omega
   have c4:(List.replicate r.length (-1) ++ List.replicate 0 0:List Int).set ((s:Int)).toNat 0 = nmP r.length [s]:=by
    refine ext_rd (by rw [List.length_set,nmP_len];simp) (fun i hi=>?_)
    rw [List.length_set] at hi
    have hi':i < r.length:=by simpa using hi
    rw [Int.toNat_natCast,rd_set (by simp;exact h),rd_nmP hi']
    by_cases e:s = i
    ·subst e
     simp
    ·rw [if_neg e]
     have:i ∉ [s]:=by simp;omega
     rw [if_neg this,rd_get _ _ hi]
     simp
   simp only [Z26.l0,c1,c2,c3,c4,if_true,if_false]
   exact fin
  | succ d ih =>
   intro i hi
   refine ev_succ ?_
   have c1:(i:Int) < (r.length:Int):=by omega
   have c2:(0:Int)≤(i:Int):=by omega
   have c3:(i:Int) < (((List.replicate i (-1) ++ List.replicate (d + 1) 0:List Int)).length:Int):=by simp;omega
   have c4:(List.replicate i (-1) ++ List.replicate (d + 1) 0:List Int).set ((i:Int)).toNat (-1) = List.replicate (i + 1) (-1) ++ List.replicate d 0:=by
    have hm:=set_mid5 (List.replicate i (-1:Int)) 0 (-1) (List.replicate d 0)
    rw [List.length_replicate] at hm
    rw [Int.toNat_natCast,List.replicate_succ,hm,List.replicate_succ',List.append_assoc]
    rfl
   have c5:=w64s i (by omega)
   simp only [Z26.l0,c1,c2,c3,c4,c5,if_true]
   exact ih (i + 1) (by omega)
 unfold Z26.f
 refine Ev.bind (impl_surf _ _) ?_
 have n1:¬ ((s:Int) < 0):=by omega
 have n2:decide ((s:Int) ≥ (r.length:Int)) = false:=by rw [decide_eq_false_iff_not];omega
 simp only [h0,n1,n2,I_len',if_true,if_false]
 refine ev_succ ?_
 have z1:(0:Int)≤(r.length:Int):=by omega
 have z2:r.length≤35184372088832:=by omega
 simp only [Z26.j0,Bool.false_eq_true,I_len',z1,z2,if_true,if_false,Int.toNat_natCast,Option.bind_some,List.length_replicate]
 have:=H r.length 0 (Nat.zero_add _)
 simpa using this
end Go.Proofs.Ytcggfjpnfodbaaa.M
end
section
namespace Go.Proofs.Ytcggfjpnfodbaaa.A
open Go.RowKit Go.Proofs.YtcggfjpnfodbaaaW.PrintWords Go.Proofs.YtcggfjpnfodbaaaW.PrintLast Go.Proofs.YtcggfjpnfodbaaaW.PrintMore
attribute [local go_sem] max2_int min2_int max_two min_two max_three min_three max_four min_four
set_option linter.unusedVariables false
set_option linter.unusedSimpArgs false
def Z43.l0:Nat→List Int→List Int→Int→Int→Option (Bool)
 | 0,_,_,_,_=>none
 | k + 1,x1,x12,x13,x14=>if x14 < x13 then (if 0≤x14 then (if x14 < (x12.length:Int) then (if x14 < (x1.length:Int) then (if (rd x12 x14) = (rd x1 x14) then (Z43.l0 k x1 x12 x13 (wrap64 (x14 + 1))) else (some false)) else (none)) else (none)) else (none)) else (some true)
def Z43.f (k:Nat) (l0:List Int) (l1:List Int):Option (Bool):=if (l0.length:Int) = (l1.length:Int) then (Z43.l0 k l1 l0 (l0.length:Int) 0) else (some false)
theorem Z43.mono_l:∀ k,(∀ y0 y1 y2 y3,LeO (Z43.l0 k y0 y1 y2 y3) (Z43.l0 (k + 1) y0 y1 y2 y3))
 | 0=>fun _ _ _ _ r h=>by simp [Z43.l0] at h
 | k + 1=>by
  have ih0:=Z43.mono_l k
  ·intro y0 y1 y2 y3
   unfold Z43.l0
   repeat' first|exact ih0 _ _ _ _|exact lo_|refine LeO.ite ?_ ?_|refine LeO.bind ?_ (fun _=>?_)
theorem Z43.mono:∀ a0 a1 k,LeO (Z43.f k a0 a1) (Z43.f (k + 1) a0 a1):=by
 intro a0 a1 k
 have ih0:=Z43.mono_l k
 unfold Z43.f
 repeat' first|exact ih0 _ _ _ _|exact lo_|refine LeO.ite ?_ ?_|refine LeO.bind ?_ (fun _=>?_)
set_option maxHeartbeats 8000000 in
set_option maxRecDepth 100000 in
theorem Z43.calls (k:Nat) (A0:Option Addr) (c0:Nat) (l0:List Int) (A1:Option Addr) (c1:Nat) (l1:List Int) (r:Bool) (w:World) (hr0:Kd.C (Kd.int .i64) w A0 l0.length l0) (hc0:l0.length≤c0) (hr1:Kd.C (Kd.int .i64) w A1 l1.length l1) (hc1:l1.length≤c1) (h:Z43.f k l0 l1 = some r) :
  Calls Try.prog 148 #[.slice A0 l0.length c0,.slice A1 l1.length c1] w fun e w'=>e = .returned (.bool r)∧Drawn0 w w':=by
 have HR0:=A_ hr0
 have HC0:=A_ hc0
 clear hr0 hc0
 have HR1:=A_ hr1
 have HC1:=A_ hc1
 clear hr1 hc1
 have H:=h
 unfold Z43.f at H
 clear h
 by_cases c3:(l0.length:Int) = (l1.length:Int)
 ·rw [if_pos c3] at H
  have c3b0:((l0.length:Int) == (l1.length:Int)) = true:=beq_iff_eq.mpr c3
  have c3b1:((l0.length:Int) != (l1.length:Int)) = false:=bne_eq_false_iff_eq.mpr c3
  have c3b2:(l0.length == l1.length) = true:=by first | simpa using c3 | (simp at c3 ⊢;omega)
  clear c3
  have H':=A_ H
  clear H
  go_enter Try.func148,Try.ntmps148
  go_wp2
  go_loopg [14] k (fun kq v14 w'=>∃ (x14_1:Int),v14 = .int .i64 x14_1∧Aside0 (Z43.l0 kq l1 l0 (l0.length:Int) x14_1 = some r)∧Aside0 (kq≤k)∧Drawn0 w w')
  case atStart=>exact ⟨(0),qc_,H',⟨nA_ _⟩,by repeat (first | exact Drawn0.refl _ | apply Drawn0.step)⟩
  case round =>
   clear H'
   obtain ⟨x14_1,rfl,HA,HK1,⟨m1,rfl⟩⟩:=hrel
   cases gk with
   | zero=>exact absurd HA.out (by simp [Z43.l0])
   | succ k1 =>
    have H:=HA.out
    clear HA
    simp only [Z43.l0] at H
    by_cases c4:x14_1 < (l0.length:Int)
    ·rw [if_pos c4] at H
     have c4b0:=oC_ c4
     clear c4
     replace H:=cx_ H;obtain ⟨c5b0,H⟩:=H
     replace H:=cx_ H;obtain ⟨c6b0,H⟩:=H
     replace H:=cx_ H;obtain ⟨c7b0,H⟩:=H
     by_cases c8:(rd l0 x14_1) = (rd l1 x14_1)
     ·rw [if_pos c8] at H
      have c8b0:((rd l0 x14_1) == (rd l1 x14_1)) = true:=beq_iff_eq.mpr c8
      have c8b1:((rd l0 x14_1) != (rd l1 x14_1)) = false:=bne_eq_false_iff_eq.mpr c8
      clear c8
      have H':=A_ H
      clear H
      have p720:0≤(x14_1:Int):=oB_ qe_
      have q720:x14_1 < (l0.length:Int):=oB_ qe_
      obtain ⟨ad720,e720,hx720_0⟩:=Kd.at_int HR0.out x14_1 p720 q720
      cases e720
      replace p720:=eq_true p720
      replace q720:=eq_true q720
      have p721:0≤(x14_1:Int):=oB_ qe_
      have q721:x14_1 < (l1.length:Int):=oB_ qe_
      obtain ⟨ad721,e721,hx721_0⟩:=Kd.at_int HR1.out x14_1 p721 q721
      cases e721
      replace p721:=eq_true p721
      replace q721:=eq_true q721
      go_wp2
      go_roundg k1
      case measure=>have:=HK1.out;omega
      case rel=>exact ⟨(wrap64 (x14_1 + 1)),qc_,H',⟨by have:=HK1.out;omega⟩,by repeat (first | exact Drawn0.refl _ | apply Drawn0.step)⟩
     ·rw [if_neg c8] at H
      have c8b0:((rd l0 x14_1) == (rd l1 x14_1)) = false:=beq_eq_false_iff_ne.mpr c8
      have c8b1:((rd l0 x14_1) != (rd l1 x14_1)) = true:=bne_iff_ne.mpr c8
      obtain rfl:=Option.some.inj H
      have p720:0≤(x14_1:Int):=oB_ qe_
      have q720:x14_1 < (l0.length:Int):=oB_ qe_
      obtain ⟨ad720,e720,hx720_0⟩:=Kd.at_int HR0.out x14_1 p720 q720
      cases e720
      replace p720:=eq_true p720
      replace q720:=eq_true q720
      have p721:0≤(x14_1:Int):=oB_ qe_
      have q721:x14_1 < (l1.length:Int):=oB_ qe_
      obtain ⟨ad721,e721,hx721_0⟩:=Kd.at_int HR1.out x14_1 p721 q721
      cases e721
      replace p721:=eq_true p721
      replace q721:=eq_true q721
      go_wp2
      go_ret
      exact ⟨qc_,by repeat (first | exact Drawn0.refl _ | apply Drawn0.step)⟩
    ·rw [if_neg c4] at H
     have c4b0:=oD_ c4
     clear c4
     obtain rfl:=Option.some.inj H
     go_wp2
     go_ret
     exact ⟨qc_,by repeat (first | exact Drawn0.refl _ | apply Drawn0.step)⟩
 ·rw [if_neg c3] at H
  have c3b0:((l0.length:Int) == (l1.length:Int)) = false:=beq_eq_false_iff_ne.mpr c3
  have c3b1:((l0.length:Int) != (l1.length:Int)) = true:=bne_iff_ne.mpr c3
  have c3b2:(l0.length == l1.length) = false:=by first | simpa using c3 | (simp at c3 ⊢;omega)
  obtain rfl:=Option.some.inj H
  go_enter Try.func148,Try.ntmps148
  go_wp2
  go_ret
  exact ⟨qc_,by repeat (first | exact Drawn0.refl _ | apply Drawn0.step)⟩
def Z60.l0:Nat→List Int→List Int→Int→Int→Option (Bool)
 | 0,_,_,_,_=>none
 | k + 1,x1,x7,x8,x9=>if x9 < x8 then (if 0≤x9 then (if x9 < (x7.length:Int) then (if x9 < (x1.length:Int) then (if (rd x7 x9) = (rd x1 x9) then (Z60.l0 k x1 x7 x8 (wrap64 (x9 + 1))) else (some (decide ((rd x7 x9) < (rd x1 x9))))) else (none)) else (none)) else (none)) else (some false)
def Z60.f (k:Nat) (l0:List Int) (l1:List Int):Option (Bool):=Z60.l0 k l1 l0 (l0.length:Int) 0
theorem Z60.mono_l:∀ k,(∀ y0 y1 y2 y3,LeO (Z60.l0 k y0 y1 y2 y3) (Z60.l0 (k + 1) y0 y1 y2 y3))
 | 0=>fun _ _ _ _ r h=>by simp [Z60.l0] at h
 | k + 1=>by
  have ih0:=Z60.mono_l k
  ·intro y0 y1 y2 y3
   unfold Z60.l0
   repeat' first|exact ih0 _ _ _ _|exact lo_|refine LeO.ite ?_ ?_|refine LeO.bind ?_ (fun _=>?_)
theorem Z60.mono:∀ a0 a1 k,LeO (Z60.f k a0 a1) (Z60.f (k + 1) a0 a1):=by
 intro a0 a1 k
 have ih0:=Z60.mono_l k
 unfold Z60.f
 repeat' first|exact ih0 _ _ _ _|exact lo_|refine LeO.ite ?_ ?_|refine LeO.bind ?_ (fun _=>?_)
set_option maxHeartbeats 8000000 in
set_option maxRecDepth 100000 in
theorem Z60.calls (k:Nat) (A0:Option Addr) (c0:Nat) (l0:List Int) (A1:Option Addr) (c1:Nat) (l1:List Int) (r:Bool) (w:World) (hr0:Kd.C (Kd.int .i64) w A0 l0.length l0) (hc0:l0.length≤c0) (hr1:Kd.C (Kd.int .i64) w A1 l1.length l1) (hc1:l1.length≤c1) (h:Z60.f k l0 l1 = some r) :
  Calls Try.prog 151 #[.slice A0 l0.length c0,.slice A1 l1.length c1] w fun e w'=>e = .returned (.bool r)∧Drawn0 w w':=by
 have HR0:=A_ hr0
 have HC0:=A_ hc0
 clear hr0 hc0
 have HR1:=A_ hr1
 have HC1:=A_ hc1
 clear hr1 hc1
 have H:=h
 unfold Z60.f at H
 clear h
 have H':=A_ H
 clear H
 go_enter Try.func151,Try.ntmps151
 go_wp2
 go_loopg [9] k (fun kq v9 w'=>∃ (x9_1:Int),v9 = .int .i64 x9_1∧Aside0 (Z60.l0 kq l1 l0 (l0.length:Int) x9_1 = some r)∧Aside0 (kq≤k)∧Drawn0 w w')
 case atStart=>exact ⟨(0),qc_,H',⟨nA_ _⟩,by repeat (first | exact Drawn0.refl _ | apply Drawn0.step)⟩
 case round =>
  clear H'
  obtain ⟨x9_1,rfl,HA,HK1,⟨m1,rfl⟩⟩:=hrel
  cases gk with
  | zero=>exact absurd HA.out (by simp [Z60.l0])
  | succ k1 =>
   have H:=HA.out
   clear HA
   simp only [Z60.l0] at H
   by_cases c3:x9_1 < (l0.length:Int)
   ·rw [if_pos c3] at H
    have c3b0:=oC_ c3
    clear c3
    replace H:=cx_ H;obtain ⟨c4b0,H⟩:=H
    replace H:=cx_ H;obtain ⟨c5b0,H⟩:=H
    replace H:=cx_ H;obtain ⟨c6b0,H⟩:=H
    by_cases c7:(rd l0 x9_1) = (rd l1 x9_1)
    ·rw [if_pos c7] at H
     have c7b0:((rd l0 x9_1) == (rd l1 x9_1)) = true:=beq_iff_eq.mpr c7
     have c7b1:((rd l0 x9_1) != (rd l1 x9_1)) = false:=bne_eq_false_iff_eq.mpr c7
     clear c7
     have H':=A_ H
     clear H
     have p757:0≤(x9_1:Int):=oB_ qe_
     have q757:x9_1 < (l0.length:Int):=oB_ qe_
     obtain ⟨ad757,e757,hx757_0⟩:=Kd.at_int HR0.out x9_1 p757 q757
     cases e757
     replace p757:=eq_true p757
     replace q757:=eq_true q757
     have p758:0≤(x9_1:Int):=oB_ qe_
     have q758:x9_1 < (l1.length:Int):=oB_ qe_
     obtain ⟨ad758,e758,hx758_0⟩:=Kd.at_int HR1.out x9_1 p758 q758
     cases e758
     replace p758:=eq_true p758
     replace q758:=eq_true q758
     go_wp2
     go_roundg k1
     case measure=>have:=HK1.out;omega
     case rel=>exact ⟨(wrap64 (x9_1 + 1)),qc_,H',⟨by have:=HK1.out;omega⟩,by repeat (first | exact Drawn0.refl _ | apply Drawn0.step)⟩
    ·rw [if_neg c7] at H
     have c7b0:((rd l0 x9_1) == (rd l1 x9_1)) = false:=beq_eq_false_iff_ne.mpr c7
     have c7b1:((rd l0 x9_1) != (rd l1 x9_1)) = true:=bne_iff_ne.mpr c7
     obtain rfl:=Option.some.inj H
     have p757:0≤(x9_1:Int):=oB_ qe_
     have q757:x9_1 < (l0.length:Int):=oB_ qe_
     obtain ⟨ad757,e757,hx757_0⟩:=Kd.at_int HR0.out x9_1 p757 q757
     cases e757
     replace p757:=eq_true p757
     replace q757:=eq_true q757
     have p758:0≤(x9_1:Int):=oB_ qe_
     have q758:x9_1 < (l1.length:Int):=oB_ qe_
     obtain ⟨ad758,e758,hx758_0⟩:=Kd.at_int HR1.out x9_1 p758 q758
     cases e758
     replace p758:=eq_true p758
     replace q758:=eq_true q758
     have p759:0≤(x9_1:Int):=oB_ qe_
     have q759:x9_1 < (l1.length:Int):=oB_ qe_
     obtain ⟨ad759,e759,hx759_0⟩:=Kd.at_int HR1.out x9_1 p759 q759
     obtain rfl:ad758 = ad759:=(by injection e759)
     replace p759:=eq_true p759
     replace q759:=eq_true q759
     go_wp2
     go_ret
     exact ⟨qc_,by repeat (first | exact Drawn0.refl _ | apply Drawn0.step)⟩
   ·rw [if_neg c3] at H
    have c3b0:=oD_ c3
    clear c3
    obtain rfl:=Option.some.inj H
    go_wp2
    go_ret
    exact ⟨qc_,by repeat (first | exact Drawn0.refl _ | apply Drawn0.step)⟩
def Z33.f (k:Nat) (l0_0:List Int) (l0_1:List Int) (l1_0:List Int) (l1_1:List Int):Option (Bool):=(Z43.f k l0_0 l1_0).bind fun t762=>(if t762 = true then ((Z60.f k l0_1 l1_1).bind fun t763=>(some t763)) else ((Z60.f k l0_0 l1_0).bind fun t764=>(some t764)))
theorem Z33.mono:∀ a0 a1 a2 a3 k,LeO (Z33.f k a0 a1 a2 a3) (Z33.f (k + 1) a0 a1 a2 a3):=by
 intro a0 a1 a2 a3 k
 unfold Z33.f
 repeat' first|exact Z43.mono _ _ _|exact Z60.mono _ _ _|exact lo_|refine LeO.ite ?_ ?_|refine LeO.bind ?_ (fun _=>?_)
set_option maxHeartbeats 8000000 in
set_option maxRecDepth 100000 in
theorem Z33.calls (k:Nat) (A0_0:Option Addr) (c0_0:Nat) (l0_0:List Int) (A0_1:Option Addr) (c0_1:Nat) (l0_1:List Int) (A1_0:Option Addr) (c1_0:Nat) (l1_0:List Int) (A1_1:Option Addr) (c1_1:Nat) (l1_1:List Int) (r:Bool) (w:World) (hr0_0:Kd.C (Kd.int .i64) w A0_0 l0_0.length l0_0) (hc0_0:l0_0.length≤c0_0) (hr0_1:Kd.C (Kd.int .i64) w A0_1 l0_1.length l0_1) (hc0_1:l0_1.length≤c0_1) (hr1_0:Kd.C (Kd.int .i64) w A1_0 l1_0.length l1_0) (hc1_0:l1_0.length≤c1_0) (hr1_1:Kd.C (Kd.int .i64) w A1_1 l1_1.length l1_1) (hc1_1:l1_1.length≤c1_1) (h:Z33.f k l0_0 l0_1 l1_0 l1_1 = some r) :
  Calls Try.prog 121 #[.agg #[.slice A0_0 l0_0.length c0_0,.slice A0_1 l0_1.length c0_1],.agg #[.slice A1_0 l1_0.length c1_0,.slice A1_1 l1_1.length c1_1]] w fun e w'=>e = .returned (.bool r)∧Below w.heap.size w w':=by
 have hu25:=Try.underlying25
 have HR0_0:=A_ hr0_0
 have HC0_0:=A_ hc0_0
 clear hr0_0 hc0_0
 have HR0_1:=A_ hr0_1
 have HC0_1:=A_ hc0_1
 clear hr0_1 hc0_1
 have HR1_0:=A_ hr1_0
 have HC1_0:=A_ hc1_0
 clear hr1_0 hc1_0
 have HR1_1:=A_ hr1_1
 have HC1_1:=A_ hc1_1
 clear hr1_1 hc1_1
 have HB:=A_ (Below.refl w.heap.size w)
 have H:=h
 unfold Z33.f at H
 clear h
 obtain ⟨t762,A3,H⟩:=bi_ H
 by_cases c4:t762 = true
 ·subst c4
  rw [if_pos rfl] at H
  obtain ⟨t763,A5,H⟩:=bi_ H
  obtain rfl:=Option.some.inj H
  go_enter Try.func121,Try.ntmps121
  go_wp2_with (first | ((with_reducible refine gB_ (N:=2) rfl ?_);refine bx_ 2 #[.slice A0_0 l0_0.length c0_0,.slice A0_1 l0_1.length c0_1] 25 ?_;intro gb760 hg w6 hbox hb;have BK760:=A_ hbox;have GW760:=gw_ w hg;have GE760:=GW760;replace HB:=b1_ hb;clear hb hbox hg) | ((with_reducible refine gB_ (N:=3) rfl ?_);refine bx_ 3 #[.slice A1_0 l1_0.length c1_0,.slice A1_1 l1_1.length c1_1] 25 ?_;intro gb761 hg w7 hbox hb;have BK761:=A_ hbox;have GW761:=gw_ w hg;have GE761:=GW761;replace HB:=b1_ hb;have NB760_761:=gN_ BK760 hg;have NB761_760:=gP_ BK760 hg;replace BK760:=bb_ BK760 hb;clear hb hbox hg;have hnb8:=NB760_761.out;have hnc8:=NB761_760.out;obtain ⟨hcz9_0,hcz9_1,hfz9_0,hfz9_1⟩:=c2_ BK760;obtain ⟨hcz10_0,hcz10_1,hfz10_0,hfz10_1⟩:=c2_ BK761) | ((with_reducible refine gA_ (f:=148) rfl ?_);refine gL_ (some 9) Try.func148 #[.slice A0_0 l0_0.length c0_0,.slice A1_0 l1_0.length c1_0] rfl qa_ ?_;(with_reducible refine (Z43.calls k _ _ l0_0 _ _ l1_0 true _ (cb_ HR0_0) HC0_0.out (cb_ HR1_0) HC1_0.out A3.out).mono ?_);rintro e w' ⟨rfl,⟨nd,rfl⟩⟩;refine ⟨_,rfl,?_⟩) | ((with_reducible refine gA_ (f:=151) rfl ?_);refine gL_ (some 14) Try.func151 #[.slice A0_1 l0_1.length c0_1,.slice A1_1 l1_1.length c1_1] rfl qa_ ?_;(with_reducible refine (Z60.calls k _ _ l0_1 _ _ l1_1 t763 _ (cw_ (cD_ HR0_1.out hB_)) HC0_1.out (cw_ (cD_ HR1_1.out hB_)) HC1_1.out A5.out).mono ?_);rintro e w' ⟨rfl,⟨nd,rfl⟩⟩;refine ⟨_,rfl,?_⟩))
  go_ret
  exact ⟨qb_,hB_⟩
 ·replace c4:=Bool.eq_false_iff.mpr c4
  subst c4
  have H1:((Z60.f k l0_0 l1_0).bind fun t764=>(some t764)) = some r:=by rw [if_neg (show ¬ (false = true) by decide)] at H;exact H
  clear H
  have H:=H1
  clear H1
  obtain ⟨t764,A11,H⟩:=bi_ H
  obtain rfl:=Option.some.inj H
  go_enter Try.func121,Try.ntmps121
  go_wp2_with (first | ((with_reducible refine gB_ (N:=2) rfl ?_);refine bx_ 2 #[.slice A0_0 l0_0.length c0_0,.slice A0_1 l0_1.length c0_1] 25 ?_;intro gb760 hg w12 hbox hb;have BK760:=A_ hbox;have GW760:=gw_ w hg;have GE760:=GW760;replace HB:=b1_ hb;clear hb hbox hg) | ((with_reducible refine gB_ (N:=3) rfl ?_);refine bx_ 3 #[.slice A1_0 l1_0.length c1_0,.slice A1_1 l1_1.length c1_1] 25 ?_;intro gb761 hg w13 hbox hb;have BK761:=A_ hbox;have GW761:=gw_ w hg;have GE761:=GW761;replace HB:=b1_ hb;have NB760_761:=gN_ BK760 hg;have NB761_760:=gP_ BK760 hg;replace BK760:=bb_ BK760 hb;clear hb hbox hg;have hnb14:=NB760_761.out;have hnc14:=NB761_760.out;obtain ⟨hcz15_0,hcz15_1,hfz15_0,hfz15_1⟩:=c2_ BK760;obtain ⟨hcz16_0,hcz16_1,hfz16_0,hfz16_1⟩:=c2_ BK761) | ((with_reducible refine gA_ (f:=148) rfl ?_);refine gL_ (some 9) Try.func148 #[.slice A0_0 l0_0.length c0_0,.slice A1_0 l1_0.length c1_0] rfl qa_ ?_;(with_reducible refine (Z43.calls k _ _ l0_0 _ _ l1_0 false _ (cb_ HR0_0) HC0_0.out (cb_ HR1_0) HC1_0.out A3.out).mono ?_);rintro e w' ⟨rfl,⟨nd,rfl⟩⟩;refine ⟨_,rfl,?_⟩) | ((with_reducible refine gA_ (f:=151) rfl ?_);refine gL_ (some 19) Try.func151 #[.slice A0_0 l0_0.length c0_0,.slice A1_0 l1_0.length c1_0] rfl qa_ ?_;(with_reducible refine (Z60.calls k _ _ l0_0 _ _ l1_0 t764 _ (cw_ (cD_ HR0_0.out hB_)) HC0_0.out (cw_ (cD_ HR1_0.out hB_)) HC1_0.out A11.out).mono ?_);rintro e w' ⟨rfl,⟨nd,rfl⟩⟩;refine ⟨_,rfl,?_⟩))
  go_ret
  exact ⟨qb_,hB_⟩
end Go.Proofs.Ytcggfjpnfodbaaa.A
end
