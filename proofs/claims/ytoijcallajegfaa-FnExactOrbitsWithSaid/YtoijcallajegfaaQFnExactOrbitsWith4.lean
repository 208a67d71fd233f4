/- Lemmas for the row FnExactOrbitsWith: the program's functions told as plain functions, and plain mathematics. No conditions. -/
import Derived.Test.YtoijcallajegfaaQFnExactOrbitsWith3
section
namespace Go.Proofs.Ytoijcallajegfaa.A
open Go.RowKit Go.Proofs.YtoijcallajegfaaW.PrintWords Go.Proofs.YtoijcallajegfaaW.PrintLast Go.Proofs.YtoijcallajegfaaW.PrintMore
attribute [local go_sem] max2_int min2_int max_two min_two max_three min_three max_four min_four
set_option linter.unusedVariables false
set_option linter.unusedSimpArgs false
mutual
def Z15.j0:Nat→Int→Bool→Option ((List (S33)))
 | 0,_,_=>none
 | k + 1,x0,x15=>if x15 = true then (some ([]:List (S33))) else ((Z48.f k x0).bind fun t268=>(Z15.l0 k x0 (([]:List (S33))) t268 (t268.length:Int) 0))
def Z15.l0:Nat→Int→List (S33)→List (List Int)→Int→Int→Option ((List (S33)))
 | 0,_,_,_,_,_=>none
 | k + 1,x0,x3,x18,x19,x20=>if x20 < x19 then (if 0≤x20 then (if x20 < (x18.length:Int) then ((Z48.f k x0).bind fun t275=>(Z15.l1 k x0 x3 (rd_L5 x18 x20) x18 x19 x20 t275 (t275.length:Int) 0)) else (none)) else (none)) else ((Z16.f x3).bind fun t271=>(some t271))
def Z15.l1:Nat→Int→List (S33)→List Int→List (List Int)→Int→Int→List (List Int)→Int→Int→Option ((List (S33)))
 | 0,_,_,_,_,_,_,_,_,_=>none
 | k + 1,x0,x3,x5,x18,x19,x20,x25,x26,x27=>if x27 < x26 then (if 0≤x27 then (if x27 < (x25.length:Int) then ((Z59.f k x5 (rd_L5 x25 x27)).bind fun bt279=>(if bt279.2.2 = true then (if x3.length < 2932031007402 then (Z15.l1 k x0 (x3 ++ [(⟨bt279.1,bt279.2.1⟩:S33)]) x5 x18 x19 x20 x25 x26 (wrap64 (x27 + 1))) else (none)) else (Z15.l1 k x0 x3 x5 x18 x19 x20 x25 x26 (wrap64 (x27 + 1))))) else (none)) else (none)) else (Z15.l0 k x0 x3 x18 x19 (wrap64 (x20 + 1)))
end
def Z15.f (k:Nat) (a0:Int):Option ((List (S33))):=if a0 < 1 then (Z15.j0 k a0 true) else (Z15.j0 k a0 (decide (a0 > 4)))
theorem Z15.mono_l:∀ k,(∀ y0 y1,LeO (Z15.j0 k y0 y1) (Z15.j0 (k + 1) y0 y1))∧(∀ y0 y1 y2 y3 y4,LeO (Z15.l0 k y0 y1 y2 y3 y4) (Z15.l0 (k + 1) y0 y1 y2 y3 y4))∧(∀ y0 y1 y2 y3 y4 y5 y6 y7 y8,LeO (Z15.l1 k y0 y1 y2 y3 y4 y5 y6 y7 y8) (Z15.l1 (k + 1) y0 y1 y2 y3 y4 y5 y6 y7 y8))
 | 0=>⟨fun _ _ r h=>by simp [Z15.j0] at h,fun _ _ _ _ _ r h=>by simp [Z15.l0] at h,fun _ _ _ _ _ _ _ _ _ r h=>by simp [Z15.l1] at h⟩
 | k + 1=>by
  obtain ⟨ih0,ih1,ih2⟩:=Z15.mono_l k
  refine ⟨?_,?_,?_⟩
  ·intro y0 y1
   unfold Z15.j0
   repeat' first|exact ih0 _ _|exact ih1 _ _ _ _ _|exact ih2 _ _ _ _ _ _ _ _ _|exact Z59.mono _ _ _|exact Z48.mono _ _|exact lo_|refine LeO.ite ?_ ?_|refine LeO.bind ?_ (fun _=>?_)
  ·intro y0 y1 y2 y3 y4
   unfold Z15.l0
   repeat' first|exact ih0 _ _|exact ih1 _ _ _ _ _|exact ih2 _ _ _ _ _ _ _ _ _|exact Z59.mono _ _ _|exact Z48.mono _ _|exact lo_|refine LeO.ite ?_ ?_|refine LeO.bind ?_ (fun _=>?_)
  ·intro y0 y1 y2 y3 y4 y5 y6 y7 y8
   unfold Z15.l1
   repeat' first|exact ih0 _ _|exact ih1 _ _ _ _ _|exact ih2 _ _ _ _ _ _ _ _ _|exact Z59.mono _ _ _|exact Z48.mono _ _|exact lo_|refine LeO.ite ?_ ?_|refine LeO.bind ?_ (fun _=>?_)
theorem Z15.mono:∀ a0 k,LeO (Z15.f k a0) (Z15.f (k + 1) a0):=by
 intro a0 k
 obtain ⟨ih0,ih1,ih2⟩:=Z15.mono_l k
 unfold Z15.f
 repeat' first|exact ih0 _ _|exact ih1 _ _ _ _ _|exact ih2 _ _ _ _ _ _ _ _ _|exact Z59.mono _ _ _|exact Z48.mono _ _|exact lo_|refine LeO.ite ?_ ?_|refine LeO.bind ?_ (fun _=>?_)
set_option maxHeartbeats 8000000 in
set_option maxRecDepth 100000 in
theorem Z15.calls (k:Nat) (a0:Int) (r:List (S33)) (w:World) (h:Z15.f k a0 = some r) :
  Calls Try.prog 12 #[.int .i64 a0] w fun e w'=>∃ v0_:Value,e = .returned (v0_)∧Kd.S k33 33 w' w.heap.size (fun _=>True) v0_ r∧Below w.heap.size w w':=by
 have hu33:=Try.underlying33
 have HB:=A_ (Below.refl w.heap.size w)
 have H:=h
 unfold Z15.f at H
 clear h
 have HC2:=A_ H
 clear H
 go_enter Try.func12,Try.ntmps12
 go_upto_region 1 with (fail)
 go_cut [15] (fun v15 wc=>∃ (kq:Nat) (x15_1:Bool),v15 = .bool x15_1∧Aside0 (Z15.j0 kq a0 x15_1 = some r)∧Aside0 (kq≤k)∧Aside0 (Below w.heap.size w wc))
 case first =>
  have H:=HC2.out
  clear HC2
  by_cases c3:a0 < 1
  ·rw [if_pos c3] at H
   have c3b0:=oC_ c3
   clear c3
   (first | rw [c3b0] | (simp only [i64_w,i32_w];rw [c3b0]) | skip)
   have H':=A_ H
   clear H
   go_wp2
   go_meet
   case rel=>exact ⟨_,(true),qc_,H',⟨qd_⟩,⟨hB_⟩⟩
  ·rw [if_neg c3] at H
   have c3b0:=oD_ c3
   clear c3
   (first | rw [c3b0] | (simp only [i64_w,i32_w];rw [c3b0]) | skip)
   have H':=A_ H
   clear H
   go_wp2
   go_meet
   case rel=>exact ⟨_,(decide (a0 > 4)),qc_,H',⟨qd_⟩,⟨hB_⟩⟩
 case rest =>
  clear HC2
  obtain ⟨kq,x15_1,rfl,HA,HJ1,HB⟩:=hcut
  cases kq with
  | zero=>exact absurd HA.out (by simp [Z15.j0])
  | succ kj1 =>
   have H:=HA.out
   clear HA
   simp only [Z15.j0] at H
   by_cases c4:x15_1 = true
   ·subst c4
    rw [if_pos rfl] at H
    obtain rfl:=Option.some.inj H
    go_wp2
    go_ret
    exact ⟨_,qb_,by first | exact Kd.S_nil _ _ _ _ _ | exact Kd.N_nil _ _ _ _ _ | exact Kd.V_nil _ _ _ _ _ | exact Kd.Q_nil _ _ _ _ _ | exact Kd.R_nil _ _ _ _ _,hB_⟩
   ·replace c4:=Bool.eq_false_iff.mpr c4
    subst c4
    have H1:((Z48.f kj1 a0).bind fun t268=>(Z15.l0 kj1 a0 (([]:List (S33))) t268 (t268.length:Int) 0)) = some r:=by rw [if_neg (show ¬ (false = true) by decide)] at H;exact H
    clear H
    have H:=H1
    clear H1
    obtain ⟨y265,hy265⟩:∃ y_:List (S33),y_ = (([]:List (S33))):=⟨_,rfl⟩
    replace H:((Z48.f kj1 a0).bind fun t268=>(Z15.l0 kj1 a0 y265 t268 (t268.length:Int) 0)) = some r:=by first | (rw [hy265];exact H) | exact H
    have Ny265:=A_ hy265
    clear hy265
    obtain ⟨t268,A5,H⟩:=bi_ H
    have H':=A_ H
    clear H
    go_wp2_with (first | ((with_reducible refine gB_ (N:=16) rfl ?_);refine Kd.S_lit k33 _ 33 ?hg (N:=16) ?hd (xs:=([]:List (S33))) (inner:=[]) (ok:=(fun k_=>(w.heap.size≤k_))) (okp:=(fun k_=>(w.heap.size≤k_))) ?hr ?hp (fun _ hk=>hk) ((show ∀ k_,wc.heap.size≤k_→(fun k_=>(w.heap.size≤k_)) k_ from fun k_ hk=>(Nat.le_trans (bF_ hB_) hk)) _ (nA_ _)) (Below.refl _ _) (nA_ _) (by simp) ?_;(case hd=>rfl);(case hg=>rfl);(case hr=>first | (go_simp;done) | (go_simp;rfl));(case hp=>exact (Reps.none _ _));intro v266 w6 ho7 hb hg_ hnew_;clear hg_ hnew_;(first | rw [← Ny265.out] at ho7 | (simp only [Int.reduceToNat] at ho7;rw [← Ny265.out] at ho7));have HO267:=A_ (Kd.S_lower ho7 (bF_ hB_));replace HB:=b1_ hb;clear hb ho7) | ((with_reducible refine gA_ (f:=50) rfl ?_);refine gL_ (some 18) Try.func50 #[.int .i64 a0] rfl qa_ ?_;(with_reducible refine (Z48.calls kj1 a0 t268 _ A5.out).mono ?_);rintro e w8 ⟨v269,rfl,ho0,hb⟩;refine ⟨_,rfl,?_⟩;have HO270:=A_ (Kd.N_lower (Kd.N_mono (ok':=fun k_=>(w.heap.size≤k_)∧some k_≠(v266:Value).ownBlock) ho0 (fun k_ hk_=>⟨(Nat.le_trans (bF_ hB_) hk_),(Kd.fresh' (Kd.S_lt (ss_ HO267)) k_ hk_)⟩)) (bF_ hB_));replace HO267:=A_ (Kd.S_elder' (ss_ HO267) (Kd.N_base ho0) hb);replace HB:=b1_ hb;clear hb ho0;obtain ⟨Ao9,co9,eo9⟩:=Kd.N_slice HO270.out;subst eo9))
    go_loopg [3,20] kj1 (fun kq v3 v20 w'=>∃ (x3_2:List (S33)) (x20_2:Int),v20 = .int .i64 x20_2∧Aside0 (Z15.l0 kq a0 x3_2 t268 (t268.length:Int) x20_2 = some r)∧Aside0 (kq≤kj1)∧Aside0 (Kd.S k33 33 w' w.heap.size (fun k_=>(w.heap.size≤k_)∧some k_≠((.slice Ao9 t268.length co9):Value).ownBlock) v3 x3_2)∧Aside0 (Kd.N (Kd.slice 3 (Kd.int .i64)) 23 w' w.heap.size (fun k_=>(w.heap.size≤k_)∧some k_≠(v3:Value).ownBlock) (.slice Ao9 t268.length co9) t268)∧Aside0 (Below w.heap.size w w'))
    case atStart=>exact ⟨(y265),(0),qc_,H',⟨nA_ _⟩,⟨(ss_ HO267)⟩,⟨by (with_reducible repeat (first | apply Kd.N_alloc | apply Kd.N_drewN | apply Kd.N_drew));exact HO270.out⟩,⟨hB_⟩⟩
    case round =>
     clear H'
     obtain ⟨x3_2,x20_2,rfl,HA,HK2,HO_3,HO_18,HB⟩:=hrel
     cases gk with
     | zero=>exact absurd HA.out (by simp [Z15.l0])
     | succ k2 =>
      have H:=HA.out
      clear HA
      simp only [Z15.l0] at H
      by_cases c10:x20_2 < (t268.length:Int)
      ·rw [if_pos c10] at H
       have c10b0:=oC_ c10
       clear c10
       replace H:=cx_ H;obtain ⟨c11b0,H⟩:=H
       replace H:=cx_ H;obtain ⟨c12b0,H⟩:=H
       obtain ⟨t275,A13,H⟩:=bi_ H
       have H':=A_ H
       clear H
       have p274:0≤(x20_2:Int):=oB_ qe_
       have q274:x20_2 < (t268.length:Int):=oB_ qe_
       obtain ⟨ad274,A274_0,c274_0,e274,hx274_0,hl274_0,hi274_0⟩:=at_L5 (Kd.N_reads' HO_18.out).2.2 x20_2 p274 q274
       cases e274
       obtain ⟨ce274,hce274,hMe274,hcc274⟩:=Kd.N_get HO_18.out [] x20_2 p274 (by first | exact q274 | exact oB_ qe_ | (have e_:=(Kd.N_reads' HO_18.out).1;omega))
       obtain ⟨ua274_0,uc274_0,rfl,ul274_0,ge274_0⟩:=Kd.FK_slice_open hMe274
       have hv274_0:=hcc274 0 _ rfl
       rw [Nat.add_zero,show ((Kd.slice 3 (Kd.int .i64))).sz = 1 from rfl,Nat.mul_one] at hv274_0
       replace hv274_0:=Option.some.inj (hv274_0.symm.trans hx274_0)
       injection hv274_0 with hva_ hvn_ hvc_
       rw [hva_] at ge274_0
       rw [hvc_] at ul274_0
       have HL274_0:=A_ (show Kd.V (Kd.int .i64) 3 _ w.heap.size _ _ (rd_L5 t268 x20_2) from Kd.V_mk ul274_0 ge274_0)
       clear hva_ hvn_ hvc_ ge274_0 ul274_0
       clear hcc274 hce274
       have HR274_0:=A_ hi274_0
       have HC274_0:=A_ hl274_0
       clear hi274_0 hl274_0
       replace p274:=eq_true p274
       replace q274:=eq_true q274
       go_wp2_with (first | ((with_reducible refine gA_ (f:=50) rfl ?_);refine gL_ (some 25) Try.func50 #[.int .i64 a0] rfl qa_ ?_;(with_reducible refine (Z48.calls k2 a0 t275 _ A13.out).mono ?_);rintro e w14 ⟨v276,rfl,ho0,hb⟩;refine ⟨_,rfl,?_⟩;replace HL274_0:=A_ (Kd.V_elder' (by (with_reducible repeat (first | apply Kd.V_alloc | apply Kd.V_drewN | apply Kd.V_drew));exact HL274_0.out) (Kd.N_base ho0) hb);have HO277:=A_ (Kd.N_lower (Kd.N_mono (ok':=fun k_=>(w.heap.size≤k_)∧some k_≠(u3:Value).ownBlock∧some k_≠(.slice (some ad274) t268.length co9:Value).ownBlock) ho0 (fun k_ hk_=>⟨(Nat.le_trans (bF_ hB_) hk_),(Kd.fresh' (Kd.S_lt (ss_ HO_3)) k_ hk_),(Kd.fresh' (Kd.N_lt (by (with_reducible repeat (first | apply Kd.N_alloc | apply Kd.N_drewN | apply Kd.N_drew));exact HO_18.out)) k_ hk_)⟩)) (bF_ hB_));replace HO_3:=A_ (Kd.S_elder' (ss_ HO_3) (Kd.N_base ho0) hb);replace HO_18:=A_ (Kd.N_elder' (by (with_reducible repeat (first | apply Kd.N_alloc | apply Kd.N_drewN | apply Kd.N_drew));exact HO_18.out) (Kd.N_base ho0) hb);replace HR274_0:=A_ (cD_ (by repeat (first | (with_reducible exact HR274_0.out) | (with_reducible refine cA_ ?_ _) | (with_reducible refine cB_ ?_ _) | (with_reducible refine cC_ ?_) | exact HR274_0.out)) hb);replace HB:=b1_ hb;clear hb ho0;obtain ⟨Ao15,co15,eo15⟩:=Kd.N_slice HO277.out;subst eo15))
       go_loopg [3,27] k2 (fun kq v3 v27 w'=>∃ (x3_3:List (S33)) (x27_3:Int),v27 = .int .i64 x27_3∧Aside0 (Z15.l1 kq a0 x3_3 (rd_L5 t268 x20_2) t268 (t268.length:Int) x20_2 t275 (t275.length:Int) x27_3 = some r)∧Aside0 (kq≤k2)∧Aside0 (Kd.S k33 33 w' w.heap.size (fun k_=>(w.heap.size≤k_)∧some k_≠((.slice (some ad274) t268.length co9):Value).ownBlock∧some k_≠((.slice Ao15 t275.length co15):Value).ownBlock) v3 x3_3)∧Aside0 (Kd.V (Kd.int .i64) 3 w' w.heap.size (fun k_=>(w.heap.size≤k_)∧some k_≠(v3:Value).ownBlock∧some k_≠((.slice (some ad274) t268.length co9):Value).ownBlock∧some k_≠((.slice Ao15 t275.length co15):Value).ownBlock) (.slice A274_0 (rd_L5 t268 x20_2).length c274_0) (rd_L5 t268 x20_2))∧Aside0 (Kd.N (Kd.slice 3 (Kd.int .i64)) 23 w' w.heap.size (fun k_=>(w.heap.size≤k_)∧some k_≠(v3:Value).ownBlock∧some k_≠((.slice Ao15 t275.length co15):Value).ownBlock) (.slice (some ad274) t268.length co9) t268)∧Aside0 (Kd.N (Kd.slice 3 (Kd.int .i64)) 23 w' w.heap.size (fun k_=>(w.heap.size≤k_)∧some k_≠(v3:Value).ownBlock∧some k_≠((.slice (some ad274) t268.length co9):Value).ownBlock) (.slice Ao15 t275.length co15) t275)∧Aside0 (Below w.heap.size w w'))
       case atStart=>exact ⟨(x3_2),(0),qc_,H',⟨nA_ _⟩,⟨(sw_ (Kd.S_mono HO_3.out (fun _ hk=>⟨hk.1.1,⟨hk.1.2,hk.2⟩⟩)))⟩,⟨by (with_reducible repeat (first | apply Kd.V_alloc | apply Kd.V_drewN | apply Kd.V_drew));exact Kd.V_mono HL274_0.out (fun _ hk=>⟨hk.1.1.1,⟨hk.1.1.2,⟨hk.1.2,hk.2⟩⟩⟩)⟩,⟨by (with_reducible repeat (first | apply Kd.N_alloc | apply Kd.N_drewN | apply Kd.N_drew));exact Kd.N_mono HO_18.out (fun _ hk=>⟨hk.1.1,⟨hk.1.2,hk.2⟩⟩)⟩,⟨by (with_reducible repeat (first | apply Kd.N_alloc | apply Kd.N_drewN | apply Kd.N_drew));exact HO277.out⟩,⟨hB_⟩⟩
       case round =>
        clear H'
        obtain ⟨x3_3,x27_3,rfl,HA,HK3,HO_3,HO_5,HO_18,HO_25,HB⟩:=hrel
        cases gk with
        | zero=>exact absurd HA.out (by simp [Z15.l1])
        | succ k3 =>
         have H:=HA.out
         clear HA
         simp only [Z15.l1] at H
         by_cases c16:x27_3 < (t275.length:Int)
         ·rw [if_pos c16] at H
          have c16b0:=oC_ c16
          clear c16
          replace H:=cx_ H;obtain ⟨c17b0,H⟩:=H
          replace H:=cx_ H;obtain ⟨c18b0,H⟩:=H
          obtain ⟨⟨t279,t282,t285⟩,A19,H⟩:=bi_ H
          try dsimp only at H
          by_cases c20:t285 = true
          ·subst c20
           rw [if_pos rfl] at H
           have c21:=cp_ H
           replace H:=ca_ H
           have LMc21:=A_ c21
           clear c21
           obtain ⟨y287,hy287⟩:∃ y_:List (S33),y_ = (x3_3 ++ [(⟨t279,t282⟩:S33)]):=⟨_,rfl⟩
           replace H:(Z15.l1 k3 a0 y287 (rd_L5 t268 x20_2) t268 (t268.length:Int) x20_2 t275 (t275.length:Int) (wrap64 (x27_3 + 1))) = some r:=by first | (rw [hy287];exact H) | exact H
           have Ny287:=A_ hy287
           clear hy287
           have H':=A_ H
           clear H
           have p278:0≤(x27_3:Int):=oB_ qe_
           have q278:x27_3 < (t275.length:Int):=oB_ qe_
           obtain ⟨ad278,A278_0,c278_0,e278,hx278_0,hl278_0,hi278_0⟩:=at_L5 (Kd.N_reads' HO_25.out).2.2 x27_3 p278 q278
           cases e278
           obtain ⟨ce278,hce278,hMe278,hcc278⟩:=Kd.N_get HO_25.out [] x27_3 p278 (by first | exact q278 | exact oB_ qe_ | (have e_:=(Kd.N_reads' HO_25.out).1;omega))
           obtain ⟨ua278_0,uc278_0,rfl,ul278_0,ge278_0⟩:=Kd.FK_slice_open hMe278
           have hv278_0:=hcc278 0 _ rfl
           rw [Nat.add_zero,show ((Kd.slice 3 (Kd.int .i64))).sz = 1 from rfl,Nat.mul_one] at hv278_0
           replace hv278_0:=Option.some.inj (hv278_0.symm.trans hx278_0)
           injection hv278_0 with hva_ hvn_ hvc_
           rw [hva_] at ge278_0
           rw [hvc_] at ul278_0
           have HL278_0:=A_ (show Kd.V (Kd.int .i64) 3 _ w.heap.size _ _ (rd_L5 t275 x27_3) from Kd.V_mk ul278_0 ge278_0)
           clear hva_ hvn_ hvc_ ge278_0 ul278_0
           clear hcc278 hce278
           have HR278_0:=A_ hi278_0
           have HC278_0:=A_ hl278_0
           clear hi278_0 hl278_0
           replace p278:=eq_true p278
           replace q278:=eq_true q278
           go_wp2_with (first | ((with_reducible refine gA_ (f:=17) rfl ?_);refine gL_ (some 35) Try.func17 #[.agg #[.slice A274_0 (rd_L5 t268 x20_2).length c274_0,.slice A278_0 (rd_L5 t275 x27_3).length c278_0]] rfl qa_ ?_;(with_reducible refine (Z59.calls k3 _ _ (rd_L5 t268 x20_2) _ _ (rd_L5 t275 x27_3) t279 t282 true _ ?side1 ?side2 ?side3 ?side4 A19.out).mono ?_);(case side1=>exact cw_ ((Kd.V_reads' HO_5.out).2.2));(case side2=>exact (Kd.V_reads' HO_5.out).2.1);(case side3=>repeat (first | exact (by repeat (first | (with_reducible exact HR278_0.out) | (with_reducible refine cA_ ?_ _) | (with_reducible refine cB_ ?_ _) | (with_reducible refine cC_ ?_) | exact HR278_0.out)) | (with_reducible first | refine cA_ ?_ _ | refine cB_ ?_ _ | refine cC_ ?_)));(case side4=>exact HC278_0.out);rintro e w22 ⟨v280,v283,rfl,ho0,ho1,hb⟩;refine ⟨_,rfl,?_⟩;replace HO_3:=A_ (Kd.S_mono (Kd.S_told (Kd.S_told (Kd.S_old (ss_ HO_3) hb) (Kd.R_base ho0)) (Kd.R_base ho1)) (fun _ h_=>h_.1));replace HO_5:=A_ (Kd.V_mono (Kd.V_told (Kd.V_told (Kd.V_old (by (with_reducible repeat (first | apply Kd.V_alloc | apply Kd.V_drewN | apply Kd.V_drew));exact HO_5.out) hb) (Kd.R_base ho0)) (Kd.R_base ho1)) (fun _ h_=>h_.1));replace HO_18:=A_ (Kd.N_mono (Kd.N_told (Kd.N_told (Kd.N_old (by (with_reducible repeat (first | apply Kd.N_alloc | apply Kd.N_drewN | apply Kd.N_drew));exact HO_18.out) hb) (Kd.R_base ho0)) (Kd.R_base ho1)) (fun _ h_=>h_.1));replace HO_25:=A_ (Kd.N_mono (Kd.N_told (Kd.N_told (Kd.N_old (by (with_reducible repeat (first | apply Kd.N_alloc | apply Kd.N_drewN | apply Kd.N_drew));exact HO_25.out) hb) (Kd.R_base ho0)) (Kd.R_base ho1)) (fun _ h_=>h_.1));replace HL278_0:=A_ (Kd.V_mono (Kd.V_told (Kd.V_told (Kd.V_old (by (with_reducible repeat (first | apply Kd.V_alloc | apply Kd.V_drewN | apply Kd.V_drew));exact HL278_0.out) hb) (Kd.R_base ho0)) (Kd.R_base ho1)) (fun _ h_=>h_.1));have HO281:=A_ (rE_ (Kd.R_newM (M:=fun k_=>(w.heap.size≤k_)) ho0 (bF_ hB_) (fun k_ h_=>h_)) (bF_ hB_));have HO284:=A_ (rE_ (Kd.R_newM (M:=fun k_=>(w.heap.size≤k_)) ho1 (bF_ hB_) (fun k_ h_=>h_)) (bF_ hB_));replace HR278_0:=A_ (cD_ (by repeat (first | (with_reducible exact HR278_0.out) | (with_reducible refine cA_ ?_ _) | (with_reducible refine cB_ ?_ _) | (with_reducible refine cC_ ?_) | exact HR278_0.out)) hb);replace HB:=b1_ hb;clear hb ho0 ho1) | ((with_reducible refine gB_ (N:=8) rfl ?_);refine bx_ 8 #[.slice none 0 0,.slice none 0 0] 33 ?_;intro gb286 hg w23 hbox hb;replace HO_3:=A_ (Kd.S_below (Kd.S_elderB (ss_ HO_3) gb286 (Nat.le_of_eq hg.symm)) hb);replace HO_5:=A_ (Kd.V_below (Kd.V_elderB (by (with_reducible repeat (first | apply Kd.V_alloc | apply Kd.V_drewN | apply Kd.V_drew));exact HO_5.out) gb286 (Nat.le_of_eq hg.symm)) hb);replace HO_18:=A_ (Kd.N_below (Kd.N_elderB (by (with_reducible repeat (first | apply Kd.N_alloc | apply Kd.N_drewN | apply Kd.N_drew));exact HO_18.out) gb286 (Nat.le_of_eq hg.symm)) hb);replace HO_25:=A_ (Kd.N_below (Kd.N_elderB (by (with_reducible repeat (first | apply Kd.N_alloc | apply Kd.N_drewN | apply Kd.N_drew));exact HO_25.out) gb286 (Nat.le_of_eq hg.symm)) hb);replace HL278_0:=A_ (Kd.V_below (Kd.V_elderB (by (with_reducible repeat (first | apply Kd.V_alloc | apply Kd.V_drewN | apply Kd.V_drew));exact HL278_0.out) gb286 (Nat.le_of_eq hg.symm)) hb);replace HO281:=rb_ HO281 hb;replace HO284:=rb_ HO284 hb;replace HR278_0:=A_ (cD_ (by repeat (first | (with_reducible exact HR278_0.out) | (with_reducible refine cA_ ?_ _) | (with_reducible refine cB_ ?_ _) | (with_reducible refine cC_ ?_) | exact HR278_0.out)) hb);have BK286:=A_ hbox;have GW286:=gw_ w hg;have GE286:=GW286;replace HB:=b1_ hb;clear hb hbox hg;obtain ⟨Ao24,co24,eo24⟩:=Kd.R_slice HO281.out;subst eo24;obtain ⟨hcz25_0,hcz25_1,hfz25_0,hfz25_1⟩:=c2_ BK286;obtain ⟨Ao26,co26,eo26⟩:=Kd.R_slice HO284.out;subst eo26) | ((with_reducible refine gate_store (t:=33) (p:=8) rfl ?_);refine store_event (t:=33) (p:=8) (v:=?vo_w27) (w1:=((w23.setCell ⟨gb286,0,none⟩ (.slice Ao24 t279.length co24)).setCell ⟨gb286,1,none⟩ (.slice Ao26 t282.length co26))) ?hg ?ho ?hn ?hr ?_;(case ho=>rfl);(case hg=>rfl);(case hn=>rfl);(case hr=>first | (go_simp;done) | (go_simp;rfl));intro w27 hw;have n0_:Aside0 (Kd.S k33 33 w27 w.heap.size (fun k_=>(w.heap.size≤k_)∧some k_≠(.slice (some ad274) t268.length co9:Value).ownBlock∧some k_≠(.slice (some ad278) t275.length co15:Value).ownBlock∧some k_≠(.slice Ao24 t279.length co24:Value).ownBlock∧some k_≠(.slice Ao26 t282.length co26:Value).ownBlock∧k_≠gb286) u3 x3_3):=⟨(by rw [hw];exact (sw_ (Kd.S_mono (Kd.S_far (p:=⟨gb286,1,none⟩) (Kd.S_far (p:=⟨gb286,0,none⟩) (Kd.S_mono HO_3.out (fun k_ hk=>(⟨hk,hk.2⟩:_∧k_≠gb286))) (fun _ hk=>hk.2) (.slice Ao24 t279.length co24)) (fun _ hk=>hk.2) (.slice Ao26 t282.length co26)) (fun _ hk=>⟨hk.1.1.1.1.1,⟨hk.1.1.1.1.2.1,⟨hk.1.1.1.1.2.2,⟨hk.1.1.1.2,⟨hk.1.1.2,hk.1.2⟩⟩⟩⟩⟩))))⟩;have n1_:Aside0 (Kd.V (Kd.int .i64) 3 w27 w.heap.size (fun k_=>(w.heap.size≤k_)∧some k_≠(u3:Value).ownBlock∧some k_≠(.slice (some ad274) t268.length co9:Value).ownBlock∧some k_≠(.slice (some ad278) t275.length co15:Value).ownBlock∧some k_≠(.slice Ao24 t279.length co24:Value).ownBlock∧some k_≠(.slice Ao26 t282.length co26:Value).ownBlock∧k_≠gb286) (.slice A274_0 (rd_L5 t268 x20_2).length c274_0) (rd_L5 t268 x20_2)):=⟨(by rw [hw];exact (by (with_reducible repeat (first | apply Kd.V_alloc | apply Kd.V_drewN | apply Kd.V_drew));exact Kd.V_mono (Kd.V_far (p:=⟨gb286,1,none⟩) (Kd.V_far (p:=⟨gb286,0,none⟩) (Kd.V_mono HO_5.out (fun k_ hk=>(⟨hk,hk.2⟩:_∧k_≠gb286))) (fun _ hk=>hk.2) (.slice Ao24 t279.length co24)) (fun _ hk=>hk.2) (.slice Ao26 t282.length co26)) (fun _ hk=>⟨hk.1.1.1.1.1,⟨hk.1.1.1.1.2.1,⟨hk.1.1.1.1.2.2.1,⟨hk.1.1.1.1.2.2.2,⟨hk.1.1.1.2,⟨hk.1.1.2,hk.1.2⟩⟩⟩⟩⟩⟩)))⟩;have n2_:Aside0 (Kd.N (Kd.slice 3 (Kd.int .i64)) 23 w27 w.heap.size (fun k_=>(w.heap.size≤k_)∧some k_≠(u3:Value).ownBlock∧some k_≠(.slice (some ad278) t275.length co15:Value).ownBlock∧some k_≠(.slice Ao24 t279.length co24:Value).ownBlock∧some k_≠(.slice Ao26 t282.length co26:Value).ownBlock∧k_≠gb286) (.slice (some ad274) t268.length co9) t268):=⟨(by rw [hw];exact (by (with_reducible repeat (first | apply Kd.N_alloc | apply Kd.N_drewN | apply Kd.N_drew));exact Kd.N_mono (Kd.N_far (p:=⟨gb286,1,none⟩) (Kd.N_far (p:=⟨gb286,0,none⟩) (Kd.N_mono HO_18.out (fun k_ hk=>(⟨hk,hk.2⟩:_∧k_≠gb286))) (fun _ hk=>hk.2) (.slice Ao24 t279.length co24)) (fun _ hk=>hk.2) (.slice Ao26 t282.length co26)) (fun _ hk=>⟨hk.1.1.1.1.1,⟨hk.1.1.1.1.2.1,⟨hk.1.1.1.1.2.2,⟨hk.1.1.1.2,⟨hk.1.1.2,hk.1.2⟩⟩⟩⟩⟩)))⟩;have n3_:Aside0 (Kd.N (Kd.slice 3 (Kd.int .i64)) 23 w27 w.heap.size (fun k_=>(w.heap.size≤k_)∧some k_≠(u3:Value).ownBlock∧some k_≠(.slice (some ad274) t268.length co9:Value).ownBlock∧some k_≠(.slice Ao24 t279.length co24:Value).ownBlock∧some k_≠(.slice Ao26 t282.length co26:Value).ownBlock∧k_≠gb286) (.slice (some ad278) t275.length co15) t275):=⟨(by rw [hw];exact (by (with_reducible repeat (first | apply Kd.N_alloc | apply Kd.N_drewN | apply Kd.N_drew));exact Kd.N_mono (Kd.N_far (p:=⟨gb286,1,none⟩) (Kd.N_far (p:=⟨gb286,0,none⟩) (Kd.N_mono HO_25.out (fun k_ hk=>(⟨hk,hk.2⟩:_∧k_≠gb286))) (fun _ hk=>hk.2) (.slice Ao24 t279.length co24)) (fun _ hk=>hk.2) (.slice Ao26 t282.length co26)) (fun _ hk=>⟨hk.1.1.1.1.1,⟨hk.1.1.1.1.2.1,⟨hk.1.1.1.1.2.2,⟨hk.1.1.1.2,⟨hk.1.1.2,hk.1.2⟩⟩⟩⟩⟩)))⟩;have n4_:Aside0 (Kd.V (Kd.int .i64) 3 w27 w.heap.size (fun k_=>(w.heap.size≤k_)∧some k_≠(u3:Value).ownBlock∧some k_≠(.slice (some ad274) t268.length co9:Value).ownBlock∧some k_≠(.slice (some ad278) t275.length co15:Value).ownBlock∧some k_≠(.slice Ao24 t279.length co24:Value).ownBlock∧some k_≠(.slice Ao26 t282.length co26:Value).ownBlock∧k_≠gb286) (.slice A278_0 (rd_L5 t275 x27_3).length c278_0) (rd_L5 t275 x27_3)):=⟨(by rw [hw];exact (by (with_reducible repeat (first | apply Kd.V_alloc | apply Kd.V_drewN | apply Kd.V_drew));exact Kd.V_mono (Kd.V_far (p:=⟨gb286,1,none⟩) (Kd.V_far (p:=⟨gb286,0,none⟩) (Kd.V_mono HL278_0.out (fun k_ hk=>(⟨hk,hk.2⟩:_∧k_≠gb286))) (fun _ hk=>hk.2) (.slice Ao24 t279.length co24)) (fun _ hk=>hk.2) (.slice Ao26 t282.length co26)) (fun _ hk=>⟨hk.1.1.1.1.1.1,⟨hk.1.1.1.1.1.2.1,⟨hk.1.1.1.1.1.2.2,⟨hk.1.1.1.1.2,⟨hk.1.1.1.2,⟨hk.1.1.2,hk.1.2⟩⟩⟩⟩⟩⟩)))⟩;have n5_:Aside0 (Kd.R (Kd.int .i64) 3 w27 w.heap.size (fun k_=>(w.heap.size≤k_)∧some k_≠(.slice Ao26 t282.length co26:Value).ownBlock) (.slice Ao24 t279.length co24) t279):=⟨(by rw [hw];exact (rw_ (Kd.R_mono (Kd.R_far (p:=⟨gb286,1,none⟩) (Kd.R_far (p:=⟨gb286,0,none⟩) (Kd.R_types HO281.out BK286.out (by decide)) (fun _ hk=>hk.2) (.slice Ao24 t279.length co24)) (fun _ hk=>hk.2) (.slice Ao26 t282.length co26)) (fun _ hk=>⟨hk.1.1,hk.1.2⟩))))⟩;have n6_:Aside0 (Kd.R (Kd.int .i64) 3 w27 w.heap.size (fun k_=>(w.heap.size≤k_)∧some k_≠(.slice Ao24 t279.length co24:Value).ownBlock) (.slice Ao26 t282.length co26) t282):=⟨(by rw [hw];exact (rw_ (Kd.R_mono (Kd.R_far (p:=⟨gb286,1,none⟩) (Kd.R_far (p:=⟨gb286,0,none⟩) (Kd.R_types HO284.out BK286.out (by decide)) (fun _ hk=>hk.2) (.slice Ao24 t279.length co24)) (fun _ hk=>hk.2) (.slice Ao26 t282.length co26)) (fun _ hk=>⟨hk.1.1,hk.1.2⟩))))⟩;have n7_:Aside0 (w27.heap[gb286]? = some (.cells #[.slice Ao24 t279.length co24,.slice Ao26 t282.length co26] 33 (0,0))):=⟨(by rw [hw];exact qp_)⟩;have n8_:Aside0 (Below w.heap.size w w27):=⟨(by rw [hw];exact hB_)⟩;clear hw;clear HO_3;clear HO_5;clear HO_18;clear HO_25;clear HL278_0;clear HO281;clear HO284;clear BK286;clear HB;have HO_3:=n0_;have HO_5:=n1_;have HO_18:=n2_;have HO_25:=n3_;have HL278_0:=n4_;have HO281:=n5_;have HO284:=n6_;have BK286:=n7_;have HB:=n8_;clear n0_ n1_ n2_ n3_ n4_ n5_ n6_ n7_ n8_;obtain ⟨hcz28_0,hcz28_1,hfz28_0,hfz28_1⟩:=c2_ BK286) | ((with_reducible refine gate_builtin (b:=.append) (xs:=#[.tmp 39,.tmp 41]) rfl ?_);at_builtin;refine Kd.S_append k33 (w0:=w) w.heap.size rfl (.tmp 39) (.tmp 41) 25 33 (.agg #[(.slice none 0 0),(.slice none 0 0)]) 48 rfl Try.underlying25 info33 rfl (by decide) (by omega) u3 x3_3 (⟨t279,t282⟩:S33) [.slice Ao24 t279.length co24,.slice Ao26 t282.length co26] (fun k_=>(w.heap.size≤k_)∧some k_≠(.slice (some ad274) t268.length co9:Value).ownBlock∧some k_≠(.slice (some ad278) t275.length co15:Value).ownBlock∧k_≠gb286) (fun k_=>some k_ = (.slice Ao24 t279.length co24:Value).ownBlock ∨ some k_ = (.slice Ao26 t282.length co26:Value).ownBlock) rfl rfl ?aP ?aK ?aF ?aO ?aB ?aS ?aL ?_;(case aP=>exact k33_mkM _ _ _ (⟨t279,t282⟩:S33) (Kd.R_mono (Kd.R_tight rfl (Kd.R_mono (ok':=(fun k_=>((fun k_=>(w.heap.size≤k_)∧some k_≠(.slice (some ad274) t268.length co9:Value).ownBlock∧some k_≠(.slice (some ad278) t275.length co15:Value).ownBlock∧k_≠gb286)) k_∧some k_≠(u3:Value).ownBlock)) (Kd.R_types (Kd.R_apart' (Kd.R_apart' (Kd.R_apart' (HO281.out) (Kd.N_typed HO_18.out) (by decide)) (Kd.N_typed HO_25.out) (by decide)) (Kd.S_typed HO_3.out) (by decide)) BK286.out (by decide)) (fun k_ hk=>⟨⟨hk.1.1.1.1.1,⟨hk.1.1.1.2,⟨hk.1.1.2,hk.2⟩⟩⟩,hk.1.2⟩))) (fun _ hk=>.inl hk)) (Kd.R_mono (Kd.R_tight rfl (Kd.R_mono (ok':=(fun k_=>((fun k_=>(w.heap.size≤k_)∧some k_≠(.slice (some ad274) t268.length co9:Value).ownBlock∧some k_≠(.slice (some ad278) t275.length co15:Value).ownBlock∧k_≠gb286)) k_∧some k_≠(u3:Value).ownBlock)) (Kd.R_types (Kd.R_apart' (Kd.R_apart' (Kd.R_apart' (HO284.out) (Kd.N_typed HO_18.out) (by decide)) (Kd.N_typed HO_25.out) (by decide)) (Kd.S_typed HO_3.out) (by decide)) BK286.out (by decide)) (fun k_ hk=>⟨⟨hk.1.1.1.1.1,⟨hk.1.1.1.2,⟨hk.1.1.2,hk.2⟩⟩⟩,hk.1.2⟩))) (fun _ hk=>.inr hk)) (fun k_ h0_ h1_=>(HO281.out.1 k_ h0_).2 h1_.symm));(case aK=>exact (fun k_ hk=>hk.elim (fun e_=>((Kd.R_mono (ok':=(fun k_=>((fun k_=>(w.heap.size≤k_)∧some k_≠(.slice (some ad274) t268.length co9:Value).ownBlock∧some k_≠(.slice (some ad278) t275.length co15:Value).ownBlock∧k_≠gb286)) k_∧some k_≠(u3:Value).ownBlock)) (Kd.R_types (Kd.R_apart' (Kd.R_apart' (Kd.R_apart' (HO281.out) (Kd.N_typed HO_18.out) (by decide)) (Kd.N_typed HO_25.out) (by decide)) (Kd.S_typed HO_3.out) (by decide)) BK286.out (by decide)) (fun k_ hk=>⟨⟨hk.1.1.1.1.1,⟨hk.1.1.1.2,⟨hk.1.1.2,hk.2⟩⟩⟩,hk.1.2⟩))).1 k_ e_.symm) (fun e_=>((Kd.R_mono (ok':=(fun k_=>((fun k_=>(w.heap.size≤k_)∧some k_≠(.slice (some ad274) t268.length co9:Value).ownBlock∧some k_≠(.slice (some ad278) t275.length co15:Value).ownBlock∧k_≠gb286)) k_∧some k_≠(u3:Value).ownBlock)) (Kd.R_types (Kd.R_apart' (Kd.R_apart' (Kd.R_apart' (HO284.out) (Kd.N_typed HO_18.out) (by decide)) (Kd.N_typed HO_25.out) (by decide)) (Kd.S_typed HO_3.out) (by decide)) BK286.out (by decide)) (fun k_ hk=>⟨⟨hk.1.1.1.1.1,⟨hk.1.1.1.2,⟨hk.1.1.2,hk.2⟩⟩⟩,hk.1.2⟩))).1 k_ e_.symm)));(case aB=>exact hB_);(case aF=>exact (fun k_ hk=>⟨(Nat.le_trans (bF_ hB_) hk),Kd.fresh' (Kd.N_lt (by (with_reducible repeat (first | apply Kd.N_alloc | apply Kd.N_drewN | apply Kd.N_drew));exact HO_18.out)) k_ hk,Kd.fresh' (Kd.N_lt (by (with_reducible repeat (first | apply Kd.N_alloc | apply Kd.N_drewN | apply Kd.N_drew));exact HO_25.out)) k_ hk,Kd.freshB (kk_ BK286) k_ hk⟩));(case aO=>exact (sw_ (Kd.S_mono HO_3.out (fun _ hk=>⟨⟨hk.1,⟨hk.2.1,⟨hk.2.2.1,hk.2.2.2.2.2⟩⟩⟩,fun e_=>e_.elim hk.2.2.2.1 hk.2.2.2.2.1⟩))));(case aS=>exact (bF_ hB_));(case aL=>have:=LMc21.out;omega);intro v288 w29 ho hb hg hat;rw [← Ny287.out] at ho;replace HO_5:=A_ (Kd.V_afterv (ok:=(fun k_=>(w.heap.size≤k_)∧some k_≠(.slice (some ad274) t268.length co9:Value).ownBlock∧some k_≠(.slice (some ad278) t275.length co15:Value).ownBlock∧some k_≠(.slice Ao24 t279.length co24:Value).ownBlock∧some k_≠(.slice Ao26 t282.length co26:Value).ownBlock∧k_≠gb286)) (by (with_reducible repeat (first | apply Kd.V_alloc | apply Kd.V_drewN | apply Kd.V_drew));exact Kd.V_mono HO_5.out (fun _ hk=>⟨⟨hk.1,⟨hk.2.2.1,⟨hk.2.2.2.1,⟨hk.2.2.2.2.1,⟨hk.2.2.2.2.2.1,hk.2.2.2.2.2.2⟩⟩⟩⟩⟩,hk.2.1⟩)) hg hat);replace HO_18:=A_ (Kd.N_afterv (ok:=(fun k_=>(w.heap.size≤k_)∧some k_≠(.slice (some ad278) t275.length co15:Value).ownBlock∧some k_≠(.slice Ao24 t279.length co24:Value).ownBlock∧some k_≠(.slice Ao26 t282.length co26:Value).ownBlock∧k_≠gb286)) (by (with_reducible repeat (first | apply Kd.N_alloc | apply Kd.N_drewN | apply Kd.N_drew));exact Kd.N_mono HO_18.out (fun _ hk=>⟨⟨hk.1,⟨hk.2.2.1,⟨hk.2.2.2.1,⟨hk.2.2.2.2.1,hk.2.2.2.2.2⟩⟩⟩⟩,hk.2.1⟩)) hg hat);replace HO_25:=A_ (Kd.N_afterv (ok:=(fun k_=>(w.heap.size≤k_)∧some k_≠(.slice (some ad274) t268.length co9:Value).ownBlock∧some k_≠(.slice Ao24 t279.length co24:Value).ownBlock∧some k_≠(.slice Ao26 t282.length co26:Value).ownBlock∧k_≠gb286)) (by (with_reducible repeat (first | apply Kd.N_alloc | apply Kd.N_drewN | apply Kd.N_drew));exact Kd.N_mono HO_25.out (fun _ hk=>⟨⟨hk.1,⟨hk.2.2.1,⟨hk.2.2.2.1,⟨hk.2.2.2.2.1,hk.2.2.2.2.2⟩⟩⟩⟩,hk.2.1⟩)) hg hat);replace HL278_0:=A_ (Kd.V_afterv (ok:=(fun k_=>(w.heap.size≤k_)∧some k_≠(.slice (some ad274) t268.length co9:Value).ownBlock∧some k_≠(.slice (some ad278) t275.length co15:Value).ownBlock∧some k_≠(.slice Ao24 t279.length co24:Value).ownBlock∧some k_≠(.slice Ao26 t282.length co26:Value).ownBlock∧k_≠gb286)) (by (with_reducible repeat (first | apply Kd.V_alloc | apply Kd.V_drewN | apply Kd.V_drew));exact Kd.V_mono HL278_0.out (fun _ hk=>⟨⟨hk.1,⟨hk.2.2.1,⟨hk.2.2.2.1,⟨hk.2.2.2.2.1,⟨hk.2.2.2.2.2.1,hk.2.2.2.2.2.2⟩⟩⟩⟩⟩,hk.2.1⟩)) hg hat);replace BK286:=A_ (blk_grown (kk_ BK286) hg (Kd.S_away HO_3.out (fun _ hk=>hk.2.2.2.2.2)));replace HB:=A_ hb;have HO289:=A_ ho;clear HO_3 HO281 HO284;clear ho hb hg hat))
           go_roundg k3
           case measure=>have:=HJ1.out;have:=HK2.out;have:=HK3.out;omega
           case rel=>exact ⟨(y287),(wrap64 (x27_3 + 1)),qc_,H',⟨by have:=HJ1.out;have:=HK2.out;have:=HK3.out;omega⟩,⟨(sw_ (Kd.S_mono HO289.out (fun _ hk=>⟨hk.1,⟨hk.2.1,hk.2.2.1⟩⟩)))⟩,⟨by (with_reducible repeat (first | apply Kd.V_alloc | apply Kd.V_drewN | apply Kd.V_drew));exact Kd.V_mono HO_5.out (fun _ hk=>⟨hk.1.1,⟨hk.2,⟨hk.1.2.1,hk.1.2.2.1⟩⟩⟩)⟩,⟨by (with_reducible repeat (first | apply Kd.N_alloc | apply Kd.N_drewN | apply Kd.N_drew));exact Kd.N_mono HO_18.out (fun _ hk=>⟨hk.1.1,⟨hk.2,hk.1.2.1⟩⟩)⟩,⟨by (with_reducible repeat (first | apply Kd.N_alloc | apply Kd.N_drewN | apply Kd.N_drew));exact Kd.N_mono HO_25.out (fun _ hk=>⟨hk.1.1,⟨hk.2,hk.1.2.1⟩⟩)⟩,⟨hB_⟩⟩
          ·replace c20:=Bool.eq_false_iff.mpr c20
           subst c20
           have H1:(Z15.l1 k3 a0 x3_3 (rd_L5 t268 x20_2) t268 (t268.length:Int) x20_2 t275 (t275.length:Int) (wrap64 (x27_3 + 1))) = some r:=by rw [if_neg (show ¬ (false = true) by decide)] at H;exact H
           clear H
           have H:=H1
           clear H1
           have H':=A_ H
           clear H
           have p278:0≤(x27_3:Int):=oB_ qe_
           have q278:x27_3 < (t275.length:Int):=oB_ qe_
           obtain ⟨ad278,A278_0,c278_0,e278,hx278_0,hl278_0,hi278_0⟩:=at_L5 (Kd.N_reads' HO_25.out).2.2 x27_3 p278 q278
           cases e278
           obtain ⟨ce278,hce278,hMe278,hcc278⟩:=Kd.N_get HO_25.out [] x27_3 p278 (by first | exact q278 | exact oB_ qe_ | (have e_:=(Kd.N_reads' HO_25.out).1;omega))
           obtain ⟨ua278_0,uc278_0,rfl,ul278_0,ge278_0⟩:=Kd.FK_slice_open hMe278
           have hv278_0:=hcc278 0 _ rfl
           rw [Nat.add_zero,show ((Kd.slice 3 (Kd.int .i64))).sz = 1 from rfl,Nat.mul_one] at hv278_0
           replace hv278_0:=Option.some.inj (hv278_0.symm.trans hx278_0)
           injection hv278_0 with hva_ hvn_ hvc_
           rw [hva_] at ge278_0
           rw [hvc_] at ul278_0
           have HL278_0:=A_ (show Kd.V (Kd.int .i64) 3 _ w.heap.size _ _ (rd_L5 t275 x27_3) from Kd.V_mk ul278_0 ge278_0)
           clear hva_ hvn_ hvc_ ge278_0 ul278_0
           clear hcc278 hce278
           have HR278_0:=A_ hi278_0
           have HC278_0:=A_ hl278_0
           clear hi278_0 hl278_0
           replace p278:=eq_true p278
           replace q278:=eq_true q278
           go_wp2_with (first | ((with_reducible refine gA_ (f:=17) rfl ?_);refine gL_ (some 35) Try.func17 #[.agg #[.slice A274_0 (rd_L5 t268 x20_2).length c274_0,.slice A278_0 (rd_L5 t275 x27_3).length c278_0]] rfl qa_ ?_;(with_reducible refine (Z59.calls k3 _ _ (rd_L5 t268 x20_2) _ _ (rd_L5 t275 x27_3) t279 t282 false _ ?side1 ?side2 ?side3 ?side4 A19.out).mono ?_);(case side1=>exact cw_ ((Kd.V_reads' HO_5.out).2.2));(case side2=>exact (Kd.V_reads' HO_5.out).2.1);(case side3=>repeat (first | exact (by repeat (first | (with_reducible exact HR278_0.out) | (with_reducible refine cA_ ?_ _) | (with_reducible refine cB_ ?_ _) | (with_reducible refine cC_ ?_) | exact HR278_0.out)) | (with_reducible first | refine cA_ ?_ _ | refine cB_ ?_ _ | refine cC_ ?_)));(case side4=>exact HC278_0.out);rintro e w30 ⟨v280,v283,rfl,ho0,ho1,hb⟩;refine ⟨_,rfl,?_⟩;replace HO_3:=A_ (Kd.S_mono (Kd.S_told (Kd.S_told (Kd.S_old (ss_ HO_3) hb) (Kd.R_base ho0)) (Kd.R_base ho1)) (fun _ h_=>h_.1));replace HO_5:=A_ (Kd.V_mono (Kd.V_told (Kd.V_told (Kd.V_old (by (with_reducible repeat (first | apply Kd.V_alloc | apply Kd.V_drewN | apply Kd.V_drew));exact HO_5.out) hb) (Kd.R_base ho0)) (Kd.R_base ho1)) (fun _ h_=>h_.1));replace HO_18:=A_ (Kd.N_mono (Kd.N_told (Kd.N_told (Kd.N_old (by (with_reducible repeat (first | apply Kd.N_alloc | apply Kd.N_drewN | apply Kd.N_drew));exact HO_18.out) hb) (Kd.R_base ho0)) (Kd.R_base ho1)) (fun _ h_=>h_.1));replace HO_25:=A_ (Kd.N_mono (Kd.N_told (Kd.N_told (Kd.N_old (by (with_reducible repeat (first | apply Kd.N_alloc | apply Kd.N_drewN | apply Kd.N_drew));exact HO_25.out) hb) (Kd.R_base ho0)) (Kd.R_base ho1)) (fun _ h_=>h_.1));replace HL278_0:=A_ (Kd.V_mono (Kd.V_told (Kd.V_told (Kd.V_old (by (with_reducible repeat (first | apply Kd.V_alloc | apply Kd.V_drewN | apply Kd.V_drew));exact HL278_0.out) hb) (Kd.R_base ho0)) (Kd.R_base ho1)) (fun _ h_=>h_.1));have HO281:=A_ (rE_ (Kd.R_newM (M:=fun k_=>(w.heap.size≤k_)) ho0 (bF_ hB_) (fun k_ h_=>h_)) (bF_ hB_));have HO284:=A_ (rE_ (Kd.R_newM (M:=fun k_=>(w.heap.size≤k_)) ho1 (bF_ hB_) (fun k_ h_=>h_)) (bF_ hB_));replace HR278_0:=A_ (cD_ (by repeat (first | (with_reducible exact HR278_0.out) | (with_reducible refine cA_ ?_ _) | (with_reducible refine cB_ ?_ _) | (with_reducible refine cC_ ?_) | exact HR278_0.out)) hb);replace HB:=b1_ hb;clear hb ho0 ho1) | ((with_reducible refine gB_ (N:=8) rfl ?_);refine bx_ 8 #[.slice none 0 0,.slice none 0 0] 33 ?_;intro gb286 hg w31 hbox hb;replace HO_3:=A_ (Kd.S_below (Kd.S_elderB (ss_ HO_3) gb286 (Nat.le_of_eq hg.symm)) hb);replace HO_5:=A_ (Kd.V_below (Kd.V_elderB (by (with_reducible repeat (first | apply Kd.V_alloc | apply Kd.V_drewN | apply Kd.V_drew));exact HO_5.out) gb286 (Nat.le_of_eq hg.symm)) hb);replace HO_18:=A_ (Kd.N_below (Kd.N_elderB (by (with_reducible repeat (first | apply Kd.N_alloc | apply Kd.N_drewN | apply Kd.N_drew));exact HO_18.out) gb286 (Nat.le_of_eq hg.symm)) hb);replace HO_25:=A_ (Kd.N_below (Kd.N_elderB (by (with_reducible repeat (first | apply Kd.N_alloc | apply Kd.N_drewN | apply Kd.N_drew));exact HO_25.out) gb286 (Nat.le_of_eq hg.symm)) hb);replace HL278_0:=A_ (Kd.V_below (Kd.V_elderB (by (with_reducible repeat (first | apply Kd.V_alloc | apply Kd.V_drewN | apply Kd.V_drew));exact HL278_0.out) gb286 (Nat.le_of_eq hg.symm)) hb);replace HO281:=rb_ HO281 hb;replace HO284:=rb_ HO284 hb;replace HR278_0:=A_ (cD_ (by repeat (first | (with_reducible exact HR278_0.out) | (with_reducible refine cA_ ?_ _) | (with_reducible refine cB_ ?_ _) | (with_reducible refine cC_ ?_) | exact HR278_0.out)) hb);have BK286:=A_ hbox;have GW286:=gw_ w hg;have GE286:=GW286;replace HB:=b1_ hb;clear hb hbox hg;obtain ⟨Ao32,co32,eo32⟩:=Kd.R_slice HO281.out;subst eo32;obtain ⟨hcz33_0,hcz33_1,hfz33_0,hfz33_1⟩:=c2_ BK286;obtain ⟨Ao34,co34,eo34⟩:=Kd.R_slice HO284.out;subst eo34))
           go_roundg k3
           case measure=>have:=HJ1.out;have:=HK2.out;have:=HK3.out;omega
           case rel=>exact ⟨(x3_3),(wrap64 (x27_3 + 1)),qc_,H',⟨by have:=HJ1.out;have:=HK2.out;have:=HK3.out;omega⟩,⟨(sw_ (Kd.S_mono (Kd.S_far (p:=⟨gb286,1,none⟩) (Kd.S_far (p:=⟨gb286,0,none⟩) (Kd.S_mono HO_3.out (fun k_ hk=>(⟨hk,hk.2⟩:_∧k_≠gb286))) (fun _ hk=>hk.2) (.slice Ao32 t279.length co32)) (fun _ hk=>hk.2) (.slice Ao34 t282.length co34)) (fun _ hk=>⟨hk.1.1.1.1.1,⟨hk.1.1.1.1.2.1,hk.1.1.1.1.2.2⟩⟩)))⟩,⟨by (with_reducible repeat (first | apply Kd.V_alloc | apply Kd.V_drewN | apply Kd.V_drew));exact Kd.V_mono (Kd.V_far (p:=⟨gb286,1,none⟩) (Kd.V_far (p:=⟨gb286,0,none⟩) (Kd.V_mono HO_5.out (fun k_ hk=>(⟨hk,hk.2⟩:_∧k_≠gb286))) (fun _ hk=>hk.2) (.slice Ao32 t279.length co32)) (fun _ hk=>hk.2) (.slice Ao34 t282.length co34)) (fun _ hk=>⟨hk.1.1.1.1.1,⟨hk.1.1.1.1.2.1,⟨hk.1.1.1.1.2.2.1,hk.1.1.1.1.2.2.2⟩⟩⟩)⟩,⟨by (with_reducible repeat (first | apply Kd.N_alloc | apply Kd.N_drewN | apply Kd.N_drew));exact Kd.N_mono (Kd.N_far (p:=⟨gb286,1,none⟩) (Kd.N_far (p:=⟨gb286,0,none⟩) (Kd.N_mono HO_18.out (fun k_ hk=>(⟨hk,hk.2⟩:_∧k_≠gb286))) (fun _ hk=>hk.2) (.slice Ao32 t279.length co32)) (fun _ hk=>hk.2) (.slice Ao34 t282.length co34)) (fun _ hk=>⟨hk.1.1.1.1.1,⟨hk.1.1.1.1.2.1,hk.1.1.1.1.2.2⟩⟩)⟩,⟨by (with_reducible repeat (first | apply Kd.N_alloc | apply Kd.N_drewN | apply Kd.N_drew));exact Kd.N_mono (Kd.N_far (p:=⟨gb286,1,none⟩) (Kd.N_far (p:=⟨gb286,0,none⟩) (Kd.N_mono HO_25.out (fun k_ hk=>(⟨hk,hk.2⟩:_∧k_≠gb286))) (fun _ hk=>hk.2) (.slice Ao32 t279.length co32)) (fun _ hk=>hk.2) (.slice Ao34 t282.length co34)) (fun _ hk=>⟨hk.1.1.1.1.1,⟨hk.1.1.1.1.2.1,hk.1.1.1.1.2.2⟩⟩)⟩,⟨hB_⟩⟩
         ·rw [if_neg c16] at H
          have c16b0:=oD_ c16
          clear c16
          have H':=A_ H
          clear H
          go_wp2
          go_roundg k3
          case measure=>have:=HJ1.out;have:=HK2.out;have:=HK3.out;omega
          case rel=>exact ⟨(x3_3),(wrap64 (x20_2 + 1)),qc_,H',⟨by have:=HJ1.out;have:=HK2.out;have:=HK3.out;omega⟩,⟨(sw_ (Kd.S_mono HO_3.out (fun _ hk=>⟨hk.1,hk.2.1⟩)))⟩,⟨by (with_reducible repeat (first | apply Kd.N_alloc | apply Kd.N_drewN | apply Kd.N_drew));exact Kd.N_mono HO_18.out (fun _ hk=>⟨hk.1,hk.2.1⟩)⟩,⟨hB_⟩⟩
      ·rw [if_neg c10] at H
       have c10b0:=oD_ c10
       clear c10
       obtain ⟨t271,A35,H⟩:=bi_ H
       obtain rfl:=Option.some.inj H
       obtain ⟨Ao36,co36,eo36⟩:=Kd.S_slice HO_3.out
       subst eo36
       have HZ:=A_ (Z16.callsS _ _ _ _ w _ HB.out HO_3.out A35.out)
       go_wp2_with (first | ((with_reducible refine gA_ (f:=51) rfl ?_);refine gL_ (some 46) Try.func51 #[.slice Ao36 x3_2.length co36] rfl qa_ ?_;(with_reducible refine HZ.out.mono ?_);rintro e wZ ⟨vZ,rfl,hoZ,hbZ,hkZ⟩;refine ⟨_,rfl,?_⟩;have HO273:=A_ hoZ;replace HB:=A_ hbZ;clear hoZ hbZ hkZ))
       go_ret
       exact ⟨_,qb_,(sw_ (Kd.S_mono HO273.out (fun _ _=>trivial))),hB_⟩
end Go.Proofs.Ytoijcallajegfaa.A
end
section
namespace Go.Proofs.Ytoijcallajegfaa.A
open Go.RowKit Go.Proofs.YtoijcallajegfaaW.PrintWords Go.Proofs.YtoijcallajegfaaW.PrintLast Go.Proofs.YtoijcallajegfaaW.PrintMore
attribute [local go_sem] max2_int min2_int max_two min_two max_three min_three max_four min_four
set_option linter.unusedVariables false
set_option linter.unusedSimpArgs false
def Z60.f (k:Nat) (r u:List Int):Option (List S33 × Bool):=(M.orbitO k r u).bind fun z=>match z with | none=>some ([],false) | some s=>some (s.L,true)
theorem Z60.mono:∀ a0 a1 k,LeO (Z60.f k a0 a1) (Z60.f (k + 1) a0 a1):=by
 intro a0 a1 k
 unfold Z60.f
 exact LeO.bind (M.orbitO_mono _ _ _) (fun z=>LeO.refl _)
set_option maxHeartbeats 8000000 in
set_option maxRecDepth 100000 in
theorem Z60.calls (k:Nat) (A0_0:Option Addr) (c0_0:Nat) (l0_0:List Int) (A0_1:Option Addr) (c0_1:Nat) (l0_1:List Int) (r1:List S33) (r2:Bool) (w:World) (hr0_0:Kd.C (Kd.int .i64) w A0_0 l0_0.length l0_0) (hc0_0:l0_0.length≤c0_0) (hr0_1:Kd.C (Kd.int .i64) w A0_1 l0_1.length l0_1) (hc0_1:l0_1.length≤c0_1) (h:Z60.f k l0_0 l0_1 = some (r1,r2)) :
  Calls Try.prog 94 #[.agg #[.slice A0_0 l0_0.length c0_0,.slice A0_1 l0_1.length c0_1]] w fun e w'=>∃ v0_:Value,e = .returned (.tuple #[v0_,.bool r2])∧Kd.S k33 33 w' w.heap.size (fun _=>True) v0_ r1∧Below w.heap.size w w':=by
 have hu:=Try.underlying33
 have HR0_0:=A_ hr0_0;have HC0_0:=A_ hc0_0;clear hr0_0 hc0_0
 have HR0_1:=A_ hr0_1;have HC0_1:=A_ hc0_1;clear hr0_1 hc0_1
 have HB:=A_ (Below.refl w.heap.size w)
 have H:=h
 unfold Z60.f at H
 clear h
 obtain ⟨z,AZ,H⟩:=bi_ H
 cases z with
 | none =>
  have e0:(([]:List S33),false) = (r1,r2):=Option.some.inj H
  injection e0 with e1 e2
  subst e1 e2
  go_enter Try.func94,Try.ntmps94
  go_wp2_with (first | ((with_reducible refine gB_ (N:=1) rfl ?_);refine bx_ 1 #[.slice A0_0 l0_0.length c0_0,.slice A0_1 l0_1.length c0_1] 33 ?_;intro gs hg wgs hbox hb;have Bgs:=A_ hbox;replace HB:=b1_ hb;clear hb hbox hg;have hczgs0:=cz0_ Bgs;have hczgs1:=cz1_ Bgs;have hfzgs0:=kD_ Bgs.out 0;have hfzgs1:=kD_ Bgs.out 1) | ((with_reducible refine gA_ (f:=95) rfl ?_);refine gL_ (some 8) Try.func95 #[.agg #[.slice A0_0 l0_0.length c0_0,.slice A0_1 l0_1.length c0_1]] rfl qa_ ?_;(with_reducible refine (M.orbit_calls k _ _ l0_0 _ _ l0_1 none _ (cb_ HR0_0) HC0_0.out (cb_ HR0_1) HC0_1.out AZ.out).mono ?_);rintro e wz ⟨rfl,hb⟩;refine ⟨_,rfl,?_⟩;replace HB:=b1_ hb;clear hb))
  go_ret2
  exact ⟨_,qb_,Kd.S_nil _ _ _ _ _,hB_⟩
 | some s =>
  have e0:(s.L,true) = (r1,r2):=Option.some.inj H
  injection e0 with e1 e2
  subst e1 e2
  go_enter Try.func94,Try.ntmps94
  go_wp2_with (first | ((with_reducible refine gB_ (N:=1) rfl ?_);refine bx_ 1 #[.slice A0_0 l0_0.length c0_0,.slice A0_1 l0_1.length c0_1] 33 ?_;intro gs hg wgs hbox hb;have Bgs:=A_ hbox;replace HB:=b1_ hb;clear hb hbox hg;have hczgs0:=cz0_ Bgs;have hczgs1:=cz1_ Bgs;have hfzgs0:=kD_ Bgs.out 0;have hfzgs1:=kD_ Bgs.out 1) | ((with_reducible refine gA_ (f:=95) rfl ?_);refine gL_ (some 8) Try.func95 #[.agg #[.slice A0_0 l0_0.length c0_0,.slice A0_1 l0_1.length c0_1]] rfl qa_ ?_;(with_reducible refine (M.orbit_calls k _ _ l0_0 _ _ l0_1 (some s) _ (cb_ HR0_0) HC0_0.out (cb_ HR0_1) HC0_1.out AZ.out).mono ?_);rintro e wz ⟨gO,gM,nm_,col,vL,vW,vF,vB,vT,vS,rfl,hh,hb⟩;refine ⟨_,rfl,?_⟩;have ZZ:=A_ (bF_ hB_:w.heap.size≤_);replace HB:=b1_ hb;have HH:=A_ hh;clear hb hh;obtain ⟨AL,cL,eL⟩:=Kd.S_slice HH.out.hL;subst eL;obtain ⟨AW,cW,eW⟩:=Kd.R_slice HH.out.hW;subst eW;have hco0:wz.cell? ⟨gO,0,none⟩ = some (.slice AL s.L.length cL):=(blk_cell HH.out.hO 0).trans rfl;have hco1:wz.cell? ⟨gO,1,none⟩ = some (.slice AW s.W.length cW):=(blk_cell HH.out.hO 1).trans rfl;have hfo0:=kD_ HH.out.hO 0;have hfo1:=kD_ HH.out.hO 1))
  go_ret2
  exact ⟨_,qb_,Kd.S_mono (Kd.S_lower HH.out.hL ZZ.out) (fun _ _=>trivial),hB_⟩
def Z27.l0:Nat→List (List S33)→List S33→Int→Int→Option (List (List S33))
 | 0,_,_,_,_=>none
 | k + 1,x3,x17,x18,x19=>if x19 < x18 then (if 0≤x19 then (if x19 < (x17.length:Int) then ((M.indexK k x3 (rd_T33 x17 x19).f0 (rd_T33 x17 x19).f1).bind fun j=>(if 0≤j then (Z27.l0 k x3 x17 x18 (wrap64 (x19 + 1))) else ((Z60.f k (rd_T33 x17 x19).f0 (rd_T33 x17 x19).f1).bind fun bt=>((Z16.f bt.1).bind fun y=>(if x3.length < 5864062014805 then (Z27.l0 k (x3 ++ [y]) x17 x18 (wrap64 (x19 + 1))) else (none)))))) else (none)) else (none)) else (some x3)
def Z27.j0:Nat→Int→Bool→Option (List (List S33))
 | 0,_,_=>none
 | k + 1,a0,x14=>if x14 = true then (some ([]:List (List S33))) else ((Z15.f k a0).bind fun t=>(Z27.l0 k ([]:List (List S33)) t (t.length:Int) 0))
def Z27.f (k:Nat) (a0:Int):Option (List (List S33)):=if a0 < 1 then (Z27.j0 k a0 true) else (Z27.j0 k a0 (decide (a0 > 4)))
theorem Z27.mono_l:∀ k,(∀ y0 y1 y2 y3,LeO (Z27.l0 k y0 y1 y2 y3) (Z27.l0 (k + 1) y0 y1 y2 y3))
 | 0=>fun _ _ _ _ r h=>by simp [Z27.l0] at h
 | k + 1=>by
  have ih0:=Z27.mono_l k
  intro y0 y1 y2 y3
  unfold Z27.l0
  repeat' first|exact ih0 _ _ _ _|exact M.indexK_mono _ _ _ _|exact Z60.mono _ _ _|exact lo_|refine LeO.ite ?_ ?_|refine LeO.bind ?_ (fun _=>?_)
theorem Z27.mono_j:∀ k,(∀ y0 y1,LeO (Z27.j0 k y0 y1) (Z27.j0 (k + 1) y0 y1))
 | 0=>fun _ _ r h=>by simp [Z27.j0] at h
 | k + 1=>by
  intro y0 y1
  unfold Z27.j0
  repeat' first|exact Z27.mono_l _ _ _ _ _|exact Z15.mono _ _|exact lo_|refine LeO.ite ?_ ?_|refine LeO.bind ?_ (fun _=>?_)
theorem Z27.mono:∀ a0 k,LeO (Z27.f k a0) (Z27.f (k + 1) a0):=by
 intro a0 k
 unfold Z27.f
 refine LeO.ite ?_ ?_
 ·exact Z27.mono_j k _ _
 ·exact Z27.mono_j k _ _
theorem Z27.below {w W w1:World} (hb:Below W.heap.size W w1) (h:Below w.heap.size w W:=by repeat (first | (with_reducible first | exact HB.out | apply bA_ | apply bB_ | apply bC_ | refine bD_ ?_ (Aside0.out (by assumption))) | exact HB.out)):Aside0 (Below w.heap.size w W):=⟨h⟩
theorem Z27.sort_here {W0 w1:World} {v0:Value} {l y:List S33} (hb:Aside0 (Below W0.heap.size W0 w1)) (ho:Aside0 (Kd.S k33 33 w1 W0.heap.size (fun _=>True) v0 l)) (h:Z16.f l = some y) (w2:World) (hw:Below w1.heap.size w1 w2) :
  Calls Try.prog 51 #[v0] w2 fun e w'=>∃ v1:Value,e = .returned v1∧Kd.S k33 33 w' W0.heap.size (fun k=>W0.heap.size≤k) v1 y∧Below W0.heap.size W0 w':=by
 refine (Z16.callsS (fun k=>W0.heap.size≤k) v0 l y W0 w2 (bE_ hb.out hw) (Kd.S_below (Kd.S_mono (Kd.S_bound ho.out) (fun _ hk=>hk.2.1)) hw) h).mono ?_
 rintro e w' ⟨v1,he,ho1,hb1,_⟩
 exact ⟨v1,he,ho1,hb1⟩
set_option maxHeartbeats 8000000 in
set_option maxRecDepth 100000 in
theorem Z27.callsS (k:Nat) (a0:Int) (r:List (List S33)) (w:World) (h:Z27.f k a0 = some r) :
  Calls Try.prog 41 #[.int .i64 a0] w fun e w'=>∃ v0_:Value,e = .returned (v0_)∧Kd.S (M.sliceS 33 k33) 25 w' w.heap.size (fun _=>True) v0_ r∧Below w.heap.size w w':=by
 have hu33:=Try.underlying33
 have HB:=A_ (Below.refl w.heap.size w)
 have H:=h
 unfold Z27.f at H
 clear h
 have HC2:=A_ H
 clear H
 go_enter Try.func41,Try.ntmps41
 go_upto_region 1 with (fail)
 go_cut [14] (fun v14 wc=>∃ (kq:Nat) (x14_1:Bool),v14 = .bool x14_1∧Aside0 (Z27.j0 kq a0 x14_1 = some r)∧Aside0 (kq≤k)∧Aside0 (Below w.heap.size w wc))
 case first =>
  have H:=HC2.out
  clear HC2
  by_cases c3:a0 < 1
  ·rw [if_pos c3] at H
   have c3b0:=oC_ c3
   clear c3
   (first | rw [c3b0] | (simp only [i64_w,i32_w];rw [c3b0]) | skip)
   have H':=A_ H
   clear H
   go_wp2
   go_meet
   case rel=>exact ⟨_,(true),qc_,H',⟨qd_⟩,⟨hB_⟩⟩
  ·rw [if_neg c3] at H
   have c3b0:=oD_ c3
   clear c3
   (first | rw [c3b0] | (simp only [i64_w,i32_w];rw [c3b0]) | skip)
   have H':=A_ H
   clear H
   go_wp2
   go_meet
   case rel=>exact ⟨_,(decide (a0 > 4)),qc_,H',⟨qd_⟩,⟨hB_⟩⟩
 case rest =>
  clear HC2
  obtain ⟨kq,x14_1,rfl,HA,HJ1,HB⟩:=hcut
  cases kq with
  | zero=>exact absurd HA.out (by simp [Z27.j0])
  | succ kj1 =>
   have H:=HA.out
   clear HA
   simp only [Z27.j0] at H
   by_cases c4:x14_1 = true
   ·subst c4
    rw [if_pos rfl] at H
    obtain rfl:=Option.some.inj H
    go_wp2
    go_ret
    exact ⟨_,qb_,Kd.S_nil _ _ _ _ _,hB_⟩
   ·replace c4:=Bool.eq_false_iff.mpr c4
    subst c4
    have H1:((Z15.f kj1 a0).bind fun t=>(Z27.l0 kj1 ([]:List (List S33)) t (t.length:Int) 0)) = some r:=by rw [if_neg (show ¬ (false = true) by decide)] at H;exact H
    clear H
    have H:=H1
    clear H1
    obtain ⟨y265,hy265⟩:∃ y_:List (List S33),y_ = (([]:List (List S33))):=⟨_,rfl⟩
    replace H:((Z15.f kj1 a0).bind fun t=>(Z27.l0 kj1 y265 t (t.length:Int) 0)) = some r:=by first | (rw [hy265];exact H) | exact H
    have Ny265:=A_ hy265
    clear hy265
    obtain ⟨t268,A5,H⟩:=bi_ H
    have H':=A_ H
    clear H
    go_wp2_with (first | ((with_reducible refine gB_ (N:=15) rfl ?_);refine Kd.S_lit (M.sliceS 33 k33) _ 25 ?hg (N:=15) ?hd (xs:=([]:List (List S33))) (inner:=[]) (ok:=(fun k_=>(w.heap.size≤k_))) (okp:=(fun k_=>(w.heap.size≤k_))) ?hr ?hp (fun _ hk=>hk) ((show ∀ k_,wc.heap.size≤k_→(fun k_=>(w.heap.size≤k_)) k_ from fun k_ hk=>(Nat.le_trans (bF_ hB_) hk)) _ (nA_ _)) (Below.refl _ _) (nA_ _) (by simp) ?_;(case hd=>rfl);(case hg=>rfl);(case hr=>first | (go_simp;done) | (go_simp;rfl));(case hp=>exact (Reps.none _ _));intro v266 w6 ho7 hb hg_ hnew_;clear hg_ hnew_;(first | rw [← Ny265.out] at ho7 | (simp only [Int.reduceToNat] at ho7;rw [← Ny265.out] at ho7));have HO267:=A_ (Kd.S_lower ho7 (bF_ hB_));replace HB:=b1_ hb;clear hb ho7) | ((with_reducible refine gA_ (f:=12) rfl ?_);refine gL_ (some 17) Try.func12 #[.int .i64 a0] rfl qa_ ?_;(with_reducible refine (Z15.calls kj1 a0 t268 _ A5.out).mono ?_);rintro e w8 ⟨v269,rfl,ho0,hb⟩;refine ⟨_,rfl,?_⟩;replace HO267:=sb_ HO267 hb;have HO270:=A_ (Kd.S_mono (Kd.S_bound (Kd.S_lower (base':=w.heap.size) ho0 (bF_ hB_))) (fun k_ hk_=>hk_.2.1));replace HB:=b1_ hb;clear hb ho0;obtain ⟨Ao9,co9,eo9⟩:=Kd.S_slice HO270.out;subst eo9))
    go_loopg [3,19] kj1 (fun kq v3 v19 w'=>∃ (x3_2:List (List S33)) (x19_2:Int),v19 = .int .i64 x19_2∧Aside0 (Z27.l0 kq x3_2 t268 (t268.length:Int) x19_2 = some r)∧Aside0 (kq≤kj1)∧Aside0 (Kd.S (M.sliceS 33 k33) 25 w' w.heap.size (fun k_=>(w.heap.size≤k_)) v3 x3_2)∧Aside0 (Kd.S k33 33 w' w.heap.size (fun k_=>(w.heap.size≤k_)) (.slice Ao9 t268.length co9) t268)∧Aside0 (Below w.heap.size w w'))
    case atStart=>exact ⟨(y265),(0),qc_,H',⟨nA_ _⟩,⟨(ss_ HO267)⟩,⟨(ss_ HO270)⟩,⟨hB_⟩⟩
    case round =>
     clear H' HO267 HO270 HB
     obtain ⟨x3_2,x19_2,rfl,HA,HK2,HO_3,HO_17,HW⟩:=hrel
     have HB:=A_ (Below.refl wr.heap.size wr)
     cases gk with
     | zero=>exact absurd HA.out (by simp [Z27.l0])
     | succ k2 =>
      have H:=HA.out
      clear HA
      simp only [Z27.l0] at H
      by_cases c10:x19_2 < (t268.length:Int)
      ·rw [if_pos c10] at H
       have c10b0:=oC_ c10
       clear c10
       replace H:=cx_ H;obtain ⟨c11b0,H⟩:=H
       replace H:=cx_ H;obtain ⟨c12b0,H⟩:=H
       obtain ⟨j13,A13,H⟩:=bi_ H
       have HX:=A_ H
       clear H
       have p274:0≤(x19_2:Int):=oB_ qe_
       have q274:x19_2 < (t268.length:Int):=oB_ qe_
       obtain ⟨ad1,A1,c1,A2,c2,e1,hx1,hx2,hl1,hi1,hl2,hi2⟩:=at_T33 (Kd.S_reads' HO_17.out).2.2 x19_2 p274 q274
       cases e1
       generalize hsr:rd_T33 t268 x19_2 = sr at hx1 hx2 hl1 hi1 hl2 hi2 A13 HX
       have HI1:=A_ hi1
       have HI2:=A_ hi2
       have HL1:=A_ hl1
       have HL2:=A_ hl2
       clear hi1 hi2 hl1 hl2 hsr
       obtain ⟨A3,c3,e3⟩:=Kd.S_slice HO_3.out
       subst e3
       have HC3:=A_ (M.sliceS_C (Kd.S_reads' HO_3.out).2.2)
       have HL3:=A_ ((Kd.S_reads' HO_3.out).2.1)
       replace p274:=eq_true p274
       replace q274:=eq_true q274
       go_upto_region 8 with (first | ((with_reducible refine gB_ (N:=5) rfl ?_);refine bx_ 5 #[.slice none 0 0,.slice none 0 0] 33 ?_;intro gb hg w23 hbox hb;have BK:=A_ hbox;have GE:=gw_ wr hg;replace HB:=b1_ hb;clear hb hbox hg;obtain ⟨hcz0,hcz1,hfz0,hfz1⟩:=c2_ BK) | ((with_reducible refine gate_store (t:=33) (p:=5) rfl ?_);refine store_event (t:=33) (p:=5) (v:=?vo_w27) (w1:=((w23.setCell ⟨gb,0,none⟩ (.slice A1 sr.f0.length c1)).setCell ⟨gb,1,none⟩ (.slice A2 sr.f1.length c2))) ?hg ?ho ?hn ?hr ?_;(case ho=>rfl);(case hg=>rfl);(case hn=>rfl);(case hr=>first | (go_simp;done) | (go_simp;rfl));intro w27 hw;have n7_:Aside0 (w27.heap[gb]? = some (.cells #[.slice A1 sr.f0.length c1,.slice A2 sr.f1.length c2] 33 (0,0))):=⟨(by rw [hw];exact qp_)⟩;have n8_:Aside0 (Below wr.heap.size wr w27):=⟨(by rw [hw];exact hB_)⟩;clear hw;clear BK;clear HB;have BK:=n7_;have HB:=n8_;clear n7_ n8_ hcz0 hcz1 hfz0 hfz1;obtain ⟨hcz0,hcz1,hfz0,hfz1⟩:=c2_ BK) | ((with_reducible refine gA_ (f:=90) rfl ?_);refine gL_ (some 25) Try.func90 #[.slice A3 x3_2.length c3,.func (.func 91) #[] #[.pointer (some ⟨gb,0,none⟩)]] rfl qa_ ?_;refine (M.has_lists k2 gb _ _ x3_2 _ _ sr.f0 _ _ sr.f1 j13 _ (cb_ HC3) HL3.out (cb_ HI1) HL1.out (cb_ HI2) HL2.out (kk_ BK) A13.out).mono ?_;rintro e w25 ⟨rfl,hb⟩;refine ⟨_,rfl,?_⟩;replace BK:=bb_ BK hb;replace HB:=b1_ hb;clear hb hcz0 hcz1 hfz0 hfz1;obtain ⟨hcz0,hcz1,hfz0,hfz1⟩:=c2_ BK))
       by_cases c13:0≤j13
       ·have H:=HX.out
        rw [if_pos c13] at H
        clear HX
        have c13b0:=oC_ c13
        clear c13
        rw [c13b0]
        have H':=A_ H
        clear H
        go_wp2
        go_roundg k2
        case measure=>have:=HJ1.out;have:=HK2.out;omega
        case rel=>exact ⟨(x3_2),(wrap64 (x19_2 + 1)),qc_,H',⟨by have:=HJ1.out;have:=HK2.out;omega⟩,⟨Kd.S_below HO_3.out hB_⟩,⟨Kd.S_below HO_17.out hB_⟩,⟨bE_ HW.out hB_⟩⟩
       ·have H:=HX.out
        rw [if_neg c13] at H
        clear HX
        have c13b0:=oD_ c13
        clear c13
        rw [c13b0]
        obtain ⟨⟨l14,b14⟩,A14,H⟩:=bi_ H
        obtain ⟨y15,A15,H⟩:=bi_ H
        have c16:=cp_ H
        replace H:=ca_ H
        have LM:=A_ c16
        clear c16
        have H':=A_ H
        clear H
        have A15':Aside0 (Z16.f l14 = some y15):=A15
        go_wp2_with (first | ((with_reducible refine gA_ (f:=94) rfl ?_);refine gL_ (some 29) Try.func94 #[.agg #[.slice A1 sr.f0.length c1,.slice A2 sr.f1.length c2]] rfl qa_ ?_;(with_reducible refine (Z60.calls k2 _ _ sr.f0 _ _ sr.f1 l14 b14 _ (cb_ HI1) HL1.out (cb_ HI2) HL2.out A14.out).mono ?_);rintro e w29 ⟨v14,rfl,ho,hb⟩;refine ⟨_,rfl,?_⟩;have HQ:=Z27.below (w:=wr) hb;have HZ:=A_ hb;have HO14:=A_ ho;replace HB:=b1_ hb;clear hb ho) | ((with_reducible refine gA_ (f:=51) rfl ?_);refine gL_ (some 34) Try.func51 #[v14] rfl qa_ ?_;refine (Z27.sort_here HZ HO14 A15'.out _ (by repeat (first | (with_reducible first | exact Below.refl _ _ | apply bA_ | apply bB_ | apply bC_) | exact Below.refl _ _))).mono ?_;rintro e w34 ⟨v15,rfl,ho,hb⟩;obtain ⟨A15_,c15_,e15_⟩:=Kd.S_slice ho;subst e15_;refine ⟨_,rfl,?_⟩;have HO15:=A_ ho;replace HB:=A_ (bE_ HQ.out hb);clear hb ho) | ((with_reducible refine gate_builtin (b:=.append) (xs:=#[.tmp 32,.tmp 35]) rfl ?_);at_builtin;refine Kd.S_append (M.sliceS 33 k33) (w0:=w) w.heap.size rfl (.tmp 32) (.tmp 35) 55 25 (.slice none 0 0) 24 rfl Try.underlying55 info25 rfl (by decide) (by omega) (.slice A3 x3_2.length c3) x3_2 y15 [.slice A15_ y15.length c15_] (fun k_=>w.heap.size≤k_) (fun k_=>wr.heap.size≤k_) rfl rfl ?aP ?aK ?aF ?aO ?aB ?aS ?aL ?_;(case aP=>exact ⟨_,rfl,sw_ (Kd.S_lower (Kd.S_mono HO15.out (fun k_ hk=>Nat.le_trans (bF_ HQ.out) hk)) (Nat.le_trans (bF_ HW.out) (bF_ HQ.out)))⟩);(case aK=>exact (fun k_ hk=>⟨Nat.le_trans (bF_ HW.out) hk,Kd.fresh' (Kd.S_lt HO_3.out) k_ hk⟩));(case aF=>exact (fun k_ hk=>Nat.le_trans (Nat.le_trans (bF_ HW.out) (bF_ hB_)) hk));(case aO=>exact Kd.S_below (Kd.S_mono (Kd.S_bound HO_3.out) (fun k_ hk=>⟨hk.1,fun h_=>absurd hk.2.2.1 (Nat.not_lt.mpr h_)⟩)) hB_);(case aB=>exact bE_ HW.out hB_);(case aS=>exact Nat.le_trans (bF_ HW.out) (bF_ hB_));(case aL=>have:=LM.out;omega);intro v36 w36 ho hb hg hat;have HO36:=A_ ho;have HO37:=A_ (Kd.S_over' (Kd.S_below HO_17.out hB_) (Kd.S_typed (Kd.S_below HO_3.out hB_)) (by decide) hg);clear HB;have HB:=A_ hb;clear ho hb hg hat))
        go_roundg k2
        case measure=>have:=HJ1.out;have:=HK2.out;omega
        case rel=>exact ⟨(x3_2 ++ [y15]),(wrap64 (x19_2 + 1)),qc_,H',⟨by have:=HJ1.out;have:=HK2.out;omega⟩,⟨(ss_ HO36)⟩,⟨(ss_ HO37)⟩,⟨hB_⟩⟩
      ·rw [if_neg c10] at H
       have c10b0:=oD_ c10
       clear c10
       obtain rfl:=Option.some.inj H
       go_wp2
       go_ret
       exact ⟨_,qb_,Kd.S_mono (Kd.S_below HO_3.out hB_) (fun _ _=>trivial),bE_ HW.out hB_⟩
theorem Z27.calls (k:Nat) (a0:Int) (r:List (List S33)) (w:World) (h:Z27.f k a0 = some r) :
  Calls Try.prog 41 #[.int .i64 a0] w fun e w'=>∃ v0_:Value,e = .returned (v0_)∧Kd.R (M.sliceS 33 k33) 25 w' w.heap.size (fun _=>True) v0_ r∧Below w.heap.size w w':=by
 refine (Z27.callsS k a0 r w h).mono ?_
 rintro e w' ⟨v,he,ho,hb⟩
 exact ⟨v,he,Kd.S_R ho,hb⟩
def Z25.f (k:Nat) (l0_0:List Int) (l0_1:List Int) (l1_0:List Int) (l1_1:List Int):Option (Bool):=(Z52.f k l0_0 l1_0).bind fun t1084=>(if t1084 = true then ((Z52.f k l0_1 l1_1).bind fun t1085=>(some t1085)) else (some false))
theorem Z25.mono:∀ a0 a1 a2 a3 k,LeO (Z25.f k a0 a1 a2 a3) (Z25.f (k + 1) a0 a1 a2 a3):=by
 intro a0 a1 a2 a3 k
 unfold Z25.f
 repeat' first|exact Z52.mono _ _ _|exact lo_|refine LeO.ite ?_ ?_|refine LeO.bind ?_ (fun _=>?_)
set_option maxHeartbeats 8000000 in
set_option maxRecDepth 100000 in
theorem Z25.calls (k:Nat) (A0_0:Option Addr) (c0_0:Nat) (l0_0:List Int) (A0_1:Option Addr) (c0_1:Nat) (l0_1:List Int) (A1_0:Option Addr) (c1_0:Nat) (l1_0:List Int) (A1_1:Option Addr) (c1_1:Nat) (l1_1:List Int) (r:Bool) (w:World) (hr0_0:Kd.C (Kd.int .i64) w A0_0 l0_0.length l0_0) (hc0_0:l0_0.length≤c0_0) (hr0_1:Kd.C (Kd.int .i64) w A0_1 l0_1.length l0_1) (hc0_1:l0_1.length≤c0_1) (hr1_0:Kd.C (Kd.int .i64) w A1_0 l1_0.length l1_0) (hc1_0:l1_0.length≤c1_0) (hr1_1:Kd.C (Kd.int .i64) w A1_1 l1_1.length l1_1) (hc1_1:l1_1.length≤c1_1) (h:Z25.f k l0_0 l0_1 l1_0 l1_1 = some r) :
  Calls Try.prog 125 #[.agg #[.slice A0_0 l0_0.length c0_0,.slice A0_1 l0_1.length c0_1],.agg #[.slice A1_0 l1_0.length c1_0,.slice A1_1 l1_1.length c1_1]] w fun e w'=>e = .returned (.bool r)∧Below w.heap.size w w':=by
 have hu33:=Try.underlying33
 have HR0_0:=A_ hr0_0
 have HC0_0:=A_ hc0_0
 clear hr0_0 hc0_0
 have HR0_1:=A_ hr0_1
 have HC0_1:=A_ hc0_1
 clear hr0_1 hc0_1
 have HR1_0:=A_ hr1_0
 have HC1_0:=A_ hc1_0
 clear hr1_0 hc1_0
 have HR1_1:=A_ hr1_1
 have HC1_1:=A_ hc1_1
 clear hr1_1 hc1_1
 have HB:=A_ (Below.refl w.heap.size w)
 have H:=h
 unfold Z25.f at H
 clear h
 obtain ⟨t1084,A3,H⟩:=bi_ H
 by_cases c4:t1084 = true
 ·subst c4
  rw [if_pos rfl] at H
  obtain ⟨t1085,A5,H⟩:=bi_ H
  obtain rfl:=Option.some.inj H
  go_enter Try.func125,Try.ntmps125
  go_wp2_with (first | ((with_reducible refine gB_ (N:=2) rfl ?_);refine bx_ 2 #[.slice A0_0 l0_0.length c0_0,.slice A0_1 l0_1.length c0_1] 33 ?_;intro gb1082 hg w6 hbox hb;have BK1082:=A_ hbox;have GW1082:=gw_ w hg;have GE1082:=GW1082;replace HB:=b1_ hb;clear hb hbox hg) | ((with_reducible refine gB_ (N:=3) rfl ?_);refine bx_ 3 #[.slice A1_0 l1_0.length c1_0,.slice A1_1 l1_1.length c1_1] 33 ?_;intro gb1083 hg w7 hbox hb;have BK1083:=A_ hbox;have GW1083:=gw_ w hg;have GE1083:=GW1083;replace HB:=b1_ hb;have NB1082_1083:=gN_ BK1082 hg;have NB1083_1082:=gP_ BK1082 hg;replace BK1082:=bb_ BK1082 hb;clear hb hbox hg;have hnb8:=NB1082_1083.out;have hnc8:=NB1083_1082.out;obtain ⟨hcz9_0,hcz9_1,hfz9_0,hfz9_1⟩:=c2_ BK1082;obtain ⟨hcz10_0,hcz10_1,hfz10_0,hfz10_1⟩:=c2_ BK1083) | ((with_reducible refine gA_ (f:=134) rfl ?_);refine gL_ (some 9) Try.func134 #[.slice A0_0 l0_0.length c0_0,.slice A1_0 l1_0.length c1_0] rfl qa_ ?_;(with_reducible refine (Z52.calls k _ _ l0_0 _ _ l1_0 true _ (cb_ HR0_0) HC0_0.out (cb_ HR1_0) HC1_0.out A3.out).mono ?_);rintro e w' ⟨rfl,⟨nd,rfl⟩⟩;refine ⟨_,rfl,?_⟩) | (go_at_call 134;(with_reducible refine (Z52.calls k _ _ l0_1 _ _ l1_1 t1085 _ (cw_ (cD_ HR0_1.out hB_)) HC0_1.out (cw_ (cD_ HR1_1.out hB_)) HC1_1.out A5.out).mono ?_);rintro e w' ⟨rfl,⟨nd,rfl⟩⟩))
  go_ret
  exact ⟨qb_,hB_⟩
 ·replace c4:=Bool.eq_false_iff.mpr c4
  subst c4
  have H1:(some false) = some r:=by rw [if_neg (show ¬ (false = true) by decide)] at H;exact H
  clear H
  have H:=H1
  clear H1
  obtain rfl:=Option.some.inj H
  go_enter Try.func125,Try.ntmps125
  go_wp2_with (first | ((with_reducible refine gB_ (N:=2) rfl ?_);refine bx_ 2 #[.slice A0_0 l0_0.length c0_0,.slice A0_1 l0_1.length c0_1] 33 ?_;intro gb1082 hg w11 hbox hb;have BK1082:=A_ hbox;have GW1082:=gw_ w hg;have GE1082:=GW1082;replace HB:=b1_ hb;clear hb hbox hg) | ((with_reducible refine gB_ (N:=3) rfl ?_);refine bx_ 3 #[.slice A1_0 l1_0.length c1_0,.slice A1_1 l1_1.length c1_1] 33 ?_;intro gb1083 hg w12 hbox hb;have BK1083:=A_ hbox;have GW1083:=gw_ w hg;have GE1083:=GW1083;replace HB:=b1_ hb;have NB1082_1083:=gN_ BK1082 hg;have NB1083_1082:=gP_ BK1082 hg;replace BK1082:=bb_ BK1082 hb;clear hb hbox hg;have hnb13:=NB1082_1083.out;have hnc13:=NB1083_1082.out;obtain ⟨hcz14_0,hcz14_1,hfz14_0,hfz14_1⟩:=c2_ BK1082;obtain ⟨hcz15_0,hcz15_1,hfz15_0,hfz15_1⟩:=c2_ BK1083) | ((with_reducible refine gA_ (f:=134) rfl ?_);refine gL_ (some 9) Try.func134 #[.slice A0_0 l0_0.length c0_0,.slice A1_0 l1_0.length c1_0] rfl qa_ ?_;(with_reducible refine (Z52.calls k _ _ l0_0 _ _ l1_0 false _ (cb_ HR0_0) HC0_0.out (cb_ HR1_0) HC1_0.out A3.out).mono ?_);rintro e w' ⟨rfl,⟨nd,rfl⟩⟩;refine ⟨_,rfl,?_⟩))
  go_ret
  exact ⟨qb_,hB_⟩
def Z44.l0:Nat→List (S33)→Bool→List (S33)→Int→Int→List Int→List Int→Option ((List (S33)))
 | 0,_,_,_,_,_,_,_=>none
 | k + 1,x5,x6,x10,x11,x12,x1207000,x1207001=>if x12 < x11 then (if 0≤x12 then (if x12 < (x10.length:Int) then ((Z25.f k ((rd_T33 x10 x12).f0) ((rd_T33 x10 x12).f1) x1207000 x1207001).bind fun t1215=>(if t1215 = true then (if x5.length < 2932031007402 then (Z44.l0 k (x5 ++ [(⟨(rd_T33 x10 x12).f0,(rd_T33 x10 x12).f1⟩:S33)]) true x10 x11 (wrap64 (x12 + 1)) x1207000 x1207001) else (none)) else (if x6 = true then (if x5.length < 2932031007402 then (Z44.l0 k (x5 ++ [(⟨(rd_T33 x10 x12).f0,(rd_T33 x10 x12).f1⟩:S33)]) x6 x10 x11 (wrap64 (x12 + 1)) x1207000 x1207001) else (none)) else ((Z40.f k x1207000 x1207001 ((rd_T33 x10 x12).f0) ((rd_T33 x10 x12).f1)).bind fun t1222=>(if t1222 = true then (if x5.length < 2932031007402 then ((some (x5 ++ [(⟨x1207000,x1207001⟩:S33)]:List (S33))).bind fun y1223=>(if y1223.length < 2932031007402 then (Z44.l0 k (y1223 ++ [(⟨(rd_T33 x10 x12).f0,(rd_T33 x10 x12).f1⟩:S33)]) true x10 x11 (wrap64 (x12 + 1)) x1207000 x1207001) else (none))) else (none)) else (if x5.length < 2932031007402 then (Z44.l0 k (x5 ++ [(⟨(rd_T33 x10 x12).f0,(rd_T33 x10 x12).f1⟩:S33)]) x6 x10 x11 (wrap64 (x12 + 1)) x1207000 x1207001) else (none))))))) else (none)) else (none)) else (if x6 = true then (some x5) else (if x5.length < 2932031007402 then (some (x5 ++ [(⟨x1207000,x1207001⟩:S33)])) else (none)))
def Z44.f (k:Nat) (l0:List (S33)) (l1_0:List Int) (l1_1:List Int):Option ((List (S33))):=Z44.l0 k (([]:List (S33))) false l0 (l0.length:Int) 0 l1_0 l1_1
theorem Z44.mono_l:∀ k,(∀ y0 y1 y2 y3 y4 y5 y6,LeO (Z44.l0 k y0 y1 y2 y3 y4 y5 y6) (Z44.l0 (k + 1) y0 y1 y2 y3 y4 y5 y6))
 | 0=>fun _ _ _ _ _ _ _ r h=>by simp [Z44.l0] at h
 | k + 1=>by
  have ih0:=Z44.mono_l k
  ·intro y0 y1 y2 y3 y4 y5 y6
   unfold Z44.l0
   repeat' first|exact ih0 _ _ _ _ _ _ _|exact Z25.mono _ _ _ _ _|exact Z40.mono _ _ _ _ _|exact lo_|refine LeO.ite ?_ ?_|refine LeO.bind ?_ (fun _=>?_)
theorem Z44.mono:∀ a0 a1 a2 k,LeO (Z44.f k a0 a1 a2) (Z44.f (k + 1) a0 a1 a2):=by
 intro a0 a1 a2 k
 have ih0:=Z44.mono_l k
 unfold Z44.f
 repeat' first|exact ih0 _ _ _ _ _ _ _|exact Z25.mono _ _ _ _ _|exact Z40.mono _ _ _ _ _|exact lo_|refine LeO.ite ?_ ?_|refine LeO.bind ?_ (fun _=>?_)
set_option maxHeartbeats 8000000 in
set_option maxRecDepth 100000 in
theorem Z44.calls (k:Nat) (P0_:Nat→Prop) (A0:Option Addr) (c0:Nat) (l0:List (S33)) (P1_0_:Nat→Prop) (A1_0:Option Addr) (c1_0:Nat) (l1_0:List Int) (P1_1_:Nat→Prop) (A1_1:Option Addr) (c1_1:Nat) (l1_1:List Int) (r:List (S33)) (w:World) (hs0:Kd.V k33 33 w w.heap.size (fun k_=>P0_ k_) (.slice A0 l0.length c0) l0) (hs1_0:Kd.V (Kd.int .i64) 3 w w.heap.size (fun k_=>P1_0_ k_) (.slice A1_0 l1_0.length c1_0) l1_0) (hs1_1:Kd.V (Kd.int .i64) 3 w w.heap.size (fun k_=>P1_1_ k_) (.slice A1_1 l1_1.length c1_1) l1_1) (h:Z44.f k l0 l1_0 l1_1 = some r) :
  Calls Try.prog 86 #[.slice A0 l0.length c0,.agg #[.slice A1_0 l1_0.length c1_0,.slice A1_1 l1_1.length c1_1]] w fun e w'=>∃ v0_:Value,e = .returned (v0_)∧Kd.N k33 33 w' w.heap.size (fun k_=>((P0_ k_ ∨ P1_0_ k_ ∨ P1_1_ k_) ∨ w.heap.size≤k_)) v0_ r∧Below w.heap.size w w':=by
 have hu33:=Try.underlying33
 have HO0:=A_ (Kd.V_bound hs0)
 have HS0:=A_ (Kd.V_bound hs1_0)
 have HS1:=A_ (Kd.V_bound hs1_1)
 have HM1:=A_ (Kd.V_reads' hs1_0).2.1
 have HM2:=A_ (Kd.V_reads' hs1_1).2.1
 have FS:Aside0 (Kd.FK k33 w (fun k_=>(P1_0_ k_ ∨ P1_1_ k_)∧k_ < w.heap.size) (⟨l1_0,l1_1⟩:S33) [.slice A1_0 l1_0.length c1_0,.slice A1_1 l1_1.length c1_1]):=⟨k33_mkF w _ (⟨l1_0,l1_1⟩:S33) HM1.out (Kd.F_mono (Kd.V_at HS0.out).2.2 (fun _ hk=>⟨.inl hk.1,hk.2⟩)) HM2.out (Kd.F_mono (Kd.V_at HS1.out).2.2 (fun _ hk=>⟨.inr hk.1,hk.2⟩))⟩
 have HB:=A_ (Below.refl w.heap.size w)
 have H':=A_ (show Z44.l0 k [] false l0 (l0.length:Int) 0 l1_0 l1_1 = some r from h)
 clear h hs0 hs1_0 hs1_1
 go_enter Try.func86,Try.ntmps86
 go_wp2_with (first | ((with_reducible refine gB_ (N:=3) rfl ?_);refine bx_ 3 #[.slice A1_0 l1_0.length c1_0,.slice A1_1 l1_1.length c1_1] 33 ?_;intro gs hg w3 hbox hb;have BS:=A_ hbox;have GS:=gw_ w hg;replace HB:=b1_ hb;clear hb hbox hg) | ((with_reducible refine gB_ (N:=9) rfl ?_);refine Kd.S_lit k33 _ 33 ?hg (N:=9) ?hd (xs:=([]:List S33)) (inner:=[]) (ok:=(fun k_=>(w3.heap.size≤k_))) (okp:=(fun k_=>(w3.heap.size≤k_))) ?hr ?hp (fun _ hk=>hk) (bF_ (by repeat (first | (with_reducible first | exact Below.refl _ _ | apply bA_ | apply bB_ | apply bC_) | exact Below.refl _ _))) (Below.refl _ _) (nA_ _) (by simp) ?_;(case hd=>rfl);(case hg=>rfl);(case hr=>first | (go_simp;done) | (go_simp;rfl));(case hp=>exact (Reps.none _ _));intro v9 w6 ho7 hb hg_ hnew_;clear hg_ hnew_;have HO9:=A_ (Kd.N_mono (ok':=(fun k_=>((P0_ k_ ∨ P1_0_ k_ ∨ P1_1_ k_) ∨ w.heap.size≤k_)∧k_≠gs)) (Kd.S_N (Kd.S_lower (base':=w.heap.size) ho7 (bF_ hB_))) (fun k_ hk=>⟨.inr (Nat.le_trans (bF_ HB.out) hk),fun e_=>by have h1_:=blk_lt BS.out;subst e_;omega⟩));replace BS:=bb_ BS hb;replace HB:=b1_ hb;clear hb ho7))
 go_loopg [5,6,12] k (fun kq v5 v6 v12 w'=>∃ (x5:List S33) (x6:Bool) (x12:Int),v6 = .bool x6∧v12 = .int .i64 x12∧Aside0 (Z44.l0 kq x5 x6 l0 (l0.length:Int) x12 l1_0 l1_1 = some r)∧Aside0 (kq≤k)∧Aside0 (Kd.N k33 33 w' w.heap.size (fun k_=>((P0_ k_ ∨ P1_0_ k_ ∨ P1_1_ k_) ∨ w.heap.size≤k_)∧k_≠gs) v5 x5)∧Aside0 (w'.heap[gs]? = some (.cells #[.slice A1_0 l1_0.length c1_0,.slice A1_1 l1_1.length c1_1] 33 (0,0)))∧Aside0 (Below w.heap.size w w'))
 case atStart=>exact ⟨[],false,0,qc_,qc_,H',⟨nA_ _⟩,⟨by (with_reducible repeat (first | apply Kd.N_alloc | apply Kd.N_drewN | apply Kd.N_drew));exact HO9.out⟩,⟨kk_ BS⟩,⟨hB_⟩⟩
 case round =>
  clear H' HO9 BS HB
  obtain ⟨x5,x6,x12,rfl,rfl,HA,HK1,HO,BS,HW⟩:=hrel
  have HB:=A_ (Below.refl wr.heap.size wr)
  cases gk with
  | zero=>exact absurd HA.out (by simp [Z44.l0])
  | succ k1 =>
   have H:=HA.out
   clear HA
   simp only [Z44.l0] at H
   obtain ⟨A5,c5,e5⟩:=Kd.N_slice HO.out
   subst e5
   by_cases c10:x12 < (l0.length:Int)
   ·rw [if_pos c10] at H
    have c10b0:=oC_ c10
    have c11:=cp_ H
    replace H:=ca_ H
    have c12:=cp_ H
    replace H:=ca_ H
    obtain ⟨b1,AF1,H⟩:=bi_ H
    obtain ⟨ad1,A9,c9,A8,c8,e1,hz1,hz2,hz3,hz4,hz5,hz6⟩:=at_T33 (Kd.V_reads' (Kd.V_below HO0.out HW.out)).2.2 x12 c11 c12
    cases e1
    clear hz1 hz2 hz3 hz4 hz5 hz6
    obtain ⟨ce,hce,hMe,hcc⟩:=Kd.V_get (Kd.V_below HO0.out HW.out) z33 x12 c11 c12
    obtain ⟨sx,hsx⟩:∃ sx,sx = rd_T33 l0 x12:=⟨_,rfl⟩
    change Kd.FK k33 wr _ (rd_T33 l0 x12) ce at hMe
    rw [← hsx] at hMe H AF1
    obtain ⟨A1,c1,A2,c2,rfl,hl1,hf1,hl2,hf2⟩:=k33_openF hMe
    have hx1:=hcc 0 _ rfl
    rw [Nat.add_zero] at hx1
    have hx2:=hcc 1 _ rfl
    rw [add_field _ _ 1 (by omega)] at hx2
    simp only [show k33.sz = 2 from rfl] at hx1 hx2
    have FX:=A_ hMe
    have HI1:=A_ (Kd.F_now hf1)
    have HI2:=A_ (Kd.F_now hf2)
    have HL1:=A_ hl1
    have HL2:=A_ hl2
    have HJ1:=A_ (cD_ (Kd.V_reads' HS0.out).2.2 HW.out)
    have HJ2:=A_ (cD_ (Kd.V_reads' HS1.out).2.2 HW.out)
    clear hMe hf1 hf2 hl1 hl2 hcc hce hsx c10
    replace c11:=eq_true c11
    replace c12:=eq_true c12
    have HX:=A_ H
    clear H
    go_upto_if 18 with (first | ((with_reducible refine gB_ (N:=8) rfl ?_);refine bx_ 8 #[.slice none 0 0,.slice none 0 0] 33 ?_;intro gx hg w2 hbox hb;have BX:=A_ hbox;have GX:=gw_ wr hg;replace HB:=b1_ hb;clear hb hbox hg;obtain ⟨hcx0,hcx1,hfx0,hfx1⟩:=c2_ BX;obtain ⟨hcs0,hcs1,hfs0,hfs1⟩:=c2_ (A_ (kE_ BS.out hB_))) | ((with_reducible refine gate_store (t:=33) (p:=8) rfl ?_);refine store_event (t:=33) (p:=8) (v:=?vo_w3) (w1:=((w2.setCell ⟨gx,0,none⟩ (.slice A1 sx.f0.length c1)).setCell ⟨gx,1,none⟩ (.slice A2 sx.f1.length c2))) ?hg ?ho ?hn ?hr ?_;(case ho=>rfl);(case hg=>rfl);(case hn=>rfl);(case hr=>first | (go_simp;done) | (go_simp;rfl));intro w3 hw;have n7_:Aside0 (w3.heap[gx]? = some (.cells #[.slice A1 sx.f0.length c1,.slice A2 sx.f1.length c2] 33 (0,0))):=⟨(by rw [hw];exact qp_)⟩;have n8_:Aside0 (Below wr.heap.size wr w3):=⟨(by rw [hw];exact hB_)⟩;clear hw;clear BX;clear HB;have BX:=n7_;have HB:=n8_;clear n7_ n8_ hcx0 hcx1 hfx0 hfx1;clear hcs0 hcs1 hfs0 hfs1;obtain ⟨hcx0,hcx1,hfx0,hfx1⟩:=c2_ BX;obtain ⟨hcs0,hcs1,hfs0,hfs1⟩:=c2_ (A_ (kE_ BS.out hB_))) | ((with_reducible refine gA_ (f:=125) rfl ?_);refine gL_ (some 18) Try.func125 #[.agg #[.slice A1 sx.f0.length c1,.slice A2 sx.f1.length c2],.agg #[.slice A1_0 l1_0.length c1_0,.slice A1_1 l1_1.length c1_1]] rfl qa_ ?_;(with_reducible refine (Z25.calls k1 _ _ sx.f0 _ _ sx.f1 _ _ l1_0 _ _ l1_1 b1 _ (cb_ HI1) HL1.out (cb_ HI2) HL2.out (cb_ HJ1) HM1.out (cb_ HJ2) HM2.out AF1.out).mono ?_);rintro e w4 ⟨rfl,hb⟩;refine ⟨_,rfl,?_⟩;replace BX:=bb_ BX hb;replace HB:=b1_ hb;clear hb hcx0 hcx1 hfx0 hfx1;clear hcs0 hcs1 hfs0 hfs1;obtain ⟨hcx0,hcx1,hfx0,hfx1⟩:=c2_ BX;obtain ⟨hcs0,hcs1,hfs0,hfs1⟩:=c2_ (A_ (kE_ BS.out hB_))))
    cases b1 with
    | true =>
     have H:=HX.out
     rw [if_pos rfl] at H
     have LM:=A_ (cp_ H)
     have H':=A_ (ca_ H)
     clear H HX
     go_wp2_with ((with_reducible refine gate_builtin (b:=.append) (xs:=#[.tmp 30,.tmp 32]) rfl ?_);at_builtin;refine Kd.N_append k33 (w0:=w) w.heap.size rfl (.tmp 30) (.tmp 32) 25 33 (.agg #[(.slice none 0 0),(.slice none 0 0)]) 48 rfl Try.underlying25 info33 rfl (by decide) (by omega) (.slice A5 x5.length c5) x5 (⟨sx.f0,sx.f1⟩:S33) [.slice A1 sx.f0.length c1,.slice A2 sx.f1.length c2] (fun k_=>((P0_ k_ ∨ P1_0_ k_ ∨ P1_1_ k_) ∨ w.heap.size≤k_)∧k_≠gs) (fun k_=>P0_ k_∧k_ < w.heap.size) rfl rfl ?aP ?aK ?aF ?aO ?aB ?aS ?aL ?_;(case aP=>exact Kd.FK_below FX.out hB_);(case aK=>exact (fun k_ hk=>⟨⟨.inl (.inl hk.1),fun e_=>by have:=GS.out;have:=hk.2;omega⟩,fun e_=>by have:=Kd.N_base HO.out k_ e_.symm;have:=hk.2;omega⟩));(case aF=>exact (fun k_ hk=>⟨.inr (Nat.le_trans (Nat.le_trans (bF_ HW.out) (bF_ hB_)) hk),fun e_=>by have h1_:=blk_lt BS.out;have h2_:=bF_ (show Below wr.heap.size wr _ from hB_);subst e_;omega⟩));(case aO=>exact Kd.N_below HO.out hB_);(case aB=>exact bE_ HW.out hB_);(case aS=>exact Nat.le_trans (bF_ HW.out) (bF_ hB_));(case aL=>have:=LM.out;omega);intro v7 w7 ho hb hg hat;have HO7:=A_ ho;have BS7:Aside0 (w7.heap[gs]? = _):=⟨(hg.block gs (blk_lt (kE_ BS.out hB_)) (Kd.N_away (Kd.N_below HO.out hB_) (fun _ hk=>hk.2))).trans (kE_ BS.out hB_)⟩;have HB7:=A_ hb;clear ho hg hat hb)
     go_roundg k1
     case measure=>have:=HK1.out;omega
     case rel=>exact ⟨_,(true),(wrap64 (x12 + 1)),qc_,qc_,H',⟨by have:=HK1.out;omega⟩,⟨by (with_reducible repeat (first | apply Kd.N_alloc | apply Kd.N_drewN | apply Kd.N_drew));exact HO7.out⟩,⟨kk_ BS7⟩,⟨by repeat (first | (with_reducible first | exact HB7.out | apply bA_ | apply bB_ | apply bC_) | exact HB7.out)⟩⟩
    | false =>
     have H:=HX.out
     rw [if_neg (by decide)] at H
     clear HX
     cases x6 with
     | true =>
      rw [if_pos rfl] at H
      have LM:=A_ (cp_ H)
      have H':=A_ (ca_ H)
      clear H
      go_wp2_with ((with_reducible refine gate_builtin (b:=.append) (xs:=#[.tmp 30,.tmp 32]) rfl ?_);at_builtin;refine Kd.N_append k33 (w0:=w) w.heap.size rfl (.tmp 30) (.tmp 32) 25 33 (.agg #[(.slice none 0 0),(.slice none 0 0)]) 48 rfl Try.underlying25 info33 rfl (by decide) (by omega) (.slice A5 x5.length c5) x5 (⟨sx.f0,sx.f1⟩:S33) [.slice A1 sx.f0.length c1,.slice A2 sx.f1.length c2] (fun k_=>((P0_ k_ ∨ P1_0_ k_ ∨ P1_1_ k_) ∨ w.heap.size≤k_)∧k_≠gs) (fun k_=>P0_ k_∧k_ < w.heap.size) rfl rfl ?aP ?aK ?aF ?aO ?aB ?aS ?aL ?_;(case aP=>exact Kd.FK_below FX.out hB_);(case aK=>exact (fun k_ hk=>⟨⟨.inl (.inl hk.1),fun e_=>by have:=GS.out;have:=hk.2;omega⟩,fun e_=>by have:=Kd.N_base HO.out k_ e_.symm;have:=hk.2;omega⟩));(case aF=>exact (fun k_ hk=>⟨.inr (Nat.le_trans (Nat.le_trans (bF_ HW.out) (bF_ hB_)) hk),fun e_=>by have h1_:=blk_lt BS.out;have h2_:=bF_ (show Below wr.heap.size wr _ from hB_);subst e_;omega⟩));(case aO=>exact Kd.N_below HO.out hB_);(case aB=>exact bE_ HW.out hB_);(case aS=>exact Nat.le_trans (bF_ HW.out) (bF_ hB_));(case aL=>have:=LM.out;omega);intro v7 w7 ho hb hg hat;have HO7:=A_ ho;have BS7:Aside0 (w7.heap[gs]? = _):=⟨(hg.block gs (blk_lt (kE_ BS.out hB_)) (Kd.N_away (Kd.N_below HO.out hB_) (fun _ hk=>hk.2))).trans (kE_ BS.out hB_)⟩;have HB7:=A_ hb;clear ho hg hat hb)
      go_roundg k1
      case measure=>have:=HK1.out;omega
      case rel=>exact ⟨_,(true),(wrap64 (x12 + 1)),qc_,qc_,H',⟨by have:=HK1.out;omega⟩,⟨by (with_reducible repeat (first | apply Kd.N_alloc | apply Kd.N_drewN | apply Kd.N_drew));exact HO7.out⟩,⟨kk_ BS7⟩,⟨by repeat (first | (with_reducible first | exact HB7.out | apply bA_ | apply bB_ | apply bC_) | exact HB7.out)⟩⟩
     | false =>
      rw [if_neg (by decide)] at H
      obtain ⟨b2,AF2,H⟩:=bi_ H
      cases b2 with
      | true =>
       rw [if_pos rfl] at H
       have LM:=A_ (cp_ H)
       replace H:=ca_ H
       obtain ⟨y8,hy8⟩:∃ y_:List S33,y_ = x5 ++ [(⟨l1_0,l1_1⟩:S33)]:=⟨_,rfl⟩
       rw [← hy8,oA_] at H
       have LM2:=A_ (cp_ H)
       have H':=A_ (ca_ H)
       have NY:=A_ hy8
       clear H hy8
       go_upto_region 11 with (first | (go_at_call 128;(with_reducible refine (Z40.calls k1 _ _ l1_0 _ _ l1_1 _ _ sx.f0 _ _ sx.f1 _ _ (cb_ HJ1) HM1.out (cb_ HJ2) HM2.out (cb_ HI1) HL1.out (cb_ HI2) HL2.out AF2.out).mono ?_);rintro e w4 ⟨rfl,hb⟩;replace BX:=bb_ BX hb;replace HB:=b1_ hb;clear hb hcx0 hcx1 hfx0 hfx1;clear hcs0 hcs1 hfs0 hfs1;obtain ⟨hcx0,hcx1,hfx0,hfx1⟩:=c2_ BX;obtain ⟨hcs0,hcs1,hfs0,hfs1⟩:=c2_ (A_ (kE_ BS.out hB_))) | ((with_reducible refine gate_builtin (b:=.append) (xs:=#[.tmp 26,.tmp 28]) rfl ?_);at_builtin;refine Kd.N_append k33 (w0:=w) w.heap.size rfl (.tmp 26) (.tmp 28) 25 33 (.agg #[(.slice none 0 0),(.slice none 0 0)]) 48 rfl Try.underlying25 info33 rfl (by decide) (by omega) (.slice A5 x5.length c5) x5 (⟨l1_0,l1_1⟩:S33) [.slice A1_0 l1_0.length c1_0,.slice A1_1 l1_1.length c1_1] (fun k_=>((P0_ k_ ∨ P1_0_ k_ ∨ P1_1_ k_) ∨ w.heap.size≤k_)∧k_≠gs) (fun k_=>(P1_0_ k_ ∨ P1_1_ k_)∧k_ < w.heap.size) rfl rfl ?aP ?aK ?aF ?aO ?aB ?aS ?aL ?_;(case aP=>exact Kd.FK_below FS.out (bE_ HW.out hB_));(case aK=>exact (fun k_ hk=>⟨⟨.inl (.inr hk.1),fun e_=>by have:=GS.out;have:=hk.2;omega⟩,fun e_=>by have:=Kd.N_base HO.out k_ e_.symm;have:=hk.2;omega⟩));(case aF=>exact (fun k_ hk=>⟨.inr (Nat.le_trans (Nat.le_trans (bF_ HW.out) (bF_ hB_)) hk),fun e_=>by have h1_:=blk_lt BS.out;have h2_:=bF_ (show Below wr.heap.size wr _ from hB_);subst e_;omega⟩));(case aO=>exact Kd.N_below HO.out hB_);(case aB=>exact bE_ HW.out hB_);(case aS=>exact Nat.le_trans (bF_ HW.out) (bF_ hB_));(case aL=>have:=LM.out;omega);intro v7 w7 ho hb hg hat;rw [← NY.out] at ho;have BX7:Aside0 (w7.heap[gx]? = _):=⟨(hg.block gx (blk_lt BX.out) (fun e_=>by have h1_:=Kd.N_lt HO.out gx e_.symm;have h2_:=GX.out;omega)).trans BX.out⟩;have FX7:=A_ (Kd.FK_grown (Kd.FK_below FX.out hB_) hg (fun k_ hk e_=>by have h1_:=Kd.N_base HO.out k_ e_.symm;have h2_:=hk.2;omega));have HO7:=A_ ho;have BS7:Aside0 (w7.heap[gs]? = _):=⟨(hg.block gs (blk_lt (kE_ BS.out hB_)) (Kd.N_away (Kd.N_below HO.out hB_) (fun _ hk=>hk.2))).trans (kE_ BS.out hB_)⟩;have HB7:=A_ hb;clear ho hg hat hb;obtain ⟨A7,c7,e7⟩:=Kd.N_slice HO7.out;subst e7;clear HO BS HB HW FX GX BX HI1 HI2 HJ1 HJ2 hcx0 hcx1 hfx0 hfx1 hcs0 hcs1 hfs0 hfs1;have HO:=HO7;have BS:=BS7;have HW:=HB7;have BX:=BX7;have FX:=FX7;clear HO7 BS7 HB7 BX7 FX7;have HB:=A_ (Below.refl w7.heap.size w7);obtain ⟨hcx0,hcx1,hfx0,hfx1⟩:=c2_ BX;obtain ⟨hcs0,hcs1,hfs0,hfs1⟩:=c2_ BS))
       go_wp2_with ((with_reducible refine gate_builtin (b:=.append) (xs:=#[.tmp 30,.tmp 32]) rfl ?_);at_builtin;refine Kd.N_append k33 (w0:=w) w.heap.size rfl (.tmp 30) (.tmp 32) 25 33 (.agg #[(.slice none 0 0),(.slice none 0 0)]) 48 rfl Try.underlying25 info33 rfl (by decide) (by omega) (.slice A7 y8.length c7) y8 (⟨sx.f0,sx.f1⟩:S33) [.slice A1 sx.f0.length c1,.slice A2 sx.f1.length c2] (fun k_=>((P0_ k_ ∨ P1_0_ k_ ∨ P1_1_ k_) ∨ w.heap.size≤k_)∧k_≠gs) (fun k_=>P0_ k_∧k_ < w.heap.size) rfl rfl ?aP ?aK ?aF ?aO ?aB ?aS ?aL ?_;(case aP=>exact Kd.FK_below FX.out hB_);(case aK=>exact (fun k_ hk=>⟨⟨.inl (.inl hk.1),fun e_=>by have:=GS.out;have:=hk.2;omega⟩,fun e_=>by have:=Kd.N_base HO.out k_ e_.symm;have:=hk.2;omega⟩));(case aF=>exact (fun k_ hk=>⟨.inr (Nat.le_trans (Nat.le_trans (bF_ HW.out) (bF_ hB_)) hk),fun e_=>by have h1_:=blk_lt BS.out;have h2_:=bF_ (show Below w7.heap.size w7 _ from hB_);subst e_;omega⟩));(case aO=>exact Kd.N_below HO.out hB_);(case aB=>exact bE_ HW.out hB_);(case aS=>exact Nat.le_trans (bF_ HW.out) (bF_ hB_));(case aL=>have:=LM2.out;omega);intro v9 w9 ho hb hg hat;have HO9:=A_ ho;have BS9:Aside0 (w9.heap[gs]? = _):=⟨(hg.block gs (blk_lt (kE_ BS.out hB_)) (Kd.N_away (Kd.N_below HO.out hB_) (fun _ hk=>hk.2))).trans (kE_ BS.out hB_)⟩;have HB9:=A_ hb;clear ho hg hat hb)
       go_roundg k1
       case measure=>have:=HK1.out;omega
       case rel=>exact ⟨_,(true),(wrap64 (x12 + 1)),qc_,qc_,H',⟨by have:=HK1.out;omega⟩,⟨by (with_reducible repeat (first | apply Kd.N_alloc | apply Kd.N_drewN | apply Kd.N_drew));exact HO9.out⟩,⟨kk_ BS9⟩,⟨by repeat (first | (with_reducible first | exact HB9.out | apply bA_ | apply bB_ | apply bC_) | exact HB9.out)⟩⟩
      | false =>
       rw [if_neg (by decide)] at H
       have LM:=A_ (cp_ H)
       have H':=A_ (ca_ H)
       clear H
       go_wp2_with (first | (go_at_call 128;(with_reducible refine (Z40.calls k1 _ _ l1_0 _ _ l1_1 _ _ sx.f0 _ _ sx.f1 _ _ (cb_ HJ1) HM1.out (cb_ HJ2) HM2.out (cb_ HI1) HL1.out (cb_ HI2) HL2.out AF2.out).mono ?_);rintro e w4 ⟨rfl,hb⟩;replace BX:=bb_ BX hb;replace HB:=b1_ hb;clear hb hcx0 hcx1 hfx0 hfx1;clear hcs0 hcs1 hfs0 hfs1;obtain ⟨hcx0,hcx1,hfx0,hfx1⟩:=c2_ BX;obtain ⟨hcs0,hcs1,hfs0,hfs1⟩:=c2_ (A_ (kE_ BS.out hB_))) | ((with_reducible refine gate_builtin (b:=.append) (xs:=#[.tmp 30,.tmp 32]) rfl ?_);at_builtin;refine Kd.N_append k33 (w0:=w) w.heap.size rfl (.tmp 30) (.tmp 32) 25 33 (.agg #[(.slice none 0 0),(.slice none 0 0)]) 48 rfl Try.underlying25 info33 rfl (by decide) (by omega) (.slice A5 x5.length c5) x5 (⟨sx.f0,sx.f1⟩:S33) [.slice A1 sx.f0.length c1,.slice A2 sx.f1.length c2] (fun k_=>((P0_ k_ ∨ P1_0_ k_ ∨ P1_1_ k_) ∨ w.heap.size≤k_)∧k_≠gs) (fun k_=>P0_ k_∧k_ < w.heap.size) rfl rfl ?aP ?aK ?aF ?aO ?aB ?aS ?aL ?_;(case aP=>exact Kd.FK_below FX.out hB_);(case aK=>exact (fun k_ hk=>⟨⟨.inl (.inl hk.1),fun e_=>by have:=GS.out;have:=hk.2;omega⟩,fun e_=>by have:=Kd.N_base HO.out k_ e_.symm;have:=hk.2;omega⟩));(case aF=>exact (fun k_ hk=>⟨.inr (Nat.le_trans (Nat.le_trans (bF_ HW.out) (bF_ hB_)) hk),fun e_=>by have h1_:=blk_lt BS.out;have h2_:=bF_ (show Below wr.heap.size wr _ from hB_);subst e_;omega⟩));(case aO=>exact Kd.N_below HO.out hB_);(case aB=>exact bE_ HW.out hB_);(case aS=>exact Nat.le_trans (bF_ HW.out) (bF_ hB_));(case aL=>have:=LM.out;omega);intro v7 w7 ho hb hg hat;have HO7:=A_ ho;have BS7:Aside0 (w7.heap[gs]? = _):=⟨(hg.block gs (blk_lt (kE_ BS.out hB_)) (Kd.N_away (Kd.N_below HO.out hB_) (fun _ hk=>hk.2))).trans (kE_ BS.out hB_)⟩;have HB7:=A_ hb;clear ho hg hat hb))
       go_roundg k1
       case measure=>have:=HK1.out;omega
       case rel=>exact ⟨_,(false),(wrap64 (x12 + 1)),qc_,qc_,H',⟨by have:=HK1.out;omega⟩,⟨by (with_reducible repeat (first | apply Kd.N_alloc | apply Kd.N_drewN | apply Kd.N_drew));exact HO7.out⟩,⟨kk_ BS7⟩,⟨by repeat (first | (with_reducible first | exact HB7.out | apply bA_ | apply bB_ | apply bC_) | exact HB7.out)⟩⟩
   ·rw [if_neg c10] at H
    have c10b0:=oD_ c10
    clear c10
    obtain ⟨hcs0,hcs1,hfs0,hfs1⟩:=c2_ BS
    cases x6 with
    | true =>
     rw [if_pos rfl] at H
     obtain rfl:=Option.some.inj H
     go_wp2
     go_ret
     exact ⟨_,qb_,Kd.N_mono (Kd.N_below HO.out hB_) (fun _ hk=>hk.1),bE_ HW.out hB_⟩
    | false =>
     rw [if_neg (by decide)] at H
     have LM:=A_ (cp_ H)
     obtain rfl:=Option.some.inj (ca_ H)
     clear H
     go_wp2_with ((with_reducible refine gate_builtin (b:=.append) (xs:=#[.tmp 37,.tmp 39]) rfl ?_);at_builtin;refine Kd.N_append k33 (w0:=w) w.heap.size rfl (.tmp 37) (.tmp 39) 25 33 (.agg #[(.slice none 0 0),(.slice none 0 0)]) 48 rfl Try.underlying25 info33 rfl (by decide) (by omega) (.slice A5 x5.length c5) x5 (⟨l1_0,l1_1⟩:S33) [.slice A1_0 l1_0.length c1_0,.slice A1_1 l1_1.length c1_1] (fun k_=>((P0_ k_ ∨ P1_0_ k_ ∨ P1_1_ k_) ∨ w.heap.size≤k_)∧k_≠gs) (fun k_=>(P1_0_ k_ ∨ P1_1_ k_)∧k_ < w.heap.size) rfl rfl ?aP ?aK ?aF ?aO ?aB ?aS ?aL ?_;(case aP=>exact Kd.FK_below FS.out (bE_ HW.out hB_));(case aK=>exact (fun k_ hk=>⟨⟨.inl (.inr hk.1),fun e_=>by have:=GS.out;have:=hk.2;omega⟩,fun e_=>by have:=Kd.N_base HO.out k_ e_.symm;have:=hk.2;omega⟩));(case aF=>exact (fun k_ hk=>⟨.inr (Nat.le_trans (Nat.le_trans (bF_ HW.out) (bF_ hB_)) hk),fun e_=>by have h1_:=blk_lt BS.out;have h2_:=bF_ (show Below wr.heap.size wr _ from hB_);subst e_;omega⟩));(case aO=>exact Kd.N_below HO.out hB_);(case aB=>exact bE_ HW.out hB_);(case aS=>exact Nat.le_trans (bF_ HW.out) (bF_ hB_));(case aL=>have:=LM.out;omega);intro v7 w7 ho hb hg hat;have HO7:=A_ ho;have BS7:Aside0 (w7.heap[gs]? = _):=⟨(hg.block gs (blk_lt (kE_ BS.out hB_)) (Kd.N_away (Kd.N_below HO.out hB_) (fun _ hk=>hk.2))).trans (kE_ BS.out hB_)⟩;have HB7:=A_ hb;clear ho hg hat hb)
     go_ret
     exact ⟨_,qb_,Kd.N_mono (ok:=(fun k_=>((P0_ k_ ∨ P1_0_ k_ ∨ P1_1_ k_) ∨ w.heap.size≤k_)∧k_≠gs)) (by (with_reducible repeat (first | apply Kd.N_alloc | apply Kd.N_drewN | apply Kd.N_drew));exact HO7.out) (fun _ hk=>hk.1),by repeat (first | (with_reducible first | exact HB7.out | apply bA_ | apply bB_ | apply bC_) | exact HB7.out)⟩
end Go.Proofs.Ytoijcallajegfaa.A
end
section
namespace Go.Proofs.Ytoijcallajegfaa.A
open Go.RowKit Go.Proofs.YtoijcallajegfaaW.PrintWords Go.Proofs.YtoijcallajegfaaW.PrintLast Go.Proofs.YtoijcallajegfaaW.PrintMore
attribute [local go_sem] max2_int min2_int max_two min_two max_three min_three max_four min_four
set_option linter.unusedVariables false
set_option linter.unusedSimpArgs false
mutual
def Z58.l0:Nat→Int→List (List Int)→Int→Option ((List (List Int)))
 | 0,_,_,_=>none
 | k + 1,x0,x3,x4=>if x4 < x0 then (Z58.l1 k x0 x4 (([]:List (List Int))) x3 (x3.length:Int) 0) else (some x3)
def Z58.l1:Nat→Int→Int→List (List Int)→List (List Int)→Int→Int→Option ((List (List Int)))
 | 0,_,_,_,_,_,_=>none
 | k + 1,x0,x4,x5,x17,x18,x19=>if x19 < x18 then (if 0≤x19 then (if x19 < (x17.length:Int) then (Z58.l2 k x0 x4 x5 (rd_L5 x17 x19) 0 x17 x18 x19) else (none)) else (none)) else (Z58.l0 k x0 x5 (wrap64 (x4 + 1)))
def Z58.l2:Nat→Int→Int→List (List Int)→List Int→Int→List (List Int)→Int→Int→Option ((List (List Int)))
 | 0,_,_,_,_,_,_,_,_=>none
 | k + 1,x0,x4,x5,x7,x8,x17,x18,x19=>if x8 < x0 then ((Z68.f k x7 x8).bind fun t1193=>(if t1193 = true then (Z58.l2 k x0 x4 x5 x7 (wrap64 (x8 + 1)) x17 x18 x19) else ((some (([]:List Int):List Int)).bind fun y1194=>(if y1194.length + x7.length < 17592186044416 then ((some (y1194 ++ x7:List Int)).bind fun y1197=>(if y1197.length < 17592186044416 then (if x5.length < 5864062014805 then (Z58.l2 k x0 x4 (x5 ++ [(y1197 ++ [x8])]) x7 (wrap64 (x8 + 1)) x17 x18 x19) else (none)) else (none))) else (none))))) else (Z58.l1 k x0 x4 x5 x17 x18 (wrap64 (x19 + 1)))
end
def Z58.f (k:Nat) (a0:Int):Option ((List (List Int))):=Z58.l0 k a0 (([(([]:List Int))]:List (List Int))) 0
theorem Z58.mono_l:∀ k,(∀ y0 y1 y2,LeO (Z58.l0 k y0 y1 y2) (Z58.l0 (k + 1) y0 y1 y2))∧(∀ y0 y1 y2 y3 y4 y5,LeO (Z58.l1 k y0 y1 y2 y3 y4 y5) (Z58.l1 (k + 1) y0 y1 y2 y3 y4 y5))∧(∀ y0 y1 y2 y3 y4 y5 y6 y7,LeO (Z58.l2 k y0 y1 y2 y3 y4 y5 y6 y7) (Z58.l2 (k + 1) y0 y1 y2 y3 y4 y5 y6 y7))
 | 0=>⟨fun _ _ _ r h=>by simp [Z58.l0] at h,fun _ _ _ _ _ _ r h=>by simp [Z58.l1] at h,fun _ _ _ _ _ _ _ _ r h=>by simp [Z58.l2] at h⟩
 | k + 1=>by
  obtain ⟨ih0,ih1,ih2⟩:=Z58.mono_l k
  refine ⟨?_,?_,?_⟩
  ·intro y0 y1 y2
   unfold Z58.l0
   repeat' first|exact ih0 _ _ _|exact ih1 _ _ _ _ _ _|exact ih2 _ _ _ _ _ _ _ _|exact Z68.mono _ _ _|exact lo_|refine LeO.ite ?_ ?_|refine LeO.bind ?_ (fun _=>?_)
  ·intro y0 y1 y2 y3 y4 y5
   unfold Z58.l1
   repeat' first|exact ih0 _ _ _|exact ih1 _ _ _ _ _ _|exact ih2 _ _ _ _ _ _ _ _|exact Z68.mono _ _ _|exact lo_|refine LeO.ite ?_ ?_|refine LeO.bind ?_ (fun _=>?_)
  ·intro y0 y1 y2 y3 y4 y5 y6 y7
   unfold Z58.l2
   repeat' first|exact ih0 _ _ _|exact ih1 _ _ _ _ _ _|exact ih2 _ _ _ _ _ _ _ _|exact Z68.mono _ _ _|exact lo_|refine LeO.ite ?_ ?_|refine LeO.bind ?_ (fun _=>?_)
theorem Z58.mono:∀ a0 k,LeO (Z58.f k a0) (Z58.f (k + 1) a0):=by
 intro a0 k
 obtain ⟨ih0,ih1,ih2⟩:=Z58.mono_l k
 unfold Z58.f
 repeat' first|exact ih0 _ _ _|exact ih1 _ _ _ _ _ _|exact ih2 _ _ _ _ _ _ _ _|exact Z68.mono _ _ _|exact lo_|refine LeO.ite ?_ ?_|refine LeO.bind ?_ (fun _=>?_)
set_option maxHeartbeats 8000000 in
set_option maxRecDepth 100000 in
theorem Z58.calls (k:Nat) (a0:Int) (r:List (List Int)) (w:World) (h:Z58.f k a0 = some r) :
  Calls Try.prog 84 #[.int .i64 a0] w fun e w'=>∃ v0_:Value,e = .returned (v0_)∧Kd.N (Kd.slice 3 (Kd.int .i64)) 23 w' w.heap.size (fun k_=>(w.heap.size≤k_)) v0_ r∧Below w.heap.size w w':=by
 have HB:=A_ (Below.refl w.heap.size w)
 have H:=h
 unfold Z58.f at H
 clear h
 obtain ⟨y1183,hy1183⟩:∃ y_:List Int,y_ = (([]:List Int)):=⟨_,rfl⟩
 replace H:(Z58.l0 k a0 (([y1183]:List (List Int))) 0) = some r:=by first | (rw [hy1183];exact H) | exact H
 have Ny1183:=A_ hy1183
 clear hy1183
 obtain ⟨y1186,hy1186⟩:∃ y_:List (List Int),y_ = (([y1183]:List (List Int))):=⟨_,rfl⟩
 replace H:(Z58.l0 k a0 y1186 0) = some r:=by first | (rw [hy1186];exact H) | exact H
 have Ny1186:=A_ hy1186
 clear hy1186
 have H':=A_ H
 clear H
 go_enter Try.func84,Try.ntmps84
 go_wp2_with (first | ((with_reducible refine gB_ (N:=9) rfl ?_);refine Kd.R_lit (Kd.int .i64) _ 3 ?hg (N:=9) ?hd (xs:=([]:List Int)) (inner:=[]) (ok:=fun _=>True) (okp:=fun _=>True) ?hr ?hp (fun _ hk=>hk) trivial (Below.refl _ _) (nA_ _) (by simp) ?_;(case hd=>rfl);(case hg=>rfl);(case hr=>first | (go_simp;done) | (go_simp;rfl));(case hp=>exact (Reps.none _ _));intro v1184 w2 ho3 hb hg_ hnew_;clear hg_ hnew_;(first | rw [← Ny1183.out] at ho3 | (simp only [Int.reduceToNat] at ho3;rw [← Ny1183.out] at ho3));have HO1185:=A_ (rE_ (Kd.R_newM (M:=fun k_=>(w.heap.size≤k_)) ho3 (bF_ hB_) (fun k_ h_=>h_)) (bF_ hB_));replace HB:=b1_ hb;clear hb ho3;obtain ⟨Ao4,co4,eo4⟩:=Kd.R_slice HO1185.out;subst eo4) | ((with_reducible refine gB_ (N:=10) rfl ?_);refine Kd.N_lit (Kd.slice 3 (Kd.int .i64)) _ 23 ?hg (N':=10) ?hd (xs:=([y1183]:List (List Int))) (inner:=[.slice Ao4 y1183.length co4]) (ok:=(fun k_=>(w.heap.size≤k_))) (okp:=(fun k_=>(w.heap.size≤k_))) ?hr ?hp (fun _ hk=>hk) ((show ∀ k_,w2.heap.size≤k_→(fun k_=>(w.heap.size≤k_)) k_ from fun k_ hk=>(Nat.le_trans (bF_ hB_) hk)) _ (nA_ _)) (Below.refl _ _) (nA_ _) (by simp) ?_;(case hd=>rfl);(case hg=>rfl);(case hr=>first | (go_simp;done) | (go_simp;rfl));(case hp=>exact (Reps.one (show Kd.FK (Kd.slice 3 (Kd.int .i64)) _ _ y1183 [.slice Ao4 y1183.length co4] from (Kd.FK_slice_mk (Kd.R_reads' (Kd.R_mono (ok':=(fun k_=>(w.heap.size≤k_))) (HO1185.out) (fun k_ hk=>hk.1))).2.1 (Kd.R_F (Kd.R_mono (ok':=(fun k_=>(w.heap.size≤k_))) (HO1185.out) (fun k_ hk=>hk.1))))) (Reps.none _ _)));intro v1187 w5 ho6 hb hg_ hnew_;clear hg_ hnew_;(first | rw [← Ny1186.out] at ho6 | (simp only [Int.reduceToNat] at ho6;rw [← Ny1186.out] at ho6));have HO1188:=A_ (Kd.N_lower ho6 (bF_ hB_));replace HB:=b1_ hb;clear HO1185;clear hb ho6))
 go_loopg [3,4] k (fun kq v3 v4 w'=>∃ (x3_1:List (List Int)) (x4_1:Int),v4 = .int .i64 x4_1∧Aside0 (Z58.l0 kq a0 x3_1 x4_1 = some r)∧Aside0 (kq≤k)∧Aside0 (Kd.N (Kd.slice 3 (Kd.int .i64)) 23 w' w.heap.size (fun k_=>(w.heap.size≤k_)) v3 x3_1)∧Aside0 (Below w.heap.size w w'))
 case atStart=>exact ⟨(y1186),(0),qc_,H',⟨nA_ _⟩,⟨by (with_reducible repeat (first | apply Kd.N_alloc | apply Kd.N_drewN | apply Kd.N_drew));exact HO1188.out⟩,⟨hB_⟩⟩
 case round =>
  clear H'
  obtain ⟨x3_1,x4_1,rfl,HA,HK1,HO_3,HB⟩:=hrel
  cases gk with
  | zero=>exact absurd HA.out (by simp [Z58.l0])
  | succ k1 =>
   have H:=HA.out
   clear HA
   simp only [Z58.l0] at H
   by_cases c7:x4_1 < a0
   ·rw [if_pos c7] at H
    have c7b0:=oC_ c7
    clear c7
    obtain ⟨y1189,hy1189⟩:∃ y_:List (List Int),y_ = (([]:List (List Int))):=⟨_,rfl⟩
    replace H:(Z58.l1 k1 a0 x4_1 y1189 x3_1 (x3_1.length:Int) 0) = some r:=by first | (rw [hy1189];exact H) | exact H
    have Ny1189:=A_ hy1189
    clear hy1189
    have H':=A_ H
    clear H
    go_wp2_with (first | ((with_reducible refine gB_ (N:=16) rfl ?_);refine Kd.N_lit (Kd.slice 3 (Kd.int .i64)) _ 23 ?hg (N':=16) ?hd (xs:=([]:List (List Int))) (inner:=[]) (ok:=(fun k_=>(w.heap.size≤k_)∧some k_≠(u3:Value).ownBlock)) (okp:=(fun k_=>(w.heap.size≤k_)∧some k_≠(u3:Value).ownBlock)) ?hr ?hp (fun _ hk=>hk) ((show ∀ k_,wr.heap.size≤k_→(fun k_=>(w.heap.size≤k_)∧some k_≠(u3:Value).ownBlock) k_ from fun k_ hk=>⟨(Nat.le_trans (bF_ hB_) hk),Kd.fresh' (Kd.N_lt (by (with_reducible repeat (first | apply Kd.N_alloc | apply Kd.N_drewN | apply Kd.N_drew));exact HO_3.out)) k_ hk⟩) _ (nA_ _)) (Below.refl _ _) (nA_ _) (by simp) ?_;(case hd=>rfl);(case hg=>rfl);(case hr=>first | (go_simp;done) | (go_simp;rfl));(case hp=>exact (Reps.none _ _));intro v1190 w8 ho9 hb hg_ hnew_;clear hg_ hnew_;(first | rw [← Ny1189.out] at ho9 | (simp only [Int.reduceToNat] at ho9;rw [← Ny1189.out] at ho9));replace HO_3:=A_ (Kd.N_elder' (by (with_reducible repeat (first | apply Kd.N_alloc | apply Kd.N_drewN | apply Kd.N_drew));exact HO_3.out) (Kd.N_base ho9) hb);have HO1191:=A_ (Kd.N_lower ho9 (bF_ hB_));replace HB:=b1_ hb;clear hb ho9;obtain ⟨Ao10,co10,eo10⟩:=Kd.N_slice HO_3.out;subst eo10))
    go_loopg [5,19] k1 (fun kq v5 v19 w'=>∃ (x5_2:List (List Int)) (x19_2:Int),v19 = .int .i64 x19_2∧Aside0 (Z58.l1 kq a0 x4_1 x5_2 x3_1 (x3_1.length:Int) x19_2 = some r)∧Aside0 (kq≤k1)∧Aside0 (Kd.N (Kd.slice 3 (Kd.int .i64)) 23 w' w.heap.size (fun k_=>(w.heap.size≤k_)∧some k_≠((.slice Ao10 x3_1.length co10):Value).ownBlock) v5 x5_2)∧Aside0 (Kd.N (Kd.slice 3 (Kd.int .i64)) 23 w' w.heap.size (fun k_=>(w.heap.size≤k_)∧some k_≠(v5:Value).ownBlock) (.slice Ao10 x3_1.length co10) x3_1)∧Aside0 (Below w.heap.size w w'))
    case atStart=>exact ⟨(y1189),(0),qc_,H',⟨nA_ _⟩,⟨by (with_reducible repeat (first | apply Kd.N_alloc | apply Kd.N_drewN | apply Kd.N_drew));exact HO1191.out⟩,⟨by (with_reducible repeat (first | apply Kd.N_alloc | apply Kd.N_drewN | apply Kd.N_drew));exact HO_3.out⟩,⟨hB_⟩⟩
    case round =>
     clear H'
     obtain ⟨x5_2,x19_2,rfl,HA,HK2,HO_5,HO_17,HB⟩:=hrel
     cases gk with
     | zero=>exact absurd HA.out (by simp [Z58.l1])
     | succ k2 =>
      have H:=HA.out
      clear HA
      simp only [Z58.l1] at H
      by_cases c11:x19_2 < (x3_1.length:Int)
      ·rw [if_pos c11] at H
       have c11b0:=oC_ c11
       clear c11
       replace H:=cx_ H;obtain ⟨c12b0,H⟩:=H
       replace H:=cx_ H;obtain ⟨c13b0,H⟩:=H
       have H':=A_ H
       clear H
       have p1192:0≤(x19_2:Int):=oB_ qe_
       have q1192:x19_2 < (x3_1.length:Int):=oB_ qe_
       obtain ⟨ad1192,A1192_0,c1192_0,e1192,hx1192_0,hl1192_0,hi1192_0⟩:=at_L5 (Kd.N_reads' HO_17.out).2.2 x19_2 p1192 q1192
       cases e1192
       obtain ⟨ce1192,hce1192,hMe1192,hcc1192⟩:=Kd.N_get HO_17.out [] x19_2 p1192 (by first | exact q1192 | exact oB_ qe_ | (have e_:=(Kd.N_reads' HO_17.out).1;omega))
       obtain ⟨ua1192_0,uc1192_0,rfl,ul1192_0,ge1192_0⟩:=Kd.FK_slice_open hMe1192
       have hv1192_0:=hcc1192 0 _ rfl
       rw [Nat.add_zero,show ((Kd.slice 3 (Kd.int .i64))).sz = 1 from rfl,Nat.mul_one] at hv1192_0
       replace hv1192_0:=Option.some.inj (hv1192_0.symm.trans hx1192_0)
       injection hv1192_0 with hva_ hvn_ hvc_
       rw [hva_] at ge1192_0
       rw [hvc_] at ul1192_0
       have HL1192_0:=A_ (show Kd.V (Kd.int .i64) 3 _ w.heap.size _ _ (rd_L5 x3_1 x19_2) from Kd.V_mk ul1192_0 ge1192_0)
       clear hva_ hvn_ hvc_ ge1192_0 ul1192_0
       clear hcc1192 hce1192
       have HR1192_0:=A_ hi1192_0
       have HC1192_0:=A_ hl1192_0
       clear hi1192_0 hl1192_0
       replace p1192:=eq_true p1192
       replace q1192:=eq_true q1192
       go_wp2
       go_loopg [5,8] k2 (fun kq v5 v8 w'=>∃ (x5_3:List (List Int)) (x8_3:Int),v8 = .int .i64 x8_3∧Aside0 (Z58.l2 kq a0 x4_1 x5_3 (rd_L5 x3_1 x19_2) x8_3 x3_1 (x3_1.length:Int) x19_2 = some r)∧Aside0 (kq≤k2)∧Aside0 (Kd.N (Kd.slice 3 (Kd.int .i64)) 23 w' w.heap.size (fun k_=>(w.heap.size≤k_)∧some k_≠((.slice (some ad1192) x3_1.length co10):Value).ownBlock) v5 x5_3)∧Aside0 (Kd.V (Kd.int .i64) 3 w' w.heap.size (fun k_=>(w.heap.size≤k_)∧some k_≠(v5:Value).ownBlock∧some k_≠((.slice (some ad1192) x3_1.length co10):Value).ownBlock) (.slice A1192_0 (rd_L5 x3_1 x19_2).length c1192_0) (rd_L5 x3_1 x19_2))∧Aside0 (Kd.N (Kd.slice 3 (Kd.int .i64)) 23 w' w.heap.size (fun k_=>(w.heap.size≤k_)∧some k_≠(v5:Value).ownBlock) (.slice (some ad1192) x3_1.length co10) x3_1)∧Aside0 (Below w.heap.size w w'))
       case atStart=>exact ⟨(x5_2),(0),qc_,H',⟨nA_ _⟩,⟨by (with_reducible repeat (first | apply Kd.N_alloc | apply Kd.N_drewN | apply Kd.N_drew));exact HO_5.out⟩,⟨by (with_reducible repeat (first | apply Kd.V_alloc | apply Kd.V_drewN | apply Kd.V_drew));exact Kd.V_mono HL1192_0.out (fun _ hk=>⟨hk.1.1,⟨hk.1.2,hk.2⟩⟩)⟩,⟨by (with_reducible repeat (first | apply Kd.N_alloc | apply Kd.N_drewN | apply Kd.N_drew));exact HO_17.out⟩,⟨hB_⟩⟩
       case round =>
        clear H'
        obtain ⟨x5_3,x8_3,rfl,HA,HK3,HO_5,HO_7,HO_17,HB⟩:=hrel
        cases gk with
        | zero=>exact absurd HA.out (by simp [Z58.l2])
        | succ k3 =>
         have H:=HA.out
         clear HA
         simp only [Z58.l2] at H
         by_cases c14:x8_3 < a0
         ·rw [if_pos c14] at H
          have c14b0:=oC_ c14
          clear c14
          obtain ⟨t1193,A15,H⟩:=bi_ H
          by_cases c16:t1193 = true
          ·subst c16
           rw [if_pos rfl] at H
           have H':=A_ H
           clear H
           go_wp2_with (first | ((with_reducible refine gA_ (f:=126) rfl ?_);refine gL_ (some 30) Try.func126 #[.slice A1192_0 (rd_L5 x3_1 x19_2).length c1192_0,.int .i64 x8_3] rfl qa_ ?_;(with_reducible refine (Z68.calls k3 _ _ (rd_L5 x3_1 x19_2) x8_3 true _ (cw_ ((Kd.V_reads' HO_7.out).2.2)) ((Kd.V_reads' HO_7.out).2.1) A15.out).mono ?_);rintro e w' ⟨rfl,⟨nd,rfl⟩⟩;refine ⟨_,rfl,?_⟩))
           go_roundg k3
           case measure=>have:=HK1.out;have:=HK2.out;have:=HK3.out;omega
           case rel=>exact ⟨(x5_3),(wrap64 (x8_3 + 1)),qc_,H',⟨by have:=HK1.out;have:=HK2.out;have:=HK3.out;omega⟩,⟨by (with_reducible repeat (first | apply Kd.N_alloc | apply Kd.N_drewN | apply Kd.N_drew));exact HO_5.out⟩,⟨by (with_reducible repeat (first | apply Kd.V_alloc | apply Kd.V_drewN | apply Kd.V_drew));exact HO_7.out⟩,⟨by (with_reducible repeat (first | apply Kd.N_alloc | apply Kd.N_drewN | apply Kd.N_drew));exact HO_17.out⟩,⟨hB_⟩⟩
          ·replace c16:=Bool.eq_false_iff.mpr c16
           subst c16
           have H1:((some (([]:List Int):List Int)).bind fun y1194=>(if y1194.length + (rd_L5 x3_1 x19_2).length < 17592186044416 then ((some (y1194 ++ (rd_L5 x3_1 x19_2):List Int)).bind fun y1197=>(if y1197.length < 17592186044416 then (if x5_3.length < 5864062014805 then (Z58.l2 k3 a0 x4_1 (x5_3 ++ [(y1197 ++ [x8_3])]) (rd_L5 x3_1 x19_2) (wrap64 (x8_3 + 1)) x3_1 (x3_1.length:Int) x19_2) else (none)) else (none))) else (none))) = some r:=by rw [if_neg (show ¬ (false = true) by decide)] at H;exact H
           clear H
           have H:=H1
           clear H1
           obtain ⟨y1194,hy1194⟩:∃ y_:List Int,y_ = (([]:List Int)):=⟨_,rfl⟩
           replace H:(if y1194.length + (rd_L5 x3_1 x19_2).length < 17592186044416 then ((some (y1194 ++ (rd_L5 x3_1 x19_2):List Int)).bind fun y1197=>(if y1197.length < 17592186044416 then (if x5_3.length < 5864062014805 then (Z58.l2 k3 a0 x4_1 (x5_3 ++ [(y1197 ++ [x8_3])]) (rd_L5 x3_1 x19_2) (wrap64 (x8_3 + 1)) x3_1 (x3_1.length:Int) x19_2) else (none)) else (none))) else (none)) = some r:=by first | (rw [hy1194];exact H) | exact H
           have Ny1194:=A_ hy1194
           clear hy1194
           have c17:=cp_ H
           replace H:=ca_ H
           have LMc17:=A_ c17
           clear c17
           obtain ⟨y1197,hy1197⟩:∃ y_:List Int,y_ = (y1194 ++ (rd_L5 x3_1 x19_2)):=⟨_,rfl⟩
           replace H:(if y1197.length < 17592186044416 then (if x5_3.length < 5864062014805 then (Z58.l2 k3 a0 x4_1 (x5_3 ++ [(y1197 ++ [x8_3])]) (rd_L5 x3_1 x19_2) (wrap64 (x8_3 + 1)) x3_1 (x3_1.length:Int) x19_2) else (none)) else (none)) = some r:=by first | (rw [hy1197];exact H) | exact H
           have Ny1197:=A_ hy1197
           clear hy1197
           have c18:=cp_ H
           replace H:=ca_ H
           have LMc18:=A_ c18
           clear c18
           obtain ⟨y1200,hy1200⟩:∃ y_:List Int,y_ = (y1197 ++ [x8_3]):=⟨_,rfl⟩
           replace H:(if x5_3.length < 5864062014805 then (Z58.l2 k3 a0 x4_1 (x5_3 ++ [y1200]) (rd_L5 x3_1 x19_2) (wrap64 (x8_3 + 1)) x3_1 (x3_1.length:Int) x19_2) else (none)) = some r:=by first | (rw [hy1200];exact H) | exact H
           have Ny1200:=A_ hy1200
           clear hy1200
           have c19:=cp_ H
           replace H:=ca_ H
           have LMc19:=A_ c19
           clear c19
           obtain ⟨y1203,hy1203⟩:∃ y_:List (List Int),y_ = (x5_3 ++ [y1200]):=⟨_,rfl⟩
           replace H:(Z58.l2 k3 a0 x4_1 y1203 (rd_L5 x3_1 x19_2) (wrap64 (x8_3 + 1)) x3_1 (x3_1.length:Int) x19_2) = some r:=by first | (rw [hy1203];exact H) | exact H
           have Ny1203:=A_ hy1203
           clear hy1203
           have H':=A_ H
           clear H
           go_wp2_with (first | ((with_reducible refine gA_ (f:=126) rfl ?_);refine gL_ (some 30) Try.func126 #[.slice A1192_0 (rd_L5 x3_1 x19_2).length c1192_0,.int .i64 x8_3] rfl qa_ ?_;(with_reducible refine (Z68.calls k3 _ _ (rd_L5 x3_1 x19_2) x8_3 false _ (cw_ ((Kd.V_reads' HO_7.out).2.2)) ((Kd.V_reads' HO_7.out).2.1) A15.out).mono ?_);rintro e w' ⟨rfl,⟨nd,rfl⟩⟩;refine ⟨_,rfl,?_⟩) | ((with_reducible refine gB_ (N:=33) rfl ?_);refine Kd.R_lit (Kd.int .i64) _ 3 ?hg (N:=33) ?hd (xs:=([]:List Int)) (inner:=[]) (ok:=fun _=>True) (okp:=fun _=>True) ?hr ?hp (fun _ hk=>hk) trivial (Below.refl _ _) (nA_ _) (by simp) ?_;(case hd=>rfl);(case hg=>rfl);(case hr=>first | (go_simp;done) | (go_simp;rfl));(case hp=>exact (Reps.none _ _));intro v1195 w20 ho21 hb hg_ hnew_;clear hg_ hnew_;(first | rw [← Ny1194.out] at ho21 | (simp only [Int.reduceToNat] at ho21;rw [← Ny1194.out] at ho21));replace HO_5:=A_ (Kd.N_elder' (by (with_reducible repeat (first | apply Kd.N_alloc | apply Kd.N_drewN | apply Kd.N_drew));exact HO_5.out) (Kd.R_base ho21) hb);replace HO_7:=A_ (Kd.V_elder' (by (with_reducible repeat (first | apply Kd.V_alloc | apply Kd.V_drewN | apply Kd.V_drew));exact HO_7.out) (Kd.R_base ho21) hb);replace HO_17:=A_ (Kd.N_elder' (by (with_reducible repeat (first | apply Kd.N_alloc | apply Kd.N_drewN | apply Kd.N_drew));exact HO_17.out) (Kd.R_base ho21) hb);have HO1196:=A_ (rE_ (Kd.R_newM (M:=fun k_=>(w.heap.size≤k_)) ho21 (bF_ hB_) (fun k_ h_=>h_)) (bF_ hB_));replace HB:=b1_ hb;clear hb ho21) | ((with_reducible refine gate_builtin (b:=.append) (xs:=#[.tmp 33,.tmp 34]) rfl ?_);at_builtin;refine Kd.R_append_rows (Kd.int .i64) (w0:=w) w.heap.size rfl (.tmp 33) (.tmp 34) 23 3 (.int .i64 0) 8 rfl Try.underlying23 info3 rfl (by decide) (by omega) v1195 y1194 (rd_L5 x3_1 x19_2) _ _ _ (fun k_=>(w.heap.size≤k_)) (fun _=>False) rfl rfl ?aO ?aR (fun _ _ h=>h) (fun _ h=>h.elim) ?aF ?aB ?aS ?aL ?_;(case aR=>exact cw_ ((Kd.V_reads' HO_7.out).2.2));(case aB=>exact hB_);(case aF=>exact (fun k_ hk=>(Nat.le_trans (bF_ hB_) hk)));(case aO=>exact (rw_ (Kd.R_mono HO1196.out (fun _ hk=>hk.1))));(case aS=>exact (bF_ hB_));(case aL=>have:=LMc17.out;omega);intro v1198 w22 ho hb hg hat;rw [← Ny1197.out] at ho;replace HO_5:=A_ (Kd.N_afterv (ok:=(fun k_=>(w.heap.size≤k_)∧some k_≠(.slice (some ad1192) x3_1.length co10:Value).ownBlock)) (by (with_reducible repeat (first | apply Kd.N_alloc | apply Kd.N_drewN | apply Kd.N_drew));exact HO_5.out) hg hat);replace HO_7:=A_ (Kd.V_afterv (ok:=(fun k_=>(w.heap.size≤k_)∧some k_≠(u5:Value).ownBlock∧some k_≠(.slice (some ad1192) x3_1.length co10:Value).ownBlock)) (by (with_reducible repeat (first | apply Kd.V_alloc | apply Kd.V_drewN | apply Kd.V_drew));exact HO_7.out) hg hat);replace HO_17:=A_ (Kd.N_afterv (ok:=(fun k_=>(w.heap.size≤k_)∧some k_≠(u5:Value).ownBlock)) (by (with_reducible repeat (first | apply Kd.N_alloc | apply Kd.N_drewN | apply Kd.N_drew));exact HO_17.out) hg hat);replace HB:=A_ hb;have HO1199:=A_ ho;clear HO1196;clear ho hb hg hat) | ((with_reducible refine gate_builtin (b:=.append) (xs:=#[.tmp 35,.tmp 37]) rfl ?_);at_builtin;refine Kd.R_append (Kd.int .i64) (w0:=w) w.heap.size rfl (.tmp 35) (.tmp 37) 23 3 (.int .i64 0) 8 rfl Try.underlying23 info3 rfl (by decide) (by omega) v1198 y1197 x8_3 [.int .i64 x8_3] (fun k_=>(w.heap.size≤k_)) (fun _=>False) rfl rfl ?aP (fun _ hk=>hk.elim) ?aF ?aO ?aB ?aS ?aL ?_;(case aP=>exact rfl);(case aB=>exact hB_);(case aF=>exact (fun k_ hk=>(Nat.le_trans (bF_ hB_) hk)));(case aO=>exact (rr_ HO1199));(case aS=>exact (bF_ hB_));(case aL=>have:=LMc18.out;omega);intro v1201 w23 ho hb hg hat;rw [← Ny1200.out] at ho;replace HO_5:=A_ (Kd.N_afterv (ok:=(fun k_=>(w.heap.size≤k_)∧some k_≠(.slice (some ad1192) x3_1.length co10:Value).ownBlock)) (by (with_reducible repeat (first | apply Kd.N_alloc | apply Kd.N_drewN | apply Kd.N_drew));exact HO_5.out) hg hat);replace HO_7:=A_ (Kd.V_afterv (ok:=(fun k_=>(w.heap.size≤k_)∧some k_≠(u5:Value).ownBlock∧some k_≠(.slice (some ad1192) x3_1.length co10:Value).ownBlock)) (by (with_reducible repeat (first | apply Kd.V_alloc | apply Kd.V_drewN | apply Kd.V_drew));exact HO_7.out) hg hat);replace HO_17:=A_ (Kd.N_afterv (ok:=(fun k_=>(w.heap.size≤k_)∧some k_≠(u5:Value).ownBlock)) (by (with_reducible repeat (first | apply Kd.N_alloc | apply Kd.N_drewN | apply Kd.N_drew));exact HO_17.out) hg hat);replace HB:=A_ hb;have HO1202:=A_ ho;clear HO1199;clear ho hb hg hat;obtain ⟨Ao25,co25,eo25⟩:=Kd.R_slice HO1202.out;subst eo25) | ((with_reducible refine gate_builtin (b:=.append) (xs:=#[.tmp 32,.tmp 39]) rfl ?_);at_builtin;refine Kd.N_append (Kd.slice 3 (Kd.int .i64)) (w0:=w) w.heap.size rfl (.tmp 32) (.tmp 39) 28 23 (.slice none 0 0) 24 rfl Try.underlying28 info23 rfl (by decide) (by omega) u5 x5_3 y1200 [.slice Ao25 y1200.length co25] (fun k_=>(w.heap.size≤k_)∧some k_≠(.slice (some ad1192) x3_1.length co10:Value).ownBlock) (fun k_=>((fun k_=>(w.heap.size≤k_)∧some k_≠(.slice (some ad1192) x3_1.length co10:Value).ownBlock)) k_∧some k_≠(u5:Value).ownBlock) rfl rfl ?aP (fun _ hk=>hk) ?aF ?aO ?aB ?aS ?aL ?_;(case aP=>exact (Kd.FK_slice_mk (Kd.R_reads' (Kd.R_mono (ok':=(fun k_=>((fun k_=>(w.heap.size≤k_)∧some k_≠(.slice (some ad1192) x3_1.length co10:Value).ownBlock)) k_∧some k_≠(u5:Value).ownBlock)) (Kd.R_apart' (Kd.R_apart' (HO1202.out) (Kd.N_typed HO_17.out) (by decide)) (Kd.N_typed HO_5.out) (by decide)) (fun k_ hk=>⟨⟨hk.1.1,hk.1.2⟩,hk.2⟩))).2.1 (Kd.R_F (Kd.R_mono (ok':=(fun k_=>((fun k_=>(w.heap.size≤k_)∧some k_≠(.slice (some ad1192) x3_1.length co10:Value).ownBlock)) k_∧some k_≠(u5:Value).ownBlock)) (Kd.R_apart' (Kd.R_apart' (HO1202.out) (Kd.N_typed HO_17.out) (by decide)) (Kd.N_typed HO_5.out) (by decide)) (fun k_ hk=>⟨⟨hk.1.1,hk.1.2⟩,hk.2⟩)))));(case aB=>exact hB_);(case aF=>exact (fun k_ hk=>⟨(Nat.le_trans (bF_ hB_) hk),Kd.fresh' (Kd.N_lt (by (with_reducible repeat (first | apply Kd.N_alloc | apply Kd.N_drewN | apply Kd.N_drew));exact HO_17.out)) k_ hk⟩));(case aO=>exact (by (with_reducible repeat (first | apply Kd.N_alloc | apply Kd.N_drewN | apply Kd.N_drew));exact Kd.N_mono HO_5.out (fun _ hk=>⟨hk.1.1,hk.1.2⟩)));(case aS=>exact (bF_ hB_));(case aL=>have:=LMc19.out;omega);intro v1204 w24 ho hb hg hat;rw [← Ny1203.out] at ho;replace HO_7:=A_ (Kd.V_afterv (ok:=(fun k_=>(w.heap.size≤k_)∧some k_≠(.slice (some ad1192) x3_1.length co10:Value).ownBlock∧some k_≠(.slice Ao25 y1200.length co25:Value).ownBlock)) (by (with_reducible repeat (first | apply Kd.V_alloc | apply Kd.V_drewN | apply Kd.V_drew));exact Kd.V_mono HO_7.out (fun _ hk=>⟨⟨hk.1.1,⟨hk.1.2.2,hk.2⟩⟩,hk.1.2.1⟩)) hg hat);replace HO_17:=A_ (Kd.N_afterv (ok:=(fun k_=>(w.heap.size≤k_)∧some k_≠(.slice Ao25 y1200.length co25:Value).ownBlock)) (by (with_reducible repeat (first | apply Kd.N_alloc | apply Kd.N_drewN | apply Kd.N_drew));exact Kd.N_mono HO_17.out (fun _ hk=>⟨⟨hk.1.1,hk.2⟩,hk.1.2⟩)) hg hat);replace HB:=A_ hb;have HO1205:=A_ ho;clear HO_5 HO1202;clear ho hb hg hat))
           go_roundg k3
           case measure=>have:=HK1.out;have:=HK2.out;have:=HK3.out;omega
           case rel=>exact ⟨(y1203),(wrap64 (x8_3 + 1)),qc_,H',⟨by have:=HK1.out;have:=HK2.out;have:=HK3.out;omega⟩,⟨by (with_reducible repeat (first | apply Kd.N_alloc | apply Kd.N_drewN | apply Kd.N_drew));exact HO1205.out⟩,⟨by (with_reducible repeat (first | apply Kd.V_alloc | apply Kd.V_drewN | apply Kd.V_drew));exact Kd.V_mono HO_7.out (fun _ hk=>⟨hk.1.1,⟨hk.2,hk.1.2.1⟩⟩)⟩,⟨by (with_reducible repeat (first | apply Kd.N_alloc | apply Kd.N_drewN | apply Kd.N_drew));exact Kd.N_mono HO_17.out (fun _ hk=>⟨hk.1.1,hk.2⟩)⟩,⟨hB_⟩⟩
         ·rw [if_neg c14] at H
          have c14b0:=oD_ c14
          clear c14
          have H':=A_ H
          clear H
          go_wp2
          go_roundg k3
          case measure=>have:=HK1.out;have:=HK2.out;have:=HK3.out;omega
          case rel=>exact ⟨(x5_3),(wrap64 (x19_2 + 1)),qc_,H',⟨by have:=HK1.out;have:=HK2.out;have:=HK3.out;omega⟩,⟨by (with_reducible repeat (first | apply Kd.N_alloc | apply Kd.N_drewN | apply Kd.N_drew));exact HO_5.out⟩,⟨by (with_reducible repeat (first | apply Kd.N_alloc | apply Kd.N_drewN | apply Kd.N_drew));exact HO_17.out⟩,⟨hB_⟩⟩
      ·rw [if_neg c11] at H
       have c11b0:=oD_ c11
       clear c11
       have H':=A_ H
       clear H
       go_wp2
       go_roundg k2
       case measure=>have:=HK1.out;have:=HK2.out;omega
       case rel=>exact ⟨(x5_2),(wrap64 (x4_1 + 1)),qc_,H',⟨by have:=HK1.out;have:=HK2.out;omega⟩,⟨by (with_reducible repeat (first | apply Kd.N_alloc | apply Kd.N_drewN | apply Kd.N_drew));exact Kd.N_mono HO_5.out (fun _ hk=>hk.1)⟩,⟨hB_⟩⟩
   ·rw [if_neg c7] at H
    have c7b0:=oD_ c7
    clear c7
    obtain rfl:=Option.some.inj H
    go_wp2
    go_ret
    exact ⟨_,qb_,by (with_reducible repeat (first | apply Kd.N_alloc | apply Kd.N_drewN | apply Kd.N_drew));exact HO_3.out,hB_⟩
end Go.Proofs.Ytoijcallajegfaa.A
end
section
namespace Go.Proofs.Ytoijcallajegfaa.A
open Go.RowKit Go.Proofs.YtoijcallajegfaaW.PrintWords Go.Proofs.YtoijcallajegfaaW.PrintLast Go.Proofs.YtoijcallajegfaaW.PrintMore
attribute [local go_sem] max2_int min2_int max_two min_two max_three min_three max_four min_four
set_option linter.unusedVariables false
set_option linter.unusedSimpArgs false
mutual
def Z20.l0:Nat→List (S33)→List (List Int)→List (List Int)→Int→Int→Option ((List (S33)))
 | 0,_,_,_,_,_=>none
 | k + 1,x3,x4,x16,x17,x18=>if x18 < x17 then (if 0≤x18 then (if x18 < (x16.length:Int) then (Z20.l1 k x3 x4 (rd_L5 x16 x18) x16 x17 x18 x4 (x4.length:Int) 0) else (none)) else (none)) else (some x3)
def Z20.l1:Nat→List (S33)→List (List Int)→List Int→List (List Int)→Int→Int→List (List Int)→Int→Int→Option ((List (S33)))
 | 0,_,_,_,_,_,_,_,_,_=>none
 | k + 1,x3,x4,x6,x16,x17,x18,x22,x23,x24=>if x24 < x23 then (if 0≤x24 then (if x24 < (x22.length:Int) then ((Z38.f k x6 (rd_L5 x22 x24)).bind fun t1242=>(if t1242 = true then ((Z54.f k x6 (rd_L5 x22 x24)).bind fun bt1243=>((Z44.f k x3 bt1243.1 bt1243.2).bind fun t1249=>(Z20.l1 k t1249 x4 x6 x16 x17 x18 x22 x23 (wrap64 (x24 + 1))))) else (Z20.l1 k x3 x4 x6 x16 x17 x18 x22 x23 (wrap64 (x24 + 1))))) else (none)) else (none)) else (Z20.l0 k x3 x4 x16 x17 (wrap64 (x18 + 1)))
end
def Z20.f (k:Nat) (a0:Int):Option ((List (S33))):=(Z69.f a0 1 4).bind fun t1232=>(if t1232 = true then ((Z58.f k a0).bind fun t1236=>(Z20.l0 k (([]:List (S33))) t1236 t1236 (t1236.length:Int) 0)) else (some ([]:List (S33))))
theorem Z20.mono_l:∀ k,(∀ y0 y1 y2 y3 y4,LeO (Z20.l0 k y0 y1 y2 y3 y4) (Z20.l0 (k + 1) y0 y1 y2 y3 y4))∧(∀ y0 y1 y2 y3 y4 y5 y6 y7 y8,LeO (Z20.l1 k y0 y1 y2 y3 y4 y5 y6 y7 y8) (Z20.l1 (k + 1) y0 y1 y2 y3 y4 y5 y6 y7 y8))
 | 0=>⟨fun _ _ _ _ _ r h=>by simp [Z20.l0] at h,fun _ _ _ _ _ _ _ _ _ r h=>by simp [Z20.l1] at h⟩
 | k + 1=>by
  obtain ⟨ih0,ih1⟩:=Z20.mono_l k
  refine ⟨?_,?_⟩
  ·intro y0 y1 y2 y3 y4
   unfold Z20.l0
   repeat' first|exact ih0 _ _ _ _ _|exact ih1 _ _ _ _ _ _ _ _ _|exact Z38.mono _ _ _|exact Z54.mono _ _ _|exact Z44.mono _ _ _ _|exact Z58.mono _ _|exact lo_|refine LeO.ite ?_ ?_|refine LeO.bind ?_ (fun _=>?_)
  ·intro y0 y1 y2 y3 y4 y5 y6 y7 y8
   unfold Z20.l1
   repeat' first|exact ih0 _ _ _ _ _|exact ih1 _ _ _ _ _ _ _ _ _|exact Z38.mono _ _ _|exact Z54.mono _ _ _|exact Z44.mono _ _ _ _|exact Z58.mono _ _|exact lo_|refine LeO.ite ?_ ?_|refine LeO.bind ?_ (fun _=>?_)
theorem Z20.mono:∀ a0 k,LeO (Z20.f k a0) (Z20.f (k + 1) a0):=by
 intro a0 k
 obtain ⟨ih0,ih1⟩:=Z20.mono_l k
 unfold Z20.f
 repeat' first|exact ih0 _ _ _ _ _|exact ih1 _ _ _ _ _ _ _ _ _|exact Z38.mono _ _ _|exact Z54.mono _ _ _|exact Z44.mono _ _ _ _|exact Z58.mono _ _|exact lo_|refine LeO.ite ?_ ?_|refine LeO.bind ?_ (fun _=>?_)
set_option maxHeartbeats 8000000 in
set_option maxRecDepth 100000 in
theorem Z20.calls (k:Nat) (a0:Int) (r:List (S33)) (w:World) (h:Z20.f k a0 = some r) :
  Calls Try.prog 37 #[.int .i64 a0] w fun e w'=>∃ v0_:Value,e = .returned (v0_)∧Kd.N k33 33 w' w.heap.size (fun k_=>(w.heap.size≤k_)) v0_ r∧Below w.heap.size w w':=by
 have hu33:=Try.underlying33
 have HB:=A_ (Below.refl w.heap.size w)
 have H:=h
 unfold Z20.f at H
 clear h
 obtain ⟨t1232,A2,H⟩:=bi_ H
 by_cases c3:t1232 = true
 ·subst c3
  rw [if_pos rfl] at H
  obtain ⟨y1233,hy1233⟩:∃ y_:List (S33),y_ = (([]:List (S33))):=⟨_,rfl⟩
  replace H:((Z58.f k a0).bind fun t1236=>(Z20.l0 k y1233 t1236 t1236 (t1236.length:Int) 0)) = some r:=by first | (rw [hy1233];exact H) | exact H
  have Ny1233:=A_ hy1233
  clear hy1233
  obtain ⟨t1236,A4,H⟩:=bi_ H
  have H':=A_ H
  clear H
  go_enter Try.func37,Try.ntmps37
  go_wp2_with (first | ((with_reducible refine gA_ (f:=83) rfl ?_);refine gL_ (some 11) Try.func83 #[.int .i64 a0,.int .i64 1,.int .i64 4] rfl qa_ ?_;(with_reducible refine (Z69.calls a0 1 4 true _ A2.out).mono ?_);rintro e w' ⟨rfl,⟨nd,rfl⟩⟩;refine ⟨_,rfl,?_⟩) | ((with_reducible refine gB_ (N:=13) rfl ?_);refine Kd.N_lit k33 _ 33 ?hg (N':=13) ?hd (xs:=([]:List (S33))) (inner:=[]) (ok:=(fun k_=>(w.heap.size≤k_))) (okp:=(fun k_=>(w.heap.size≤k_))) ?hr ?hp (fun _ hk=>hk) ((show ∀ k_,w.heap.size≤k_→(fun k_=>(w.heap.size≤k_)) k_ from fun k_ hk=>(Nat.le_trans (bF_ hB_) hk)) _ (nA_ _)) (Below.refl _ _) (nA_ _) (by simp) ?_;(case hd=>rfl);(case hg=>rfl);(case hr=>first | (go_simp;done) | (go_simp;rfl));(case hp=>exact (Reps.none _ _));intro v1234 w5 ho6 hb hg_ hnew_;clear hg_ hnew_;(first | rw [← Ny1233.out] at ho6 | (simp only [Int.reduceToNat] at ho6;rw [← Ny1233.out] at ho6));have HO1235:=A_ (Kd.N_lower ho6 (bF_ hB_));replace HB:=b1_ hb;clear hb ho6) | ((with_reducible refine gA_ (f:=84) rfl ?_);refine gL_ (some 15) Try.func84 #[.int .i64 a0] rfl qa_ ?_;(with_reducible refine (Z58.calls k a0 t1236 _ A4.out).mono ?_);rintro e w7 ⟨v1237,rfl,ho0,hb⟩;refine ⟨_,rfl,?_⟩;have HO1238:=A_ (Kd.N_lower (Kd.N_mono (ok':=fun k_=>(w.heap.size≤k_)∧some k_≠(v1234:Value).ownBlock) ho0 (fun k_ hk_=>⟨(Nat.le_trans (bF_ hB_) hk_),(Kd.fresh' (Kd.N_lt (by (with_reducible repeat (first | apply Kd.N_alloc | apply Kd.N_drewN | apply Kd.N_drew));exact HO1235.out)) k_ hk_)⟩)) (bF_ hB_));replace HO1235:=A_ (Kd.N_elder' (by (with_reducible repeat (first | apply Kd.N_alloc | apply Kd.N_drewN | apply Kd.N_drew));exact HO1235.out) (Kd.N_base ho0) hb);replace HB:=b1_ hb;clear hb ho0;obtain ⟨Ao8,co8,eo8⟩:=Kd.N_slice HO1238.out;subst eo8))
  go_loopg [3,18] k (fun kq v3 v18 w'=>∃ (x3_1:List (S33)) (x18_1:Int),v18 = .int .i64 x18_1∧Aside0 (Z20.l0 kq x3_1 t1236 t1236 (t1236.length:Int) x18_1 = some r)∧Aside0 (kq≤k)∧Aside0 (Kd.N k33 33 w' w.heap.size (fun k_=>(w.heap.size≤k_)∧some k_≠((.slice Ao8 t1236.length co8):Value).ownBlock∧some k_≠((.slice Ao8 t1236.length co8):Value).ownBlock) v3 x3_1)∧Aside0 (Kd.N (Kd.slice 3 (Kd.int .i64)) 23 w' w.heap.size (fun k_=>(w.heap.size≤k_)∧some k_≠(v3:Value).ownBlock) (.slice Ao8 t1236.length co8) t1236)∧Aside0 (Kd.N (Kd.slice 3 (Kd.int .i64)) 23 w' w.heap.size (fun k_=>(w.heap.size≤k_)∧some k_≠(v3:Value).ownBlock) (.slice Ao8 t1236.length co8) t1236)∧Aside0 (Below w.heap.size w w'))
  case atStart=>exact ⟨(y1233),(0),qc_,H',⟨nA_ _⟩,⟨by (with_reducible repeat (first | apply Kd.N_alloc | apply Kd.N_drewN | apply Kd.N_drew));exact Kd.N_mono HO1235.out (fun _ hk=>⟨hk.1,⟨hk.2,hk.2⟩⟩)⟩,⟨by (with_reducible repeat (first | apply Kd.N_alloc | apply Kd.N_drewN | apply Kd.N_drew));exact HO1238.out⟩,⟨by (with_reducible repeat (first | apply Kd.N_alloc | apply Kd.N_drewN | apply Kd.N_drew));exact HO1238.out⟩,⟨hB_⟩⟩
  case round =>
   clear H'
   obtain ⟨x3_1,x18_1,rfl,HA,HK1,HO_3,HO_4,HO_16,HB⟩:=hrel
   cases gk with
   | zero=>exact absurd HA.out (by simp [Z20.l0])
   | succ k1 =>
    have H:=HA.out
    clear HA
    simp only [Z20.l0] at H
    by_cases c9:x18_1 < (t1236.length:Int)
    ·rw [if_pos c9] at H
     have c9b0:=oC_ c9
     clear c9
     replace H:=cx_ H;obtain ⟨c10b0,H⟩:=H
     replace H:=cx_ H;obtain ⟨c11b0,H⟩:=H
     have H':=A_ H
     clear H
     have p1239:0≤(x18_1:Int):=oB_ qe_
     have q1239:x18_1 < (t1236.length:Int):=oB_ qe_
     obtain ⟨ad1239,A1239_0,c1239_0,e1239,hx1239_0,hl1239_0,hi1239_0⟩:=at_L5 (Kd.N_reads' HO_16.out).2.2 x18_1 p1239 q1239
     cases e1239
     obtain ⟨ce1239,hce1239,hMe1239,hcc1239⟩:=Kd.N_get HO_16.out [] x18_1 p1239 (by first | exact q1239 | exact oB_ qe_ | (have e_:=(Kd.N_reads' HO_16.out).1;omega))
     obtain ⟨ua1239_0,uc1239_0,rfl,ul1239_0,ge1239_0⟩:=Kd.FK_slice_open hMe1239
     have hv1239_0:=hcc1239 0 _ rfl
     rw [Nat.add_zero,show ((Kd.slice 3 (Kd.int .i64))).sz = 1 from rfl,Nat.mul_one] at hv1239_0
     replace hv1239_0:=Option.some.inj (hv1239_0.symm.trans hx1239_0)
     injection hv1239_0 with hva_ hvn_ hvc_
     rw [hva_] at ge1239_0
     rw [hvc_] at ul1239_0
     have HL1239_0:=A_ (show Kd.V (Kd.int .i64) 3 _ w.heap.size _ _ (rd_L5 t1236 x18_1) from Kd.V_mk ul1239_0 ge1239_0)
     clear hva_ hvn_ hvc_ ge1239_0 ul1239_0
     clear hcc1239 hce1239
     have HR1239_0:=A_ hi1239_0
     have HC1239_0:=A_ hl1239_0
     clear hi1239_0 hl1239_0
     replace p1239:=eq_true p1239
     replace q1239:=eq_true q1239
     go_wp2
     go_loopg [3,24] k1 (fun kq v3 v24 w'=>∃ (x3_2:List (S33)) (x24_2:Int),v24 = .int .i64 x24_2∧Aside0 (Z20.l1 kq x3_2 t1236 (rd_L5 t1236 x18_1) t1236 (t1236.length:Int) x18_1 t1236 (t1236.length:Int) x24_2 = some r)∧Aside0 (kq≤k1)∧Aside0 (Kd.N k33 33 w' w.heap.size (fun k_=>(w.heap.size≤k_)∧some k_≠((.slice (some ad1239) t1236.length co8):Value).ownBlock∧some k_≠((.slice (some ad1239) t1236.length co8):Value).ownBlock∧some k_≠((.slice (some ad1239) t1236.length co8):Value).ownBlock) v3 x3_2)∧Aside0 (Kd.N (Kd.slice 3 (Kd.int .i64)) 23 w' w.heap.size (fun k_=>(w.heap.size≤k_)∧some k_≠(v3:Value).ownBlock) (.slice (some ad1239) t1236.length co8) t1236)∧Aside0 (Kd.V (Kd.int .i64) 3 w' w.heap.size (fun k_=>(w.heap.size≤k_)∧some k_≠(v3:Value).ownBlock∧some k_≠((.slice (some ad1239) t1236.length co8):Value).ownBlock) (.slice A1239_0 (rd_L5 t1236 x18_1).length c1239_0) (rd_L5 t1236 x18_1))∧Aside0 (Kd.N (Kd.slice 3 (Kd.int .i64)) 23 w' w.heap.size (fun k_=>(w.heap.size≤k_)∧some k_≠(v3:Value).ownBlock) (.slice (some ad1239) t1236.length co8) t1236)∧Aside0 (Kd.N (Kd.slice 3 (Kd.int .i64)) 23 w' w.heap.size (fun k_=>(w.heap.size≤k_)∧some k_≠(v3:Value).ownBlock) (.slice (some ad1239) t1236.length co8) t1236)∧Aside0 (Below w.heap.size w w'))
     case atStart=>exact ⟨(x3_1),(0),qc_,H',⟨nA_ _⟩,⟨by (with_reducible repeat (first | apply Kd.N_alloc | apply Kd.N_drewN | apply Kd.N_drew));exact Kd.N_mono HO_3.out (fun _ hk=>⟨hk.1,⟨hk.2.1,⟨hk.2.2,hk.2.1⟩⟩⟩)⟩,⟨by (with_reducible repeat (first | apply Kd.N_alloc | apply Kd.N_drewN | apply Kd.N_drew));exact HO_4.out⟩,⟨by (with_reducible repeat (first | apply Kd.V_alloc | apply Kd.V_drewN | apply Kd.V_drew));exact Kd.V_mono HL1239_0.out (fun _ hk=>⟨hk.1.1,⟨hk.1.2,hk.2⟩⟩)⟩,⟨by (with_reducible repeat (first | apply Kd.N_alloc | apply Kd.N_drewN | apply Kd.N_drew));exact HO_16.out⟩,⟨by (with_reducible repeat (first | apply Kd.N_alloc | apply Kd.N_drewN | apply Kd.N_drew));exact HO_4.out⟩,⟨hB_⟩⟩
     case round =>
      clear H'
      obtain ⟨x3_2,x24_2,rfl,HA,HK2,HO_3,HO_4,HO_6,HO_16,HO_22,HB⟩:=hrel
      cases gk with
      | zero=>exact absurd HA.out (by simp [Z20.l1])
      | succ k2 =>
       have H:=HA.out
       clear HA
       simp only [Z20.l1] at H
       by_cases c12:x24_2 < (t1236.length:Int)
       ·rw [if_pos c12] at H
        have c12b0:=oC_ c12
        clear c12
        replace H:=cx_ H;obtain ⟨c13b0,H⟩:=H
        replace H:=cx_ H;obtain ⟨c14b0,H⟩:=H
        obtain ⟨t1242,A15,H⟩:=bi_ H
        by_cases c16:t1242 = true
        ·subst c16
         rw [if_pos rfl] at H
         obtain ⟨⟨t1243,t1246⟩,A17,H⟩:=bi_ H
         try dsimp only at H
         obtain ⟨t1249,A18,H⟩:=bi_ H
         have H':=A_ H
         clear H
         have p1240:0≤(x24_2:Int):=oB_ qe_
         have q1240:x24_2 < (t1236.length:Int):=oB_ qe_
         obtain ⟨ad1240,A1240_0,c1240_0,e1240,hx1240_0,hl1240_0,hi1240_0⟩:=at_L5 (Kd.N_reads' HO_22.out).2.2 x24_2 p1240 q1240
         obtain rfl:ad1239 = ad1240:=(by injection e1240)
         obtain ⟨ce1240,hce1240,hMe1240,hcc1240⟩:=Kd.N_get HO_22.out [] x24_2 p1240 (by first | exact q1240 | exact oB_ qe_ | (have e_:=(Kd.N_reads' HO_22.out).1;omega))
         obtain ⟨ua1240_0,uc1240_0,rfl,ul1240_0,ge1240_0⟩:=Kd.FK_slice_open hMe1240
         have hv1240_0:=hcc1240 0 _ rfl
         rw [Nat.add_zero,show ((Kd.slice 3 (Kd.int .i64))).sz = 1 from rfl,Nat.mul_one] at hv1240_0
         replace hv1240_0:=Option.some.inj (hv1240_0.symm.trans hx1240_0)
         injection hv1240_0 with hva_ hvn_ hvc_
         rw [hva_] at ge1240_0
         rw [hvc_] at ul1240_0
         have HL1240_0:=A_ (show Kd.V (Kd.int .i64) 3 _ w.heap.size _ _ (rd_L5 t1236 x24_2) from Kd.V_mk ul1240_0 ge1240_0)
         clear hva_ hvn_ hvc_ ge1240_0 ul1240_0
         clear hcc1240 hce1240
         have HR1240_0:=A_ hi1240_0
         have HC1240_0:=A_ hl1240_0
         clear hi1240_0 hl1240_0
         replace p1240:=eq_true p1240
         replace q1240:=eq_true q1240
         go_wp2_with (first | ((with_reducible refine gB_ (N:=9) rfl ?_);refine bx_ 9 #[.slice none 0 0,.slice none 0 0] 33 ?_;intro gb1241 hg w19 hbox hb;replace HO_3:=A_ (Kd.N_below (Kd.N_elderB (by (with_reducible repeat (first | apply Kd.N_alloc | apply Kd.N_drewN | apply Kd.N_drew));exact HO_3.out) gb1241 (Nat.le_of_eq hg.symm)) hb);replace HO_4:=A_ (Kd.N_below (Kd.N_elderB (by (with_reducible repeat (first | apply Kd.N_alloc | apply Kd.N_drewN | apply Kd.N_drew));exact HO_4.out) gb1241 (Nat.le_of_eq hg.symm)) hb);replace HO_6:=A_ (Kd.V_below (Kd.V_elderB (by (with_reducible repeat (first | apply Kd.V_alloc | apply Kd.V_drewN | apply Kd.V_drew));exact HO_6.out) gb1241 (Nat.le_of_eq hg.symm)) hb);replace HO_16:=A_ (Kd.N_below (Kd.N_elderB (by (with_reducible repeat (first | apply Kd.N_alloc | apply Kd.N_drewN | apply Kd.N_drew));exact HO_16.out) gb1241 (Nat.le_of_eq hg.symm)) hb);replace HO_22:=A_ (Kd.N_below (Kd.N_elderB (by (with_reducible repeat (first | apply Kd.N_alloc | apply Kd.N_drewN | apply Kd.N_drew));exact HO_22.out) gb1241 (Nat.le_of_eq hg.symm)) hb);replace HL1240_0:=A_ (Kd.V_below (Kd.V_elderB (by (with_reducible repeat (first | apply Kd.V_alloc | apply Kd.V_drewN | apply Kd.V_drew));exact HL1240_0.out) gb1241 (Nat.le_of_eq hg.symm)) hb);replace HR1240_0:=A_ (cD_ (by repeat (first | (with_reducible exact HR1240_0.out) | (with_reducible refine cA_ ?_ _) | (with_reducible refine cB_ ?_ _) | (with_reducible refine cC_ ?_) | exact HR1240_0.out)) hb);have BK1241:=A_ hbox;have GW1241:=gw_ w hg;have GE1241:=GW1241;replace HB:=b1_ hb;clear hb hbox hg;obtain ⟨hcz20_0,hcz20_1,hfz20_0,hfz20_1⟩:=c2_ BK1241) | ((with_reducible refine gA_ (f:=85) rfl ?_);refine gL_ (some 32) Try.func85 #[.agg #[.slice A1239_0 (rd_L5 t1236 x18_1).length c1239_0,.slice A1240_0 (rd_L5 t1236 x24_2).length c1240_0]] rfl qa_ ?_;(with_reducible refine (Z38.calls k2 _ _ (rd_L5 t1236 x18_1) _ _ (rd_L5 t1236 x24_2) true _ ?side1 ?side2 ?side3 ?side4 A15.out).mono ?_);(case side1=>refine (Kd.V_reads' (e:=3) (base:=w.heap.size) (ok:=fun k_=>(((w.heap.size≤k_)∧(some k_≠(u3:Value).ownBlock∧some k_≠(.slice (some ad1239) t1236.length co8:Value).ownBlock))∧k_≠gb1241)) (n:=(rd_L5 t1236 x18_1).length) (c:=c1239_0) ?_).2.2;exact (by (with_reducible repeat (first | apply Kd.V_alloc | apply Kd.V_drewN | apply Kd.V_drew));exact (Kd.V_mono (Kd.V_far (p:=⟨gb1241,1,none⟩) (Kd.V_far (p:=⟨gb1241,0,none⟩) (Kd.V_mono HO_6.out (fun k_ hk=>(⟨hk,hk.2⟩:_∧k_≠gb1241))) (fun _ hk=>hk.2) (.slice A1239_0 (rd_L5 t1236 x18_1).length c1239_0)) (fun _ hk=>hk.2) (.slice A1240_0 (rd_L5 t1236 x24_2).length c1240_0)) (fun _ h_=>h_.1))));(case side2=>exact (Kd.V_reads' HO_6.out).2.1);(case side3=>repeat (first | exact ((Kd.V_reads' (by (with_reducible repeat (first | apply Kd.V_alloc | apply Kd.V_drewN | apply Kd.V_drew));exact (Kd.V_mono (Kd.V_far (p:=⟨gb1241,1,none⟩) (Kd.V_far (p:=⟨gb1241,0,none⟩) (Kd.V_mono HL1240_0.out (fun k_ hk=>(⟨hk,hk.2⟩:_∧k_≠gb1241))) (fun _ hk=>hk.2) (.slice A1239_0 (rd_L5 t1236 x18_1).length c1239_0)) (fun _ hk=>hk.2) (.slice A1240_0 (rd_L5 t1236 x24_2).length c1240_0)) (fun _ h_=>h_.1)))).2.2) | (with_reducible first | refine cA_ ?_ _ | refine cB_ ?_ _ | refine cC_ ?_)));(case side4=>exact HC1240_0.out);rintro e w21 ⟨rfl,hb⟩;refine ⟨_,rfl,?_⟩;replace HO_3:=A_ (Kd.N_below (by (with_reducible repeat (first | apply Kd.N_alloc | apply Kd.N_drewN | apply Kd.N_drew));exact (Kd.N_mono (Kd.N_far (p:=⟨gb1241,1,none⟩) (Kd.N_far (p:=⟨gb1241,0,none⟩) (Kd.N_mono HO_3.out (fun k_ hk=>(⟨hk,hk.2⟩:_∧k_≠gb1241))) (fun _ hk=>hk.2) (.slice A1239_0 (rd_L5 t1236 x18_1).length c1239_0)) (fun _ hk=>hk.2) (.slice A1240_0 (rd_L5 t1236 x24_2).length c1240_0)) (fun _ h_=>h_.1))) hb);replace HO_4:=A_ (Kd.N_below (by (with_reducible repeat (first | apply Kd.N_alloc | apply Kd.N_drewN | apply Kd.N_drew));exact (Kd.N_mono (Kd.N_far (p:=⟨gb1241,1,none⟩) (Kd.N_far (p:=⟨gb1241,0,none⟩) (Kd.N_mono HO_4.out (fun k_ hk=>(⟨hk,hk.2⟩:_∧k_≠gb1241))) (fun _ hk=>hk.2) (.slice A1239_0 (rd_L5 t1236 x18_1).length c1239_0)) (fun _ hk=>hk.2) (.slice A1240_0 (rd_L5 t1236 x24_2).length c1240_0)) (fun _ h_=>h_.1))) hb);replace HO_6:=A_ (Kd.V_below (by (with_reducible repeat (first | apply Kd.V_alloc | apply Kd.V_drewN | apply Kd.V_drew));exact (Kd.V_mono (Kd.V_far (p:=⟨gb1241,1,none⟩) (Kd.V_far (p:=⟨gb1241,0,none⟩) (Kd.V_mono HO_6.out (fun k_ hk=>(⟨hk,hk.2⟩:_∧k_≠gb1241))) (fun _ hk=>hk.2) (.slice A1239_0 (rd_L5 t1236 x18_1).length c1239_0)) (fun _ hk=>hk.2) (.slice A1240_0 (rd_L5 t1236 x24_2).length c1240_0)) (fun _ h_=>h_.1))) hb);replace HO_16:=A_ (Kd.N_below (by (with_reducible repeat (first | apply Kd.N_alloc | apply Kd.N_drewN | apply Kd.N_drew));exact (Kd.N_mono (Kd.N_far (p:=⟨gb1241,1,none⟩) (Kd.N_far (p:=⟨gb1241,0,none⟩) (Kd.N_mono HO_16.out (fun k_ hk=>(⟨hk,hk.2⟩:_∧k_≠gb1241))) (fun _ hk=>hk.2) (.slice A1239_0 (rd_L5 t1236 x18_1).length c1239_0)) (fun _ hk=>hk.2) (.slice A1240_0 (rd_L5 t1236 x24_2).length c1240_0)) (fun _ h_=>h_.1))) hb);replace HO_22:=A_ (Kd.N_below (by (with_reducible repeat (first | apply Kd.N_alloc | apply Kd.N_drewN | apply Kd.N_drew));exact (Kd.N_mono (Kd.N_far (p:=⟨gb1241,1,none⟩) (Kd.N_far (p:=⟨gb1241,0,none⟩) (Kd.N_mono HO_22.out (fun k_ hk=>(⟨hk,hk.2⟩:_∧k_≠gb1241))) (fun _ hk=>hk.2) (.slice A1239_0 (rd_L5 t1236 x18_1).length c1239_0)) (fun _ hk=>hk.2) (.slice A1240_0 (rd_L5 t1236 x24_2).length c1240_0)) (fun _ h_=>h_.1))) hb);replace HR1240_0:=A_ (cD_ ((Kd.V_reads' (by (with_reducible repeat (first | apply Kd.V_alloc | apply Kd.V_drewN | apply Kd.V_drew));exact (Kd.V_mono (Kd.V_far (p:=⟨gb1241,1,none⟩) (Kd.V_far (p:=⟨gb1241,0,none⟩) (Kd.V_mono HL1240_0.out (fun k_ hk=>(⟨hk,hk.2⟩:_∧k_≠gb1241))) (fun _ hk=>hk.2) (.slice A1239_0 (rd_L5 t1236 x18_1).length c1239_0)) (fun _ hk=>hk.2) (.slice A1240_0 (rd_L5 t1236 x24_2).length c1240_0)) (fun _ h_=>h_.1)))).2.2) hb);replace HL1240_0:=A_ (Kd.V_below (by (with_reducible repeat (first | apply Kd.V_alloc | apply Kd.V_drewN | apply Kd.V_drew));exact (Kd.V_mono (Kd.V_far (p:=⟨gb1241,1,none⟩) (Kd.V_far (p:=⟨gb1241,0,none⟩) (Kd.V_mono HL1240_0.out (fun k_ hk=>(⟨hk,hk.2⟩:_∧k_≠gb1241))) (fun _ hk=>hk.2) (.slice A1239_0 (rd_L5 t1236 x18_1).length c1239_0)) (fun _ hk=>hk.2) (.slice A1240_0 (rd_L5 t1236 x24_2).length c1240_0)) (fun _ h_=>h_.1))) hb);replace BK1241:=A_ (kE_ (g:=gb1241) (o:=.cells #[.slice A1239_0 (rd_L5 t1236 x18_1).length c1239_0,.slice A1240_0 (rd_L5 t1236 x24_2).length c1240_0] 33 (0,0)) qp_ hb);replace HB:=b1_ hb;clear hb;obtain ⟨hcz22_0,hcz22_1,hfz22_0,hfz22_1⟩:=c2_ BK1241) | ((with_reducible refine gA_ (f:=87) rfl ?_);refine gL_ (some 35) Try.func87 #[.agg #[.slice A1239_0 (rd_L5 t1236 x18_1).length c1239_0,.slice A1240_0 (rd_L5 t1236 x24_2).length c1240_0]] rfl qa_ ?_;(with_reducible refine (Z54.calls k2 _ _ (rd_L5 t1236 x18_1) _ _ (rd_L5 t1236 x24_2) t1243 t1246 _ ?side1 ?side2 ?side3 ?side4 A17.out).mono ?_);(case side1=>exact cw_ ((Kd.V_reads' HO_6.out).2.2));(case side2=>exact (Kd.V_reads' HO_6.out).2.1);(case side3=>repeat (first | exact (by repeat (first | (with_reducible exact HR1240_0.out) | (with_reducible refine cA_ ?_ _) | (with_reducible refine cB_ ?_ _) | (with_reducible refine cC_ ?_) | exact HR1240_0.out)) | (with_reducible first | refine cA_ ?_ _ | refine cB_ ?_ _ | refine cC_ ?_)));(case side4=>exact HC1240_0.out);rintro e w23 ⟨v1244,v1247,rfl,ho0,ho1,hb⟩;refine ⟨_,rfl,?_⟩;replace HO_3:=A_ (Kd.N_mono (Kd.N_told (Kd.N_told (Kd.N_old (by (with_reducible repeat (first | apply Kd.N_alloc | apply Kd.N_drewN | apply Kd.N_drew));exact HO_3.out) hb) (Kd.R_base ho0)) (Kd.R_base ho1)) (fun _ h_=>h_.1));replace HO_4:=A_ (Kd.N_mono (Kd.N_told (Kd.N_told (Kd.N_old (by (with_reducible repeat (first | apply Kd.N_alloc | apply Kd.N_drewN | apply Kd.N_drew));exact HO_4.out) hb) (Kd.R_base ho0)) (Kd.R_base ho1)) (fun _ h_=>h_.1));replace HO_6:=A_ (Kd.V_mono (Kd.V_told (Kd.V_told (Kd.V_old (by (with_reducible repeat (first | apply Kd.V_alloc | apply Kd.V_drewN | apply Kd.V_drew));exact HO_6.out) hb) (Kd.R_base ho0)) (Kd.R_base ho1)) (fun _ h_=>h_.1));replace HO_16:=A_ (Kd.N_mono (Kd.N_told (Kd.N_told (Kd.N_old (by (with_reducible repeat (first | apply Kd.N_alloc | apply Kd.N_drewN | apply Kd.N_drew));exact HO_16.out) hb) (Kd.R_base ho0)) (Kd.R_base ho1)) (fun _ h_=>h_.1));replace HO_22:=A_ (Kd.N_mono (Kd.N_told (Kd.N_told (Kd.N_old (by (with_reducible repeat (first | apply Kd.N_alloc | apply Kd.N_drewN | apply Kd.N_drew));exact HO_22.out) hb) (Kd.R_base ho0)) (Kd.R_base ho1)) (fun _ h_=>h_.1));replace HL1240_0:=A_ (Kd.V_mono (Kd.V_told (Kd.V_told (Kd.V_old (by (with_reducible repeat (first | apply Kd.V_alloc | apply Kd.V_drewN | apply Kd.V_drew));exact HL1240_0.out) hb) (Kd.R_base ho0)) (Kd.R_base ho1)) (fun _ h_=>h_.1));have HO1245:=A_ (rE_ (Kd.R_newM (M:=fun k_=>(w.heap.size≤k_)) ho0 (bF_ hB_) (fun k_ h_=>h_)) (bF_ hB_));have HO1248:=A_ (rE_ (Kd.R_newM (M:=fun k_=>(w.heap.size≤k_)) ho1 (bF_ hB_) (fun k_ h_=>h_)) (bF_ hB_));replace HR1240_0:=A_ (cD_ (by repeat (first | (with_reducible exact HR1240_0.out) | (with_reducible refine cA_ ?_ _) | (with_reducible refine cB_ ?_ _) | (with_reducible refine cC_ ?_) | exact HR1240_0.out)) hb);replace BK1241:=bb_ BK1241 hb;replace HB:=b1_ hb;clear hb ho0 ho1;obtain ⟨Ao24,co24,eo24⟩:=Kd.N_slice HO_3.out;subst eo24;obtain ⟨Ao25,co25,eo25⟩:=Kd.R_slice HO1245.out;subst eo25;obtain ⟨Ao26,co26,eo26⟩:=Kd.R_slice HO1248.out;subst eo26) | ((with_reducible refine gA_ (f:=86) rfl ?_);refine gL_ (some 36) Try.func86 #[.slice Ao24 x3_2.length co24,.agg #[.slice Ao25 t1243.length co25,.slice Ao26 t1246.length co26]] rfl qa_ ?_;(with_reducible refine (Z44.calls k2 (fun k_=>(((((w.heap.size≤k_)∧(some k_≠(.slice (some ad1239) t1236.length co8:Value).ownBlock∧(some k_≠(.slice (some ad1239) t1236.length co8:Value).ownBlock∧some k_≠(.slice (some ad1239) t1236.length co8:Value).ownBlock)))∧k_≠gb1241)∧some k_≠(.slice Ao25 t1243.length co25:Value).ownBlock)∧some k_≠(.slice Ao26 t1246.length co26:Value).ownBlock)) _ _ x3_2 (fun k_=>some k_ = (.slice Ao25 t1243.length co25:Value).ownBlock) _ _ t1243 (fun k_=>some k_ = (.slice Ao26 t1246.length co26:Value).ownBlock) _ _ t1246 t1249 _ (Kd.N_V (HO_3.out)) (Kd.R_V (Kd.R_tight rfl (Kd.R_types (Kd.R_apart' (Kd.R_apart' (Kd.R_apart' (Kd.R_apart' (HO1245.out) (Kd.N_typed HO_3.out) (by decide)) (Kd.N_typed HO_4.out) (by decide)) (Kd.N_typed HO_16.out) (by decide)) (Kd.N_typed HO_22.out) (by decide)) BK1241.out (by decide)))) (Kd.R_V (Kd.R_tight rfl (Kd.R_types (Kd.R_apart' (Kd.R_apart' (Kd.R_apart' (Kd.R_apart' (HO1248.out) (Kd.N_typed HO_3.out) (by decide)) (Kd.N_typed HO_4.out) (by decide)) (Kd.N_typed HO_16.out) (by decide)) (Kd.N_typed HO_22.out) (by decide)) BK1241.out (by decide)))) A18.out).mono ?_);rintro e w27 ⟨v1250,rfl,ho0,hb⟩;refine ⟨_,rfl,?_⟩;replace HO_6:=A_ (Kd.V_elder' (by (with_reducible repeat (first | apply Kd.V_alloc | apply Kd.V_drewN | apply Kd.V_drew));exact HO_6.out) (Kd.N_base ho0) hb);replace HL1240_0:=A_ (Kd.V_elder' (by (with_reducible repeat (first | apply Kd.V_alloc | apply Kd.V_drewN | apply Kd.V_drew));exact HL1240_0.out) (Kd.N_base ho0) hb);have HO1251:=A_ (Kd.N_lower (Kd.N_mono (ok':=fun k_=>(w.heap.size≤k_)∧some k_≠(.slice (some ad1239) t1236.length co8:Value).ownBlock∧some k_≠(.slice (some ad1239) t1236.length co8:Value).ownBlock∧some k_≠(.slice (some ad1239) t1236.length co8:Value).ownBlock∧k_≠gb1241) ho0 (fun k_ hk_=>⟨Or.elim hk_ (fun hs_=>Or.elim hs_ (fun hs_=>hs_.1.1.1.1) (fun hs_=>Or.elim hs_ (fun hs_=>((Kd.R_types (Kd.R_apart' (Kd.R_apart' (Kd.R_apart' (Kd.R_apart' (HO1245.out) (Kd.N_typed HO_3.out) (by decide)) (Kd.N_typed HO_4.out) (by decide)) (Kd.N_typed HO_16.out) (by decide)) (Kd.N_typed HO_22.out) (by decide)) BK1241.out (by decide)).1 k_ hs_.symm).1.1.1.1.1.1) (fun hs_=>((Kd.R_types (Kd.R_apart' (Kd.R_apart' (Kd.R_apart' (Kd.R_apart' (HO1248.out) (Kd.N_typed HO_3.out) (by decide)) (Kd.N_typed HO_4.out) (by decide)) (Kd.N_typed HO_16.out) (by decide)) (Kd.N_typed HO_22.out) (by decide)) BK1241.out (by decide)).1 k_ hs_.symm).1.1.1.1.1.1))) (fun hn_=>(Nat.le_trans (bF_ hB_) hn_)),Or.elim hk_ (fun hs_=>Or.elim hs_ (fun hs_=>hs_.1.1.1.2.1) (fun hs_=>Or.elim hs_ (fun hs_=>((Kd.R_types (Kd.R_apart' (Kd.R_apart' (Kd.R_apart' (Kd.R_apart' (HO1245.out) (Kd.N_typed HO_3.out) (by decide)) (Kd.N_typed HO_4.out) (by decide)) (Kd.N_typed HO_16.out) (by decide)) (Kd.N_typed HO_22.out) (by decide)) BK1241.out (by decide)).1 k_ hs_.symm).1.1.1.2) (fun hs_=>((Kd.R_types (Kd.R_apart' (Kd.R_apart' (Kd.R_apart' (Kd.R_apart' (HO1248.out) (Kd.N_typed HO_3.out) (by decide)) (Kd.N_typed HO_4.out) (by decide)) (Kd.N_typed HO_16.out) (by decide)) (Kd.N_typed HO_22.out) (by decide)) BK1241.out (by decide)).1 k_ hs_.symm).1.1.1.2))) (fun hn_=>(Kd.fresh' (Kd.N_lt (by (with_reducible repeat (first | apply Kd.N_alloc | apply Kd.N_drewN | apply Kd.N_drew));exact HO_4.out)) k_ hn_)),Or.elim hk_ (fun hs_=>Or.elim hs_ (fun hs_=>hs_.1.1.1.2.2.1) (fun hs_=>Or.elim hs_ (fun hs_=>((Kd.R_types (Kd.R_apart' (Kd.R_apart' (Kd.R_apart' (Kd.R_apart' (HO1245.out) (Kd.N_typed HO_3.out) (by decide)) (Kd.N_typed HO_4.out) (by decide)) (Kd.N_typed HO_16.out) (by decide)) (Kd.N_typed HO_22.out) (by decide)) BK1241.out (by decide)).1 k_ hs_.symm).1.1.2) (fun hs_=>((Kd.R_types (Kd.R_apart' (Kd.R_apart' (Kd.R_apart' (Kd.R_apart' (HO1248.out) (Kd.N_typed HO_3.out) (by decide)) (Kd.N_typed HO_4.out) (by decide)) (Kd.N_typed HO_16.out) (by decide)) (Kd.N_typed HO_22.out) (by decide)) BK1241.out (by decide)).1 k_ hs_.symm).1.1.2))) (fun hn_=>(Kd.fresh' (Kd.N_lt (by (with_reducible repeat (first | apply Kd.N_alloc | apply Kd.N_drewN | apply Kd.N_drew));exact HO_16.out)) k_ hn_)),Or.elim hk_ (fun hs_=>Or.elim hs_ (fun hs_=>hs_.1.1.1.2.2.2) (fun hs_=>Or.elim hs_ (fun hs_=>((Kd.R_types (Kd.R_apart' (Kd.R_apart' (Kd.R_apart' (Kd.R_apart' (HO1245.out) (Kd.N_typed HO_3.out) (by decide)) (Kd.N_typed HO_4.out) (by decide)) (Kd.N_typed HO_16.out) (by decide)) (Kd.N_typed HO_22.out) (by decide)) BK1241.out (by decide)).1 k_ hs_.symm).1.2) (fun hs_=>((Kd.R_types (Kd.R_apart' (Kd.R_apart' (Kd.R_apart' (Kd.R_apart' (HO1248.out) (Kd.N_typed HO_3.out) (by decide)) (Kd.N_typed HO_4.out) (by decide)) (Kd.N_typed HO_16.out) (by decide)) (Kd.N_typed HO_22.out) (by decide)) BK1241.out (by decide)).1 k_ hs_.symm).1.2))) (fun hn_=>(Kd.fresh' (Kd.N_lt (by (with_reducible repeat (first | apply Kd.N_alloc | apply Kd.N_drewN | apply Kd.N_drew));exact HO_22.out)) k_ hn_)),Or.elim hk_ (fun hs_=>Or.elim hs_ (fun hs_=>hs_.1.1.2) (fun hs_=>Or.elim hs_ (fun hs_=>((Kd.R_types (Kd.R_apart' (Kd.R_apart' (Kd.R_apart' (Kd.R_apart' (HO1245.out) (Kd.N_typed HO_3.out) (by decide)) (Kd.N_typed HO_4.out) (by decide)) (Kd.N_typed HO_16.out) (by decide)) (Kd.N_typed HO_22.out) (by decide)) BK1241.out (by decide)).1 k_ hs_.symm).2) (fun hs_=>((Kd.R_types (Kd.R_apart' (Kd.R_apart' (Kd.R_apart' (Kd.R_apart' (HO1248.out) (Kd.N_typed HO_3.out) (by decide)) (Kd.N_typed HO_4.out) (by decide)) (Kd.N_typed HO_16.out) (by decide)) (Kd.N_typed HO_22.out) (by decide)) BK1241.out (by decide)).1 k_ hs_.symm).2))) (fun hn_=>(Kd.freshB (kk_ BK1241) k_ hn_))⟩)) (bF_ hB_));replace HO_3:=A_ (Kd.N_elder' (by (with_reducible repeat (first | apply Kd.N_alloc | apply Kd.N_drewN | apply Kd.N_drew));exact HO_3.out) (Kd.N_base ho0) hb);replace HO_4:=A_ (Kd.N_elder' (by (with_reducible repeat (first | apply Kd.N_alloc | apply Kd.N_drewN | apply Kd.N_drew));exact HO_4.out) (Kd.N_base ho0) hb);replace HO_16:=A_ (Kd.N_elder' (by (with_reducible repeat (first | apply Kd.N_alloc | apply Kd.N_drewN | apply Kd.N_drew));exact HO_16.out) (Kd.N_base ho0) hb);replace HO_22:=A_ (Kd.N_elder' (by (with_reducible repeat (first | apply Kd.N_alloc | apply Kd.N_drewN | apply Kd.N_drew));exact HO_22.out) (Kd.N_base ho0) hb);replace HO1245:=rb_ HO1245 hb;replace HO1248:=rb_ HO1248 hb;replace HR1240_0:=A_ (cD_ (by repeat (first | (with_reducible exact HR1240_0.out) | (with_reducible refine cA_ ?_ _) | (with_reducible refine cB_ ?_ _) | (with_reducible refine cC_ ?_) | exact HR1240_0.out)) hb);replace BK1241:=bb_ BK1241 hb;replace HB:=b1_ hb;clear hb ho0))
         go_roundg k2
         case measure=>have:=HK1.out;have:=HK2.out;omega
         case rel=>exact ⟨(t1249),(wrap64 (x24_2 + 1)),qc_,H',⟨by have:=HK1.out;have:=HK2.out;omega⟩,⟨by (with_reducible repeat (first | apply Kd.N_alloc | apply Kd.N_drewN | apply Kd.N_drew));exact Kd.N_mono HO1251.out (fun _ hk=>⟨hk.1,⟨hk.2.1,⟨hk.2.2.1,hk.2.2.2.1⟩⟩⟩)⟩,⟨by (with_reducible repeat (first | apply Kd.N_alloc | apply Kd.N_drewN | apply Kd.N_drew));exact Kd.N_mono HO_4.out (fun _ hk=>⟨hk.1.1.1.1.1,hk.2⟩)⟩,⟨by (with_reducible repeat (first | apply Kd.V_alloc | apply Kd.V_drewN | apply Kd.V_drew));exact Kd.V_mono HO_6.out (fun _ hk=>⟨hk.1.1.1.1.1,⟨hk.2,hk.1.1.1.1.2.2⟩⟩)⟩,⟨by (with_reducible repeat (first | apply Kd.N_alloc | apply Kd.N_drewN | apply Kd.N_drew));exact Kd.N_mono HO_16.out (fun _ hk=>⟨hk.1.1.1.1.1,hk.2⟩)⟩,⟨by (with_reducible repeat (first | apply Kd.N_alloc | apply Kd.N_drewN | apply Kd.N_drew));exact Kd.N_mono HO_22.out (fun _ hk=>⟨hk.1.1.1.1.1,hk.2⟩)⟩,⟨hB_⟩⟩
        ·replace c16:=Bool.eq_false_iff.mpr c16
         subst c16
         have H1:(Z20.l1 k2 x3_2 t1236 (rd_L5 t1236 x18_1) t1236 (t1236.length:Int) x18_1 t1236 (t1236.length:Int) (wrap64 (x24_2 + 1))) = some r:=by rw [if_neg (show ¬ (false = true) by decide)] at H;exact H
         clear H
         have H:=H1
         clear H1
         have H':=A_ H
         clear H
         have p1240:0≤(x24_2:Int):=oB_ qe_
         have q1240:x24_2 < (t1236.length:Int):=oB_ qe_
         obtain ⟨ad1240,A1240_0,c1240_0,e1240,hx1240_0,hl1240_0,hi1240_0⟩:=at_L5 (Kd.N_reads' HO_22.out).2.2 x24_2 p1240 q1240
         obtain rfl:ad1239 = ad1240:=(by injection e1240)
         obtain ⟨ce1240,hce1240,hMe1240,hcc1240⟩:=Kd.N_get HO_22.out [] x24_2 p1240 (by first | exact q1240 | exact oB_ qe_ | (have e_:=(Kd.N_reads' HO_22.out).1;omega))
         obtain ⟨ua1240_0,uc1240_0,rfl,ul1240_0,ge1240_0⟩:=Kd.FK_slice_open hMe1240
         have hv1240_0:=hcc1240 0 _ rfl
         rw [Nat.add_zero,show ((Kd.slice 3 (Kd.int .i64))).sz = 1 from rfl,Nat.mul_one] at hv1240_0
         replace hv1240_0:=Option.some.inj (hv1240_0.symm.trans hx1240_0)
         injection hv1240_0 with hva_ hvn_ hvc_
         rw [hva_] at ge1240_0
         rw [hvc_] at ul1240_0
         have HL1240_0:=A_ (show Kd.V (Kd.int .i64) 3 _ w.heap.size _ _ (rd_L5 t1236 x24_2) from Kd.V_mk ul1240_0 ge1240_0)
         clear hva_ hvn_ hvc_ ge1240_0 ul1240_0
         clear hcc1240 hce1240
         have HR1240_0:=A_ hi1240_0
         have HC1240_0:=A_ hl1240_0
         clear hi1240_0 hl1240_0
         replace p1240:=eq_true p1240
         replace q1240:=eq_true q1240
         go_wp2_with (first | ((with_reducible refine gB_ (N:=9) rfl ?_);refine bx_ 9 #[.slice none 0 0,.slice none 0 0] 33 ?_;intro gb1241 hg w28 hbox hb;replace HO_3:=A_ (Kd.N_below (Kd.N_elderB (by (with_reducible repeat (first | apply Kd.N_alloc | apply Kd.N_drewN | apply Kd.N_drew));exact HO_3.out) gb1241 (Nat.le_of_eq hg.symm)) hb);replace HO_4:=A_ (Kd.N_below (Kd.N_elderB (by (with_reducible repeat (first | apply Kd.N_alloc | apply Kd.N_drewN | apply Kd.N_drew));exact HO_4.out) gb1241 (Nat.le_of_eq hg.symm)) hb);replace HO_6:=A_ (Kd.V_below (Kd.V_elderB (by (with_reducible repeat (first | apply Kd.V_alloc | apply Kd.V_drewN | apply Kd.V_drew));exact HO_6.out) gb1241 (Nat.le_of_eq hg.symm)) hb);replace HO_16:=A_ (Kd.N_below (Kd.N_elderB (by (with_reducible repeat (first | apply Kd.N_alloc | apply Kd.N_drewN | apply Kd.N_drew));exact HO_16.out) gb1241 (Nat.le_of_eq hg.symm)) hb);replace HO_22:=A_ (Kd.N_below (Kd.N_elderB (by (with_reducible repeat (first | apply Kd.N_alloc | apply Kd.N_drewN | apply Kd.N_drew));exact HO_22.out) gb1241 (Nat.le_of_eq hg.symm)) hb);replace HL1240_0:=A_ (Kd.V_below (Kd.V_elderB (by (with_reducible repeat (first | apply Kd.V_alloc | apply Kd.V_drewN | apply Kd.V_drew));exact HL1240_0.out) gb1241 (Nat.le_of_eq hg.symm)) hb);replace HR1240_0:=A_ (cD_ (by repeat (first | (with_reducible exact HR1240_0.out) | (with_reducible refine cA_ ?_ _) | (with_reducible refine cB_ ?_ _) | (with_reducible refine cC_ ?_) | exact HR1240_0.out)) hb);have BK1241:=A_ hbox;have GW1241:=gw_ w hg;have GE1241:=GW1241;replace HB:=b1_ hb;clear hb hbox hg;obtain ⟨hcz29_0,hcz29_1,hfz29_0,hfz29_1⟩:=c2_ BK1241) | ((with_reducible refine gA_ (f:=85) rfl ?_);refine gL_ (some 32) Try.func85 #[.agg #[.slice A1239_0 (rd_L5 t1236 x18_1).length c1239_0,.slice A1240_0 (rd_L5 t1236 x24_2).length c1240_0]] rfl qa_ ?_;(with_reducible refine (Z38.calls k2 _ _ (rd_L5 t1236 x18_1) _ _ (rd_L5 t1236 x24_2) false _ ?side1 ?side2 ?side3 ?side4 A15.out).mono ?_);(case side1=>refine (Kd.V_reads' (e:=3) (base:=w.heap.size) (ok:=fun k_=>(((w.heap.size≤k_)∧(some k_≠(u3:Value).ownBlock∧some k_≠(.slice (some ad1239) t1236.length co8:Value).ownBlock))∧k_≠gb1241)) (n:=(rd_L5 t1236 x18_1).length) (c:=c1239_0) ?_).2.2;exact (by (with_reducible repeat (first | apply Kd.V_alloc | apply Kd.V_drewN | apply Kd.V_drew));exact (Kd.V_mono (Kd.V_far (p:=⟨gb1241,1,none⟩) (Kd.V_far (p:=⟨gb1241,0,none⟩) (Kd.V_mono HO_6.out (fun k_ hk=>(⟨hk,hk.2⟩:_∧k_≠gb1241))) (fun _ hk=>hk.2) (.slice A1239_0 (rd_L5 t1236 x18_1).length c1239_0)) (fun _ hk=>hk.2) (.slice A1240_0 (rd_L5 t1236 x24_2).length c1240_0)) (fun _ h_=>h_.1))));(case side2=>exact (Kd.V_reads' HO_6.out).2.1);(case side3=>repeat (first | exact ((Kd.V_reads' (by (with_reducible repeat (first | apply Kd.V_alloc | apply Kd.V_drewN | apply Kd.V_drew));exact (Kd.V_mono (Kd.V_far (p:=⟨gb1241,1,none⟩) (Kd.V_far (p:=⟨gb1241,0,none⟩) (Kd.V_mono HL1240_0.out (fun k_ hk=>(⟨hk,hk.2⟩:_∧k_≠gb1241))) (fun _ hk=>hk.2) (.slice A1239_0 (rd_L5 t1236 x18_1).length c1239_0)) (fun _ hk=>hk.2) (.slice A1240_0 (rd_L5 t1236 x24_2).length c1240_0)) (fun _ h_=>h_.1)))).2.2) | (with_reducible first | refine cA_ ?_ _ | refine cB_ ?_ _ | refine cC_ ?_)));(case side4=>exact HC1240_0.out);rintro e w30 ⟨rfl,hb⟩;refine ⟨_,rfl,?_⟩;replace HO_3:=A_ (Kd.N_below (by (with_reducible repeat (first | apply Kd.N_alloc | apply Kd.N_drewN | apply Kd.N_drew));exact (Kd.N_mono (Kd.N_far (p:=⟨gb1241,1,none⟩) (Kd.N_far (p:=⟨gb1241,0,none⟩) (Kd.N_mono HO_3.out (fun k_ hk=>(⟨hk,hk.2⟩:_∧k_≠gb1241))) (fun _ hk=>hk.2) (.slice A1239_0 (rd_L5 t1236 x18_1).length c1239_0)) (fun _ hk=>hk.2) (.slice A1240_0 (rd_L5 t1236 x24_2).length c1240_0)) (fun _ h_=>h_.1))) hb);replace HO_4:=A_ (Kd.N_below (by (with_reducible repeat (first | apply Kd.N_alloc | apply Kd.N_drewN | apply Kd.N_drew));exact (Kd.N_mono (Kd.N_far (p:=⟨gb1241,1,none⟩) (Kd.N_far (p:=⟨gb1241,0,none⟩) (Kd.N_mono HO_4.out (fun k_ hk=>(⟨hk,hk.2⟩:_∧k_≠gb1241))) (fun _ hk=>hk.2) (.slice A1239_0 (rd_L5 t1236 x18_1).length c1239_0)) (fun _ hk=>hk.2) (.slice A1240_0 (rd_L5 t1236 x24_2).length c1240_0)) (fun _ h_=>h_.1))) hb);replace HO_6:=A_ (Kd.V_below (by (with_reducible repeat (first | apply Kd.V_alloc | apply Kd.V_drewN | apply Kd.V_drew));exact (Kd.V_mono (Kd.V_far (p:=⟨gb1241,1,none⟩) (Kd.V_far (p:=⟨gb1241,0,none⟩) (Kd.V_mono HO_6.out (fun k_ hk=>(⟨hk,hk.2⟩:_∧k_≠gb1241))) (fun _ hk=>hk.2) (.slice A1239_0 (rd_L5 t1236 x18_1).length c1239_0)) (fun _ hk=>hk.2) (.slice A1240_0 (rd_L5 t1236 x24_2).length c1240_0)) (fun _ h_=>h_.1))) hb);replace HO_16:=A_ (Kd.N_below (by (with_reducible repeat (first | apply Kd.N_alloc | apply Kd.N_drewN | apply Kd.N_drew));exact (Kd.N_mono (Kd.N_far (p:=⟨gb1241,1,none⟩) (Kd.N_far (p:=⟨gb1241,0,none⟩) (Kd.N_mono HO_16.out (fun k_ hk=>(⟨hk,hk.2⟩:_∧k_≠gb1241))) (fun _ hk=>hk.2) (.slice A1239_0 (rd_L5 t1236 x18_1).length c1239_0)) (fun _ hk=>hk.2) (.slice A1240_0 (rd_L5 t1236 x24_2).length c1240_0)) (fun _ h_=>h_.1))) hb);replace HO_22:=A_ (Kd.N_below (by (with_reducible repeat (first | apply Kd.N_alloc | apply Kd.N_drewN | apply Kd.N_drew));exact (Kd.N_mono (Kd.N_far (p:=⟨gb1241,1,none⟩) (Kd.N_far (p:=⟨gb1241,0,none⟩) (Kd.N_mono HO_22.out (fun k_ hk=>(⟨hk,hk.2⟩:_∧k_≠gb1241))) (fun _ hk=>hk.2) (.slice A1239_0 (rd_L5 t1236 x18_1).length c1239_0)) (fun _ hk=>hk.2) (.slice A1240_0 (rd_L5 t1236 x24_2).length c1240_0)) (fun _ h_=>h_.1))) hb);replace HR1240_0:=A_ (cD_ ((Kd.V_reads' (by (with_reducible repeat (first | apply Kd.V_alloc | apply Kd.V_drewN | apply Kd.V_drew));exact (Kd.V_mono (Kd.V_far (p:=⟨gb1241,1,none⟩) (Kd.V_far (p:=⟨gb1241,0,none⟩) (Kd.V_mono HL1240_0.out (fun k_ hk=>(⟨hk,hk.2⟩:_∧k_≠gb1241))) (fun _ hk=>hk.2) (.slice A1239_0 (rd_L5 t1236 x18_1).length c1239_0)) (fun _ hk=>hk.2) (.slice A1240_0 (rd_L5 t1236 x24_2).length c1240_0)) (fun _ h_=>h_.1)))).2.2) hb);replace HL1240_0:=A_ (Kd.V_below (by (with_reducible repeat (first | apply Kd.V_alloc | apply Kd.V_drewN | apply Kd.V_drew));exact (Kd.V_mono (Kd.V_far (p:=⟨gb1241,1,none⟩) (Kd.V_far (p:=⟨gb1241,0,none⟩) (Kd.V_mono HL1240_0.out (fun k_ hk=>(⟨hk,hk.2⟩:_∧k_≠gb1241))) (fun _ hk=>hk.2) (.slice A1239_0 (rd_L5 t1236 x18_1).length c1239_0)) (fun _ hk=>hk.2) (.slice A1240_0 (rd_L5 t1236 x24_2).length c1240_0)) (fun _ h_=>h_.1))) hb);replace BK1241:=A_ (kE_ (g:=gb1241) (o:=.cells #[.slice A1239_0 (rd_L5 t1236 x18_1).length c1239_0,.slice A1240_0 (rd_L5 t1236 x24_2).length c1240_0] 33 (0,0)) qp_ hb);replace HB:=b1_ hb;clear hb))
         go_roundg k2
         case measure=>have:=HK1.out;have:=HK2.out;omega
         case rel=>exact ⟨(x3_2),(wrap64 (x24_2 + 1)),qc_,H',⟨by have:=HK1.out;have:=HK2.out;omega⟩,⟨by (with_reducible repeat (first | apply Kd.N_alloc | apply Kd.N_drewN | apply Kd.N_drew));exact Kd.N_mono HO_3.out (fun _ hk=>⟨hk.1.1,⟨hk.1.2.1,⟨hk.1.2.2.1,hk.1.2.2.2⟩⟩⟩)⟩,⟨by (with_reducible repeat (first | apply Kd.N_alloc | apply Kd.N_drewN | apply Kd.N_drew));exact Kd.N_mono HO_4.out (fun _ hk=>⟨hk.1.1,hk.1.2⟩)⟩,⟨by (with_reducible repeat (first | apply Kd.V_alloc | apply Kd.V_drewN | apply Kd.V_drew));exact Kd.V_mono HO_6.out (fun _ hk=>⟨hk.1.1,⟨hk.1.2.1,hk.1.2.2⟩⟩)⟩,⟨by (with_reducible repeat (first | apply Kd.N_alloc | apply Kd.N_drewN | apply Kd.N_drew));exact Kd.N_mono HO_16.out (fun _ hk=>⟨hk.1.1,hk.1.2⟩)⟩,⟨by (with_reducible repeat (first | apply Kd.N_alloc | apply Kd.N_drewN | apply Kd.N_drew));exact Kd.N_mono HO_22.out (fun _ hk=>⟨hk.1.1,hk.1.2⟩)⟩,⟨hB_⟩⟩
       ·rw [if_neg c12] at H
        have c12b0:=oD_ c12
        clear c12
        have H':=A_ H
        clear H
        go_wp2
        go_roundg k2
        case measure=>have:=HK1.out;have:=HK2.out;omega
        case rel=>exact ⟨(x3_2),(wrap64 (x18_1 + 1)),qc_,H',⟨by have:=HK1.out;have:=HK2.out;omega⟩,⟨by (with_reducible repeat (first | apply Kd.N_alloc | apply Kd.N_drewN | apply Kd.N_drew));exact Kd.N_mono HO_3.out (fun _ hk=>⟨hk.1,⟨hk.2.1,hk.2.2.1⟩⟩)⟩,⟨by (with_reducible repeat (first | apply Kd.N_alloc | apply Kd.N_drewN | apply Kd.N_drew));exact HO_4.out⟩,⟨by (with_reducible repeat (first | apply Kd.N_alloc | apply Kd.N_drewN | apply Kd.N_drew));exact HO_16.out⟩,⟨hB_⟩⟩
    ·rw [if_neg c9] at H
     have c9b0:=oD_ c9
     clear c9
     obtain rfl:=Option.some.inj H
     go_wp2
     go_ret
     exact ⟨_,qb_,by (with_reducible repeat (first | apply Kd.N_alloc | apply Kd.N_drewN | apply Kd.N_drew));exact Kd.N_mono HO_3.out (fun _ hk=>hk.1),hB_⟩
 ·replace c3:=Bool.eq_false_iff.mpr c3
  subst c3
  have H1:(some ([]:List (S33))) = some r:=by rw [if_neg (show ¬ (false = true) by decide)] at H;exact H
  clear H
  have H:=H1
  clear H1
  obtain rfl:=Option.some.inj H
  go_enter Try.func37,Try.ntmps37
  go_wp2_with (first | ((with_reducible refine gA_ (f:=83) rfl ?_);refine gL_ (some 11) Try.func83 #[.int .i64 a0,.int .i64 1,.int .i64 4] rfl qa_ ?_;(with_reducible refine (Z69.calls a0 1 4 false _ A2.out).mono ?_);rintro e w' ⟨rfl,⟨nd,rfl⟩⟩;refine ⟨_,rfl,?_⟩))
  go_ret
  exact ⟨_,qb_,by first | exact Kd.S_nil _ _ _ _ _ | exact Kd.N_nil _ _ _ _ _ | exact Kd.V_nil _ _ _ _ _ | exact Kd.Q_nil _ _ _ _ _ | exact Kd.R_nil _ _ _ _ _,hB_⟩
end Go.Proofs.Ytoijcallajegfaa.A
end
section
namespace Go.Proofs.Ytoijcallajegfaa.A
open Go.RowKit Go.Proofs.YtoijcallajegfaaW.PrintWords Go.Proofs.YtoijcallajegfaaW.PrintLast Go.Proofs.YtoijcallajegfaaW.PrintMore
attribute [local go_sem] max2_int min2_int max_two min_two max_three min_three max_four min_four
set_option linter.unusedVariables false
set_option linter.unusedSimpArgs false
def Z64.l0:Nat→List (S33)→Int→Int→List Int→List Int→Option (Int)
 | 0,_,_,_,_,_=>none
 | k + 1,x7,x8,x9,x1407000,x1407001=>if x9 < x8 then (if 0≤x9 then (if x9 < (x7.length:Int) then ((Z25.f k ((rd_T33 x7 x9).f0) ((rd_T33 x7 x9).f1) x1407000 x1407001).bind fun t1409=>(if t1409 = true then (some x9) else (Z64.l0 k x7 x8 (wrap64 (x9 + 1)) x1407000 x1407001))) else (none)) else (none)) else (some (-1))
def Z64.f (k:Nat) (l0:List (S33)) (l1_0:List Int) (l1_1:List Int):Option (Int):=Z64.l0 k l0 (l0.length:Int) 0 l1_0 l1_1
theorem Z64.mono_l:∀ k,(∀ y0 y1 y2 y3 y4,LeO (Z64.l0 k y0 y1 y2 y3 y4) (Z64.l0 (k + 1) y0 y1 y2 y3 y4))
 | 0=>fun _ _ _ _ _ r h=>by simp [Z64.l0] at h
 | k + 1=>by
  have ih0:=Z64.mono_l k
  ·intro y0 y1 y2 y3 y4
   unfold Z64.l0
   repeat' first|exact ih0 _ _ _ _ _|exact Z25.mono _ _ _ _ _|exact lo_|refine LeO.ite ?_ ?_|refine LeO.bind ?_ (fun _=>?_)
theorem Z64.mono:∀ a0 a1 a2 k,LeO (Z64.f k a0 a1 a2) (Z64.f (k + 1) a0 a1 a2):=by
 intro a0 a1 a2 k
 have ih0:=Z64.mono_l k
 unfold Z64.f
 repeat' first|exact ih0 _ _ _ _ _|exact Z25.mono _ _ _ _ _|exact lo_|refine LeO.ite ?_ ?_|refine LeO.bind ?_ (fun _=>?_)
set_option maxHeartbeats 8000000 in
set_option maxRecDepth 100000 in
theorem Z64.calls (k:Nat) (A0:Option Addr) (c0:Nat) (l0:List (S33)) (A1_0:Option Addr) (c1_0:Nat) (l1_0:List Int) (A1_1:Option Addr) (c1_1:Nat) (l1_1:List Int) (r:Int) (w:World) (hr0:Kd.C k33 w A0 l0.length l0) (hc0:l0.length≤c0) (hr1_0:Kd.C (Kd.int .i64) w A1_0 l1_0.length l1_0) (hc1_0:l1_0.length≤c1_0) (hr1_1:Kd.C (Kd.int .i64) w A1_1 l1_1.length l1_1) (hc1_1:l1_1.length≤c1_1) (h:Z64.f k l0 l1_0 l1_1 = some r) :
  Calls Try.prog 97 #[.slice A0 l0.length c0,.agg #[.slice A1_0 l1_0.length c1_0,.slice A1_1 l1_1.length c1_1]] w fun e w'=>e = .returned (.int .i64 r)∧Below w.heap.size w w':=by
 have hu33:=Try.underlying33
 have HR0:=A_ hr0
 have HC0:=A_ hc0
 clear hr0 hc0
 have HR1_0:=A_ hr1_0
 have HC1_0:=A_ hc1_0
 clear hr1_0 hc1_0
 have HR1_1:=A_ hr1_1
 have HC1_1:=A_ hc1_1
 clear hr1_1 hc1_1
 have HB:=A_ (Below.refl w.heap.size w)
 have H:=h
 unfold Z64.f at H
 clear h
 have H':=A_ H
 clear H
 go_enter Try.func97,Try.ntmps97
 go_wp2_with (first | ((with_reducible refine gB_ (N:=3) rfl ?_);refine bx_ 3 #[.slice A1_0 l1_0.length c1_0,.slice A1_1 l1_1.length c1_1] 33 ?_;intro gb1406 hg w3 hbox hb;have BK1406:=A_ hbox;have GW1406:=gw_ w hg;have GE1406:=GW1406;replace HB:=b1_ hb;clear hb hbox hg))
 go_loopg [9] k (fun kq v9 w'=>∃ (x9_1:Int),v9 = .int .i64 x9_1∧Aside0 (Z64.l0 kq l0 (l0.length:Int) x9_1 l1_0 l1_1 = some r)∧Aside0 (kq≤k)∧Aside0 (w'.heap[gb1406]? = some (.cells #[(.slice A1_0 l1_0.length c1_0),(.slice A1_1 l1_1.length c1_1)] 33 (0,0)))∧Aside0 (Below w.heap.size w w'))
 case atStart=>exact ⟨(0),qc_,H',⟨nA_ _⟩,⟨(kk_ BK1406)⟩,⟨hB_⟩⟩
 case round =>
  clear H'
  obtain ⟨x9_1,rfl,HA,HK1,BK1406,HB⟩:=hrel
  cases gk with
  | zero=>exact absurd HA.out (by simp [Z64.l0])
  | succ k1 =>
   have H:=HA.out
   clear HA
   simp only [Z64.l0] at H
   by_cases c4:x9_1 < (l0.length:Int)
   ·rw [if_pos c4] at H
    have c4b0:=oC_ c4
    clear c4
    replace H:=cx_ H;obtain ⟨c5b0,H⟩:=H
    replace H:=cx_ H;obtain ⟨c6b0,H⟩:=H
    obtain ⟨t1409,A7,H⟩:=bi_ H
    by_cases c8:t1409 = true
    ·subst c8
     rw [if_pos rfl] at H
     obtain rfl:=Option.some.inj H
     have p1407:0≤(x9_1:Int):=oB_ qe_
     have q1407:x9_1 < (l0.length:Int):=oB_ qe_
     obtain ⟨ad1407,A1407_0,c1407_0,A1407_1,c1407_1,e1407,hx1407_0,hx1407_1,hl1407_0,hi1407_0,hl1407_1,hi1407_1⟩:=at_T33 HR0.out x9_1 p1407 q1407
     cases e1407
     replace hx1407_0:=(HB.out.cell (World.block_lt_of_cell? w _ hx1407_0)).trans hx1407_0
     replace hx1407_1:=(HB.out.cell (World.block_lt_of_cell? w _ hx1407_1)).trans hx1407_1
     have HR1407_0:=A_ hi1407_0
     have HC1407_0:=A_ hl1407_0
     clear hi1407_0 hl1407_0
     have HR1407_1:=A_ hi1407_1
     have HC1407_1:=A_ hl1407_1
     clear hi1407_1 hl1407_1
     replace p1407:=eq_true p1407
     replace q1407:=eq_true q1407
     go_wp2_with (first | ((with_reducible refine gB_ (N:=6) rfl ?_);refine bx_ 6 #[.slice none 0 0,.slice none 0 0] 33 ?_;intro gb1408 hg w9 hbox hb;have BK1408:=A_ hbox;have GW1408:=gw_ w hg;have GE1408:=GW1408;replace HB:=b1_ hb;have NB1406_1408:=gN_ BK1406 hg;have NB1408_1406:=gP_ BK1406 hg;replace BK1406:=bb_ BK1406 hb;clear hb hbox hg;have hnb10:=NB1408_1406.out;have hnc10:=NB1406_1408.out;obtain ⟨hcz11_0,hcz11_1,hfz11_0,hfz11_1⟩:=c2_ BK1408;obtain ⟨hcz12_0,hcz12_1,hfz12_0,hfz12_1⟩:=c2_ BK1406) | ((with_reducible refine gA_ (f:=125) rfl ?_);refine gL_ (some 16) Try.func125 #[.agg #[.slice A1407_0 ((rd_T33 l0 x9_1).f0).length c1407_0,.slice A1407_1 ((rd_T33 l0 x9_1).f1).length c1407_1],.agg #[.slice A1_0 l1_0.length c1_0,.slice A1_1 l1_1.length c1_1]] rfl qa_ ?_;(with_reducible refine (Z25.calls k1 _ _ ((rd_T33 l0 x9_1).f0) _ _ ((rd_T33 l0 x9_1).f1) _ _ l1_0 _ _ l1_1 true _ (cD_ HR1407_0.out hB_) HC1407_0.out (cD_ HR1407_1.out hB_) HC1407_1.out (cD_ HR1_0.out hB_) HC1_0.out (cD_ HR1_1.out hB_) HC1_1.out A7.out).mono ?_);rintro e w13 ⟨rfl,hb⟩;refine ⟨_,rfl,?_⟩;replace BK1406:=A_ (kE_ (g:=gb1406) (o:=.cells #[.slice A1_0 l1_0.length c1_0,.slice A1_1 l1_1.length c1_1] 33 (0,0)) (by (with_reducible repeat (first | refine kA_ ?_ _ | refine kB_ ?_ | refine kC_ ?_ _));refine blk_far ?_ NB1406_1408.out _;(with_reducible repeat (first | refine kA_ ?_ _ | refine kB_ ?_ | refine kC_ ?_ _));refine blk_far ?_ NB1406_1408.out _;(with_reducible repeat (first | refine kA_ ?_ _ | refine kB_ ?_ | refine kC_ ?_ _));exact BK1406.out) hb);replace BK1408:=A_ (kE_ (g:=gb1408) (o:=.cells #[.slice A1407_0 ((rd_T33 l0 x9_1).f0).length c1407_0,.slice A1407_1 ((rd_T33 l0 x9_1).f1).length c1407_1] 33 (0,0)) qp_ hb);replace HB:=b1_ hb;clear hb))
     go_ret
     exact ⟨qb_,hB_⟩
    ·replace c8:=Bool.eq_false_iff.mpr c8
     subst c8
     have H1:(Z64.l0 k1 l0 (l0.length:Int) (wrap64 (x9_1 + 1)) l1_0 l1_1) = some r:=by rw [if_neg (show ¬ (false = true) by decide)] at H;exact H
     clear H
     have H:=H1
     clear H1
     have H':=A_ H
     clear H
     have p1407:0≤(x9_1:Int):=oB_ qe_
     have q1407:x9_1 < (l0.length:Int):=oB_ qe_
     obtain ⟨ad1407,A1407_0,c1407_0,A1407_1,c1407_1,e1407,hx1407_0,hx1407_1,hl1407_0,hi1407_0,hl1407_1,hi1407_1⟩:=at_T33 HR0.out x9_1 p1407 q1407
     cases e1407
     replace hx1407_0:=(HB.out.cell (World.block_lt_of_cell? w _ hx1407_0)).trans hx1407_0
     replace hx1407_1:=(HB.out.cell (World.block_lt_of_cell? w _ hx1407_1)).trans hx1407_1
     have HR1407_0:=A_ hi1407_0
     have HC1407_0:=A_ hl1407_0
     clear hi1407_0 hl1407_0
     have HR1407_1:=A_ hi1407_1
     have HC1407_1:=A_ hl1407_1
     clear hi1407_1 hl1407_1
     replace p1407:=eq_true p1407
     replace q1407:=eq_true q1407
     go_wp2_with (first | ((with_reducible refine gB_ (N:=6) rfl ?_);refine bx_ 6 #[.slice none 0 0,.slice none 0 0] 33 ?_;intro gb1408 hg w14 hbox hb;have BK1408:=A_ hbox;have GW1408:=gw_ w hg;have GE1408:=GW1408;replace HB:=b1_ hb;have NB1406_1408:=gN_ BK1406 hg;have NB1408_1406:=gP_ BK1406 hg;replace BK1406:=bb_ BK1406 hb;clear hb hbox hg;have hnb15:=NB1408_1406.out;have hnc15:=NB1406_1408.out;obtain ⟨hcz16_0,hcz16_1,hfz16_0,hfz16_1⟩:=c2_ BK1408;obtain ⟨hcz17_0,hcz17_1,hfz17_0,hfz17_1⟩:=c2_ BK1406) | ((with_reducible refine gA_ (f:=125) rfl ?_);refine gL_ (some 16) Try.func125 #[.agg #[.slice A1407_0 ((rd_T33 l0 x9_1).f0).length c1407_0,.slice A1407_1 ((rd_T33 l0 x9_1).f1).length c1407_1],.agg #[.slice A1_0 l1_0.length c1_0,.slice A1_1 l1_1.length c1_1]] rfl qa_ ?_;(with_reducible refine (Z25.calls k1 _ _ ((rd_T33 l0 x9_1).f0) _ _ ((rd_T33 l0 x9_1).f1) _ _ l1_0 _ _ l1_1 false _ (cD_ HR1407_0.out hB_) HC1407_0.out (cD_ HR1407_1.out hB_) HC1407_1.out (cD_ HR1_0.out hB_) HC1_0.out (cD_ HR1_1.out hB_) HC1_1.out A7.out).mono ?_);rintro e w18 ⟨rfl,hb⟩;refine ⟨_,rfl,?_⟩;replace BK1406:=A_ (kE_ (g:=gb1406) (o:=.cells #[.slice A1_0 l1_0.length c1_0,.slice A1_1 l1_1.length c1_1] 33 (0,0)) (by (with_reducible repeat (first | refine kA_ ?_ _ | refine kB_ ?_ | refine kC_ ?_ _));refine blk_far ?_ NB1406_1408.out _;(with_reducible repeat (first | refine kA_ ?_ _ | refine kB_ ?_ | refine kC_ ?_ _));refine blk_far ?_ NB1406_1408.out _;(with_reducible repeat (first | refine kA_ ?_ _ | refine kB_ ?_ | refine kC_ ?_ _));exact BK1406.out) hb);replace BK1408:=A_ (kE_ (g:=gb1408) (o:=.cells #[.slice A1407_0 ((rd_T33 l0 x9_1).f0).length c1407_0,.slice A1407_1 ((rd_T33 l0 x9_1).f1).length c1407_1] 33 (0,0)) qp_ hb);replace HB:=b1_ hb;clear hb))
     go_roundg k1
     case measure=>have:=HK1.out;omega
     case rel=>exact ⟨(wrap64 (x9_1 + 1)),qc_,H',⟨by have:=HK1.out;omega⟩,⟨(kk_ BK1406)⟩,⟨hB_⟩⟩
   ·rw [if_neg c4] at H
    have c4b0:=oD_ c4
    clear c4
    obtain rfl:=Option.some.inj H
    go_wp2
    go_ret
    exact ⟨qb_,hB_⟩
def Z61.l0:Nat→List Int→List Int→List Int→Int→Int→Option (List Int)
 | 0,_,_,_,_,_=>none
 | k + 1,x1,x5,x9,x10,x11=>if x11 < x10 then (if 0≤x11 then (if x11 < (x9.length:Int) then (if 0≤(rd x9 x11) then (if (rd x9 x11) < (x1.length:Int) then (if x5.length < 17592186044416 then (Z61.l0 k x1 (x5 ++ [rd x1 (rd x9 x11)]) x9 x10 (wrap64 (x11 + 1))) else (none)) else (none)) else (none)) else (none)) else (none)) else (some x5)
def Z61.f (k:Nat) (l0:List Int) (l1:List Int):Option (List Int):=Z61.l0 k l1 (([]:List Int)) l0 (l0.length:Int) 0
theorem Z61.mono_l:∀ k,(∀ y0 y1 y2 y3 y4,LeO (Z61.l0 k y0 y1 y2 y3 y4) (Z61.l0 (k + 1) y0 y1 y2 y3 y4))
 | 0=>fun _ _ _ _ _ r h=>by simp [Z61.l0] at h
 | k + 1=>by
  have ih0:=Z61.mono_l k
  ·intro y0 y1 y2 y3 y4
   unfold Z61.l0
   repeat' first|exact ih0 _ _ _ _ _|exact lo_|refine LeO.ite ?_ ?_|refine LeO.bind ?_ (fun _=>?_)
theorem Z61.mono:∀ a0 a1 k,LeO (Z61.f k a0 a1) (Z61.f (k + 1) a0 a1):=by
 intro a0 a1 k
 have ih0:=Z61.mono_l k
 unfold Z61.f
 repeat' first|exact ih0 _ _ _ _ _|exact lo_|refine LeO.ite ?_ ?_|refine LeO.bind ?_ (fun _=>?_)
set_option maxHeartbeats 8000000 in
set_option maxRecDepth 100000 in
theorem Z61.calls (k:Nat) (A0:Option Addr) (c0:Nat) (l0:List Int) (A1:Option Addr) (c1:Nat) (l1:List Int) (r:List Int) (w:World) (hr0:Kd.C (Kd.int .i64) w A0 l0.length l0) (hc0:l0.length≤c0) (hr1:Kd.C (Kd.int .i64) w A1 l1.length l1) (hc1:l1.length≤c1) (h:Z61.f k l0 l1 = some r) :
  Calls Try.prog 110 #[.slice A0 l0.length c0,.slice A1 l1.length c1] w fun e w'=>∃ v0_:Value,e = .returned (v0_)∧Kd.R (Kd.int .i64) 3 w' w.heap.size (fun _=>True) v0_ r∧Below w.heap.size w w':=by
 have HR0:=A_ hr0
 have HC0:=A_ hc0
 clear hr0 hc0
 have HR1:=A_ hr1
 have HC1:=A_ hc1
 clear hr1 hc1
 have HB:=A_ (Below.refl w.heap.size w)
 have H:=h
 unfold Z61.f at H
 clear h
 obtain ⟨y514,hy514⟩:∃ y_:List Int,y_ = (([]:List Int)):=⟨_,rfl⟩
 replace H:(Z61.l0 k l1 y514 l0 (l0.length:Int) 0) = some r:=by first | (rw [hy514];exact H) | exact H
 have Ny514:=A_ hy514
 clear hy514
 have H':=A_ H
 clear H
 go_enter Try.func110,Try.ntmps110
 go_wp2_with (first | ((with_reducible refine gB_ (N:=8) rfl ?_);refine Kd.R_lit (Kd.int .i64) _ 3 ?hg (N:=8) ?hd (xs:=([]:List Int)) (inner:=[]) (ok:=fun _=>True) (okp:=fun _=>True) ?hr ?hp (fun _ hk=>hk) trivial (Below.refl _ _) (nA_ _) (by simp) ?_;(case hd=>rfl);(case hg=>rfl);(case hr=>first | (go_simp;done) | (go_simp;rfl));(case hp=>exact (Reps.none _ _));intro v515 w3 ho4 hb hg_ hnew_;clear hg_ hnew_;(first | rw [← Ny514.out] at ho4 | (simp only [Int.reduceToNat] at ho4;rw [← Ny514.out] at ho4));have HO516:=rl_ w ho4;replace HB:=b1_ hb;clear hb ho4))
 go_loopg [5,11] k (fun kq v5 v11 w'=>∃ (x5_1:List Int) (x11_1:Int),v11 = .int .i64 x11_1∧Aside0 (Z61.l0 kq l1 x5_1 l0 (l0.length:Int) x11_1 = some r)∧Aside0 (kq≤k)∧Aside0 (Kd.R (Kd.int .i64) 3 w' w.heap.size (fun _=>True) v5 x5_1)∧Aside0 (Below w.heap.size w w'))
 case atStart=>exact ⟨(y514),(0),qc_,H',⟨nA_ _⟩,⟨(rr_ HO516)⟩,⟨hB_⟩⟩
 case round =>
  clear H'
  obtain ⟨x5_1,x11_1,rfl,HA,HK1,HO_5,HB⟩:=hrel
  cases gk with
  | zero=>exact absurd HA.out (by simp [Z61.l0])
  | succ k1 =>
   have H:=HA.out
   clear HA
   simp only [Z61.l0] at H
   by_cases c5:x11_1 < (l0.length:Int)
   ·rw [if_pos c5] at H
    have c5b0:=oC_ c5
    clear c5
    replace H:=cx_ H;obtain ⟨c6b0,H⟩:=H
    replace H:=cx_ H;obtain ⟨c7b0,H⟩:=H
    replace H:=cx_ H;obtain ⟨c8b0,H⟩:=H
    replace H:=cx_ H;obtain ⟨c9b0,H⟩:=H
    have c10:=cp_ H
    replace H:=ca_ H
    have LMc10:=A_ c10
    clear c10
    obtain ⟨y519,hy519⟩:∃ y_:List Int,y_ = (x5_1 ++ [rd l1 (rd l0 x11_1)]):=⟨_,rfl⟩
    replace H:(Z61.l0 k1 l1 y519 l0 (l0.length:Int) (wrap64 (x11_1 + 1))) = some r:=by first | (rw [hy519];exact H) | exact H
    have Ny519:=A_ hy519
    clear hy519
    have H':=A_ H
    clear H
    have p517:0≤(x11_1:Int):=oB_ qe_
    have q517:x11_1 < (l0.length:Int):=oB_ qe_
    obtain ⟨ad517,e517,hx517_0⟩:=Kd.at_int HR0.out x11_1 p517 q517
    cases e517
    replace hx517_0:=(HB.out.cell (World.block_lt_of_cell? w _ hx517_0)).trans hx517_0
    replace p517:=eq_true p517
    replace q517:=eq_true q517
    have p518:0≤((rd l0 x11_1):Int):=oB_ qe_
    have q518:(rd l0 x11_1) < (l1.length:Int):=oB_ qe_
    obtain ⟨ad518,e518,hx518_0⟩:=Kd.at_int HR1.out (rd l0 x11_1) p518 q518
    cases e518
    replace hx518_0:=(HB.out.cell (World.block_lt_of_cell? w _ hx518_0)).trans hx518_0
    replace p518:=eq_true p518
    replace q518:=eq_true q518
    go_wp2_with (first | ((with_reducible refine gate_builtin (b:=.append) (xs:=#[.tmp 15,.tmp 20]) rfl ?_);at_builtin;refine Kd.R_append (Kd.int .i64) (w0:=w) w.heap.size rfl (.tmp 15) (.tmp 20) 23 3 (.int .i64 0) 8 rfl Try.underlying23 info3 rfl (by decide) (by omega) u5 x5_1 (rd l1 (rd l0 x11_1)) [.int .i64 (rd l1 (rd l0 x11_1))] (fun _=>True) (fun _=>False) rfl rfl ?aP (fun _ hk=>hk.elim) ?aF ?aO ?aB ?aS ?aL ?_;(case aP=>exact rfl);(case aB=>exact hB_);(case aF=>exact (fun _ _=>trivial));(case aO=>exact (rr_ HO_5));(case aS=>exact (bF_ hB_));(case aL=>have:=LMc10.out;omega);intro v520 w11 ho hb hg hat;rw [← Ny519.out] at ho;replace HB:=A_ hb;have HO521:=A_ ho;clear HO_5;clear ho hb hg hat))
    go_roundg k1
    case measure=>have:=HK1.out;omega
    case rel=>exact ⟨(y519),(wrap64 (x11_1 + 1)),qc_,H',⟨by have:=HK1.out;omega⟩,⟨(rr_ HO521)⟩,⟨hB_⟩⟩
   ·rw [if_neg c5] at H
    have c5b0:=oD_ c5
    clear c5
    obtain rfl:=Option.some.inj H
    go_wp2
    go_ret
    exact ⟨_,qb_,(rr_ HO_5),hB_⟩
def Z56.f (k:Nat) (l0_0:List Int) (l0_1:List Int):Option (List Int × List Int):=(some (([]:List Int):List Int)).bind fun y529=>(if y529.length + l0_0.length < 17592186044416 then ((Z32.f k l0_0).bind fun t535=>((Z61.f k t535 l0_1).bind fun t538=>(some ((y529 ++ l0_0),t538)))) else (none))
theorem Z56.mono:∀ a0 a1 k,LeO (Z56.f k a0 a1) (Z56.f (k + 1) a0 a1):=by
 intro a0 a1 k
 unfold Z56.f
 repeat' first|exact Z32.mono _ _|exact Z61.mono _ _ _|exact lo_|refine LeO.ite ?_ ?_|refine LeO.bind ?_ (fun _=>?_)
def Z56.T1:Bool × List (List Nat × List Nat):=(true,[([],[]),([],[]),([1],[1]),([0,2],[0,2]),([],[]),([4],[4]),([5,3],[5]),([],[]),([7],[7]),([6,8,6],[6,8]),([3,9],[3,9]),([10,9,0,1,2,3,4,5,6,7,8,9,10],[10])])
def Z56.B1:List Nat:=[0,0,2,7,0,16,63,0,128,511,1023,2047]
theorem Z56.tab1:rtab .any (opsOf Try.f65 1) = Z56.T1:=by kernel_rfl
theorem Z56.bits1:waitsOk Z56.T1.2 Z56.B1 = true:=by kernel_rfl
set_option maxHeartbeats 8000000 in
set_option maxRecDepth 100000 in
theorem Z56.calls (k:Nat) (A0_0:Option Addr) (c0_0:Nat) (l0_0:List Int) (A0_1:Option Addr) (c0_1:Nat) (l0_1:List Int) (r1:List Int) (r2:List Int) (w:World) (hr0_0:Kd.C (Kd.int .i64) w A0_0 l0_0.length l0_0) (hc0_0:l0_0.length≤c0_0) (hr0_1:Kd.C (Kd.int .i64) w A0_1 l0_1.length l0_1) (hc0_1:l0_1.length≤c0_1) (h:Z56.f k l0_0 l0_1 = some (r1,r2)) :
  Calls Try.prog 65 #[.agg #[.slice A0_0 l0_0.length c0_0,.slice A0_1 l0_1.length c0_1]] w fun e w'=>∃ v0_ v1_:Value,e = .returned (.agg #[v0_,v1_])∧Kd.R (Kd.int .i64) 3 w' w.heap.size (fun k_=>some k_≠(v1_:Value).ownBlock) v0_ r1∧Kd.R (Kd.int .i64) 3 w' w.heap.size (fun k_=>some k_≠(v0_:Value).ownBlock) v1_ r2∧Below w.heap.size w w':=by
 have hu33:=Try.underlying33
 have HR0_0:=A_ hr0_0
 have HC0_0:=A_ hc0_0
 clear hr0_0 hc0_0
 have HR0_1:=A_ hr0_1
 have HC0_1:=A_ hc0_1
 clear hr0_1 hc0_1
 have HB:=A_ (Below.refl w.heap.size w)
 have H:=h
 unfold Z56.f at H
 clear h
 obtain ⟨y529,hy529⟩:∃ y_:List Int,y_ = (([]:List Int)):=⟨_,rfl⟩
 replace H:(if y529.length + l0_0.length < 17592186044416 then ((Z32.f k l0_0).bind fun t535=>((Z61.f k t535 l0_1).bind fun t538=>(some ((y529 ++ l0_0),t538)))) else (none)) = some (r1,r2):=by first | (rw [hy529];exact H) | exact H
 have Ny529:=A_ hy529
 clear hy529
 have c2:=cp_ H
 replace H:=ca_ H
 have LMc2:=A_ c2
 clear c2
 obtain ⟨y532,hy532⟩:∃ y_:List Int,y_ = (y529 ++ l0_0):=⟨_,rfl⟩
 replace H:((Z32.f k l0_0).bind fun t535=>((Z61.f k t535 l0_1).bind fun t538=>(some (y532,t538)))) = some (r1,r2):=by first | (rw [hy532];exact H) | exact H
 have Ny532:=A_ hy532
 clear hy532
 obtain ⟨t535,A3,H⟩:=bi_ H
 obtain ⟨t538,A4,H⟩:=bi_ H
 simp only [Option.some.injEq,Prod.mk.injEq] at H
 obtain ⟨rfl,rfl⟩:=H
 go_enter Try.func65,Try.ntmps65
 try go_wp2_with (first | ((with_reducible refine gB_ (N:=1) rfl ?_);refine bx_ 1 #[.slice A0_0 l0_0.length c0_0,.slice A0_1 l0_1.length c0_1] 33 ?_;intro gb527 hg w5 hbox hb;have BK527:=A_ hbox;have GW527:=gw_ w hg;have GE527:=GW527;replace HB:=b1_ hb;clear hb hbox hg) | ((with_reducible refine gB_ (N:=2) rfl ?_);refine bx_ 2 #[.slice none 0 0,.slice none 0 0] 33 ?_;intro gb528 hg w6 hbox hb;have BK528:=A_ hbox;have GW528:=gw_ w hg;have GE528:=GW528;replace HB:=b1_ hb;have NB527_528:=gN_ BK527 hg;have NB528_527:=gP_ BK527 hg;replace BK527:=bb_ BK527 hb;clear hb hbox hg))
 replace BK527:=A_ (kB_ BK527.out)
 replace BK528:=A_ (kB_ BK528.out)
 replace HB:=A_ (bC_ HB.out)
 refine start_ (n:=12) (S:=fun w'=>w'.cell? ⟨gb527,0,none⟩ = some (.slice A0_0 l0_0.length c0_0)∧w'.cell? ⟨gb527,1,none⟩ = some (.slice A0_1 l0_1.length c0_1)) (ds:=[]) (bl_ 12 0) (by kernel_rfl) rfl (by kernel_rfl) ⟨cz0_ BK527,cz1_ BK527⟩ (fun hHeld=>?_);refine with_tabW Z56.tab1 Z56.bits1 (fun HT_ HW_=>?_)
 generalize w6.drew = w7 at BK527 BK528 HB hHeld ⊢
 refine pu_ 1 (some 4) (bl_ 12 2) HT_ ?_
 refine pu_ 4 (some 7) (bl_ 12 18) HT_ ?_
 refine pu_ 7 (some 10) (bl_ 12 146) HT_ ?_
 refine ta_ 2 (some 5) (bl_ 12 150) HT_ HW_ hHeld ?_
 refine ta_ 5 (some 8) (bl_ 12 182) HT_ HW_ hHeld ?_
 refine ta_ 8 (some 11) (bl_ 12 438) HT_ HW_ hHeld ?_
 refine on_ 0 (some 3) (bl_ 12 439) HT_ (fun K hK=>?_)
 refine Kd.R_lit_step (Kd.int .i64) _ 3 ?hg (N:=3) ?hd (xs:=([]:List Int)) (inner:=[]) (ok:=fun _=>True) (okp:=fun _=>True) ?hr ?hp (fun _ hk=>hk) trivial (Below.refl _ _) (nA_ _) (by simp) ?_;(case hd=>rfl);(case hg=>rfl);(case hr=>first | (go_simp;done) | (go_simp;rfl));(case hp=>exact (Reps.none _ _))
 intro v530 w8 ho9 hb hg_ hnew_
 clear hg_ hnew_
 (first | rw [← Ny529.out] at ho9 | (simp only [Int.reduceToNat] at ho9;rw [← Ny529.out] at ho9))
 have HO531:=rl_ w ho9
 replace BK527:=bb_ BK527 hb
 replace BK528:=bb_ BK528 hb
 replace HB:=b1_ hb
 clear hb ho9
 refine hK.out _ _ ⟨cz0_ BK527,cz1_ BK527⟩ (fun hHeld=>?_)
 clear hK K
 refine no_ (some 3) ?_
 refine on_ 3 (some 6) (bl_ 12 447) HT_ (fun K hK=>?_)
 refine Kd.R_append_rows_step (Kd.int .i64) (w0:=w) w.heap.size (by rfl) (.tmp 3) (.tmp 5) 23 3 (.int .i64 0) 8 rfl Try.underlying23 info3 rfl (by decide) (by omega) v530 y529 l0_0 _ _ _ (fun _=>True) (fun _=>False) rfl rfl ?aO ?aR (fun _ _ h=>h) (fun _ h=>h.elim) ?aF ?aB ?aS ?aL ?_
 (case aR=>exact cb_ HR0_0)
 (case aB=>exact hB_)
 (case aF=>exact (fun _ _=>trivial))
 (case aO=>exact (rr_ HO531))
 (case aS=>exact (bF_ hB_))
 (case aL=>have:=LMc2.out;omega)
 intro v533 w10 ho hb hg hat
 rw [← Ny532.out] at ho
 replace BK527:=A_ (blk_grown (kk_ BK527) hg (Kd.R_ne HO531.out BK527.out (by decide)))
 replace BK528:=A_ (blk_grown (kk_ BK528) hg (Kd.R_ne HO531.out BK528.out (by decide)))
 replace HB:=A_ hb
 have HO534:=A_ ho
 clear HO531
 clear ho hb hg hat
 refine hK.out _ _ ⟨cz0_ BK527,cz1_ BK527⟩ (fun hHeld=>?_)
 clear hK K
 refine no_ (some 6) ?_
 refine on_ 6 (some 9) (bl_ 12 511) HT_ (fun K hK=>?_)
 refine gO_ Try.func111 #[.slice A0_0 l0_0.length c0_0] (by rfl) rfl rfl qa_ ?_
 with_reducible refine (Z32.calls k _ _ l0_0 t535 _ (cb_ HR0_0) HC0_0.out A3.out).mono ?_
 rintro e w11 ⟨v536,rfl,ho0,hb⟩
 refine ⟨_,rfl,?_⟩
 have HO537:=A_ (rE_ (Kd.R_new' ho0 (Kd.R_lt (rr_ HO534))) (bF_ hB_))
 replace HO534:=A_ (Kd.R_elder' (rr_ HO534) (Kd.R_base ho0) hb)
 replace BK527:=bb_ BK527 hb
 replace BK528:=bb_ BK528 hb
 replace HB:=b1_ hb
 clear hb ho0
 obtain ⟨Ao12,co12,eo12⟩:=Kd.R_slice HO537.out
 (first|subst eo12|(injection eo12 with a_ b_ c_;have a_:=a_.symm;have c_:=c_.symm;clear b_;subst a_;subst c_))
 refine hK.out _ _ ⟨cz0_ BK527,cz1_ BK527⟩ (fun hHeld=>?_)
 clear hK K
 refine no_ (some 9) ?_
 refine on_ 9 (some 12) (bl_ 12 1023) HT_ (fun K hK=>?_)
 refine gO_ Try.func110 #[.slice Ao12 t535.length co12,.slice A0_1 l0_1.length c0_1] (by rfl) rfl rfl qa_ ?_
 with_reducible refine (Z61.calls k _ _ t535 _ _ l0_1 t538 _ (cr_ HO537) ((Kd.R_reads' HO537.out).2.1) (cb_ HR0_1) HC0_1.out A4.out).mono ?_
 rintro e w13 ⟨v539,rfl,ho0,hb⟩
 refine ⟨_,rfl,?_⟩
 have HO540:=A_ (rE_ (Kd.R_new' (Kd.R_new' ho0 (Kd.R_lt (rr_ HO534))) (Kd.R_lt (rr_ HO537))) (bF_ hB_))
 replace HO534:=A_ (Kd.R_elder' (rr_ HO534) (Kd.R_base ho0) hb)
 replace HO537:=A_ (Kd.R_elder' (rr_ HO537) (Kd.R_base ho0) hb)
 replace BK527:=bb_ BK527 hb
 replace BK528:=bb_ BK528 hb
 replace HB:=b1_ hb
 clear hb ho0
 obtain ⟨Ao14,co14,eo14⟩:=Kd.R_slice HO540.out
 (first|subst eo14|(injection eo14 with a_ b_ c_;have a_:=a_.symm;have c_:=c_.symm;clear b_;subst a_;subst c_))
 obtain ⟨Ao15,co15,eo15⟩:=Kd.R_slice HO534.out
 (first|subst eo15|(injection eo15 with a_ b_ c_;have a_:=a_.symm;have c_:=c_.symm;clear b_;subst a_;subst c_))
 refine hK.out _ _ ⟨cz0_ BK527,cz1_ BK527⟩ (fun hHeld=>?_)
 clear hK K
 refine no_ (some 12) ?_
 refine pu_ 10 (some 13) (bl_ 12 2047) HT_ ?_
 refine on_ 11 (none) (bl_ 12 4095) HT_ (fun K hK=>?_)
 have hs16:w13.cell? ⟨gb528,0,none⟩ = some (.slice none 0 0):=cz0_ BK528
 have hfs16:=kD_ BK528.out 0
 have hns16_0:=NB527_528.out
 have hms16_0:=NB528_527.out
 have hs17:w13.cell? ⟨gb528,1,none⟩ = some (.slice none 0 0):=cz1_ BK528
 have hfs17:=kD_ BK528.out 1
 have hns17_0:=NB527_528.out
 have hms17_0:=NB528_527.out
 refine skip_ (w1:=?_) (by rfl) rfl ?_ ?_
 rotate_left
 ·go_simp
  rfl
 refine hK.out _ _ ⟨((cell_far (p:=⟨gb528,_,none⟩) NB527_528.out _).trans (((cell_far (p:=⟨gb528,_,none⟩) NB527_528.out _).trans (hHeld.1)))),((cell_far (p:=⟨gb528,_,none⟩) NB527_528.out _).trans (((cell_far (p:=⟨gb528,_,none⟩) NB527_528.out _).trans (hHeld.2))))⟩ (fun hHeld=>?_)
 clear hK K
 refine done_ (done_of HT_.out (by kernel_rfl)) ?_
 try go_wp2
 refine bodyPost_ret (results_cell_row rfl _ _ gb528 33 #[.slice Ao15 y532.length co15,.slice Ao14 t538.length co14] (0,0) _ rfl qp_ Try.underlying33 rfl (by kernel_rfl)) rfl ?_
 exact ⟨_,_,qb_,(rw_ (Kd.R_mono (fa_ HO534 BK528) (fun _ hk=>hk.2))),(rw_ (Kd.R_mono (fa_ HO540 BK528) (fun _ hk=>hk.1.2))),hB_⟩
def Z33.f (k:Nat) (l0_0:List Int) (l0_1:List Int):Option (List Int × List Int):=(some (([]:List Int):List Int)).bind fun y939=>(if y939.length + l0_0.length < 17592186044416 then ((Z61.f k l0_0 l0_1).bind fun t945=>(some ((y939 ++ l0_0),t945))) else (none))
theorem Z33.mono:∀ a0 a1 k,LeO (Z33.f k a0 a1) (Z33.f (k + 1) a0 a1):=by
 intro a0 a1 k
 unfold Z33.f
 repeat' first|exact Z61.mono _ _ _|exact lo_|refine LeO.ite ?_ ?_|refine LeO.bind ?_ (fun _=>?_)
def Z33.T1:Bool × List (List Nat × List Nat):=(true,[([],[]),([],[]),([1],[1]),([0,2],[0,2]),([],[]),([4],[4]),([],[]),([6],[6]),([5,7,3],[5,7]),([3,8],[3,8]),([9,8,0,1,2,3,4,5,6,7,8,9],[9])])
def Z33.B1:List Nat:=[0,0,2,7,0,16,0,64,255,511,1023]
theorem Z33.tab1:rtab .any (opsOf Try.f167 1) = Z33.T1:=by kernel_rfl
theorem Z33.bits1:waitsOk Z33.T1.2 Z33.B1 = true:=by kernel_rfl
set_option maxHeartbeats 8000000 in
set_option maxRecDepth 100000 in
theorem Z33.calls (k:Nat) (A0_0:Option Addr) (c0_0:Nat) (l0_0:List Int) (A0_1:Option Addr) (c0_1:Nat) (l0_1:List Int) (r1:List Int) (r2:List Int) (w:World) (hr0_0:Kd.C (Kd.int .i64) w A0_0 l0_0.length l0_0) (hc0_0:l0_0.length≤c0_0) (hr0_1:Kd.C (Kd.int .i64) w A0_1 l0_1.length l0_1) (hc0_1:l0_1.length≤c0_1) (h:Z33.f k l0_0 l0_1 = some (r1,r2)) :
  Calls Try.prog 167 #[.agg #[.slice A0_0 l0_0.length c0_0,.slice A0_1 l0_1.length c0_1]] w fun e w'=>∃ v0_ v1_:Value,e = .returned (.agg #[v0_,v1_])∧Kd.R (Kd.int .i64) 3 w' w.heap.size (fun k_=>some k_≠(v1_:Value).ownBlock) v0_ r1∧Kd.R (Kd.int .i64) 3 w' w.heap.size (fun k_=>some k_≠(v0_:Value).ownBlock) v1_ r2∧Below w.heap.size w w':=by
 have hu33:=Try.underlying33
 have HR0_0:=A_ hr0_0
 have HC0_0:=A_ hc0_0
 clear hr0_0 hc0_0
 have HR0_1:=A_ hr0_1
 have HC0_1:=A_ hc0_1
 clear hr0_1 hc0_1
 have HB:=A_ (Below.refl w.heap.size w)
 have H:=h
 unfold Z33.f at H
 clear h
 obtain ⟨y939,hy939⟩:∃ y_:List Int,y_ = (([]:List Int)):=⟨_,rfl⟩
 replace H:(if y939.length + l0_0.length < 17592186044416 then ((Z61.f k l0_0 l0_1).bind fun t945=>(some ((y939 ++ l0_0),t945))) else (none)) = some (r1,r2):=by first | (rw [hy939];exact H) | exact H
 have Ny939:=A_ hy939
 clear hy939
 have c2:=cp_ H
 replace H:=ca_ H
 have LMc2:=A_ c2
 clear c2
 obtain ⟨y942,hy942⟩:∃ y_:List Int,y_ = (y939 ++ l0_0):=⟨_,rfl⟩
 replace H:((Z61.f k l0_0 l0_1).bind fun t945=>(some (y942,t945))) = some (r1,r2):=by first | (rw [hy942];exact H) | exact H
 have Ny942:=A_ hy942
 clear hy942
 obtain ⟨t945,A3,H⟩:=bi_ H
 simp only [Option.some.injEq,Prod.mk.injEq] at H
 obtain ⟨rfl,rfl⟩:=H
 go_enter Try.func167,Try.ntmps167
 try go_wp2_with (first | ((with_reducible refine gB_ (N:=1) rfl ?_);refine bx_ 1 #[.slice A0_0 l0_0.length c0_0,.slice A0_1 l0_1.length c0_1] 33 ?_;intro gb937 hg w4 hbox hb;have BK937:=A_ hbox;have GW937:=gw_ w hg;have GE937:=GW937;replace HB:=b1_ hb;clear hb hbox hg) | ((with_reducible refine gB_ (N:=2) rfl ?_);refine bx_ 2 #[.slice none 0 0,.slice none 0 0] 33 ?_;intro gb938 hg w5 hbox hb;have BK938:=A_ hbox;have GW938:=gw_ w hg;have GE938:=GW938;replace HB:=b1_ hb;have NB937_938:=gN_ BK937 hg;have NB938_937:=gP_ BK937 hg;replace BK937:=bb_ BK937 hb;clear hb hbox hg))
 replace BK937:=A_ (kB_ BK937.out)
 replace BK938:=A_ (kB_ BK938.out)
 replace HB:=A_ (bC_ HB.out)
 refine start_ (n:=11) (S:=fun w'=>w'.cell? ⟨gb937,0,none⟩ = some (.slice A0_0 l0_0.length c0_0)∧w'.cell? ⟨gb937,1,none⟩ = some (.slice A0_1 l0_1.length c0_1)) (ds:=[]) (bl_ 11 0) (by kernel_rfl) rfl (by kernel_rfl) ⟨cz0_ BK937,cz1_ BK937⟩ (fun hHeld=>?_);refine with_tabW Z33.tab1 Z33.bits1 (fun HT_ HW_=>?_)
 generalize w5.drew = w6 at BK937 BK938 HB hHeld ⊢
 refine pu_ 1 (some 4) (bl_ 11 2) HT_ ?_
 refine pu_ 4 (some 7) (bl_ 11 18) HT_ ?_
 refine pu_ 6 (some 9) (bl_ 11 82) HT_ ?_
 refine ta_ 2 (some 5) (bl_ 11 86) HT_ HW_ hHeld ?_
 refine ta_ 5 (some 8) (bl_ 11 118) HT_ HW_ hHeld ?_
 refine ta_ 7 (some 10) (bl_ 11 246) HT_ HW_ hHeld ?_
 refine on_ 0 (some 3) (bl_ 11 247) HT_ (fun K hK=>?_)
 refine Kd.R_lit_step (Kd.int .i64) _ 3 ?hg (N:=3) ?hd (xs:=([]:List Int)) (inner:=[]) (ok:=fun _=>True) (okp:=fun _=>True) ?hr ?hp (fun _ hk=>hk) trivial (Below.refl _ _) (nA_ _) (by simp) ?_;(case hd=>rfl);(case hg=>rfl);(case hr=>first | (go_simp;done) | (go_simp;rfl));(case hp=>exact (Reps.none _ _))
 intro v940 w7 ho8 hb hg_ hnew_
 clear hg_ hnew_
 (first | rw [← Ny939.out] at ho8 | (simp only [Int.reduceToNat] at ho8;rw [← Ny939.out] at ho8))
 have HO941:=rl_ w ho8
 replace BK937:=bb_ BK937 hb
 replace BK938:=bb_ BK938 hb
 replace HB:=b1_ hb
 clear hb ho8
 refine hK.out _ _ ⟨cz0_ BK937,cz1_ BK937⟩ (fun hHeld=>?_)
 clear hK K
 refine no_ (some 3) ?_
 refine on_ 3 (some 6) (bl_ 11 255) HT_ (fun K hK=>?_)
 refine Kd.R_append_rows_step (Kd.int .i64) (w0:=w) w.heap.size (by rfl) (.tmp 3) (.tmp 5) 23 3 (.int .i64 0) 8 rfl Try.underlying23 info3 rfl (by decide) (by omega) v940 y939 l0_0 _ _ _ (fun _=>True) (fun _=>False) rfl rfl ?aO ?aR (fun _ _ h=>h) (fun _ h=>h.elim) ?aF ?aB ?aS ?aL ?_
 (case aR=>exact cb_ HR0_0)
 (case aB=>exact hB_)
 (case aF=>exact (fun _ _=>trivial))
 (case aO=>exact (rr_ HO941))
 (case aS=>exact (bF_ hB_))
 (case aL=>have:=LMc2.out;omega)
 intro v943 w9 ho hb hg hat
 rw [← Ny942.out] at ho
 replace BK937:=A_ (blk_grown (kk_ BK937) hg (Kd.R_ne HO941.out BK937.out (by decide)))
 replace BK938:=A_ (blk_grown (kk_ BK938) hg (Kd.R_ne HO941.out BK938.out (by decide)))
 replace HB:=A_ hb
 have HO944:=A_ ho
 clear HO941
 clear ho hb hg hat
 refine hK.out _ _ ⟨cz0_ BK937,cz1_ BK937⟩ (fun hHeld=>?_)
 clear hK K
 refine no_ (some 6) ?_
 refine on_ 8 (some 11) (bl_ 11 511) HT_ (fun K hK=>?_)
 refine gO_ Try.func110 #[.slice A0_0 l0_0.length c0_0,.slice A0_1 l0_1.length c0_1] (by rfl) rfl rfl qa_ ?_
 with_reducible refine (Z61.calls k _ _ l0_0 _ _ l0_1 t945 _ (cb_ HR0_0) HC0_0.out (cb_ HR0_1) HC0_1.out A3.out).mono ?_
 rintro e w10 ⟨v946,rfl,ho0,hb⟩
 refine ⟨_,rfl,?_⟩
 have HO947:=A_ (rE_ (Kd.R_new' ho0 (Kd.R_lt (rr_ HO944))) (bF_ hB_))
 replace HO944:=A_ (Kd.R_elder' (rr_ HO944) (Kd.R_base ho0) hb)
 replace BK937:=bb_ BK937 hb
 replace BK938:=bb_ BK938 hb
 replace HB:=b1_ hb
 clear hb ho0
 obtain ⟨Ao11,co11,eo11⟩:=Kd.R_slice HO947.out
 (first|subst eo11|(injection eo11 with a_ b_ c_;have a_:=a_.symm;have c_:=c_.symm;clear b_;subst a_;subst c_))
 obtain ⟨Ao12,co12,eo12⟩:=Kd.R_slice HO944.out
 (first|subst eo12|(injection eo12 with a_ b_ c_;have a_:=a_.symm;have c_:=c_.symm;clear b_;subst a_;subst c_))
 refine hK.out _ _ ⟨cz0_ BK937,cz1_ BK937⟩ (fun hHeld=>?_)
 clear hK K
 refine no_ (some 11) ?_
 refine pu_ 9 (some 12) (bl_ 11 1023) HT_ ?_
 refine on_ 10 (none) (bl_ 11 2047) HT_ (fun K hK=>?_)
 have hs13:w10.cell? ⟨gb938,0,none⟩ = some (.slice none 0 0):=cz0_ BK938
 have hfs13:=kD_ BK938.out 0
 have hns13_0:=NB937_938.out
 have hms13_0:=NB938_937.out
 have hs14:w10.cell? ⟨gb938,1,none⟩ = some (.slice none 0 0):=cz1_ BK938
 have hfs14:=kD_ BK938.out 1
 have hns14_0:=NB937_938.out
 have hms14_0:=NB938_937.out
 refine skip_ (w1:=?_) (by rfl) rfl ?_ ?_
 rotate_left
 ·go_simp
  rfl
 refine hK.out _ _ ⟨((cell_far (p:=⟨gb938,_,none⟩) NB937_938.out _).trans (((cell_far (p:=⟨gb938,_,none⟩) NB937_938.out _).trans (hHeld.1)))),((cell_far (p:=⟨gb938,_,none⟩) NB937_938.out _).trans (((cell_far (p:=⟨gb938,_,none⟩) NB937_938.out _).trans (hHeld.2))))⟩ (fun hHeld=>?_)
 clear hK K
 refine done_ (done_of HT_.out (by kernel_rfl)) ?_
 try go_wp2
 refine bodyPost_ret (results_cell_row rfl _ _ gb938 33 #[.slice Ao12 y942.length co12,.slice Ao11 t945.length co11] (0,0) _ rfl qp_ Try.underlying33 rfl (by kernel_rfl)) rfl ?_
 exact ⟨_,_,qb_,(rw_ (Kd.R_mono (fa_ HO944 BK938) (fun _ hk=>hk.2))),(rw_ (Kd.R_mono (fa_ HO947 BK938) (fun _ hk=>hk.2))),hB_⟩
def Z63.f (k:Nat) (l0_0:List Int) (l0_1:List Int):Option (List Int × List Int):=(Z32.f k l0_1).bind fun t950=>((some (([]:List Int):List Int)).bind fun y953=>(if y953.length + l0_0.length < 17592186044416 then (some (t950,(y953 ++ l0_0))) else (none)))
theorem Z63.mono:∀ a0 a1 k,LeO (Z63.f k a0 a1) (Z63.f (k + 1) a0 a1):=by
 intro a0 a1 k
 unfold Z63.f
 repeat' first|exact Z32.mono _ _|exact lo_|refine LeO.ite ?_ ?_|refine LeO.bind ?_ (fun _=>?_)
def Z63.T1:Bool × List (List Nat × List Nat):=(true,[([],[]),([0],[0]),([1],[1]),([],[]),([],[]),([4],[4]),([3,5,2],[3,5]),([2,6],[2,6]),([7,6,0,1,2,3,4,5,6,7],[7])])
def Z63.B1:List Nat:=[0,1,3,0,0,16,63,127,255]
theorem Z63.tab1:rtab .any (opsOf Try.f168 1) = Z63.T1:=by kernel_rfl
theorem Z63.bits1:waitsOk Z63.T1.2 Z63.B1 = true:=by kernel_rfl
set_option maxHeartbeats 8000000 in
set_option maxRecDepth 100000 in
theorem Z63.calls (k:Nat) (A0_0:Option Addr) (c0_0:Nat) (l0_0:List Int) (A0_1:Option Addr) (c0_1:Nat) (l0_1:List Int) (r1:List Int) (r2:List Int) (w:World) (hr0_0:Kd.C (Kd.int .i64) w A0_0 l0_0.length l0_0) (hc0_0:l0_0.length≤c0_0) (hr0_1:Kd.C (Kd.int .i64) w A0_1 l0_1.length l0_1) (hc0_1:l0_1.length≤c0_1) (h:Z63.f k l0_0 l0_1 = some (r1,r2)) :
  Calls Try.prog 168 #[.agg #[.slice A0_0 l0_0.length c0_0,.slice A0_1 l0_1.length c0_1]] w fun e w'=>∃ v0_ v1_:Value,e = .returned (.agg #[v0_,v1_])∧Kd.R (Kd.int .i64) 3 w' w.heap.size (fun k_=>some k_≠(v1_:Value).ownBlock) v0_ r1∧Kd.R (Kd.int .i64) 3 w' w.heap.size (fun k_=>some k_≠(v0_:Value).ownBlock) v1_ r2∧Below w.heap.size w w':=by
 have hu33:=Try.underlying33
 have HR0_0:=A_ hr0_0
 have HC0_0:=A_ hc0_0
 clear hr0_0 hc0_0
 have HR0_1:=A_ hr0_1
 have HC0_1:=A_ hc0_1
 clear hr0_1 hc0_1
 have HB:=A_ (Below.refl w.heap.size w)
 have H:=h
 unfold Z63.f at H
 clear h
 obtain ⟨t950,A2,H⟩:=bi_ H
 obtain ⟨y953,hy953⟩:∃ y_:List Int,y_ = (([]:List Int)):=⟨_,rfl⟩
 replace H:(if y953.length + l0_0.length < 17592186044416 then (some (t950,(y953 ++ l0_0))) else (none)) = some (r1,r2):=by first | (rw [hy953];exact H) | exact H
 have Ny953:=A_ hy953
 clear hy953
 have c3:=cp_ H
 replace H:=ca_ H
 have LMc3:=A_ c3
 clear c3
 obtain ⟨y956,hy956⟩:∃ y_:List Int,y_ = (y953 ++ l0_0):=⟨_,rfl⟩
 replace H:(some (t950,y956)) = some (r1,r2):=by first | (rw [hy956];exact H) | exact H
 have Ny956:=A_ hy956
 clear hy956
 simp only [Option.some.injEq,Prod.mk.injEq] at H
 obtain ⟨rfl,rfl⟩:=H
 go_enter Try.func168,Try.ntmps168
 try go_wp2_with (first | ((with_reducible refine gB_ (N:=1) rfl ?_);refine bx_ 1 #[.slice A0_0 l0_0.length c0_0,.slice A0_1 l0_1.length c0_1] 33 ?_;intro gb948 hg w4 hbox hb;have BK948:=A_ hbox;have GW948:=gw_ w hg;have GE948:=GW948;replace HB:=b1_ hb;clear hb hbox hg) | ((with_reducible refine gB_ (N:=2) rfl ?_);refine bx_ 2 #[.slice none 0 0,.slice none 0 0] 33 ?_;intro gb949 hg w5 hbox hb;have BK949:=A_ hbox;have GW949:=gw_ w hg;have GE949:=GW949;replace HB:=b1_ hb;have NB948_949:=gN_ BK948 hg;have NB949_948:=gP_ BK948 hg;replace BK948:=bb_ BK948 hb;clear hb hbox hg))
 replace BK948:=A_ (kB_ BK948.out)
 replace BK949:=A_ (kB_ BK949.out)
 replace HB:=A_ (bC_ HB.out)
 refine start_ (n:=9) (S:=fun w'=>w'.cell? ⟨gb948,0,none⟩ = some (.slice A0_0 l0_0.length c0_0)∧w'.cell? ⟨gb948,1,none⟩ = some (.slice A0_1 l0_1.length c0_1)) (ds:=[]) (bl_ 9 0) (by kernel_rfl) rfl (by kernel_rfl) ⟨cz0_ BK948,cz1_ BK948⟩ (fun hHeld=>?_);refine with_tabW Z63.tab1 Z63.bits1 (fun HT_ HW_=>?_)
 generalize w5.drew = w6 at BK948 BK949 HB hHeld ⊢
 refine pu_ 0 (some 3) (bl_ 9 1) HT_ ?_
 refine pu_ 4 (some 7) (bl_ 9 17) HT_ ?_
 refine ta_ 1 (some 4) (bl_ 9 19) HT_ HW_ hHeld ?_
 refine ta_ 5 (some 8) (bl_ 9 51) HT_ HW_ hHeld ?_
 refine join_ (σ:=Value × Value) 3 (bl_ 9 63) (fun s_=>[(5,s_.1),(6,s_.2)]) (fun s_ w'=>(w'.cell? ⟨gb948,0,none⟩ = some (.slice A0_0 l0_0.length c0_0)∧w'.cell? ⟨gb948,1,none⟩ = some (.slice A0_1 l0_1.length c0_1))∧(Kd.R (Kd.int .i64) 3 w' w.heap.size (fun k_=>some k_≠(s_.2:Value).ownBlock) s_.1 t950)∧(Kd.R (Kd.int .i64) 3 w' w.heap.size (fun k_=>some k_≠(s_.1:Value).ownBlock) s_.2 y953)∧(w'.heap[gb948]? = some (.cells #[.slice A0_0 l0_0.length c0_0,.slice A0_1 l0_1.length c0_1] 33 (0,0)))∧(w'.heap[gb949]? = some (.cells #[.slice none 0 0,.slice none 0 0] 33 (0,0)))∧(Below w.heap.size w w')) ?_ ?_
 rotate_left
 ·intro hCont
  refine two_ (i:=2) (j:=3) (Ni:=some 5) (Nj:=some 6) (bl_ 9 55) (bl_ 9 59) rfl rfl rfl rfl (two_of HT_.out (by kernel_rfl)) (by decide) (by decide) (fun K hK=>?_) (fun K hK=>?_)
  ·skip
   refine gO_ Try.func111 #[.slice A0_1 l0_1.length c0_1] (by rfl) rfl rfl qa_ ?_
   with_reducible refine (Z32.calls k _ _ l0_1 t950 _ (cb_ HR0_1) HC0_1.out A2.out).mono ?_
   rintro e w7 ⟨v951,rfl,ho0,hb⟩
   refine ⟨_,rfl,?_⟩
   have HO952:=rl_ w ho0
   replace BK948:=bb_ BK948 hb
   replace BK949:=bb_ BK949 hb
   replace HB:=b1_ hb
   clear hb ho0
   refine hK.out _ _ ⟨cz0_ BK948,cz1_ BK948⟩ (fun hHeld=>?_)
   clear hK K
   refine no_ (some 5) ?_
   refine on_ 3 (some 6) (bl_ 9 63) HT_ (fun K hK=>?_)
   refine Kd.R_lit_step (Kd.int .i64) _ 3 ?hg (N:=6) ?hd (xs:=([]:List Int)) (inner:=[]) (ok:=fun _=>True) (okp:=fun _=>True) ?hr ?hp (fun _ hk=>hk) trivial (Below.refl _ _) (nA_ _) (by simp) ?_;(case hd=>rfl);(case hg=>rfl);(case hr=>first | (go_simp;done) | (go_simp;rfl));(case hp=>exact (Reps.none _ _))
   intro v954 w8 ho9 hb hg_ hnew_
   clear hg_ hnew_
   (first | rw [← Ny953.out] at ho9 | (simp only [Int.reduceToNat] at ho9;rw [← Ny953.out] at ho9))
   have HO955:=A_ (rE_ (Kd.R_new' ho9 (Kd.R_lt (rr_ HO952))) (bF_ hB_))
   replace HO952:=A_ (Kd.R_elder' (rr_ HO952) (Kd.R_base ho9) hb)
   replace BK948:=bb_ BK948 hb
   replace BK949:=bb_ BK949 hb
   replace HB:=b1_ hb
   clear hb ho9
   refine hK.out _ _ ⟨cz0_ BK948,cz1_ BK948⟩ (fun hHeld=>?_)
   clear hK K
   refine no_ (some 6) ?_
   exact norm_ (by simp only [putAll,Act.put,sA_,sB_,sC_]) (hCont (v951,v954) _ ⟨hHeld,(rw_ (Kd.R_mono HO952.out (fun _ hk=>hk.2))),(rw_ (Kd.R_mono HO955.out (fun _ hk=>hk.2))),(kk_ BK948),(kk_ BK949),hB_⟩)
  ·skip
   refine Kd.R_lit_step (Kd.int .i64) _ 3 ?hg (N:=6) ?hd (xs:=([]:List Int)) (inner:=[]) (ok:=fun _=>True) (okp:=fun _=>True) ?hr ?hp (fun _ hk=>hk) trivial (Below.refl _ _) (nA_ _) (by simp) ?_;(case hd=>rfl);(case hg=>rfl);(case hr=>first | (go_simp;done) | (go_simp;rfl));(case hp=>exact (Reps.none _ _))
   intro v954 w7 ho8 hb hg_ hnew_
   clear hg_ hnew_
   (first | rw [← Ny953.out] at ho8 | (simp only [Int.reduceToNat] at ho8;rw [← Ny953.out] at ho8))
   have HO955:=rl_ w ho8
   replace BK948:=bb_ BK948 hb
   replace BK949:=bb_ BK949 hb
   replace HB:=b1_ hb
   clear hb ho8
   refine hK.out _ _ ⟨cz0_ BK948,cz1_ BK948⟩ (fun hHeld=>?_)
   clear hK K
   refine no_ (some 6) ?_
   refine on_ 2 (some 5) (bl_ 9 63) HT_ (fun K hK=>?_)
   refine gO_ Try.func111 #[.slice A0_1 l0_1.length c0_1] (by rfl) rfl rfl qa_ ?_
   with_reducible refine (Z32.calls k _ _ l0_1 t950 _ (cb_ HR0_1) HC0_1.out A2.out).mono ?_
   rintro e w9 ⟨v951,rfl,ho0,hb⟩
   refine ⟨_,rfl,?_⟩
   have HO952:=A_ (rE_ (Kd.R_new' ho0 (Kd.R_lt (rr_ HO955))) (bF_ hB_))
   replace HO955:=A_ (Kd.R_elder' (rr_ HO955) (Kd.R_base ho0) hb)
   replace BK948:=bb_ BK948 hb
   replace BK949:=bb_ BK949 hb
   replace HB:=b1_ hb
   clear hb ho0
   refine hK.out _ _ ⟨cz0_ BK948,cz1_ BK948⟩ (fun hHeld=>?_)
   clear hK K
   refine no_ (some 5) ?_
   exact norm_ (by simp only [putAll,Act.put,sA_,sB_,sC_]) (hCont (v951,v954) _ ⟨hHeld,(rw_ (Kd.R_mono HO952.out (fun _ hk=>hk.2))),(rw_ (Kd.R_mono HO955.out (fun _ hk=>hk.2))),(kk_ BK948),(kk_ BK949),hB_⟩)
 rintro ⟨v951,v954⟩ w10 ⟨hS_,h0_,h1_,h2_,h3_,h4_⟩
 have n0_:Aside0 (Kd.R (Kd.int .i64) 3 w10 w.heap.size (fun k_=>some k_≠(v954:Value).ownBlock) v951 t950):=⟨h0_⟩
 have n1_:Aside0 (Kd.R (Kd.int .i64) 3 w10 w.heap.size (fun k_=>some k_≠(v951:Value).ownBlock) v954 y953):=⟨h1_⟩
 have n2_:Aside0 (w10.heap[gb948]? = some (.cells #[.slice A0_0 l0_0.length c0_0,.slice A0_1 l0_1.length c0_1] 33 (0,0))):=⟨h2_⟩
 have n3_:Aside0 (w10.heap[gb949]? = some (.cells #[.slice none 0 0,.slice none 0 0] 33 (0,0))):=⟨h3_⟩
 have n4_:Aside0 (Below w.heap.size w w10):=⟨h4_⟩
 clear BK948
 clear BK949
 clear HB
 clear h0_ h1_ h2_ h3_ h4_
 have HO952:=n0_
 have HO955:=n1_
 have BK948:=n2_
 have BK949:=n3_
 have HB:=n4_
 clear n0_ n1_ n2_ n3_ n4_
 have hHeld:w10.cell? ⟨gb948,0,none⟩ = some (.slice A0_0 l0_0.length c0_0)∧w10.cell? ⟨gb948,1,none⟩ = some (.slice A0_1 l0_1.length c0_1):=hS_
 refine norm_ (a':=?_) ?_ ?_
 rotate_left
 ·simp only [putAll,Act.put,sA_,sB_,sC_]
  rfl
 refine on_ 6 (some 9) (bl_ 9 127) HT_ (fun K hK=>?_)
 refine Kd.R_append_rows_step (Kd.int .i64) (w0:=w) w.heap.size (by rfl) (.tmp 6) (.tmp 8) 23 3 (.int .i64 0) 8 rfl Try.underlying23 info3 rfl (by decide) (by omega) v954 y953 l0_0 _ _ _ (fun k_=>some k_≠(v951:Value).ownBlock) (fun _=>False) rfl rfl ?aO ?aR (fun _ _ h=>h) (fun _ h=>h.elim) ?aF ?aB ?aS ?aL ?_
 (case aR=>exact cb_ HR0_0)
 (case aB=>exact hB_)
 (case aF=>exact (fun k_ hk=>Kd.fresh' (Kd.R_lt (rr_ HO952)) k_ hk))
 (case aO=>exact (rr_ HO955))
 (case aS=>exact (bF_ hB_))
 (case aL=>have:=LMc3.out;omega)
 intro v957 w11 ho hb hg hat
 rw [← Ny956.out] at ho
 replace BK948:=A_ (blk_grown (kk_ BK948) hg (Kd.R_ne HO955.out BK948.out (by decide)))
 replace BK949:=A_ (blk_grown (kk_ BK949) hg (Kd.R_ne HO955.out BK949.out (by decide)))
 replace HO952:=A_ (Kd.R_after (ok:=(fun _=>True)) (rw_ (Kd.R_mono HO952.out (fun _ hk=>⟨trivial,hk⟩))) hg hat)
 replace HB:=A_ hb
 have HO958:=A_ ho
 clear HO955
 clear ho hb hg hat
 obtain ⟨Ao12,co12,eo12⟩:=Kd.R_slice HO958.out
 (first|subst eo12|(injection eo12 with a_ b_ c_;have a_:=a_.symm;have c_:=c_.symm;clear b_;subst a_;subst c_))
 obtain ⟨Ao13,co13,eo13⟩:=Kd.R_slice HO952.out
 (first|subst eo13|(injection eo13 with a_ b_ c_;have a_:=a_.symm;have c_:=c_.symm;clear b_;subst a_;subst c_))
 refine hK.out _ _ ⟨cz0_ BK948,cz1_ BK948⟩ (fun hHeld=>?_)
 clear hK K
 refine no_ (some 9) ?_
 refine pu_ 7 (some 10) (bl_ 9 255) HT_ ?_
 refine on_ 8 (none) (bl_ 9 511) HT_ (fun K hK=>?_)
 have hs14:w11.cell? ⟨gb949,0,none⟩ = some (.slice none 0 0):=cz0_ BK949
 have hfs14:=kD_ BK949.out 0
 have hns14_0:=NB948_949.out
 have hms14_0:=NB949_948.out
 have hs15:w11.cell? ⟨gb949,1,none⟩ = some (.slice none 0 0):=cz1_ BK949
 have hfs15:=kD_ BK949.out 1
 have hns15_0:=NB948_949.out
 have hms15_0:=NB949_948.out
 refine skip_ (w1:=?_) (by rfl) rfl ?_ ?_
 rotate_left
 ·go_simp
  rfl
 refine hK.out _ _ ⟨((cell_far (p:=⟨gb949,_,none⟩) NB948_949.out _).trans (((cell_far (p:=⟨gb949,_,none⟩) NB948_949.out _).trans (hHeld.1)))),((cell_far (p:=⟨gb949,_,none⟩) NB948_949.out _).trans (((cell_far (p:=⟨gb949,_,none⟩) NB948_949.out _).trans (hHeld.2))))⟩ (fun hHeld=>?_)
 clear hK K
 refine done_ (done_of HT_.out (by kernel_rfl)) ?_
 try go_wp2
 refine bodyPost_ret (results_cell_row rfl _ _ gb949 33 #[.slice Ao13 t950.length co13,.slice Ao12 y956.length co12] (0,0) _ rfl qp_ Try.underlying33 rfl (by kernel_rfl)) rfl ?_
 exact ⟨_,_,qb_,(rw_ (Kd.R_mono (fa_ HO952 BK949) (fun _ hk=>hk.2))),(rw_ (fa_ HO958 BK949)),hB_⟩
def Z43.f (k:Nat) (l0_0:List Int) (l0_1:List Int):Option (List Int × List Int):=(some (([]:List Int):List Int)).bind fun y961=>(if y961.length + l0_1.length < 17592186044416 then ((Z32.f k l0_0).bind fun t967=>(some ((y961 ++ l0_1),t967))) else (none))
theorem Z43.mono:∀ a0 a1 k,LeO (Z43.f k a0 a1) (Z43.f (k + 1) a0 a1):=by
 intro a0 a1 k
 unfold Z43.f
 repeat' first|exact Z32.mono _ _|exact lo_|refine LeO.ite ?_ ?_|refine LeO.bind ?_ (fun _=>?_)
def Z43.T1:Bool × List (List Nat × List Nat):=(true,[([],[]),([],[]),([1],[1]),([0,2],[0,2]),([],[]),([4],[4]),([5,3],[5]),([3,6],[3,6]),([7,6,0,1,2,3,4,5,6,7],[7])])
def Z43.B1:List Nat:=[0,0,2,7,0,16,63,127,255]
theorem Z43.tab1:rtab .any (opsOf Try.f169 1) = Z43.T1:=by kernel_rfl
theorem Z43.bits1:waitsOk Z43.T1.2 Z43.B1 = true:=by kernel_rfl
set_option maxHeartbeats 8000000 in
set_option maxRecDepth 100000 in
theorem Z43.calls (k:Nat) (A0_0:Option Addr) (c0_0:Nat) (l0_0:List Int) (A0_1:Option Addr) (c0_1:Nat) (l0_1:List Int) (r1:List Int) (r2:List Int) (w:World) (hr0_0:Kd.C (Kd.int .i64) w A0_0 l0_0.length l0_0) (hc0_0:l0_0.length≤c0_0) (hr0_1:Kd.C (Kd.int .i64) w A0_1 l0_1.length l0_1) (hc0_1:l0_1.length≤c0_1) (h:Z43.f k l0_0 l0_1 = some (r1,r2)) :
  Calls Try.prog 169 #[.agg #[.slice A0_0 l0_0.length c0_0,.slice A0_1 l0_1.length c0_1]] w fun e w'=>∃ v0_ v1_:Value,e = .returned (.agg #[v0_,v1_])∧Kd.R (Kd.int .i64) 3 w' w.heap.size (fun k_=>some k_≠(v1_:Value).ownBlock) v0_ r1∧Kd.R (Kd.int .i64) 3 w' w.heap.size (fun k_=>some k_≠(v0_:Value).ownBlock) v1_ r2∧Below w.heap.size w w':=by
 have hu33:=Try.underlying33
 have HR0_0:=A_ hr0_0
 have HC0_0:=A_ hc0_0
 clear hr0_0 hc0_0
 have HR0_1:=A_ hr0_1
 have HC0_1:=A_ hc0_1
 clear hr0_1 hc0_1
 have HB:=A_ (Below.refl w.heap.size w)
 have H:=h
 unfold Z43.f at H
 clear h
 obtain ⟨y961,hy961⟩:∃ y_:List Int,y_ = (([]:List Int)):=⟨_,rfl⟩
 replace H:(if y961.length + l0_1.length < 17592186044416 then ((Z32.f k l0_0).bind fun t967=>(some ((y961 ++ l0_1),t967))) else (none)) = some (r1,r2):=by first | (rw [hy961];exact H) | exact H
 have Ny961:=A_ hy961
 clear hy961
 have c2:=cp_ H
 replace H:=ca_ H
 have LMc2:=A_ c2
 clear c2
 obtain ⟨y964,hy964⟩:∃ y_:List Int,y_ = (y961 ++ l0_1):=⟨_,rfl⟩
 replace H:((Z32.f k l0_0).bind fun t967=>(some (y964,t967))) = some (r1,r2):=by first | (rw [hy964];exact H) | exact H
 have Ny964:=A_ hy964
 clear hy964
 obtain ⟨t967,A3,H⟩:=bi_ H
 simp only [Option.some.injEq,Prod.mk.injEq] at H
 obtain ⟨rfl,rfl⟩:=H
 go_enter Try.func169,Try.ntmps169
 try go_wp2_with (first | ((with_reducible refine gB_ (N:=1) rfl ?_);refine bx_ 1 #[.slice A0_0 l0_0.length c0_0,.slice A0_1 l0_1.length c0_1] 33 ?_;intro gb959 hg w4 hbox hb;have BK959:=A_ hbox;have GW959:=gw_ w hg;have GE959:=GW959;replace HB:=b1_ hb;clear hb hbox hg) | ((with_reducible refine gB_ (N:=2) rfl ?_);refine bx_ 2 #[.slice none 0 0,.slice none 0 0] 33 ?_;intro gb960 hg w5 hbox hb;have BK960:=A_ hbox;have GW960:=gw_ w hg;have GE960:=GW960;replace HB:=b1_ hb;have NB959_960:=gN_ BK959 hg;have NB960_959:=gP_ BK959 hg;replace BK959:=bb_ BK959 hb;clear hb hbox hg))
 replace BK959:=A_ (kB_ BK959.out)
 replace BK960:=A_ (kB_ BK960.out)
 replace HB:=A_ (bC_ HB.out)
 refine start_ (n:=9) (S:=fun w'=>w'.cell? ⟨gb959,0,none⟩ = some (.slice A0_0 l0_0.length c0_0)∧w'.cell? ⟨gb959,1,none⟩ = some (.slice A0_1 l0_1.length c0_1)) (ds:=[]) (bl_ 9 0) (by kernel_rfl) rfl (by kernel_rfl) ⟨cz0_ BK959,cz1_ BK959⟩ (fun hHeld=>?_);refine with_tabW Z43.tab1 Z43.bits1 (fun HT_ HW_=>?_)
 generalize w5.drew = w6 at BK959 BK960 HB hHeld ⊢
 refine pu_ 1 (some 4) (bl_ 9 2) HT_ ?_
 refine pu_ 4 (some 7) (bl_ 9 18) HT_ ?_
 refine ta_ 2 (some 5) (bl_ 9 22) HT_ HW_ hHeld ?_
 refine ta_ 5 (some 8) (bl_ 9 54) HT_ HW_ hHeld ?_
 refine on_ 0 (some 3) (bl_ 9 55) HT_ (fun K hK=>?_)
 refine Kd.R_lit_step (Kd.int .i64) _ 3 ?hg (N:=3) ?hd (xs:=([]:List Int)) (inner:=[]) (ok:=fun _=>True) (okp:=fun _=>True) ?hr ?hp (fun _ hk=>hk) trivial (Below.refl _ _) (nA_ _) (by simp) ?_;(case hd=>rfl);(case hg=>rfl);(case hr=>first | (go_simp;done) | (go_simp;rfl));(case hp=>exact (Reps.none _ _))
 intro v962 w7 ho8 hb hg_ hnew_
 clear hg_ hnew_
 (first | rw [← Ny961.out] at ho8 | (simp only [Int.reduceToNat] at ho8;rw [← Ny961.out] at ho8))
 have HO963:=rl_ w ho8
 replace BK959:=bb_ BK959 hb
 replace BK960:=bb_ BK960 hb
 replace HB:=b1_ hb
 clear hb ho8
 refine hK.out _ _ ⟨cz0_ BK959,cz1_ BK959⟩ (fun hHeld=>?_)
 clear hK K
 refine no_ (some 3) ?_
 refine on_ 3 (some 6) (bl_ 9 63) HT_ (fun K hK=>?_)
 refine Kd.R_append_rows_step (Kd.int .i64) (w0:=w) w.heap.size (by rfl) (.tmp 3) (.tmp 5) 23 3 (.int .i64 0) 8 rfl Try.underlying23 info3 rfl (by decide) (by omega) v962 y961 l0_1 _ _ _ (fun _=>True) (fun _=>False) rfl rfl ?aO ?aR (fun _ _ h=>h) (fun _ h=>h.elim) ?aF ?aB ?aS ?aL ?_
 (case aR=>exact cb_ HR0_1)
 (case aB=>exact hB_)
 (case aF=>exact (fun _ _=>trivial))
 (case aO=>exact (rr_ HO963))
 (case aS=>exact (bF_ hB_))
 (case aL=>have:=LMc2.out;omega)
 intro v965 w9 ho hb hg hat
 rw [← Ny964.out] at ho
 replace BK959:=A_ (blk_grown (kk_ BK959) hg (Kd.R_ne HO963.out BK959.out (by decide)))
 replace BK960:=A_ (blk_grown (kk_ BK960) hg (Kd.R_ne HO963.out BK960.out (by decide)))
 replace HB:=A_ hb
 have HO966:=A_ ho
 clear HO963
 clear ho hb hg hat
 refine hK.out _ _ ⟨cz0_ BK959,cz1_ BK959⟩ (fun hHeld=>?_)
 clear hK K
 refine no_ (some 6) ?_
 refine on_ 6 (some 9) (bl_ 9 127) HT_ (fun K hK=>?_)
 refine gO_ Try.func111 #[.slice A0_0 l0_0.length c0_0] (by rfl) rfl rfl qa_ ?_
 with_reducible refine (Z32.calls k _ _ l0_0 t967 _ (cb_ HR0_0) HC0_0.out A3.out).mono ?_
 rintro e w10 ⟨v968,rfl,ho0,hb⟩
 refine ⟨_,rfl,?_⟩
 have HO969:=A_ (rE_ (Kd.R_new' ho0 (Kd.R_lt (rr_ HO966))) (bF_ hB_))
 replace HO966:=A_ (Kd.R_elder' (rr_ HO966) (Kd.R_base ho0) hb)
 replace BK959:=bb_ BK959 hb
 replace BK960:=bb_ BK960 hb
 replace HB:=b1_ hb
 clear hb ho0
 obtain ⟨Ao11,co11,eo11⟩:=Kd.R_slice HO969.out
 (first|subst eo11|(injection eo11 with a_ b_ c_;have a_:=a_.symm;have c_:=c_.symm;clear b_;subst a_;subst c_))
 obtain ⟨Ao12,co12,eo12⟩:=Kd.R_slice HO966.out
 (first|subst eo12|(injection eo12 with a_ b_ c_;have a_:=a_.symm;have c_:=c_.symm;clear b_;subst a_;subst c_))
 refine hK.out _ _ ⟨cz0_ BK959,cz1_ BK959⟩ (fun hHeld=>?_)
 clear hK K
 refine no_ (some 9) ?_
 refine pu_ 7 (some 10) (bl_ 9 255) HT_ ?_
 refine on_ 8 (none) (bl_ 9 511) HT_ (fun K hK=>?_)
 have hs13:w10.cell? ⟨gb960,0,none⟩ = some (.slice none 0 0):=cz0_ BK960
 have hfs13:=kD_ BK960.out 0
 have hns13_0:=NB959_960.out
 have hms13_0:=NB960_959.out
 have hs14:w10.cell? ⟨gb960,1,none⟩ = some (.slice none 0 0):=cz1_ BK960
 have hfs14:=kD_ BK960.out 1
 have hns14_0:=NB959_960.out
 have hms14_0:=NB960_959.out
 refine skip_ (w1:=?_) (by rfl) rfl ?_ ?_
 rotate_left
 ·go_simp
  rfl
 refine hK.out _ _ ⟨((cell_far (p:=⟨gb960,_,none⟩) NB959_960.out _).trans (((cell_far (p:=⟨gb960,_,none⟩) NB959_960.out _).trans (hHeld.1)))),((cell_far (p:=⟨gb960,_,none⟩) NB959_960.out _).trans (((cell_far (p:=⟨gb960,_,none⟩) NB959_960.out _).trans (hHeld.2))))⟩ (fun hHeld=>?_)
 clear hK K
 refine done_ (done_of HT_.out (by kernel_rfl)) ?_
 try go_wp2
 refine bodyPost_ret (results_cell_row rfl _ _ gb960 33 #[.slice Ao12 y964.length co12,.slice Ao11 t967.length co11] (0,0) _ rfl qp_ Try.underlying33 rfl (by kernel_rfl)) rfl ?_
 exact ⟨_,_,qb_,(rw_ (Kd.R_mono (fa_ HO966 BK960) (fun _ hk=>hk.2))),(rw_ (Kd.R_mono (fa_ HO969 BK960) (fun _ hk=>hk.2))),hB_⟩
def Z42.f (k:Nat) (l0_0:List Int) (l0_1:List Int) (a1:Int):Option (List Int × List Int):=if a1 = 84 then ((Z56.f k l0_0 l0_1).bind fun bt972=>(some (bt972.1,bt972.2))) else (if a1 = 116 then ((Z33.f k l0_0 l0_1).bind fun bt978=>(some (bt978.1,bt978.2))) else (if a1 = 83 then ((Z63.f k l0_0 l0_1).bind fun bt984=>(some (bt984.1,bt984.2))) else ((Z43.f k l0_0 l0_1).bind fun bt990=>(some (bt990.1,bt990.2)))))
theorem Z42.mono:∀ a0 a1 a2 k,LeO (Z42.f k a0 a1 a2) (Z42.f (k + 1) a0 a1 a2):=by
 intro a0 a1 a2 k
 unfold Z42.f
 repeat' first|exact Z56.mono _ _ _|exact Z63.mono _ _ _|exact Z33.mono _ _ _|exact Z43.mono _ _ _|exact lo_|refine LeO.ite ?_ ?_|refine LeO.bind ?_ (fun _=>?_)
set_option maxHeartbeats 8000000 in
set_option maxRecDepth 100000 in
theorem Z42.calls (k:Nat) (A0_0:Option Addr) (c0_0:Nat) (l0_0:List Int) (A0_1:Option Addr) (c0_1:Nat) (l0_1:List Int) (a1:Int) (r1:List Int) (r2:List Int) (w:World) (hr0_0:Kd.C (Kd.int .i64) w A0_0 l0_0.length l0_0) (hc0_0:l0_0.length≤c0_0) (hr0_1:Kd.C (Kd.int .i64) w A0_1 l0_1.length l0_1) (hc0_1:l0_1.length≤c0_1) (h:Z42.f k l0_0 l0_1 a1 = some (r1,r2)) :
  Calls Try.prog 136 #[.agg #[.slice A0_0 l0_0.length c0_0,.slice A0_1 l0_1.length c0_1],.int .u8 a1] w fun e w'=>∃ v0_ v1_:Value,e = .returned (.agg #[v0_,v1_])∧Kd.R (Kd.int .i64) 3 w' w.heap.size (fun k_=>some k_≠(v1_:Value).ownBlock) v0_ r1∧Kd.R (Kd.int .i64) 3 w' w.heap.size (fun k_=>some k_≠(v0_:Value).ownBlock) v1_ r2∧Below w.heap.size w w':=by
 have hu33:=Try.underlying33
 have HR0_0:=A_ hr0_0
 have HC0_0:=A_ hc0_0
 clear hr0_0 hc0_0
 have HR0_1:=A_ hr0_1
 have HC0_1:=A_ hc0_1
 clear hr0_1 hc0_1
 have HB:=A_ (Below.refl w.heap.size w)
 have H:=h
 unfold Z42.f at H
 clear h
 by_cases c3:a1 = 84
 ·rw [if_pos c3] at H
  have c3b0:(a1 == 84) = true:=beq_iff_eq.mpr c3
  have c3b1:(a1 != 84) = false:=bne_eq_false_iff_eq.mpr c3
  clear c3
  obtain ⟨⟨t972,t975⟩,A4,H⟩:=bi_ H
  try dsimp only at H
  simp only [Option.some.injEq,Prod.mk.injEq] at H
  obtain ⟨rfl,rfl⟩:=H
  go_enter Try.func136,Try.ntmps136
  go_wp2_with (first | ((with_reducible refine gB_ (N:=2) rfl ?_);refine bx_ 2 #[.slice A0_0 l0_0.length c0_0,.slice A0_1 l0_1.length c0_1] 33 ?_;intro gb970 hg w5 hbox hb;have BK970:=A_ hbox;have GW970:=gw_ w hg;have GE970:=GW970;replace HB:=b1_ hb;clear hb hbox hg) | ((with_reducible refine gB_ (N:=4) rfl ?_);refine bx_ 4 #[.slice none 0 0,.slice none 0 0] 33 ?_;intro gb971 hg w6 hbox hb;have BK971:=A_ hbox;have GW971:=gw_ w hg;have GE971:=GW971;replace HB:=b1_ hb;have NB970_971:=gN_ BK970 hg;have NB971_970:=gP_ BK970 hg;replace BK970:=bb_ BK970 hb;clear hb hbox hg;have hnb7:=NB970_971.out;have hnc7:=NB971_970.out;obtain ⟨hcz8_0,hcz8_1,hfz8_0,hfz8_1⟩:=c2_ BK970) | ((with_reducible refine gA_ (f:=65) rfl ?_);refine gL_ (some 9) Try.func65 #[.agg #[.slice A0_0 l0_0.length c0_0,.slice A0_1 l0_1.length c0_1]] rfl qa_ ?_;(with_reducible refine (Z56.calls k _ _ l0_0 _ _ l0_1 t972 t975 _ (cb_ HR0_0) HC0_0.out (cb_ HR0_1) HC0_1.out A4.out).mono ?_);rintro e w9 ⟨v973,v976,rfl,ho0,ho1,hb⟩;refine ⟨_,rfl,?_⟩;have HO974:=rl_ w ho0;have HO977:=rl_ w ho1;replace BK970:=bb_ BK970 hb;replace BK971:=bb_ BK971 hb;replace HB:=b1_ hb;clear hb ho0 ho1;obtain ⟨Ao10,co10,eo10⟩:=Kd.R_slice HO974.out;subst eo10;obtain ⟨hcz11_0,hcz11_1,hfz11_0,hfz11_1⟩:=c2_ BK971;obtain ⟨Ao12,co12,eo12⟩:=Kd.R_slice HO977.out;subst eo12))
  refine bodyPost_ret (results_cell_row rfl _ _ gb971 33 #[.slice Ao10 t972.length co10,.slice Ao12 t975.length co12] (0,0) _ rfl qp_ Try.underlying33 rfl (by kernel_rfl)) rfl ?_
  exact ⟨_,_,qb_,(rw_ (fa_ HO974 BK971)),(rw_ (fa_ HO977 BK971)),hB_⟩
 ·rw [if_neg c3] at H
  have c3b0:(a1 == 84) = false:=beq_eq_false_iff_ne.mpr c3
  have c3b1:(a1 != 84) = true:=bne_iff_ne.mpr c3
  by_cases c13:a1 = 116
  ·rw [if_pos c13] at H
   have c13b0:(a1 == 116) = true:=beq_iff_eq.mpr c13
   have c13b1:(a1 != 116) = false:=bne_eq_false_iff_eq.mpr c13
   clear c13
   obtain ⟨⟨t978,t981⟩,A14,H⟩:=bi_ H
   try dsimp only at H
   simp only [Option.some.injEq,Prod.mk.injEq] at H
   obtain ⟨rfl,rfl⟩:=H
   go_enter Try.func136,Try.ntmps136
   go_wp2_with (first | ((with_reducible refine gB_ (N:=2) rfl ?_);refine bx_ 2 #[.slice A0_0 l0_0.length c0_0,.slice A0_1 l0_1.length c0_1] 33 ?_;intro gb970 hg w15 hbox hb;have BK970:=A_ hbox;have GW970:=gw_ w hg;have GE970:=GW970;replace HB:=b1_ hb;clear hb hbox hg) | ((with_reducible refine gB_ (N:=4) rfl ?_);refine bx_ 4 #[.slice none 0 0,.slice none 0 0] 33 ?_;intro gb971 hg w16 hbox hb;have BK971:=A_ hbox;have GW971:=gw_ w hg;have GE971:=GW971;replace HB:=b1_ hb;have NB970_971:=gN_ BK970 hg;have NB971_970:=gP_ BK970 hg;replace BK970:=bb_ BK970 hb;clear hb hbox hg;have hnb17:=NB970_971.out;have hnc17:=NB971_970.out;obtain ⟨hcz18_0,hcz18_1,hfz18_0,hfz18_1⟩:=c2_ BK970) | ((with_reducible refine gA_ (f:=167) rfl ?_);refine gL_ (some 13) Try.func167 #[.agg #[.slice A0_0 l0_0.length c0_0,.slice A0_1 l0_1.length c0_1]] rfl qa_ ?_;(with_reducible refine (Z33.calls k _ _ l0_0 _ _ l0_1 t978 t981 _ (cb_ HR0_0) HC0_0.out (cb_ HR0_1) HC0_1.out A14.out).mono ?_);rintro e w19 ⟨v979,v982,rfl,ho0,ho1,hb⟩;refine ⟨_,rfl,?_⟩;have HO980:=rl_ w ho0;have HO983:=rl_ w ho1;replace BK970:=bb_ BK970 hb;replace BK971:=bb_ BK971 hb;replace HB:=b1_ hb;clear hb ho0 ho1;obtain ⟨Ao20,co20,eo20⟩:=Kd.R_slice HO980.out;subst eo20;obtain ⟨hcz21_0,hcz21_1,hfz21_0,hfz21_1⟩:=c2_ BK971;obtain ⟨Ao22,co22,eo22⟩:=Kd.R_slice HO983.out;subst eo22))
   refine bodyPost_ret (results_cell_row rfl _ _ gb971 33 #[.slice Ao20 t978.length co20,.slice Ao22 t981.length co22] (0,0) _ rfl qp_ Try.underlying33 rfl (by kernel_rfl)) rfl ?_
   exact ⟨_,_,qb_,(rw_ (fa_ HO980 BK971)),(rw_ (fa_ HO983 BK971)),hB_⟩
  ·rw [if_neg c13] at H
   have c13b0:(a1 == 116) = false:=beq_eq_false_iff_ne.mpr c13
   have c13b1:(a1 != 116) = true:=bne_iff_ne.mpr c13
   by_cases c23:a1 = 83
   ·rw [if_pos c23] at H
    have c23b0:(a1 == 83) = true:=beq_iff_eq.mpr c23
    have c23b1:(a1 != 83) = false:=bne_eq_false_iff_eq.mpr c23
    clear c23
    obtain ⟨⟨t984,t987⟩,A24,H⟩:=bi_ H
    try dsimp only at H
    simp only [Option.some.injEq,Prod.mk.injEq] at H
    obtain ⟨rfl,rfl⟩:=H
    go_enter Try.func136,Try.ntmps136
    go_wp2_with (first | ((with_reducible refine gB_ (N:=2) rfl ?_);refine bx_ 2 #[.slice A0_0 l0_0.length c0_0,.slice A0_1 l0_1.length c0_1] 33 ?_;intro gb970 hg w25 hbox hb;have BK970:=A_ hbox;have GW970:=gw_ w hg;have GE970:=GW970;replace HB:=b1_ hb;clear hb hbox hg) | ((with_reducible refine gB_ (N:=4) rfl ?_);refine bx_ 4 #[.slice none 0 0,.slice none 0 0] 33 ?_;intro gb971 hg w26 hbox hb;have BK971:=A_ hbox;have GW971:=gw_ w hg;have GE971:=GW971;replace HB:=b1_ hb;have NB970_971:=gN_ BK970 hg;have NB971_970:=gP_ BK970 hg;replace BK970:=bb_ BK970 hb;clear hb hbox hg;have hnb27:=NB970_971.out;have hnc27:=NB971_970.out;obtain ⟨hcz28_0,hcz28_1,hfz28_0,hfz28_1⟩:=c2_ BK970) | ((with_reducible refine gA_ (f:=168) rfl ?_);refine gL_ (some 17) Try.func168 #[.agg #[.slice A0_0 l0_0.length c0_0,.slice A0_1 l0_1.length c0_1]] rfl qa_ ?_;(with_reducible refine (Z63.calls k _ _ l0_0 _ _ l0_1 t984 t987 _ (cb_ HR0_0) HC0_0.out (cb_ HR0_1) HC0_1.out A24.out).mono ?_);rintro e w29 ⟨v985,v988,rfl,ho0,ho1,hb⟩;refine ⟨_,rfl,?_⟩;have HO986:=rl_ w ho0;have HO989:=rl_ w ho1;replace BK970:=bb_ BK970 hb;replace BK971:=bb_ BK971 hb;replace HB:=b1_ hb;clear hb ho0 ho1;obtain ⟨Ao30,co30,eo30⟩:=Kd.R_slice HO986.out;subst eo30;obtain ⟨hcz31_0,hcz31_1,hfz31_0,hfz31_1⟩:=c2_ BK971;obtain ⟨Ao32,co32,eo32⟩:=Kd.R_slice HO989.out;subst eo32))
    refine bodyPost_ret (results_cell_row rfl _ _ gb971 33 #[.slice Ao30 t984.length co30,.slice Ao32 t987.length co32] (0,0) _ rfl qp_ Try.underlying33 rfl (by kernel_rfl)) rfl ?_
    exact ⟨_,_,qb_,(rw_ (fa_ HO986 BK971)),(rw_ (fa_ HO989 BK971)),hB_⟩
   ·rw [if_neg c23] at H
    have c23b0:(a1 == 83) = false:=beq_eq_false_iff_ne.mpr c23
    have c23b1:(a1 != 83) = true:=bne_iff_ne.mpr c23
    obtain ⟨⟨t990,t993⟩,A33,H⟩:=bi_ H
    try dsimp only at H
    simp only [Option.some.injEq,Prod.mk.injEq] at H
    obtain ⟨rfl,rfl⟩:=H
    go_enter Try.func136,Try.ntmps136
    go_wp2_with (first | ((with_reducible refine gB_ (N:=2) rfl ?_);refine bx_ 2 #[.slice A0_0 l0_0.length c0_0,.slice A0_1 l0_1.length c0_1] 33 ?_;intro gb970 hg w34 hbox hb;have BK970:=A_ hbox;have GW970:=gw_ w hg;have GE970:=GW970;replace HB:=b1_ hb;clear hb hbox hg) | ((with_reducible refine gB_ (N:=4) rfl ?_);refine bx_ 4 #[.slice none 0 0,.slice none 0 0] 33 ?_;intro gb971 hg w35 hbox hb;have BK971:=A_ hbox;have GW971:=gw_ w hg;have GE971:=GW971;replace HB:=b1_ hb;have NB970_971:=gN_ BK970 hg;have NB971_970:=gP_ BK970 hg;replace BK970:=bb_ BK970 hb;clear hb hbox hg;have hnb36:=NB970_971.out;have hnc36:=NB971_970.out;obtain ⟨hcz37_0,hcz37_1,hfz37_0,hfz37_1⟩:=c2_ BK970) | ((with_reducible refine gA_ (f:=169) rfl ?_);refine gL_ (some 19) Try.func169 #[.agg #[.slice A0_0 l0_0.length c0_0,.slice A0_1 l0_1.length c0_1]] rfl qa_ ?_;(with_reducible refine (Z43.calls k _ _ l0_0 _ _ l0_1 t990 t993 _ (cb_ HR0_0) HC0_0.out (cb_ HR0_1) HC0_1.out A33.out).mono ?_);rintro e w38 ⟨v991,v994,rfl,ho0,ho1,hb⟩;refine ⟨_,rfl,?_⟩;have HO992:=rl_ w ho0;have HO995:=rl_ w ho1;replace BK970:=bb_ BK970 hb;replace BK971:=bb_ BK971 hb;replace HB:=b1_ hb;clear hb ho0 ho1;obtain ⟨Ao39,co39,eo39⟩:=Kd.R_slice HO992.out;subst eo39;obtain ⟨hcz40_0,hcz40_1,hfz40_0,hfz40_1⟩:=c2_ BK971;obtain ⟨Ao41,co41,eo41⟩:=Kd.R_slice HO995.out;subst eo41))
    refine bodyPost_ret (results_cell_row rfl _ _ gb971 33 #[.slice Ao39 t990.length co39,.slice Ao41 t993.length co41] (0,0) _ rfl qp_ Try.underlying33 rfl (by kernel_rfl)) rfl ?_
    exact ⟨_,_,qb_,(rw_ (fa_ HO992 BK971)),(rw_ (fa_ HO995 BK971)),hB_⟩
end Go.Proofs.Ytoijcallajegfaa.A
end
section
namespace Go.Proofs.Ytoijcallajegfaa.A
open Go.RowKit Go.Proofs.YtoijcallajegfaaW.PrintWords Go.Proofs.YtoijcallajegfaaW.PrintLast Go.Proofs.YtoijcallajegfaaW.PrintMore
attribute [local go_sem] max2_int min2_int max_two min_two max_three min_three max_four min_four
set_option linter.unusedVariables false
set_option linter.unusedSimpArgs false
mutual
def Z57.l0:Nat→List (S33)→List ByteArray→Int→Option ((List (S33)) × List ByteArray × Bool)
 | 0,_,_,_=>none
 | k + 1,x5,x6,x7=>if x7 < (x5.length:Int) then ((some (([84,83]:List Int):List Int)).bind fun y1423=>(Z57.l1 k x5 x6 x7 y1423 (y1423.length:Int) 0)) else (some (x5,x6,true))
def Z57.l1:Nat→List (S33)→List ByteArray→Int→List Int→Int→Int→Option ((List (S33)) × List ByteArray × Bool)
 | 0,_,_,_,_,_,_=>none
 | k + 1,x5,x6,x7,x21,x22,x23=>if x23 < x22 then (if 0≤x23 then (if x23 < (x21.length:Int) then (if 0≤x7 then (if x7 < (x5.length:Int) then ((Z42.f k ((rd_T33 x5 x7).f0) ((rd_T33 x5 x7).f1) (rd x21 x23)).bind fun bt1428=>((Z54.f k bt1428.1 bt1428.2).bind fun bt1434=>((Z64.f k x5 bt1434.1 bt1434.2).bind fun t1441=>(if t1441 < 0 then (if x5.length < 2932031007402 then (if x7 < (x6.length:Int) then ((some (([rd x21 x23]:List Int):List Int)).bind fun y1446=>(if (rdOf ByteArray.empty x6 x7).size + (strOfNums y1446).size≤9223372036854775807 then (if x6.length < 8796093022208 then (Z57.l1 k (x5 ++ [(⟨bt1434.1,bt1434.2⟩:S33)]) (x6 ++ [(rdOf ByteArray.empty x6 x7) ++ (strOfNums y1446)]) x7 x21 x22 (wrap64 (x23 + 1))) else (none)) else (none))) else (none)) else (none)) else (Z57.l1 k x5 x6 x7 x21 x22 (wrap64 (x23 + 1))))))) else (none)) else (none)) else (none)) else (none)) else (if (x5.length:Int) > 120 then (some (([]:List (S33)),([]:List ByteArray),false)) else (Z57.l0 k x5 x6 (wrap64 (x7 + 1))))
end
def Z57.f (k:Nat) (l0_0:List Int) (l0_1:List Int):Option ((List (S33)) × List ByteArray × Bool):=(Z54.f k l0_0 l0_1).bind fun bt1411=>(Z57.l0 k (([(⟨bt1411.1,bt1411.2⟩:S33)]:List (S33))) (([(⟨#[]⟩:ByteArray)]:List ByteArray)) 0)
theorem Z57.mono_l:∀ k,(∀ y0 y1 y2,LeO (Z57.l0 k y0 y1 y2) (Z57.l0 (k + 1) y0 y1 y2))∧(∀ y0 y1 y2 y3 y4 y5,LeO (Z57.l1 k y0 y1 y2 y3 y4 y5) (Z57.l1 (k + 1) y0 y1 y2 y3 y4 y5))
 | 0=>⟨fun _ _ _ r h=>by simp [Z57.l0] at h,fun _ _ _ _ _ _ r h=>by simp [Z57.l1] at h⟩
 | k + 1=>by
  obtain ⟨ih0,ih1⟩:=Z57.mono_l k
  refine ⟨?_,?_⟩
  ·intro y0 y1 y2
   unfold Z57.l0
   repeat' first|exact ih0 _ _ _|exact ih1 _ _ _ _ _ _|exact Z54.mono _ _ _|exact Z42.mono _ _ _ _|exact Z64.mono _ _ _ _|exact lo_|refine LeO.ite ?_ ?_|refine LeO.bind ?_ (fun _=>?_)
  ·intro y0 y1 y2 y3 y4 y5
   unfold Z57.l1
   repeat' first|exact ih0 _ _ _|exact ih1 _ _ _ _ _ _|exact Z54.mono _ _ _|exact Z42.mono _ _ _ _|exact Z64.mono _ _ _ _|exact lo_|refine LeO.ite ?_ ?_|refine LeO.bind ?_ (fun _=>?_)
theorem Z57.mono:∀ a0 a1 k,LeO (Z57.f k a0 a1) (Z57.f (k + 1) a0 a1):=by
 intro a0 a1 k
 obtain ⟨ih0,ih1⟩:=Z57.mono_l k
 unfold Z57.f
 repeat' first|exact ih0 _ _ _|exact ih1 _ _ _ _ _ _|exact Z54.mono _ _ _|exact Z42.mono _ _ _ _|exact Z64.mono _ _ _ _|exact lo_|refine LeO.ite ?_ ?_|refine LeO.bind ?_ (fun _=>?_)
def Z57.T12:Bool × List (List Nat × List Nat):=(true,[([],[]),([],[]),([],[]),([1,2],[1,2]),([3],[3]),([],[]),([5],[5]),([6],[6]),([4,7],[4,7]),([8],[8]),([0,9],[0,9]),([10,10,0,1,2,3,4,5,6,7,8,9,10],[0,1,10])])
def Z57.B12:List Nat:=[0,0,0,6,14,0,32,96,254,510,1023,2047]
theorem Z57.tab12:rtab .any (opsOf Try.f98 12) = Z57.T12:=by kernel_rfl
theorem Z57.bits12:waitsOk Z57.T12.2 Z57.B12 = true:=by kernel_rfl
set_option maxHeartbeats 8000000 in
set_option maxRecDepth 100000 in
theorem Z57.calls (k:Nat) (A0_0:Option Addr) (c0_0:Nat) (l0_0:List Int) (A0_1:Option Addr) (c0_1:Nat) (l0_1:List Int) (r1:List (S33)) (r2:List ByteArray) (r3:Bool) (w:World) (hr0_0:Kd.C (Kd.int .i64) w A0_0 l0_0.length l0_0) (hc0_0:l0_0.length≤c0_0) (hr0_1:Kd.C (Kd.int .i64) w A0_1 l0_1.length l0_1) (hc0_1:l0_1.length≤c0_1) (h:Z57.f k l0_0 l0_1 = some (r1,r2,r3)) :
  Calls Try.prog 98 #[.agg #[.slice A0_0 l0_0.length c0_0,.slice A0_1 l0_1.length c0_1]] w fun e w'=>∃ v0_ v1_:Value,e = .returned (.tuple #[v0_,v1_,.bool r3])∧Kd.N k33 33 w' w.heap.size (fun k_=>(w.heap.size≤k_)∧some k_≠(v1_:Value).ownBlock) v0_ r1∧Kd.R Kd.string 9 w' w.heap.size (fun k_=>(w.heap.size≤k_)) v1_ r2∧Below w.heap.size w w':=by
 have hu33:=Try.underlying33
 have HR0_0:=A_ hr0_0
 have HC0_0:=A_ hc0_0
 clear hr0_0 hc0_0
 have HR0_1:=A_ hr0_1
 have HC0_1:=A_ hc0_1
 clear hr0_1 hc0_1
 have HB:=A_ (Below.refl w.heap.size w)
 have H:=h
 unfold Z57.f at H
 clear h
 obtain ⟨⟨t1411,t1414⟩,A2,H⟩:=bi_ H
 try dsimp only at H
 obtain ⟨y1417,hy1417⟩:∃ y_:List (S33),y_ = (([(⟨t1411,t1414⟩:S33)]:List (S33))):=⟨_,rfl⟩
 replace H:(Z57.l0 k y1417 (([(⟨#[]⟩:ByteArray)]:List ByteArray)) 0) = some (r1,r2,r3):=by first | (rw [hy1417];exact H) | exact H
 have Ny1417:=A_ hy1417
 clear hy1417
 obtain ⟨y1420,hy1420⟩:∃ y_:List ByteArray,y_ = (([(⟨#[]⟩:ByteArray)]:List ByteArray)):=⟨_,rfl⟩
 replace H:(Z57.l0 k y1417 y1420 0) = some (r1,r2,r3):=by first | (rw [hy1420];exact H) | exact H
 have Ny1420:=A_ hy1420
 clear hy1420
 have H':=A_ H
 clear H
 go_enter Try.func98,Try.ntmps98
 go_wp2_with (first | ((with_reducible refine gB_ (N:=1) rfl ?_);refine bx_ 1 #[.slice A0_0 l0_0.length c0_0,.slice A0_1 l0_1.length c0_1] 33 ?_;intro gb1410 hg w3 hbox hb;have BK1410:=A_ hbox;have GW1410:=gw_ w hg;have GE1410:=GW1410;replace HB:=b1_ hb;clear hb hbox hg;obtain ⟨hcz4_0,hcz4_1,hfz4_0,hfz4_1⟩:=c2_ BK1410) | ((with_reducible refine gA_ (f:=87) rfl ?_);refine gL_ (some 12) Try.func87 #[.agg #[.slice A0_0 l0_0.length c0_0,.slice A0_1 l0_1.length c0_1]] rfl qa_ ?_;(with_reducible refine (Z54.calls k _ _ l0_0 _ _ l0_1 t1411 t1414 _ (cb_ HR0_0) HC0_0.out (cb_ HR0_1) HC0_1.out A2.out).mono ?_);rintro e w5 ⟨v1412,v1415,rfl,ho0,ho1,hb⟩;refine ⟨_,rfl,?_⟩;have HO1413:=A_ (rE_ (Kd.R_newM (M:=fun k_=>(w.heap.size≤k_)) ho0 (bF_ hB_) (fun k_ h_=>h_)) (bF_ hB_));have HO1416:=A_ (rE_ (Kd.R_newM (M:=fun k_=>(w.heap.size≤k_)) ho1 (bF_ hB_) (fun k_ h_=>h_)) (bF_ hB_));replace BK1410:=bb_ BK1410 hb;replace HB:=b1_ hb;clear hb ho0 ho1;obtain ⟨Ao6,co6,eo6⟩:=Kd.R_slice HO1413.out;subst eo6;obtain ⟨Ao7,co7,eo7⟩:=Kd.R_slice HO1416.out;subst eo7) | ((with_reducible refine gB_ (N:=13) rfl ?_);refine Kd.N_lit k33 _ 33 ?hg (N':=13) ?hd (xs:=([(⟨t1411,t1414⟩:S33)]:List (S33))) (inner:=[.slice Ao6 t1411.length co6,.slice Ao7 t1414.length co7]) (ok:=(fun k_=>(w.heap.size≤k_)∧k_≠gb1410)) (okp:=(fun k_=>(w.heap.size≤k_)∧k_≠gb1410)) ?hr ?hp (fun _ hk=>hk) ((show ∀ k_,w5.heap.size≤k_→(fun k_=>(w.heap.size≤k_)∧k_≠gb1410) k_ from fun k_ hk=>⟨(Nat.le_trans (bF_ hB_) hk),Kd.freshB (kk_ BK1410) k_ hk⟩) _ (nA_ _)) (Below.refl _ _) (nA_ _) (by simp) ?_;(case hd=>rfl);(case hg=>rfl);(case hr=>first | (go_simp;done) | (go_simp;rfl));(case hp=>exact (Reps.c2 (show Kd.FK k33 _ _ (⟨t1411,t1414⟩:S33) [.slice Ao6 t1411.length co6,.slice Ao7 t1414.length co7] from (k33_mkF _ _ (⟨t1411,t1414⟩:S33) (Kd.R_reads' (Kd.R_mono (ok':=(fun k_=>(w.heap.size≤k_)∧k_≠gb1410)) (Kd.R_types (HO1413.out) BK1410.out (by decide)) (fun k_ hk=>⟨hk.1.1,hk.2⟩))).2.1 (Kd.R_F (Kd.R_mono (ok':=(fun k_=>(w.heap.size≤k_)∧k_≠gb1410)) (Kd.R_types (HO1413.out) BK1410.out (by decide)) (fun k_ hk=>⟨hk.1.1,hk.2⟩))) (Kd.R_reads' (Kd.R_mono (ok':=(fun k_=>(w.heap.size≤k_)∧k_≠gb1410)) (Kd.R_types (HO1416.out) BK1410.out (by decide)) (fun k_ hk=>⟨hk.1.1,hk.2⟩))).2.1 (Kd.R_F (Kd.R_mono (ok':=(fun k_=>(w.heap.size≤k_)∧k_≠gb1410)) (Kd.R_types (HO1416.out) BK1410.out (by decide)) (fun k_ hk=>⟨hk.1.1,hk.2⟩))))) (Reps.none _ _)));intro v1418 w8 ho9 hb hg_ hnew_;clear hg_ hnew_;(first | rw [← Ny1417.out] at ho9 | (simp only [Int.reduceToNat] at ho9;rw [← Ny1417.out] at ho9));have HO1419:=A_ (Kd.N_lower ho9 (bF_ hB_));replace BK1410:=bb_ BK1410 hb;replace HB:=b1_ hb;clear HO1413 HO1416;clear hb ho9) | ((with_reducible refine gB_ (N:=14) rfl ?_);refine Kd.R_lit Kd.string _ 9 ?hg (N:=14) ?hd (xs:=([(⟨#[]⟩:ByteArray)]:List ByteArray)) (inner:=[.string (⟨#[]⟩:ByteArray)]) (ok:=fun _=>True) (okp:=fun _=>True) ?hr ?hp (fun _ hk=>hk) trivial (Below.refl _ _) (nA_ _) (by simp) ?_;(case hd=>rfl);(case hg=>rfl);(case hr=>first | (go_simp;done) | (go_simp;rfl));(case hp=>exact (Reps.one (show Kd.M Kd.string _ _ _ (⟨#[]⟩:ByteArray) [.string (⟨#[]⟩:ByteArray)] from rfl) (Reps.none _ _)));intro v1421 w10 ho11 hb hg_ hnew_;clear hg_ hnew_;(first | rw [← Ny1420.out] at ho11 | (simp only [Int.reduceToNat] at ho11;rw [← Ny1420.out] at ho11));replace HO1419:=A_ (Kd.N_elder' (by (with_reducible repeat (first | apply Kd.N_alloc | apply Kd.N_drewN | apply Kd.N_drew));exact HO1419.out) (Kd.R_base ho11) hb);have HO1422:=A_ (rE_ (Kd.R_newM (M:=fun k_=>(w.heap.size≤k_)) ho11 (bF_ hB_) (fun k_ h_=>h_)) (bF_ hB_));replace BK1410:=bb_ BK1410 hb;replace HB:=b1_ hb;clear hb ho11))
 go_loopg [5,6,7] k (fun kq v5 v6 v7 w'=>∃ (x5_1:List (S33)) (x6_1:List ByteArray) (x7_1:Int),v7 = .int .i64 x7_1∧Aside0 (Z57.l0 kq x5_1 x6_1 x7_1 = some (r1,r2,r3))∧Aside0 (kq≤k)∧Aside0 (Kd.N k33 33 w' w.heap.size (fun k_=>(w.heap.size≤k_)∧some k_≠(v6:Value).ownBlock∧k_≠gb1410) v5 x5_1)∧Aside0 (Kd.R Kd.string 9 w' w.heap.size (fun k_=>(w.heap.size≤k_)) v6 x6_1)∧Aside0 (w'.heap[gb1410]? = some (.cells #[(.slice A0_0 l0_0.length c0_0),(.slice A0_1 l0_1.length c0_1)] 33 (0,0)))∧Aside0 (Below w.heap.size w w'))
 case atStart=>exact ⟨(y1417),(y1420),(0),qc_,H',⟨nA_ _⟩,⟨by (with_reducible repeat (first | apply Kd.N_alloc | apply Kd.N_drewN | apply Kd.N_drew));exact Kd.N_mono HO1419.out (fun _ hk=>⟨hk.1.1,⟨hk.2,hk.1.2⟩⟩)⟩,⟨(rw_ (Kd.R_mono HO1422.out (fun _ hk=>hk.1)))⟩,⟨(kk_ BK1410)⟩,⟨hB_⟩⟩
 case round =>
  clear H'
  obtain ⟨x5_1,x6_1,x7_1,rfl,HA,HK1,HO_5,HO_6,BK1410,HB⟩:=hrel
  cases gk with
  | zero=>exact absurd HA.out (by simp [Z57.l0])
  | succ k1 =>
   have H:=HA.out
   clear HA
   simp only [Z57.l0] at H
   by_cases c12:x7_1 < (x5_1.length:Int)
   ·rw [if_pos c12] at H
    have c12b0:=oC_ c12
    clear c12
    obtain ⟨y1423,hy1423⟩:∃ y_:List Int,y_ = (([84,83]:List Int)):=⟨_,rfl⟩
    replace H:(Z57.l1 k1 x5_1 x6_1 x7_1 y1423 (y1423.length:Int) 0) = some (r1,r2,r3):=by first | (rw [hy1423];exact H) | exact H
    have Ny1423:=A_ hy1423
    clear hy1423
    have H':=A_ H
    clear H
    obtain ⟨Ao13,co13,eo13⟩:=Kd.N_slice HO_5.out
    subst eo13
    go_wp2_with (first | ((with_reducible refine gB_ (N:=21) rfl ?_);refine Kd.R_lit (Kd.int .u8) _ 5 ?hg (N:=21) ?hd (xs:=([84,83]:List Int)) (inner:=[.int .u8 84,.int .u8 83]) (ok:=fun _=>True) (okp:=fun _=>True) ?hr ?hp (fun _ hk=>hk) trivial (Below.refl _ _) (nA_ _) (by simp) ?_;(case hd=>rfl);(case hg=>rfl);(case hr=>first | (go_simp;done) | (go_simp;rfl));(case hp=>exact (Reps.one (show Kd.M (Kd.int .u8) _ _ _ 84 [.int .u8 84] from rfl) (Reps.one (show Kd.M (Kd.int .u8) _ _ _ 83 [.int .u8 83] from rfl) (Reps.none _ _))));intro v1424 w14 ho15 hb hg_ hnew_;clear hg_ hnew_;(first | rw [← Ny1423.out] at ho15 | (simp only [Int.reduceToNat] at ho15;rw [← Ny1423.out] at ho15));replace HO_5:=A_ (Kd.N_elder' (by (with_reducible repeat (first | apply Kd.N_alloc | apply Kd.N_drewN | apply Kd.N_drew));exact HO_5.out) (Kd.R_base ho15) hb);replace HO_6:=rb_ HO_6 hb;have HO1425:=A_ (rE_ (Kd.R_newM (M:=fun k_=>(w.heap.size≤k_)) ho15 (bF_ hB_) (fun k_ h_=>h_)) (bF_ hB_));replace BK1410:=bb_ BK1410 hb;replace HB:=b1_ hb;clear hb ho15;obtain ⟨Ao16,co16,eo16⟩:=Kd.R_slice HO1425.out;subst eo16))
    go_loopg [5,6,23] k1 (fun kq v5 v6 v23 w'=>∃ (x5_2:List (S33)) (x6_2:List ByteArray) (x23_2:Int),v23 = .int .i64 x23_2∧Aside0 (Z57.l1 kq x5_2 x6_2 x7_1 y1423 (y1423.length:Int) x23_2 = some (r1,r2,r3))∧Aside0 (kq≤k1)∧Aside0 (Kd.N k33 33 w' w.heap.size (fun k_=>(w.heap.size≤k_)∧some k_≠(v6:Value).ownBlock∧some k_≠((.slice Ao16 y1423.length co16):Value).ownBlock∧k_≠gb1410) v5 x5_2)∧Aside0 (Kd.R Kd.string 9 w' w.heap.size (fun k_=>(w.heap.size≤k_)) v6 x6_2)∧Aside0 (Kd.R (Kd.int .u8) 5 w' w.heap.size (fun k_=>(w.heap.size≤k_)) (.slice Ao16 y1423.length co16) y1423)∧Aside0 (w'.heap[gb1410]? = some (.cells #[(.slice A0_0 l0_0.length c0_0),(.slice A0_1 l0_1.length c0_1)] 33 (0,0)))∧Aside0 (Below w.heap.size w w'))
    case atStart=>exact ⟨(x5_1),(x6_1),(0),qc_,H',⟨nA_ _⟩,⟨by (with_reducible repeat (first | apply Kd.N_alloc | apply Kd.N_drewN | apply Kd.N_drew));exact Kd.N_mono HO_5.out (fun _ hk=>⟨hk.1.1,⟨hk.1.2.1,⟨hk.2,hk.1.2.2⟩⟩⟩)⟩,⟨(rr_ HO_6)⟩,⟨(rw_ (Kd.R_mono HO1425.out (fun _ hk=>hk.1)))⟩,⟨(kk_ BK1410)⟩,⟨hB_⟩⟩
    case round =>
     clear H'
     obtain ⟨x5_2,x6_2,x23_2,rfl,HA,HK2,HO_5,HO_6,HO_21,BK1410,HB⟩:=hrel
     cases gk with
     | zero=>exact absurd HA.out (by simp [Z57.l1])
     | succ k2 =>
      have H:=HA.out
      clear HA
      simp only [Z57.l1] at H
      by_cases c17:x23_2 < (y1423.length:Int)
      ·rw [if_pos c17] at H
       have c17b0:=oC_ c17
       clear c17
       replace H:=cx_ H;obtain ⟨c18b0,H⟩:=H
       replace H:=cx_ H;obtain ⟨c19b0,H⟩:=H
       replace H:=cx_ H;obtain ⟨c20b0,H⟩:=H
       replace H:=cx_ H;obtain ⟨c21b0,H⟩:=H
       obtain ⟨⟨t1428,t1431⟩,A22,H⟩:=bi_ H
       try dsimp only at H
       obtain ⟨⟨t1434,t1437⟩,A23,H⟩:=bi_ H
       try dsimp only at H
       obtain ⟨t1441,A24,H⟩:=bi_ H
       by_cases c25:t1441 < 0
       ·rw [if_pos c25] at H
        have c25b0:=oC_ c25
        clear c25
        have c26:=cp_ H
        replace H:=ca_ H
        have LMc26:=A_ c26
        clear c26
        obtain ⟨y1442,hy1442⟩:∃ y_:List (S33),y_ = (x5_2 ++ [(⟨t1434,t1437⟩:S33)]):=⟨_,rfl⟩
        replace H:(if x7_1 < (x6_2.length:Int) then ((some (([rd y1423 x23_2]:List Int):List Int)).bind fun y1446=>(if (rdOf ByteArray.empty x6_2 x7_1).size + (strOfNums y1446).size≤9223372036854775807 then (if x6_2.length < 8796093022208 then (Z57.l1 k2 y1442 (x6_2 ++ [(rdOf ByteArray.empty x6_2 x7_1) ++ (strOfNums y1446)]) x7_1 y1423 (y1423.length:Int) (wrap64 (x23_2 + 1))) else (none)) else (none))) else (none)) = some (r1,r2,r3):=by first | (rw [hy1442];exact H) | exact H
        have Ny1442:=A_ hy1442
        clear hy1442
        replace H:=cx_ H;obtain ⟨c27b0,H⟩:=H
        obtain ⟨y1446,hy1446⟩:∃ y_:List Int,y_ = (([rd y1423 x23_2]:List Int)):=⟨_,rfl⟩
        replace H:(if (rdOf ByteArray.empty x6_2 x7_1).size + (strOfNums y1446).size≤9223372036854775807 then (if x6_2.length < 8796093022208 then (Z57.l1 k2 y1442 (x6_2 ++ [(rdOf ByteArray.empty x6_2 x7_1) ++ (strOfNums y1446)]) x7_1 y1423 (y1423.length:Int) (wrap64 (x23_2 + 1))) else (none)) else (none)) = some (r1,r2,r3):=by first | (rw [hy1446];exact H) | exact H
        have Ny1446:=A_ hy1446
        clear hy1446
        have c28:=cp_ H
        replace H:=ca_ H
        have c28b0:=eq_true c28
        have c28b1:=oC_ c28
        try have c28b2:(9223372036854775807 < (rdOf ByteArray.empty x6_2 x7_1).size + (strOfNums y1446).size) = False:=eq_false (Nat.not_lt.2 c28)
        have c29:=cp_ H
        replace H:=ca_ H
        have LMc29:=A_ c29
        clear c29
        obtain ⟨y1449,hy1449⟩:∃ y_:List ByteArray,y_ = (x6_2 ++ [(rdOf ByteArray.empty x6_2 x7_1) ++ (strOfNums y1446)]):=⟨_,rfl⟩
        replace H:(Z57.l1 k2 y1442 y1449 x7_1 y1423 (y1423.length:Int) (wrap64 (x23_2 + 1))) = some (r1,r2,r3):=by first | (rw [hy1449];exact H) | exact H
        have Ny1449:=A_ hy1449
        clear hy1449
        have H':=A_ H
        clear H
        have p1426:0≤(x23_2:Int):=oB_ qe_
        have q1426:x23_2 < (y1423.length:Int):=oB_ qe_
        obtain ⟨ad1426,e1426,hx1426_0⟩:=Kd.at_int (Kd.R_reads' HO_21.out).2.2 x23_2 p1426 q1426
        cases e1426
        replace p1426:=eq_true p1426
        replace q1426:=eq_true q1426
        obtain ⟨Ao30,co30,eo30⟩:=Kd.N_slice HO_5.out
        subst eo30
        have p1427:0≤(x7_1:Int):=oB_ qe_
        have q1427:x7_1 < (x5_2.length:Int):=oB_ qe_
        obtain ⟨ad1427,A1427_0,c1427_0,A1427_1,c1427_1,e1427,hx1427_0,hx1427_1,hl1427_0,hi1427_0,hl1427_1,hi1427_1⟩:=at_T33 (Kd.N_reads' HO_5.out).2.2 x7_1 p1427 q1427
        cases e1427
        obtain ⟨ce1427,hce1427,hMe1427,hcc1427⟩:=Kd.N_get HO_5.out z33 x7_1 p1427 (by first | exact q1427 | exact oB_ qe_ | (have e_:=(Kd.N_reads' HO_5.out).1;omega))
        obtain ⟨ua1427_0,uc1427_0,ua1427_1,uc1427_1,rfl,ul1427_0,ge1427_0,ul1427_1,ge1427_1⟩:=k33_openF hMe1427
        have hv1427_0:=hcc1427 0 _ rfl
        rw [Nat.add_zero] at hv1427_0
        replace hv1427_0:=Option.some.inj (hv1427_0.symm.trans hx1427_0)
        injection hv1427_0 with hva_ hvn_ hvc_
        rw [hva_] at ge1427_0
        rw [hvc_] at ul1427_0
        have HL1427_0:=A_ (show Kd.V (Kd.int .i64) 3 _ w.heap.size _ _ ((rd_T33 x5_2 x7_1).f0) from Kd.V_mk ul1427_0 ge1427_0)
        clear hva_ hvn_ hvc_ ge1427_0 ul1427_0
        have hv1427_1:=hcc1427 1 _ rfl
        rw [add_field _ _ 1 (by omega)] at hv1427_1
        replace hv1427_1:=Option.some.inj (hv1427_1.symm.trans hx1427_1)
        injection hv1427_1 with hva_ hvn_ hvc_
        rw [hva_] at ge1427_1
        rw [hvc_] at ul1427_1
        have HL1427_1:=A_ (show Kd.V (Kd.int .i64) 3 _ w.heap.size _ _ ((rd_T33 x5_2 x7_1).f1) from Kd.V_mk ul1427_1 ge1427_1)
        clear hva_ hvn_ hvc_ ge1427_1 ul1427_1
        clear hcc1427 hce1427
        have HR1427_0:=A_ hi1427_0
        have HC1427_0:=A_ hl1427_0
        clear hi1427_0 hl1427_0
        have HR1427_1:=A_ hi1427_1
        have HC1427_1:=A_ hl1427_1
        clear hi1427_1 hl1427_1
        replace p1427:=eq_true p1427
        replace q1427:=eq_true q1427
        try go_wp2_with (first | ((with_reducible refine gA_ (f:=136) rfl ?_);refine gL_ (some 32) Try.func136 #[.agg #[.slice A1427_0 ((rd_T33 x5_2 x7_1).f0).length c1427_0,.slice A1427_1 ((rd_T33 x5_2 x7_1).f1).length c1427_1],.int .u8 (rd y1423 x23_2)] rfl qa_ ?_;(with_reducible refine (Z42.calls k2 _ _ ((rd_T33 x5_2 x7_1).f0) _ _ ((rd_T33 x5_2 x7_1).f1) (rd y1423 x23_2) t1428 t1431 _ ?side1 ?side2 ?side3 ?side4 A22.out).mono ?_);(case side1=>repeat (first | exact (by repeat (first | (with_reducible exact HR1427_0.out) | (with_reducible refine cA_ ?_ _) | (with_reducible refine cB_ ?_ _) | (with_reducible refine cC_ ?_) | exact HR1427_0.out)) | (with_reducible first | refine cA_ ?_ _ | refine cB_ ?_ _ | refine cC_ ?_)));(case side2=>exact HC1427_0.out);(case side3=>repeat (first | exact (by repeat (first | (with_reducible exact HR1427_1.out) | (with_reducible refine cA_ ?_ _) | (with_reducible refine cB_ ?_ _) | (with_reducible refine cC_ ?_) | exact HR1427_1.out)) | (with_reducible first | refine cA_ ?_ _ | refine cB_ ?_ _ | refine cC_ ?_)));(case side4=>exact HC1427_1.out);rintro e w31 ⟨v1429,v1432,rfl,ho0,ho1,hb⟩;refine ⟨_,rfl,?_⟩;replace HO_5:=A_ (Kd.N_mono (Kd.N_told (Kd.N_told (Kd.N_old (by (with_reducible repeat (first | apply Kd.N_alloc | apply Kd.N_drewN | apply Kd.N_drew));exact HO_5.out) hb) (Kd.R_base ho0)) (Kd.R_base ho1)) (fun _ h_=>h_.1));replace HO_6:=rb_ HO_6 hb;replace HO_21:=rb_ HO_21 hb;replace HL1427_0:=A_ (Kd.V_mono (Kd.V_told (Kd.V_told (Kd.V_old (by (with_reducible repeat (first | apply Kd.V_alloc | apply Kd.V_drewN | apply Kd.V_drew));exact HL1427_0.out) hb) (Kd.R_base ho0)) (Kd.R_base ho1)) (fun _ h_=>h_.1));replace HL1427_1:=A_ (Kd.V_mono (Kd.V_told (Kd.V_told (Kd.V_old (by (with_reducible repeat (first | apply Kd.V_alloc | apply Kd.V_drewN | apply Kd.V_drew));exact HL1427_1.out) hb) (Kd.R_base ho0)) (Kd.R_base ho1)) (fun _ h_=>h_.1));have HO1430:=A_ (rE_ (Kd.R_newM (M:=fun k_=>(w.heap.size≤k_)) ho0 (bF_ hB_) (fun k_ h_=>h_)) (bF_ hB_));have HO1433:=A_ (rE_ (Kd.R_newM (M:=fun k_=>(w.heap.size≤k_)) ho1 (bF_ hB_) (fun k_ h_=>h_)) (bF_ hB_));replace BK1410:=bb_ BK1410 hb;replace HR1427_0:=A_ (cD_ (by repeat (first | (with_reducible exact HR1427_0.out) | (with_reducible refine cA_ ?_ _) | (with_reducible refine cB_ ?_ _) | (with_reducible refine cC_ ?_) | exact HR1427_0.out)) hb);replace HR1427_1:=A_ (cD_ (by repeat (first | (with_reducible exact HR1427_1.out) | (with_reducible refine cA_ ?_ _) | (with_reducible refine cB_ ?_ _) | (with_reducible refine cC_ ?_) | exact HR1427_1.out)) hb);replace HB:=b1_ hb;clear hb ho0 ho1;obtain ⟨Ao32,co32,eo32⟩:=Kd.R_slice HO1430.out;subst eo32;obtain ⟨Ao33,co33,eo33⟩:=Kd.R_slice HO1433.out;subst eo33) | ((with_reducible refine gA_ (f:=87) rfl ?_);refine gL_ (some 33) Try.func87 #[.agg #[.slice Ao32 t1428.length co32,.slice Ao33 t1431.length co33]] rfl qa_ ?_;(with_reducible refine (Z54.calls k2 _ _ t1428 _ _ t1431 t1434 t1437 _ (cr_ HO1430) ((Kd.R_reads' HO1430.out).2.1) (cr_ HO1433) ((Kd.R_reads' HO1433.out).2.1) A23.out).mono ?_);rintro e w34 ⟨v1435,v1438,rfl,ho0,ho1,hb⟩;refine ⟨_,rfl,?_⟩;replace HO_5:=A_ (Kd.N_mono (Kd.N_told (Kd.N_told (Kd.N_old (by (with_reducible repeat (first | apply Kd.N_alloc | apply Kd.N_drewN | apply Kd.N_drew));exact HO_5.out) hb) (Kd.R_base ho0)) (Kd.R_base ho1)) (fun _ h_=>h_.1));replace HO_6:=rb_ HO_6 hb;replace HO_21:=rb_ HO_21 hb;replace HL1427_0:=A_ (Kd.V_mono (Kd.V_told (Kd.V_told (Kd.V_old (by (with_reducible repeat (first | apply Kd.V_alloc | apply Kd.V_drewN | apply Kd.V_drew));exact HL1427_0.out) hb) (Kd.R_base ho0)) (Kd.R_base ho1)) (fun _ h_=>h_.1));replace HL1427_1:=A_ (Kd.V_mono (Kd.V_told (Kd.V_told (Kd.V_old (by (with_reducible repeat (first | apply Kd.V_alloc | apply Kd.V_drewN | apply Kd.V_drew));exact HL1427_1.out) hb) (Kd.R_base ho0)) (Kd.R_base ho1)) (fun _ h_=>h_.1));have HO1436:=A_ (rE_ (Kd.R_new' (Kd.R_new' (Kd.R_newM (M:=fun k_=>(w.heap.size≤k_)) ho0 (bF_ hB_) (fun k_ h_=>h_)) (Kd.R_lt (rr_ HO1430))) (Kd.R_lt (rr_ HO1433))) (bF_ hB_));have HO1439:=A_ (rE_ (Kd.R_new' (Kd.R_new' (Kd.R_newM (M:=fun k_=>(w.heap.size≤k_)) ho1 (bF_ hB_) (fun k_ h_=>h_)) (Kd.R_lt (rr_ HO1430))) (Kd.R_lt (rr_ HO1433))) (bF_ hB_));replace HO1430:=A_ (Kd.R_mono (Kd.R_told (Kd.R_told (Kd.R_old (rr_ HO1430) hb) (Kd.R_base ho0)) (Kd.R_base ho1)) (fun _ h_=>h_.1));replace HO1433:=A_ (Kd.R_mono (Kd.R_told (Kd.R_told (Kd.R_old (rr_ HO1433) hb) (Kd.R_base ho0)) (Kd.R_base ho1)) (fun _ h_=>h_.1));replace BK1410:=bb_ BK1410 hb;replace HR1427_0:=A_ (cD_ (by repeat (first | (with_reducible exact HR1427_0.out) | (with_reducible refine cA_ ?_ _) | (with_reducible refine cB_ ?_ _) | (with_reducible refine cC_ ?_) | exact HR1427_0.out)) hb);replace HR1427_1:=A_ (cD_ (by repeat (first | (with_reducible exact HR1427_1.out) | (with_reducible refine cA_ ?_ _) | (with_reducible refine cB_ ?_ _) | (with_reducible refine cC_ ?_) | exact HR1427_1.out)) hb);replace HB:=b1_ hb;clear hb ho0 ho1) | ((with_reducible refine gB_ (N:=10) rfl ?_);refine bx_ 10 #[.slice none 0 0,.slice none 0 0] 33 ?_;intro gb1440 hg w35 hbox hb;replace HO_5:=A_ (Kd.N_below (Kd.N_elderB (by (with_reducible repeat (first | apply Kd.N_alloc | apply Kd.N_drewN | apply Kd.N_drew));exact HO_5.out) gb1440 (Nat.le_of_eq hg.symm)) hb);replace HO_6:=rb_ HO_6 hb;replace HO_21:=rb_ HO_21 hb;replace HL1427_0:=A_ (Kd.V_below (Kd.V_elderB (by (with_reducible repeat (first | apply Kd.V_alloc | apply Kd.V_drewN | apply Kd.V_drew));exact HL1427_0.out) gb1440 (Nat.le_of_eq hg.symm)) hb);replace HL1427_1:=A_ (Kd.V_below (Kd.V_elderB (by (with_reducible repeat (first | apply Kd.V_alloc | apply Kd.V_drewN | apply Kd.V_drew));exact HL1427_1.out) gb1440 (Nat.le_of_eq hg.symm)) hb);replace HO1430:=rb_ HO1430 hb;replace HO1433:=rb_ HO1433 hb;replace HO1436:=rb_ HO1436 hb;replace HO1439:=rb_ HO1439 hb;replace HR1427_0:=A_ (cD_ (by repeat (first | (with_reducible exact HR1427_0.out) | (with_reducible refine cA_ ?_ _) | (with_reducible refine cB_ ?_ _) | (with_reducible refine cC_ ?_) | exact HR1427_0.out)) hb);replace HR1427_1:=A_ (cD_ (by repeat (first | (with_reducible exact HR1427_1.out) | (with_reducible refine cA_ ?_ _) | (with_reducible refine cB_ ?_ _) | (with_reducible refine cC_ ?_) | exact HR1427_1.out)) hb);have BK1440:=A_ hbox;have GW1440:=gw_ w hg;have GE1440:=GW1440;replace HB:=b1_ hb;have NB1410_1440:=gN_ BK1410 hg;have NB1440_1410:=gP_ BK1410 hg;replace BK1410:=bb_ BK1410 hb;clear hb hbox hg;obtain ⟨Ao36,co36,eo36⟩:=Kd.R_slice HO1436.out;subst eo36;have hnb37:=NB1440_1410.out;have hnc37:=NB1410_1440.out;obtain ⟨hcz38_0,hcz38_1,hfz38_0,hfz38_1⟩:=c2_ BK1440;obtain ⟨Ao39,co39,eo39⟩:=Kd.R_slice HO1439.out;subst eo39) | ((with_reducible refine gA_ (f:=97) rfl ?_);refine gL_ (some 36) Try.func97 #[.slice (some ad1427) x5_2.length co30,.agg #[.slice Ao36 t1434.length co36,.slice Ao39 t1437.length co39]] rfl qa_ ?_;(with_reducible refine (Z64.calls k2 _ _ x5_2 _ _ t1434 _ _ t1437 t1441 _ ?side1 ?side2 ?side3 ?side4 ?side5 ?side6 A24.out).mono ?_);(case side1=>refine (Kd.N_reads' (e:=33) (base:=w.heap.size) (ok:=fun k_=>(((((((w.heap.size≤k_)∧(some k_≠(u6:Value).ownBlock∧(some k_≠(.slice (some ad1426) y1423.length co16:Value).ownBlock∧k_≠gb1410)))∧some k_≠(.slice Ao32 t1428.length co32:Value).ownBlock)∧some k_≠(.slice Ao33 t1431.length co33:Value).ownBlock)∧some k_≠(.slice Ao36 t1434.length co36:Value).ownBlock)∧some k_≠(.slice Ao39 t1437.length co39:Value).ownBlock)∧k_≠gb1440)) (n:=x5_2.length) (c:=co30) ?_).2.2;exact (by (with_reducible repeat (first | apply Kd.N_alloc | apply Kd.N_drewN | apply Kd.N_drew));exact (Kd.N_mono (Kd.N_far (p:=⟨gb1440,1,none⟩) (Kd.N_far (p:=⟨gb1440,0,none⟩) (Kd.N_mono HO_5.out (fun k_ hk=>(⟨hk,hk.2⟩:_∧k_≠gb1440))) (fun _ hk=>hk.2) (.slice Ao36 t1434.length co36)) (fun _ hk=>hk.2) (.slice Ao39 t1437.length co39)) (fun _ h_=>h_.1))));(case side2=>exact (Kd.N_reads' HO_5.out).2.1);(case side3=>refine (Kd.R_reads' (e:=3) (base:=w.heap.size) (ok:=fun k_=>((((w.heap.size≤k_)∧some k_≠(.slice Ao39 t1437.length co39:Value).ownBlock)∧some k_≠(.slice Ao32 t1428.length co32:Value).ownBlock)∧some k_≠(.slice Ao33 t1431.length co33:Value).ownBlock)) (n:=t1434.length) (c:=co36) ?_).2.2;exact (rw_ (fa_ HO1436 BK1440)));(case side4=>exact (Kd.R_reads' HO1436.out).2.1);(case side5=>refine (Kd.R_reads' (e:=3) (base:=w.heap.size) (ok:=fun k_=>((((w.heap.size≤k_)∧some k_≠(.slice Ao36 t1434.length co36:Value).ownBlock)∧some k_≠(.slice Ao32 t1428.length co32:Value).ownBlock)∧some k_≠(.slice Ao33 t1431.length co33:Value).ownBlock)) (n:=t1437.length) (c:=co39) ?_).2.2;exact (rw_ (fa_ HO1439 BK1440)));(case side6=>exact (Kd.R_reads' HO1439.out).2.1);rintro e w40 ⟨rfl,hb⟩;refine ⟨_,rfl,?_⟩;replace HO_5:=A_ (Kd.N_below (by (with_reducible repeat (first | apply Kd.N_alloc | apply Kd.N_drewN | apply Kd.N_drew));exact (Kd.N_mono (Kd.N_far (p:=⟨gb1440,1,none⟩) (Kd.N_far (p:=⟨gb1440,0,none⟩) (Kd.N_mono HO_5.out (fun k_ hk=>(⟨hk,hk.2⟩:_∧k_≠gb1440))) (fun _ hk=>hk.2) (.slice Ao36 t1434.length co36)) (fun _ hk=>hk.2) (.slice Ao39 t1437.length co39)) (fun _ h_=>h_.1))) hb);replace HO_6:=A_ (rD_ (rw_ (fa_ HO_6 BK1440)) hb);replace HO_21:=A_ (rD_ (rw_ (fa_ HO_21 BK1440)) hb);replace HO1430:=A_ (rD_ (rw_ (fa_ HO1430 BK1440)) hb);replace HO1433:=A_ (rD_ (rw_ (fa_ HO1433 BK1440)) hb);replace HO1436:=A_ (rD_ (rw_ (fa_ HO1436 BK1440)) hb);replace HO1439:=A_ (rD_ (rw_ (fa_ HO1439 BK1440)) hb);replace BK1410:=A_ (kE_ (g:=gb1410) (o:=.cells #[.slice A0_0 l0_0.length c0_0,.slice A0_1 l0_1.length c0_1] 33 (0,0)) (by (with_reducible repeat (first | refine kA_ ?_ _ | refine kB_ ?_ | refine kC_ ?_ _));refine blk_far ?_ NB1410_1440.out _;(with_reducible repeat (first | refine kA_ ?_ _ | refine kB_ ?_ | refine kC_ ?_ _));refine blk_far ?_ NB1410_1440.out _;(with_reducible repeat (first | refine kA_ ?_ _ | refine kB_ ?_ | refine kC_ ?_ _));exact BK1410.out) hb);replace HR1427_0:=A_ (cD_ ((Kd.V_reads' (by (with_reducible repeat (first | apply Kd.V_alloc | apply Kd.V_drewN | apply Kd.V_drew));exact (Kd.V_mono (Kd.V_far (p:=⟨gb1440,1,none⟩) (Kd.V_far (p:=⟨gb1440,0,none⟩) (Kd.V_mono HL1427_0.out (fun k_ hk=>(⟨hk,hk.2⟩:_∧k_≠gb1440))) (fun _ hk=>hk.2) (.slice Ao36 t1434.length co36)) (fun _ hk=>hk.2) (.slice Ao39 t1437.length co39)) (fun _ h_=>h_.1)))).2.2) hb);replace HL1427_0:=A_ (Kd.V_below (by (with_reducible repeat (first | apply Kd.V_alloc | apply Kd.V_drewN | apply Kd.V_drew));exact (Kd.V_mono (Kd.V_far (p:=⟨gb1440,1,none⟩) (Kd.V_far (p:=⟨gb1440,0,none⟩) (Kd.V_mono HL1427_0.out (fun k_ hk=>(⟨hk,hk.2⟩:_∧k_≠gb1440))) (fun _ hk=>hk.2) (.slice Ao36 t1434.length co36)) (fun _ hk=>hk.2) (.slice Ao39 t1437.length co39)) (fun _ h_=>h_.1))) hb);replace HR1427_1:=A_ (cD_ ((Kd.V_reads' (by (with_reducible repeat (first | apply Kd.V_alloc | apply Kd.V_drewN | apply Kd.V_drew));exact (Kd.V_mono (Kd.V_far (p:=⟨gb1440,1,none⟩) (Kd.V_far (p:=⟨gb1440,0,none⟩) (Kd.V_mono HL1427_1.out (fun k_ hk=>(⟨hk,hk.2⟩:_∧k_≠gb1440))) (fun _ hk=>hk.2) (.slice Ao36 t1434.length co36)) (fun _ hk=>hk.2) (.slice Ao39 t1437.length co39)) (fun _ h_=>h_.1)))).2.2) hb);replace HL1427_1:=A_ (Kd.V_below (by (with_reducible repeat (first | apply Kd.V_alloc | apply Kd.V_drewN | apply Kd.V_drew));exact (Kd.V_mono (Kd.V_far (p:=⟨gb1440,1,none⟩) (Kd.V_far (p:=⟨gb1440,0,none⟩) (Kd.V_mono HL1427_1.out (fun k_ hk=>(⟨hk,hk.2⟩:_∧k_≠gb1440))) (fun _ hk=>hk.2) (.slice Ao36 t1434.length co36)) (fun _ hk=>hk.2) (.slice Ao39 t1437.length co39)) (fun _ h_=>h_.1))) hb);replace BK1440:=A_ (kE_ (g:=gb1440) (o:=.cells #[.slice Ao36 t1434.length co36,.slice Ao39 t1437.length co39] 33 (0,0)) qp_ hb);replace HB:=b1_ hb;clear hb;obtain ⟨hcz41_0,hcz41_1,hfz41_0,hfz41_1⟩:=c2_ BK1440) | ((with_reducible refine gate_builtin (b:=.append) (xs:=#[.tmp 38,.tmp 40]) rfl ?_);at_builtin;refine Kd.N_append k33 (w0:=w) w.heap.size rfl (.tmp 38) (.tmp 40) 25 33 (.agg #[(.slice none 0 0),(.slice none 0 0)]) 48 rfl Try.underlying25 info33 rfl (by decide) (by omega) (.slice (some ad1427) x5_2.length co30) x5_2 (⟨t1434,t1437⟩:S33) [.slice Ao36 t1434.length co36,.slice Ao39 t1437.length co39] (fun k_=>(w.heap.size≤k_)∧some k_≠(u6:Value).ownBlock∧some k_≠(.slice (some ad1426) y1423.length co16:Value).ownBlock∧some k_≠(.slice Ao32 t1428.length co32:Value).ownBlock∧some k_≠(.slice Ao33 t1431.length co33:Value).ownBlock∧k_≠gb1410∧k_≠gb1440) (fun k_=>((fun k_=>(w.heap.size≤k_)∧some k_≠(u6:Value).ownBlock∧some k_≠(.slice (some ad1426) y1423.length co16:Value).ownBlock∧some k_≠(.slice Ao32 t1428.length co32:Value).ownBlock∧some k_≠(.slice Ao33 t1431.length co33:Value).ownBlock∧k_≠gb1410∧k_≠gb1440)) k_∧some k_≠(.slice (some ad1427) x5_2.length co30:Value).ownBlock) rfl rfl ?aP (fun _ hk=>hk) ?aF ?aO ?aB ?aS ?aL ?_;(case aP=>exact (k33_mkF _ _ (⟨t1434,t1437⟩:S33) (Kd.R_reads' (Kd.R_mono (ok':=(fun k_=>((fun k_=>(w.heap.size≤k_)∧some k_≠(u6:Value).ownBlock∧some k_≠(.slice (some ad1426) y1423.length co16:Value).ownBlock∧some k_≠(.slice Ao32 t1428.length co32:Value).ownBlock∧some k_≠(.slice Ao33 t1431.length co33:Value).ownBlock∧k_≠gb1410∧k_≠gb1440)) k_∧some k_≠(.slice (some ad1427) x5_2.length co30:Value).ownBlock)) (Kd.R_types (Kd.R_types (Kd.R_apart' (Kd.R_apart' (Kd.R_apart' (HO1436.out) (Kd.R_typed HO_6.out) (by decide)) (Kd.R_typed HO_21.out) (by decide)) (Kd.N_typed HO_5.out) (by decide)) BK1410.out (by decide)) BK1440.out (by decide)) (fun k_ hk=>⟨⟨hk.1.1.1.1.1.1.1.1,⟨hk.1.1.1.1.2,⟨hk.1.1.1.2,⟨hk.1.1.1.1.1.1.2,⟨hk.1.1.1.1.1.2,⟨hk.1.2,hk.2⟩⟩⟩⟩⟩⟩,hk.1.1.2⟩))).2.1 (Kd.R_F (Kd.R_mono (ok':=(fun k_=>((fun k_=>(w.heap.size≤k_)∧some k_≠(u6:Value).ownBlock∧some k_≠(.slice (some ad1426) y1423.length co16:Value).ownBlock∧some k_≠(.slice Ao32 t1428.length co32:Value).ownBlock∧some k_≠(.slice Ao33 t1431.length co33:Value).ownBlock∧k_≠gb1410∧k_≠gb1440)) k_∧some k_≠(.slice (some ad1427) x5_2.length co30:Value).ownBlock)) (Kd.R_types (Kd.R_types (Kd.R_apart' (Kd.R_apart' (Kd.R_apart' (HO1436.out) (Kd.R_typed HO_6.out) (by decide)) (Kd.R_typed HO_21.out) (by decide)) (Kd.N_typed HO_5.out) (by decide)) BK1410.out (by decide)) BK1440.out (by decide)) (fun k_ hk=>⟨⟨hk.1.1.1.1.1.1.1.1,⟨hk.1.1.1.1.2,⟨hk.1.1.1.2,⟨hk.1.1.1.1.1.1.2,⟨hk.1.1.1.1.1.2,⟨hk.1.2,hk.2⟩⟩⟩⟩⟩⟩,hk.1.1.2⟩))) (Kd.R_reads' (Kd.R_mono (ok':=(fun k_=>((fun k_=>(w.heap.size≤k_)∧some k_≠(u6:Value).ownBlock∧some k_≠(.slice (some ad1426) y1423.length co16:Value).ownBlock∧some k_≠(.slice Ao32 t1428.length co32:Value).ownBlock∧some k_≠(.slice Ao33 t1431.length co33:Value).ownBlock∧k_≠gb1410∧k_≠gb1440)) k_∧some k_≠(.slice (some ad1427) x5_2.length co30:Value).ownBlock)) (Kd.R_types (Kd.R_types (Kd.R_apart' (Kd.R_apart' (Kd.R_apart' (HO1439.out) (Kd.R_typed HO_6.out) (by decide)) (Kd.R_typed HO_21.out) (by decide)) (Kd.N_typed HO_5.out) (by decide)) BK1410.out (by decide)) BK1440.out (by decide)) (fun k_ hk=>⟨⟨hk.1.1.1.1.1.1.1.1,⟨hk.1.1.1.1.2,⟨hk.1.1.1.2,⟨hk.1.1.1.1.1.1.2,⟨hk.1.1.1.1.1.2,⟨hk.1.2,hk.2⟩⟩⟩⟩⟩⟩,hk.1.1.2⟩))).2.1 (Kd.R_F (Kd.R_mono (ok':=(fun k_=>((fun k_=>(w.heap.size≤k_)∧some k_≠(u6:Value).ownBlock∧some k_≠(.slice (some ad1426) y1423.length co16:Value).ownBlock∧some k_≠(.slice Ao32 t1428.length co32:Value).ownBlock∧some k_≠(.slice Ao33 t1431.length co33:Value).ownBlock∧k_≠gb1410∧k_≠gb1440)) k_∧some k_≠(.slice (some ad1427) x5_2.length co30:Value).ownBlock)) (Kd.R_types (Kd.R_types (Kd.R_apart' (Kd.R_apart' (Kd.R_apart' (HO1439.out) (Kd.R_typed HO_6.out) (by decide)) (Kd.R_typed HO_21.out) (by decide)) (Kd.N_typed HO_5.out) (by decide)) BK1410.out (by decide)) BK1440.out (by decide)) (fun k_ hk=>⟨⟨hk.1.1.1.1.1.1.1.1,⟨hk.1.1.1.1.2,⟨hk.1.1.1.2,⟨hk.1.1.1.1.1.1.2,⟨hk.1.1.1.1.1.2,⟨hk.1.2,hk.2⟩⟩⟩⟩⟩⟩,hk.1.1.2⟩)))));(case aB=>exact hB_);(case aF=>exact (fun k_ hk=>⟨(Nat.le_trans (bF_ hB_) hk),Kd.fresh' (Kd.R_lt (rr_ HO_6)) k_ hk,Kd.fresh' (Kd.R_lt (rr_ HO_21)) k_ hk,Kd.fresh' (Kd.R_lt (rr_ HO1430)) k_ hk,Kd.fresh' (Kd.R_lt (rr_ HO1433)) k_ hk,Kd.freshB (kk_ BK1410) k_ hk,Kd.freshB (kk_ BK1440) k_ hk⟩));(case aO=>exact (by (with_reducible repeat (first | apply Kd.N_alloc | apply Kd.N_drewN | apply Kd.N_drew));exact Kd.N_mono HO_5.out (fun _ hk=>⟨hk.1.1.1.1.1.1,⟨hk.1.1.1.1.1.2.1,⟨hk.1.1.1.1.1.2.2.1,⟨hk.1.1.1.1.2,⟨hk.1.1.1.2,⟨hk.1.1.1.1.1.2.2.2,hk.2⟩⟩⟩⟩⟩⟩)));(case aS=>exact (bF_ hB_));(case aL=>have:=LMc26.out;omega);intro v1443 w42 ho hb hg hat;rw [← Ny1442.out] at ho;replace HO_6:=A_ (Kd.R_over' (rr_ HO_6) (Kd.N_typed (by (with_reducible repeat (first | apply Kd.N_alloc | apply Kd.N_drewN | apply Kd.N_drew));exact HO_5.out)) (by decide) hg);replace HO_21:=A_ (Kd.R_over' (rr_ HO_21) (Kd.N_typed (by (with_reducible repeat (first | apply Kd.N_alloc | apply Kd.N_drewN | apply Kd.N_drew));exact HO_5.out)) (by decide) hg);replace BK1410:=A_ (blk_grown (kk_ BK1410) hg (Kd.N_away HO_5.out (fun _ hk=>hk.1.1.1.1.1.2.2.2)));replace HL1427_0:=A_ (Kd.V_afterv (ok:=(fun k_=>(w.heap.size≤k_)∧some k_≠(u6:Value).ownBlock∧some k_≠(.slice (some ad1426) y1423.length co16:Value).ownBlock∧some k_≠(.slice Ao32 t1428.length co32:Value).ownBlock∧some k_≠(.slice Ao33 t1431.length co33:Value).ownBlock∧some k_≠(.slice Ao36 t1434.length co36:Value).ownBlock∧some k_≠(.slice Ao39 t1437.length co39:Value).ownBlock∧k_≠gb1410∧k_≠gb1440)) (by (with_reducible repeat (first | apply Kd.V_alloc | apply Kd.V_drewN | apply Kd.V_drew));exact Kd.V_mono HL1427_0.out (fun _ hk=>⟨⟨hk.1.1.1.1.1.1.1,⟨hk.1.1.1.1.1.1.2.1,⟨hk.1.1.1.1.1.1.2.2.1,⟨hk.1.1.1.1.2,⟨hk.1.1.1.2,⟨hk.1.1.2,⟨hk.1.2,⟨hk.1.1.1.1.1.1.2.2.2,hk.2⟩⟩⟩⟩⟩⟩⟩⟩,hk.1.1.1.1.1.2⟩)) hg hat);replace HL1427_1:=A_ (Kd.V_afterv (ok:=(fun k_=>(w.heap.size≤k_)∧some k_≠(u6:Value).ownBlock∧some k_≠(.slice (some ad1426) y1423.length co16:Value).ownBlock∧some k_≠(.slice Ao32 t1428.length co32:Value).ownBlock∧some k_≠(.slice Ao33 t1431.length co33:Value).ownBlock∧some k_≠(.slice Ao36 t1434.length co36:Value).ownBlock∧some k_≠(.slice Ao39 t1437.length co39:Value).ownBlock∧k_≠gb1410∧k_≠gb1440)) (by (with_reducible repeat (first | apply Kd.V_alloc | apply Kd.V_drewN | apply Kd.V_drew));exact Kd.V_mono HL1427_1.out (fun _ hk=>⟨⟨hk.1.1.1.1.1.1.1,⟨hk.1.1.1.1.1.1.2.1,⟨hk.1.1.1.1.1.1.2.2.1,⟨hk.1.1.1.1.2,⟨hk.1.1.1.2,⟨hk.1.1.2,⟨hk.1.2,⟨hk.1.1.1.1.1.1.2.2.2,hk.2⟩⟩⟩⟩⟩⟩⟩⟩,hk.1.1.1.1.1.2⟩)) hg hat);replace HO1430:=A_ (Kd.R_over' (rr_ HO1430) (Kd.N_typed (by (with_reducible repeat (first | apply Kd.N_alloc | apply Kd.N_drewN | apply Kd.N_drew));exact HO_5.out)) (by decide) hg);replace HO1433:=A_ (Kd.R_over' (rr_ HO1433) (Kd.N_typed (by (with_reducible repeat (first | apply Kd.N_alloc | apply Kd.N_drewN | apply Kd.N_drew));exact HO_5.out)) (by decide) hg);replace BK1440:=A_ (blk_grown (kk_ BK1440) hg (Kd.N_away HO_5.out (fun _ hk=>hk.2)));replace HB:=A_ hb;have HO1444:=A_ ho;clear HO_5 HO1436 HO1439;clear ho hb hg hat;obtain ⟨Ao43,co43,eo43⟩:=Kd.R_slice HO_6.out;subst eo43;have p1445:0≤(x7_1:Int):=oB_ qe_;have q1445:x7_1 < (x6_2.length:Int):=oB_ qe_;obtain ⟨ad1445,e1445,hx1445_0⟩:=Kd.at_string (Kd.R_reads' HO_6.out).2.2 x7_1 p1445 q1445;cases e1445;replace p1445:=eq_true p1445;replace q1445:=eq_true q1445))
        replace HO_6:=A_ (rC_ HO_6.out)
        replace HO_21:=A_ (rC_ HO_21.out)
        replace HL1427_0:=A_ (Kd.V_drew HL1427_0.out)
        replace HL1427_1:=A_ (Kd.V_drew HL1427_1.out)
        replace HO1430:=A_ (rC_ HO1430.out)
        replace HO1433:=A_ (rC_ HO1433.out)
        replace HO1444:=A_ (Kd.N_drew HO1444.out)
        replace BK1410:=A_ (kB_ BK1410.out)
        replace BK1440:=A_ (kB_ BK1440.out)
        replace HB:=A_ (bC_ HB.out)
        have hx_:w42.drew.cell? (ad1445.add (x7_1).toNat) = some (.string (rdOf ByteArray.empty x6_2 x7_1)):=hx1445_0
        refine start_ (n:=12) (S:=fun w'=>w'.cell? (ad1445.add (x7_1).toNat) = some (.string (rdOf ByteArray.empty x6_2 x7_1))) (ds:=[10]) (bl_ 12 0) (by kernel_rfl) rfl (by kernel_rfl) hx_ (fun hHeld=>?_);refine with_tabW Z57.tab12 Z57.bits12 (fun HT_ HW_=>?_)
        generalize w42.drew = w44 at HO_6 HO_21 HL1427_0 HL1427_1 HO1430 HO1433 HO1444 BK1410 BK1440 HB hHeld ⊢
        refine pu_ 0 (some 42) (bl_ 12 1) HT_ ?_
        refine pu_ 1 (some 43) (bl_ 12 3) HT_ ?_
        refine pu_ 2 (some 44) (bl_ 12 7) HT_ ?_
        refine pu_ 3 (some 45) (bl_ 12 15) HT_ ?_
        refine ta_ 4 (some 46) (bl_ 12 31) HT_ HW_ hHeld ?_
        refine pu_ 5 (some 47) (bl_ 12 63) HT_ ?_
        refine on_ 6 (some 48) (bl_ 12 127) HT_ (fun K hK=>?_)
        refine Kd.R_lit_step (Kd.int .u8) _ 5 ?hg (N:=48) ?hd (xs:=([rd y1423 x23_2]:List Int)) (inner:=[.int .u8 (rd y1423 x23_2)]) (ok:=fun _=>True) (okp:=fun _=>True) ?hr ?hp (fun _ hk=>hk) trivial (Below.refl _ _) (nA_ _) (by simp) ?_;(case hd=>rfl);(case hg=>rfl);(case hr=>first | (go_simp;done) | (go_simp;rfl));(case hp=>exact (Reps.one (show Kd.M (Kd.int .u8) _ _ _ (rd y1423 x23_2) [.int .u8 (rd y1423 x23_2)] from rfl) (Reps.none _ _)))
        intro v1447 w45 ho46 hb hg_ hnew_
        have hS1_:=(hb.cell (World.block_lt_of_cell? _ _ hHeld)).trans hHeld
        clear hg_ hnew_
        (first | rw [← Ny1446.out] at ho46 | (simp only [Int.reduceToNat] at ho46;rw [← Ny1446.out] at ho46))
        replace HO_6:=rb_ HO_6 hb
        replace HL1427_0:=A_ (Kd.V_elder' (by (with_reducible repeat (first | apply Kd.V_alloc | apply Kd.V_drewN | apply Kd.V_drew));exact HL1427_0.out) (Kd.R_base ho46) hb)
        replace HL1427_1:=A_ (Kd.V_elder' (by (with_reducible repeat (first | apply Kd.V_alloc | apply Kd.V_drewN | apply Kd.V_drew));exact HL1427_1.out) (Kd.R_base ho46) hb)
        replace HO1430:=rb_ HO1430 hb
        replace HO1433:=rb_ HO1433 hb
        replace HO1444:=A_ (Kd.N_elder' (by (with_reducible repeat (first | apply Kd.N_alloc | apply Kd.N_drewN | apply Kd.N_drew));exact HO1444.out) (Kd.R_base ho46) hb)
        have HO1448:=A_ (rE_ (Kd.R_new' (Kd.R_newM (M:=fun k_=>(w.heap.size≤k_)) ho46 (bF_ hB_) (fun k_ h_=>h_)) (Kd.R_lt (rr_ HO_21))) (bF_ hB_))
        replace HO_21:=A_ (Kd.R_elder' (rr_ HO_21) (Kd.R_base ho46) hb)
        replace BK1410:=bb_ BK1410 hb
        replace BK1440:=bb_ BK1440 hb
        replace HB:=b1_ hb
        clear hb ho46
        refine hK.out _ _ hS1_ (fun hHeld=>?_)
        clear hK K
        refine no_ (some 48) ?_
        refine on_ 7 (some 49) (bl_ 12 255) HT_ (fun K hK=>?_)
        have hcv47:=own_string (P:=Try.prog) Try.underlying22 Try.underlying5 Try.underlying9 (Kd.own_of_R HO1448.out)
        refine value_ (w1:=?_) (v:=?_) (by rfl) rfl ?_ ?_
        rotate_left 2
        ·go_simp
         constructor
         ·rfl
         ·rfl
        clear hcv47
        refine hK.out _ _ hHeld (fun hHeld=>?_)
        clear hK K
        refine no_ (some 49) ?_
        refine pu_ 8 (some 50) (bl_ 12 511) HT_ ?_
        refine on_ 9 (some 51) (bl_ 12 1023) HT_ (fun K hK=>?_)
        refine value_ (w1:=?_) (v:=?_) (by rfl) rfl ?_ ?_
        rotate_left 2
        ·go_simp
         constructor
         ·rfl
         ·rfl
        refine hK.out _ _ (by first | exact hHeld | exact ((bA_ (Below.refl _ _) _).cell (World.block_lt_of_cell? _ _ hHeld)).trans hHeld) (fun hHeld=>?_)
        clear hK K
        refine no_ (some 51) ?_
        refine last_ (i:=10) (N:=some 52) (bl_ 12 2047) rfl rfl (one_of HT_.out (by kernel_rfl)) (by decide) (fun K hK=>?_)
        refine Kd.R_append_step Kd.string (w0:=w) w.heap.size (by rfl) (.tmp 42) (.tmp 51) 94 9 (.string ⟨#[]⟩) 16 rfl Try.underlying94 info9 rfl (by decide) (by omega) (.slice (some ad1445) x6_2.length co43) x6_2 ((rdOf ByteArray.empty x6_2 x7_1) ++ (strOfNums y1446)) [.string ((rdOf ByteArray.empty x6_2 x7_1) ++ (strOfNums y1446))] (fun k_=>(w.heap.size≤k_)) (fun _=>False) rfl rfl ?aP (fun _ hk=>hk.elim) ?aF ?aO ?aB ?aS ?aL ?_
        (case aP=>exact rfl)
        (case aB=>exact hB_)
        (case aF=>exact (fun k_ hk=>(Nat.le_trans (bF_ hB_) hk)))
        (case aO=>exact (rr_ HO_6))
        (case aS=>exact (bF_ hB_))
        (case aL=>have:=LMc29.out;omega)
        intro v1450 w48 ho hb hg hat
        rw [← Ny1449.out] at ho
        replace HO_21:=A_ (Kd.R_over' (rr_ HO_21) (Kd.R_typed (rr_ HO_6)) (by decide) hg)
        replace BK1410:=A_ (blk_grown (kk_ BK1410) hg (Kd.R_ne HO_6.out BK1410.out (by decide)))
        replace HL1427_0:=A_ (Kd.V_afterv (ok:=(fun k_=>(w.heap.size≤k_)∧some k_≠(.slice (some ad1426) y1423.length co16:Value).ownBlock∧some k_≠(.slice Ao32 t1428.length co32:Value).ownBlock∧some k_≠(.slice Ao33 t1431.length co33:Value).ownBlock∧some k_≠(v1443:Value).ownBlock∧some k_≠(v1447:Value).ownBlock∧k_≠gb1410∧k_≠gb1440)) (by (with_reducible repeat (first | apply Kd.V_alloc | apply Kd.V_drewN | apply Kd.V_drew));exact Kd.V_mono HL1427_0.out (fun _ hk=>⟨⟨hk.1.1.1,⟨hk.1.1.2.2.1,⟨hk.1.1.2.2.2.1,⟨hk.1.1.2.2.2.2.1,⟨hk.1.2,⟨hk.2,⟨hk.1.1.2.2.2.2.2.2.2.1,hk.1.1.2.2.2.2.2.2.2.2⟩⟩⟩⟩⟩⟩⟩,hk.1.1.2.1⟩)) hg hat)
        replace HL1427_1:=A_ (Kd.V_afterv (ok:=(fun k_=>(w.heap.size≤k_)∧some k_≠(.slice (some ad1426) y1423.length co16:Value).ownBlock∧some k_≠(.slice Ao32 t1428.length co32:Value).ownBlock∧some k_≠(.slice Ao33 t1431.length co33:Value).ownBlock∧some k_≠(v1443:Value).ownBlock∧some k_≠(v1447:Value).ownBlock∧k_≠gb1410∧k_≠gb1440)) (by (with_reducible repeat (first | apply Kd.V_alloc | apply Kd.V_drewN | apply Kd.V_drew));exact Kd.V_mono HL1427_1.out (fun _ hk=>⟨⟨hk.1.1.1,⟨hk.1.1.2.2.1,⟨hk.1.1.2.2.2.1,⟨hk.1.1.2.2.2.2.1,⟨hk.1.2,⟨hk.2,⟨hk.1.1.2.2.2.2.2.2.2.1,hk.1.1.2.2.2.2.2.2.2.2⟩⟩⟩⟩⟩⟩⟩,hk.1.1.2.1⟩)) hg hat)
        replace HO1430:=A_ (Kd.R_over' (rr_ HO1430) (Kd.R_typed (rr_ HO_6)) (by decide) hg)
        replace HO1433:=A_ (Kd.R_over' (rr_ HO1433) (Kd.R_typed (rr_ HO_6)) (by decide) hg)
        replace BK1440:=A_ (blk_grown (kk_ BK1440) hg (Kd.R_ne HO_6.out BK1440.out (by decide)))
        replace HO1444:=A_ (Kd.N_afterv (ok:=(fun k_=>(w.heap.size≤k_)∧some k_≠(.slice (some ad1426) y1423.length co16:Value).ownBlock∧some k_≠(.slice Ao32 t1428.length co32:Value).ownBlock∧some k_≠(.slice Ao33 t1431.length co33:Value).ownBlock∧some k_≠(v1447:Value).ownBlock∧k_≠gb1410∧k_≠gb1440)) (by (with_reducible repeat (first | apply Kd.N_alloc | apply Kd.N_drewN | apply Kd.N_drew));exact Kd.N_mono HO1444.out (fun _ hk=>⟨⟨hk.1.1,⟨hk.1.2.2.1,⟨hk.1.2.2.2.1,⟨hk.1.2.2.2.2.1,⟨hk.2,⟨hk.1.2.2.2.2.2.1,hk.1.2.2.2.2.2.2⟩⟩⟩⟩⟩⟩,hk.1.2.1⟩)) hg hat)
        replace HO1448:=A_ (Kd.R_over' (rr_ HO1448) (Kd.R_typed (rr_ HO_6)) (by decide) hg)
        replace HB:=A_ hb
        have HO1451:=A_ ho
        clear HO_6
        clear ho hb hg hat
        refine hK.out _ _ ?_
        clear hK K
        refine no_ (some 52) ?_
        refine pu_ 11 (some 6) (bl_ 12 4095) HT_ ?_
        refine done_ (done_of HT_.out (by kernel_rfl)) ?_
        try go_wp2
        go_roundg k2
        case measure=>have:=HK1.out;have:=HK2.out;omega
        case rel=>exact ⟨(y1442),(y1449),(wrap64 (x23_2 + 1)),qc_,H',⟨by have:=HK1.out;have:=HK2.out;omega⟩,⟨by (with_reducible repeat (first | apply Kd.N_alloc | apply Kd.N_drewN | apply Kd.N_drew));exact Kd.N_mono HO1444.out (fun _ hk=>⟨hk.1.1,⟨hk.2,⟨hk.1.2.1,hk.1.2.2.2.2.2.1⟩⟩⟩)⟩,⟨(rr_ HO1451)⟩,⟨(rw_ (Kd.R_mono HO_21.out (fun _ hk=>hk.1)))⟩,⟨(kk_ BK1410)⟩,⟨hB_⟩⟩
       ·rw [if_neg c25] at H
        have c25b0:=oD_ c25
        clear c25
        have H':=A_ H
        clear H
        have p1426:0≤(x23_2:Int):=oB_ qe_
        have q1426:x23_2 < (y1423.length:Int):=oB_ qe_
        obtain ⟨ad1426,e1426,hx1426_0⟩:=Kd.at_int (Kd.R_reads' HO_21.out).2.2 x23_2 p1426 q1426
        cases e1426
        replace p1426:=eq_true p1426
        replace q1426:=eq_true q1426
        obtain ⟨Ao49,co49,eo49⟩:=Kd.N_slice HO_5.out
        subst eo49
        have p1427:0≤(x7_1:Int):=oB_ qe_
        have q1427:x7_1 < (x5_2.length:Int):=oB_ qe_
        obtain ⟨ad1427,A1427_0,c1427_0,A1427_1,c1427_1,e1427,hx1427_0,hx1427_1,hl1427_0,hi1427_0,hl1427_1,hi1427_1⟩:=at_T33 (Kd.N_reads' HO_5.out).2.2 x7_1 p1427 q1427
        cases e1427
        obtain ⟨ce1427,hce1427,hMe1427,hcc1427⟩:=Kd.N_get HO_5.out z33 x7_1 p1427 (by first | exact q1427 | exact oB_ qe_ | (have e_:=(Kd.N_reads' HO_5.out).1;omega))
        obtain ⟨ua1427_0,uc1427_0,ua1427_1,uc1427_1,rfl,ul1427_0,ge1427_0,ul1427_1,ge1427_1⟩:=k33_openF hMe1427
        have hv1427_0:=hcc1427 0 _ rfl
        rw [Nat.add_zero] at hv1427_0
        replace hv1427_0:=Option.some.inj (hv1427_0.symm.trans hx1427_0)
        injection hv1427_0 with hva_ hvn_ hvc_
        rw [hva_] at ge1427_0
        rw [hvc_] at ul1427_0
        have HL1427_0:=A_ (show Kd.V (Kd.int .i64) 3 _ w.heap.size _ _ ((rd_T33 x5_2 x7_1).f0) from Kd.V_mk ul1427_0 ge1427_0)
        clear hva_ hvn_ hvc_ ge1427_0 ul1427_0
        have hv1427_1:=hcc1427 1 _ rfl
        rw [add_field _ _ 1 (by omega)] at hv1427_1
        replace hv1427_1:=Option.some.inj (hv1427_1.symm.trans hx1427_1)
        injection hv1427_1 with hva_ hvn_ hvc_
        rw [hva_] at ge1427_1
        rw [hvc_] at ul1427_1
        have HL1427_1:=A_ (show Kd.V (Kd.int .i64) 3 _ w.heap.size _ _ ((rd_T33 x5_2 x7_1).f1) from Kd.V_mk ul1427_1 ge1427_1)
        clear hva_ hvn_ hvc_ ge1427_1 ul1427_1
        clear hcc1427 hce1427
        have HR1427_0:=A_ hi1427_0
        have HC1427_0:=A_ hl1427_0
        clear hi1427_0 hl1427_0
        have HR1427_1:=A_ hi1427_1
        have HC1427_1:=A_ hl1427_1
        clear hi1427_1 hl1427_1
        replace p1427:=eq_true p1427
        replace q1427:=eq_true q1427
        go_wp2_with (first | ((with_reducible refine gA_ (f:=136) rfl ?_);refine gL_ (some 32) Try.func136 #[.agg #[.slice A1427_0 ((rd_T33 x5_2 x7_1).f0).length c1427_0,.slice A1427_1 ((rd_T33 x5_2 x7_1).f1).length c1427_1],.int .u8 (rd y1423 x23_2)] rfl qa_ ?_;(with_reducible refine (Z42.calls k2 _ _ ((rd_T33 x5_2 x7_1).f0) _ _ ((rd_T33 x5_2 x7_1).f1) (rd y1423 x23_2) t1428 t1431 _ ?side1 ?side2 ?side3 ?side4 A22.out).mono ?_);(case side1=>repeat (first | exact (by repeat (first | (with_reducible exact HR1427_0.out) | (with_reducible refine cA_ ?_ _) | (with_reducible refine cB_ ?_ _) | (with_reducible refine cC_ ?_) | exact HR1427_0.out)) | (with_reducible first | refine cA_ ?_ _ | refine cB_ ?_ _ | refine cC_ ?_)));(case side2=>exact HC1427_0.out);(case side3=>repeat (first | exact (by repeat (first | (with_reducible exact HR1427_1.out) | (with_reducible refine cA_ ?_ _) | (with_reducible refine cB_ ?_ _) | (with_reducible refine cC_ ?_) | exact HR1427_1.out)) | (with_reducible first | refine cA_ ?_ _ | refine cB_ ?_ _ | refine cC_ ?_)));(case side4=>exact HC1427_1.out);rintro e w50 ⟨v1429,v1432,rfl,ho0,ho1,hb⟩;refine ⟨_,rfl,?_⟩;replace HO_5:=A_ (Kd.N_mono (Kd.N_told (Kd.N_told (Kd.N_old (by (with_reducible repeat (first | apply Kd.N_alloc | apply Kd.N_drewN | apply Kd.N_drew));exact HO_5.out) hb) (Kd.R_base ho0)) (Kd.R_base ho1)) (fun _ h_=>h_.1));replace HO_6:=rb_ HO_6 hb;replace HO_21:=rb_ HO_21 hb;replace HL1427_0:=A_ (Kd.V_mono (Kd.V_told (Kd.V_told (Kd.V_old (by (with_reducible repeat (first | apply Kd.V_alloc | apply Kd.V_drewN | apply Kd.V_drew));exact HL1427_0.out) hb) (Kd.R_base ho0)) (Kd.R_base ho1)) (fun _ h_=>h_.1));replace HL1427_1:=A_ (Kd.V_mono (Kd.V_told (Kd.V_told (Kd.V_old (by (with_reducible repeat (first | apply Kd.V_alloc | apply Kd.V_drewN | apply Kd.V_drew));exact HL1427_1.out) hb) (Kd.R_base ho0)) (Kd.R_base ho1)) (fun _ h_=>h_.1));have HO1430:=A_ (rE_ (Kd.R_newM (M:=fun k_=>(w.heap.size≤k_)) ho0 (bF_ hB_) (fun k_ h_=>h_)) (bF_ hB_));have HO1433:=A_ (rE_ (Kd.R_newM (M:=fun k_=>(w.heap.size≤k_)) ho1 (bF_ hB_) (fun k_ h_=>h_)) (bF_ hB_));replace BK1410:=bb_ BK1410 hb;replace HR1427_0:=A_ (cD_ (by repeat (first | (with_reducible exact HR1427_0.out) | (with_reducible refine cA_ ?_ _) | (with_reducible refine cB_ ?_ _) | (with_reducible refine cC_ ?_) | exact HR1427_0.out)) hb);replace HR1427_1:=A_ (cD_ (by repeat (first | (with_reducible exact HR1427_1.out) | (with_reducible refine cA_ ?_ _) | (with_reducible refine cB_ ?_ _) | (with_reducible refine cC_ ?_) | exact HR1427_1.out)) hb);replace HB:=b1_ hb;clear hb ho0 ho1;obtain ⟨Ao51,co51,eo51⟩:=Kd.R_slice HO1430.out;subst eo51;obtain ⟨Ao52,co52,eo52⟩:=Kd.R_slice HO1433.out;subst eo52) | ((with_reducible refine gA_ (f:=87) rfl ?_);refine gL_ (some 33) Try.func87 #[.agg #[.slice Ao51 t1428.length co51,.slice Ao52 t1431.length co52]] rfl qa_ ?_;(with_reducible refine (Z54.calls k2 _ _ t1428 _ _ t1431 t1434 t1437 _ (cr_ HO1430) ((Kd.R_reads' HO1430.out).2.1) (cr_ HO1433) ((Kd.R_reads' HO1433.out).2.1) A23.out).mono ?_);rintro e w53 ⟨v1435,v1438,rfl,ho0,ho1,hb⟩;refine ⟨_,rfl,?_⟩;replace HO_5:=A_ (Kd.N_mono (Kd.N_told (Kd.N_told (Kd.N_old (by (with_reducible repeat (first | apply Kd.N_alloc | apply Kd.N_drewN | apply Kd.N_drew));exact HO_5.out) hb) (Kd.R_base ho0)) (Kd.R_base ho1)) (fun _ h_=>h_.1));replace HO_6:=rb_ HO_6 hb;replace HO_21:=rb_ HO_21 hb;replace HL1427_0:=A_ (Kd.V_mono (Kd.V_told (Kd.V_told (Kd.V_old (by (with_reducible repeat (first | apply Kd.V_alloc | apply Kd.V_drewN | apply Kd.V_drew));exact HL1427_0.out) hb) (Kd.R_base ho0)) (Kd.R_base ho1)) (fun _ h_=>h_.1));replace HL1427_1:=A_ (Kd.V_mono (Kd.V_told (Kd.V_told (Kd.V_old (by (with_reducible repeat (first | apply Kd.V_alloc | apply Kd.V_drewN | apply Kd.V_drew));exact HL1427_1.out) hb) (Kd.R_base ho0)) (Kd.R_base ho1)) (fun _ h_=>h_.1));have HO1436:=A_ (rE_ (Kd.R_new' (Kd.R_new' (Kd.R_newM (M:=fun k_=>(w.heap.size≤k_)) ho0 (bF_ hB_) (fun k_ h_=>h_)) (Kd.R_lt (rr_ HO1430))) (Kd.R_lt (rr_ HO1433))) (bF_ hB_));have HO1439:=A_ (rE_ (Kd.R_new' (Kd.R_new' (Kd.R_newM (M:=fun k_=>(w.heap.size≤k_)) ho1 (bF_ hB_) (fun k_ h_=>h_)) (Kd.R_lt (rr_ HO1430))) (Kd.R_lt (rr_ HO1433))) (bF_ hB_));replace HO1430:=A_ (Kd.R_mono (Kd.R_told (Kd.R_told (Kd.R_old (rr_ HO1430) hb) (Kd.R_base ho0)) (Kd.R_base ho1)) (fun _ h_=>h_.1));replace HO1433:=A_ (Kd.R_mono (Kd.R_told (Kd.R_told (Kd.R_old (rr_ HO1433) hb) (Kd.R_base ho0)) (Kd.R_base ho1)) (fun _ h_=>h_.1));replace BK1410:=bb_ BK1410 hb;replace HR1427_0:=A_ (cD_ (by repeat (first | (with_reducible exact HR1427_0.out) | (with_reducible refine cA_ ?_ _) | (with_reducible refine cB_ ?_ _) | (with_reducible refine cC_ ?_) | exact HR1427_0.out)) hb);replace HR1427_1:=A_ (cD_ (by repeat (first | (with_reducible exact HR1427_1.out) | (with_reducible refine cA_ ?_ _) | (with_reducible refine cB_ ?_ _) | (with_reducible refine cC_ ?_) | exact HR1427_1.out)) hb);replace HB:=b1_ hb;clear hb ho0 ho1) | ((with_reducible refine gB_ (N:=10) rfl ?_);refine bx_ 10 #[.slice none 0 0,.slice none 0 0] 33 ?_;intro gb1440 hg w54 hbox hb;replace HO_5:=A_ (Kd.N_below (Kd.N_elderB (by (with_reducible repeat (first | apply Kd.N_alloc | apply Kd.N_drewN | apply Kd.N_drew));exact HO_5.out) gb1440 (Nat.le_of_eq hg.symm)) hb);replace HO_6:=rb_ HO_6 hb;replace HO_21:=rb_ HO_21 hb;replace HL1427_0:=A_ (Kd.V_below (Kd.V_elderB (by (with_reducible repeat (first | apply Kd.V_alloc | apply Kd.V_drewN | apply Kd.V_drew));exact HL1427_0.out) gb1440 (Nat.le_of_eq hg.symm)) hb);replace HL1427_1:=A_ (Kd.V_below (Kd.V_elderB (by (with_reducible repeat (first | apply Kd.V_alloc | apply Kd.V_drewN | apply Kd.V_drew));exact HL1427_1.out) gb1440 (Nat.le_of_eq hg.symm)) hb);replace HO1430:=rb_ HO1430 hb;replace HO1433:=rb_ HO1433 hb;replace HO1436:=rb_ HO1436 hb;replace HO1439:=rb_ HO1439 hb;replace HR1427_0:=A_ (cD_ (by repeat (first | (with_reducible exact HR1427_0.out) | (with_reducible refine cA_ ?_ _) | (with_reducible refine cB_ ?_ _) | (with_reducible refine cC_ ?_) | exact HR1427_0.out)) hb);replace HR1427_1:=A_ (cD_ (by repeat (first | (with_reducible exact HR1427_1.out) | (with_reducible refine cA_ ?_ _) | (with_reducible refine cB_ ?_ _) | (with_reducible refine cC_ ?_) | exact HR1427_1.out)) hb);have BK1440:=A_ hbox;have GW1440:=gw_ w hg;have GE1440:=GW1440;replace HB:=b1_ hb;have NB1410_1440:=gN_ BK1410 hg;have NB1440_1410:=gP_ BK1410 hg;replace BK1410:=bb_ BK1410 hb;clear hb hbox hg;obtain ⟨Ao55,co55,eo55⟩:=Kd.R_slice HO1436.out;subst eo55;have hnb56:=NB1440_1410.out;have hnc56:=NB1410_1440.out;obtain ⟨hcz57_0,hcz57_1,hfz57_0,hfz57_1⟩:=c2_ BK1440;obtain ⟨Ao58,co58,eo58⟩:=Kd.R_slice HO1439.out;subst eo58) | ((with_reducible refine gA_ (f:=97) rfl ?_);refine gL_ (some 36) Try.func97 #[.slice (some ad1427) x5_2.length co49,.agg #[.slice Ao55 t1434.length co55,.slice Ao58 t1437.length co58]] rfl qa_ ?_;(with_reducible refine (Z64.calls k2 _ _ x5_2 _ _ t1434 _ _ t1437 t1441 _ ?side1 ?side2 ?side3 ?side4 ?side5 ?side6 A24.out).mono ?_);(case side1=>refine (Kd.N_reads' (e:=33) (base:=w.heap.size) (ok:=fun k_=>(((((((w.heap.size≤k_)∧(some k_≠(u6:Value).ownBlock∧(some k_≠(.slice (some ad1426) y1423.length co16:Value).ownBlock∧k_≠gb1410)))∧some k_≠(.slice Ao51 t1428.length co51:Value).ownBlock)∧some k_≠(.slice Ao52 t1431.length co52:Value).ownBlock)∧some k_≠(.slice Ao55 t1434.length co55:Value).ownBlock)∧some k_≠(.slice Ao58 t1437.length co58:Value).ownBlock)∧k_≠gb1440)) (n:=x5_2.length) (c:=co49) ?_).2.2;exact (by (with_reducible repeat (first | apply Kd.N_alloc | apply Kd.N_drewN | apply Kd.N_drew));exact (Kd.N_mono (Kd.N_far (p:=⟨gb1440,1,none⟩) (Kd.N_far (p:=⟨gb1440,0,none⟩) (Kd.N_mono HO_5.out (fun k_ hk=>(⟨hk,hk.2⟩:_∧k_≠gb1440))) (fun _ hk=>hk.2) (.slice Ao55 t1434.length co55)) (fun _ hk=>hk.2) (.slice Ao58 t1437.length co58)) (fun _ h_=>h_.1))));(case side2=>exact (Kd.N_reads' HO_5.out).2.1);(case side3=>refine (Kd.R_reads' (e:=3) (base:=w.heap.size) (ok:=fun k_=>((((w.heap.size≤k_)∧some k_≠(.slice Ao58 t1437.length co58:Value).ownBlock)∧some k_≠(.slice Ao51 t1428.length co51:Value).ownBlock)∧some k_≠(.slice Ao52 t1431.length co52:Value).ownBlock)) (n:=t1434.length) (c:=co55) ?_).2.2;exact (rw_ (fa_ HO1436 BK1440)));(case side4=>exact (Kd.R_reads' HO1436.out).2.1);(case side5=>refine (Kd.R_reads' (e:=3) (base:=w.heap.size) (ok:=fun k_=>((((w.heap.size≤k_)∧some k_≠(.slice Ao55 t1434.length co55:Value).ownBlock)∧some k_≠(.slice Ao51 t1428.length co51:Value).ownBlock)∧some k_≠(.slice Ao52 t1431.length co52:Value).ownBlock)) (n:=t1437.length) (c:=co58) ?_).2.2;exact (rw_ (fa_ HO1439 BK1440)));(case side6=>exact (Kd.R_reads' HO1439.out).2.1);rintro e w59 ⟨rfl,hb⟩;refine ⟨_,rfl,?_⟩;replace HO_5:=A_ (Kd.N_below (by (with_reducible repeat (first | apply Kd.N_alloc | apply Kd.N_drewN | apply Kd.N_drew));exact (Kd.N_mono (Kd.N_far (p:=⟨gb1440,1,none⟩) (Kd.N_far (p:=⟨gb1440,0,none⟩) (Kd.N_mono HO_5.out (fun k_ hk=>(⟨hk,hk.2⟩:_∧k_≠gb1440))) (fun _ hk=>hk.2) (.slice Ao55 t1434.length co55)) (fun _ hk=>hk.2) (.slice Ao58 t1437.length co58)) (fun _ h_=>h_.1))) hb);replace HO_6:=A_ (rD_ (rw_ (fa_ HO_6 BK1440)) hb);replace HO_21:=A_ (rD_ (rw_ (fa_ HO_21 BK1440)) hb);replace HO1430:=A_ (rD_ (rw_ (fa_ HO1430 BK1440)) hb);replace HO1433:=A_ (rD_ (rw_ (fa_ HO1433 BK1440)) hb);replace HO1436:=A_ (rD_ (rw_ (fa_ HO1436 BK1440)) hb);replace HO1439:=A_ (rD_ (rw_ (fa_ HO1439 BK1440)) hb);replace BK1410:=A_ (kE_ (g:=gb1410) (o:=.cells #[.slice A0_0 l0_0.length c0_0,.slice A0_1 l0_1.length c0_1] 33 (0,0)) (by (with_reducible repeat (first | refine kA_ ?_ _ | refine kB_ ?_ | refine kC_ ?_ _));refine blk_far ?_ NB1410_1440.out _;(with_reducible repeat (first | refine kA_ ?_ _ | refine kB_ ?_ | refine kC_ ?_ _));refine blk_far ?_ NB1410_1440.out _;(with_reducible repeat (first | refine kA_ ?_ _ | refine kB_ ?_ | refine kC_ ?_ _));exact BK1410.out) hb);replace HR1427_0:=A_ (cD_ ((Kd.V_reads' (by (with_reducible repeat (first | apply Kd.V_alloc | apply Kd.V_drewN | apply Kd.V_drew));exact (Kd.V_mono (Kd.V_far (p:=⟨gb1440,1,none⟩) (Kd.V_far (p:=⟨gb1440,0,none⟩) (Kd.V_mono HL1427_0.out (fun k_ hk=>(⟨hk,hk.2⟩:_∧k_≠gb1440))) (fun _ hk=>hk.2) (.slice Ao55 t1434.length co55)) (fun _ hk=>hk.2) (.slice Ao58 t1437.length co58)) (fun _ h_=>h_.1)))).2.2) hb);replace HL1427_0:=A_ (Kd.V_below (by (with_reducible repeat (first | apply Kd.V_alloc | apply Kd.V_drewN | apply Kd.V_drew));exact (Kd.V_mono (Kd.V_far (p:=⟨gb1440,1,none⟩) (Kd.V_far (p:=⟨gb1440,0,none⟩) (Kd.V_mono HL1427_0.out (fun k_ hk=>(⟨hk,hk.2⟩:_∧k_≠gb1440))) (fun _ hk=>hk.2) (.slice Ao55 t1434.length co55)) (fun _ hk=>hk.2) (.slice Ao58 t1437.length co58)) (fun _ h_=>h_.1))) hb);replace HR1427_1:=A_ (cD_ ((Kd.V_reads' (by (with_reducible repeat (first | apply Kd.V_alloc | apply Kd.V_drewN | apply Kd.V_drew));exact (Kd.V_mono (Kd.V_far (p:=⟨gb1440,1,none⟩) (Kd.V_far (p:=⟨gb1440,0,none⟩) (Kd.V_mono HL1427_1.out (fun k_ hk=>(⟨hk,hk.2⟩:_∧k_≠gb1440))) (fun _ hk=>hk.2) (.slice Ao55 t1434.length co55)) (fun _ hk=>hk.2) (.slice Ao58 t1437.length co58)) (fun _ h_=>h_.1)))).2.2) hb);replace HL1427_1:=A_ (Kd.V_below (by (with_reducible repeat (first | apply Kd.V_alloc | apply Kd.V_drewN | apply Kd.V_drew));exact (Kd.V_mono (Kd.V_far (p:=⟨gb1440,1,none⟩) (Kd.V_far (p:=⟨gb1440,0,none⟩) (Kd.V_mono HL1427_1.out (fun k_ hk=>(⟨hk,hk.2⟩:_∧k_≠gb1440))) (fun _ hk=>hk.2) (.slice Ao55 t1434.length co55)) (fun _ hk=>hk.2) (.slice Ao58 t1437.length co58)) (fun _ h_=>h_.1))) hb);replace BK1440:=A_ (kE_ (g:=gb1440) (o:=.cells #[.slice Ao55 t1434.length co55,.slice Ao58 t1437.length co58] 33 (0,0)) qp_ hb);replace HB:=b1_ hb;clear hb))
        go_roundg k2
        case measure=>have:=HK1.out;have:=HK2.out;omega
        case rel=>exact ⟨(x5_2),(x6_2),(wrap64 (x23_2 + 1)),qc_,H',⟨by have:=HK1.out;have:=HK2.out;omega⟩,⟨by (with_reducible repeat (first | apply Kd.N_alloc | apply Kd.N_drewN | apply Kd.N_drew));exact Kd.N_mono HO_5.out (fun _ hk=>⟨hk.1.1.1.1.1.1,⟨hk.1.1.1.1.1.2.1,⟨hk.1.1.1.1.1.2.2.1,hk.1.1.1.1.1.2.2.2⟩⟩⟩)⟩,⟨(rr_ HO_6)⟩,⟨(rr_ HO_21)⟩,⟨(kk_ BK1410)⟩,⟨hB_⟩⟩
      ·rw [if_neg c17] at H
       have c17b0:=oD_ c17
       clear c17
       by_cases c60:(x5_2.length:Int) > 120
       ·rw [if_pos c60] at H
        have c60b0:decide (120 < (x5_2.length:Int)) = true:=oC_ c60
        have c60b1:decide (120 < x5_2.length) = true:=oC_ (by omega)
        clear c60
        simp only [Option.some.injEq,Prod.mk.injEq] at H
        obtain ⟨rfl,rfl,rfl⟩:=H
        obtain ⟨Ao61,co61,eo61⟩:=Kd.N_slice HO_5.out
        subst eo61
        go_wp2
        go_ret3
        exact ⟨_,_,qb_,by first | exact Kd.S_nil _ _ _ _ _ | exact Kd.N_nil _ _ _ _ _ | exact Kd.V_nil _ _ _ _ _ | exact Kd.Q_nil _ _ _ _ _ | exact Kd.R_nil _ _ _ _ _,by first | exact Kd.R_nil _ _ _ _ _ | exact Kd.N_nil _ _ _ _ _ | exact Kd.V_nil _ _ _ _ _ | exact Kd.Q_nil _ _ _ _ _ | exact Kd.S_nil _ _ _ _ _,hB_⟩
       ·rw [if_neg c60] at H
        have c60b0:decide (120 < (x5_2.length:Int)) = false:=oD_ c60
        have c60b1:decide (120 < x5_2.length) = false:=oD_ (by omega)
        clear c60
        have H':=A_ H
        clear H
        obtain ⟨Ao62,co62,eo62⟩:=Kd.N_slice HO_5.out
        subst eo62
        go_wp2
        go_roundg k2
        case measure=>have:=HK1.out;have:=HK2.out;omega
        case rel=>exact ⟨(x5_2),(x6_2),(wrap64 (x7_1 + 1)),qc_,H',⟨by have:=HK1.out;have:=HK2.out;omega⟩,⟨by (with_reducible repeat (first | apply Kd.N_alloc | apply Kd.N_drewN | apply Kd.N_drew));exact Kd.N_mono HO_5.out (fun _ hk=>⟨hk.1,⟨hk.2.1,hk.2.2.2⟩⟩)⟩,⟨(rr_ HO_6)⟩,⟨(kk_ BK1410)⟩,⟨hB_⟩⟩
   ·rw [if_neg c12] at H
    have c12b0:=oD_ c12
    clear c12
    simp only [Option.some.injEq,Prod.mk.injEq] at H
    obtain ⟨rfl,rfl,rfl⟩:=H
    obtain ⟨Ao63,co63,eo63⟩:=Kd.N_slice HO_5.out
    subst eo63
    go_wp2
    go_ret3
    exact ⟨_,_,qb_,by (with_reducible repeat (first | apply Kd.N_alloc | apply Kd.N_drewN | apply Kd.N_drew));exact Kd.N_mono HO_5.out (fun _ hk=>⟨hk.1,hk.2.1⟩),(rr_ HO_6),hB_⟩
end Go.Proofs.Ytoijcallajegfaa.A
end
