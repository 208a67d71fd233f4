/- Lemmas for the row FnExactOrbitsWith: the program's functions told as plain functions, and plain mathematics. No conditions. -/
import Derived.Test.YtoijcallajegfaaQFnExactOrbitsWith4
section
namespace Go.Proofs.Ytoijcallajegfaa.A
open Go.RowKit Go.Proofs.YtoijcallajegfaaW.PrintWords Go.Proofs.YtoijcallajegfaaW.PrintLast Go.Proofs.YtoijcallajegfaaW.PrintMore
attribute [local go_sem] max2_int min2_int max_two min_two max_three min_three max_four min_four
set_option linter.unusedVariables false
set_option linter.unusedSimpArgs false
mutual
def Z31.l0:Nat→List (List (S33))→List (S33)→Int→Int→Option ((List (List (S33))))
 | 0,_,_,_,_=>none
 | k + 1,x3,x20,x21,x22=>if x22 < x21 then (if 0≤x22 then (if x22 < (x20.length:Int) then (Z31.l1 k x3 false x20 x21 x22 x3 (x3.length:Int) 0 ((rd_T33 x20 x22).f0) ((rd_T33 x20 x22).f1)) else (none)) else (none)) else (some x3)
def Z31.l1:Nat→List (List (S33))→Bool→List (S33)→Int→Int→List (List (S33))→Int→Int→List Int→List Int→Option ((List (List (S33))))
 | 0,_,_,_,_,_,_,_,_,_,_=>none
 | k + 1,x3,x6,x20,x21,x22,x26,x27,x28,x1461000,x1461001=>if x28 < x27 then (if 0≤x28 then (if x28 < (x26.length:Int) then (if x6 = true then (Z31.l1 k x3 true x20 x21 x22 x26 x27 (wrap64 (x28 + 1)) x1461000 x1461001) else ((Z64.f k (rd_L8 x26 x28) x1461000 x1461001).bind fun t1462=>(Z31.l1 k x3 (decide (t1462 ≥ 0)) x20 x21 x22 x26 x27 (wrap64 (x28 + 1)) x1461000 x1461001))) else (none)) else (none)) else (if x6 = true then (Z31.l0 k x3 x20 x21 (wrap64 (x22 + 1))) else ((Z57.f k x1461000 x1461001).bind fun bt1463=>(Z31.l2 k x3 (([]:List (S33))) x20 x21 x22 bt1463.1 (bt1463.1.length:Int) 0)))
def Z31.l2:Nat→List (List (S33))→List (S33)→List (S33)→Int→Int→List (S33)→Int→Int→Option ((List (List (S33))))
 | 0,_,_,_,_,_,_,_,_=>none
 | k + 1,x3,x12,x20,x21,x22,x48,x49,x50=>if x50 < x49 then (if 0≤x50 then (if x50 < (x48.length:Int) then ((Z44.f k x12 ((rd_T33 x48 x50).f0) ((rd_T33 x48 x50).f1)).bind fun t1475=>(Z31.l2 k x3 t1475 x20 x21 x22 x48 x49 (wrap64 (x50 + 1)))) else (none)) else (none)) else (if x3.length < 5864062014805 then (Z31.l0 k (x3 ++ [x12]) x20 x21 (wrap64 (x22 + 1))) else (none))
end
def Z31.f (k:Nat) (a0:Int):Option ((List (List (S33)))):=(Z69.f a0 1 4).bind fun t1452=>(if t1452 = true then ((Z20.f k a0).bind fun t1456=>(Z31.l0 k (([]:List (List (S33)))) t1456 (t1456.length:Int) 0)) else (some ([]:List (List (S33)))))
theorem Z31.mono_l:∀ k,(∀ y0 y1 y2 y3,LeO (Z31.l0 k y0 y1 y2 y3) (Z31.l0 (k + 1) y0 y1 y2 y3))∧(∀ y0 y1 y2 y3 y4 y5 y6 y7 y8 y9,LeO (Z31.l1 k y0 y1 y2 y3 y4 y5 y6 y7 y8 y9) (Z31.l1 (k + 1) y0 y1 y2 y3 y4 y5 y6 y7 y8 y9))∧(∀ y0 y1 y2 y3 y4 y5 y6 y7,LeO (Z31.l2 k y0 y1 y2 y3 y4 y5 y6 y7) (Z31.l2 (k + 1) y0 y1 y2 y3 y4 y5 y6 y7))
 | 0=>⟨fun _ _ _ _ r h=>by simp [Z31.l0] at h,fun _ _ _ _ _ _ _ _ _ _ r h=>by simp [Z31.l1] at h,fun _ _ _ _ _ _ _ _ r h=>by simp [Z31.l2] at h⟩
 | k + 1=>by
  obtain ⟨ih0,ih1,ih2⟩:=Z31.mono_l k
  refine ⟨?_,?_,?_⟩
  ·intro y0 y1 y2 y3
   unfold Z31.l0
   repeat' first|exact ih0 _ _ _ _|exact ih1 _ _ _ _ _ _ _ _ _ _|exact ih2 _ _ _ _ _ _ _ _|exact Z20.mono _ _|exact Z64.mono _ _ _ _|exact Z57.mono _ _ _|exact Z44.mono _ _ _ _|exact lo_|refine LeO.ite ?_ ?_|refine LeO.bind ?_ (fun _=>?_)
  ·intro y0 y1 y2 y3 y4 y5 y6 y7 y8 y9
   unfold Z31.l1
   repeat' first|exact ih0 _ _ _ _|exact ih1 _ _ _ _ _ _ _ _ _ _|exact ih2 _ _ _ _ _ _ _ _|exact Z20.mono _ _|exact Z64.mono _ _ _ _|exact Z57.mono _ _ _|exact Z44.mono _ _ _ _|exact lo_|refine LeO.ite ?_ ?_|refine LeO.bind ?_ (fun _=>?_)
  ·intro y0 y1 y2 y3 y4 y5 y6 y7
   unfold Z31.l2
   repeat' first|exact ih0 _ _ _ _|exact ih1 _ _ _ _ _ _ _ _ _ _|exact ih2 _ _ _ _ _ _ _ _|exact Z20.mono _ _|exact Z64.mono _ _ _ _|exact Z57.mono _ _ _|exact Z44.mono _ _ _ _|exact lo_|refine LeO.ite ?_ ?_|refine LeO.bind ?_ (fun _=>?_)
theorem Z31.mono:∀ a0 k,LeO (Z31.f k a0) (Z31.f (k + 1) a0):=by
 intro a0 k
 obtain ⟨ih0,ih1,ih2⟩:=Z31.mono_l k
 unfold Z31.f
 repeat' first|exact ih0 _ _ _ _|exact ih1 _ _ _ _ _ _ _ _ _ _|exact ih2 _ _ _ _ _ _ _ _|exact Z20.mono _ _|exact Z64.mono _ _ _ _|exact Z57.mono _ _ _|exact Z44.mono _ _ _ _|exact lo_|refine LeO.ite ?_ ?_|refine LeO.bind ?_ (fun _=>?_)
set_option maxHeartbeats 8000000 in
set_option maxRecDepth 100000 in
theorem Z31.calls (k:Nat) (a0:Int) (r:List (List (S33))) (w:World) (h:Z31.f k a0 = some r) :
  Calls Try.prog 44 #[.int .i64 a0] w fun e w'=>∃ v0_:Value,e = .returned (v0_)∧Kd.N (Kd.slice 33 k33) 25 w' w.heap.size (fun k_=>(w.heap.size≤k_)) v0_ r∧Below w.heap.size w w':=by
 have hu33:=Try.underlying33
 have HB:=A_ (Below.refl w.heap.size w)
 have H:=h
 unfold Z31.f at H
 clear h
 obtain ⟨t16,A2,H⟩:=bi_ H
 cases t16 with
 | false =>
  rw [if_neg (by decide)] at H
  obtain rfl:=Option.some.inj H
  go_enter Try.func44,Try.ntmps44
  go_wp2_with ((with_reducible refine gA_ (f:=83) rfl ?_);refine gL_ (some 16) Try.func83 #[.int .i64 a0,.int .i64 1,.int .i64 4] rfl qa_ ?_;(with_reducible refine (Z69.calls a0 1 4 false _ A2.out).mono ?_);rintro e w' ⟨rfl,⟨nd,rfl⟩⟩;refine ⟨_,rfl,?_⟩)
  go_ret
  exact ⟨_,qb_,Kd.N_nil _ _ _ _ _,hB_⟩
 | true =>
  rw [if_pos rfl] at H
  obtain ⟨tl,A5,H⟩:=bi_ H
  have H':=A_ H
  clear H
  go_enter Try.func44,Try.ntmps44
  go_wp2_with (first | ((with_reducible refine gA_ (f:=83) rfl ?_);refine gL_ (some 16) Try.func83 #[.int .i64 a0,.int .i64 1,.int .i64 4] rfl qa_ ?_;(with_reducible refine (Z69.calls a0 1 4 true _ A2.out).mono ?_);rintro e w' ⟨rfl,⟨nd,rfl⟩⟩;refine ⟨_,rfl,?_⟩) | ((with_reducible refine gB_ (N:=18) rfl ?_);refine Kd.S_lit (Kd.slice 33 k33) _ 25 ?hg (N:=18) ?hd (xs:=([]:List (List S33))) (inner:=[]) (ok:=(fun k_=>(w.heap.size≤k_))) (okp:=(fun k_=>(w.heap.size≤k_))) ?hr ?hp (fun _ hk=>hk) (bF_ hB_) (Below.refl _ _) (nA_ _) (by simp) ?_;(case hd=>rfl);(case hg=>rfl);(case hr=>first | (go_simp;done) | (go_simp;rfl));(case hp=>exact (Reps.none _ _));intro v18 w6 ho7 hb hg_ hnew_;clear hg_ hnew_;have HO18:=A_ (Kd.S_N (Kd.S_lower (base':=w.heap.size) ho7 (bF_ hB_)));have HB18:=A_ (Below.refl w6.heap.size w6);replace HB:=b1_ hb;clear hb ho7) | ((with_reducible refine gA_ (f:=37) rfl ?_);refine gL_ (some 20) Try.func37 #[.int .i64 a0] rfl qa_ ?_;(with_reducible refine (Z20.calls k a0 tl _ A5.out).mono ?_);rintro e w8 ⟨v20,rfl,ho0,hb⟩;refine ⟨_,rfl,?_⟩;have HO20:=A_ (Kd.N_lower (base':=w.heap.size) (Kd.N_mono (ok':=fun k_=>w.heap.size≤k_∧some k_≠(v18:Value).ownBlock) ho0 (fun k_ hk=>⟨Nat.le_trans (bF_ hB_) hk,Kd.fresh' (Kd.N_lt (Kd.N_below HO18.out HB18.out)) k_ hk⟩)) (bF_ hB_));replace HO18:=A_ (Kd.N_below (Kd.N_below HO18.out HB18.out) hb);replace HB:=b1_ hb;clear hb ho0;obtain ⟨Ao,co,eo⟩:=Kd.N_slice HO20.out;subst eo))
  go_loopg [3,22] k (fun kq v3 v22 w'=>∃ (x3:List (List S33)) (x22:Int),v22 = .int .i64 x22∧Aside0 (Z31.l0 kq x3 tl (tl.length:Int) x22 = some r)∧Aside0 (kq≤k)∧Aside0 (Kd.N (Kd.slice 33 k33) 25 w' w.heap.size (fun k_=>w.heap.size≤k_) v3 x3)∧Aside0 (Kd.N k33 33 w' w.heap.size (fun k_=>w.heap.size≤k_∧some k_≠(v3:Value).ownBlock) (.slice Ao tl.length co) tl)∧Aside0 (Below w.heap.size w w'))
  case atStart=>exact ⟨[],0,qc_,H',⟨nA_ _⟩,⟨by (with_reducible repeat (first | apply Kd.N_alloc | apply Kd.N_drewN | apply Kd.N_drew));exact HO18.out⟩,⟨by (with_reducible repeat (first | apply Kd.N_alloc | apply Kd.N_drewN | apply Kd.N_drew));exact HO20.out⟩,⟨hB_⟩⟩
  case round =>
   clear H' HO18 HO20 HB HB18
   obtain ⟨x3,x22,rfl,HA,HK1,HO,HL,HW⟩:=hrel
   have HB:=A_ (Below.refl wr.heap.size wr)
   obtain ⟨A3,c3,e3⟩:=Kd.N_slice HO.out
   subst e3
   cases gk with
   | zero=>exact absurd HA.out (by simp [Z31.l0])
   | succ k1 =>
    have H:=HA.out
    clear HA
    simp only [Z31.l0] at H
    by_cases c10:x22 < (tl.length:Int)
    ·rw [if_pos c10] at H
     have c10b0:=oC_ c10
     have c11:=cp_ H
     replace H:=ca_ H
     have c12:=cp_ H
     replace H:=ca_ H
     obtain ⟨ad1,A9,c9,A8,c8,e1,hz1,hz2,hz3,hz4,hz5,hz6⟩:=at_T33 (Kd.N_reads' HL.out).2.2 x22 c11 c12
     cases e1
     clear hz1 hz2 hz3 hz4 hz5 hz6
     obtain ⟨ce,hce,hMe,hcc⟩:=Kd.N_get HL.out z33 x22 c11 c12
     obtain ⟨sx,hsx⟩:∃ sx,sx = rd_T33 tl x22:=⟨_,rfl⟩
     change Kd.FK k33 _ _ (rd_T33 tl x22) ce at hMe
     rw [← hsx] at hMe H
     obtain ⟨A1,c1,A2,c2,rfl,hl1,hf1,hl2,hf2⟩:=k33_openF hMe
     have hx1:=hcc 0 _ rfl
     rw [Nat.add_zero] at hx1
     have hx2:=hcc 1 _ rfl
     rw [add_field _ _ 1 (by omega)] at hx2
     simp only [show k33.sz = 2 from rfl] at hx1 hx2
     have HL1:=A_ hl1
     have HL2:=A_ hl2
     clear hcc hce hsx hl1 hl2
     have HI1:=A_ (Kd.F_now hf1)
     have HI2:=A_ (Kd.F_now hf2)
     clear hMe hf1 hf2 c10
     replace c11:=eq_true c11
     replace c12:=eq_true c12
     have H':=A_ H
     clear H
     obtain ⟨W0,hW0⟩:∃ W,W = wr:=⟨_,rfl⟩
     have HI1:Aside0 (Kd.C (Kd.int .i64) W0 A1 sx.f0.length sx.f0):=by rw [hW0];exact HI1
     have HI2:Aside0 (Kd.C (Kd.int .i64) W0 A2 sx.f1.length sx.f1):=by rw [hW0];exact HI2
     go_wp2_with (first | ((with_reducible refine gB_ (N:=5) rfl ?_);refine bx_ 5 #[.slice none 0 0,.slice none 0 0] 33 ?_;intro gx hg w2 hbox hb;have BX:=A_ hbox;have GX:=gw_ wr hg;replace HB:=b1_ hb;clear hb hbox hg;obtain ⟨hcx0,hcx1,hfx0,hfx1⟩:=c2_ BX) | ((with_reducible refine gate_store (t:=33) (p:=5) rfl ?_);refine store_event (t:=33) (p:=5) (v:=?vo_w3) (w1:=((w2.setCell ⟨gx,0,none⟩ (.slice A1 sx.f0.length c1)).setCell ⟨gx,1,none⟩ (.slice A2 sx.f1.length c2))) ?hg ?ho ?hn ?hr ?_;(case ho=>rfl);(case hg=>rfl);(case hn=>rfl);(case hr=>first | (go_simp;done) | (go_simp;rfl));intro w3 hw;have n7_:Aside0 (w3.heap[gx]? = some (.cells #[.slice A1 sx.f0.length c1,.slice A2 sx.f1.length c2] 33 (0,0))):=⟨(by rw [hw];exact qp_)⟩;have n8_:Aside0 (Below wr.heap.size wr w3):=⟨(by rw [hw];exact hB_)⟩;clear hw;clear BX;clear HB;have BX:=n7_;have HB:=n8_;clear n7_ n8_;clear hcx0 hcx1 hfx0 hfx1))
     go_loopg [6,28] k1 (fun kq v6 v28 w'=>∃ (x6:Bool) (x28:Int),v6 = .bool x6∧v28 = .int .i64 x28∧Aside0 (Z31.l1 kq x3 x6 tl (tl.length:Int) x22 x3 (x3.length:Int) x28 sx.f0 sx.f1 = some r)∧Aside0 (kq≤k1)∧Aside0 (w'.heap[gx]? = some (.cells #[.slice A1 sx.f0.length c1,.slice A2 sx.f1.length c2] 33 (0,0)))∧Aside0 (Below W0.heap.size W0 w'))
     case atStart=>exact ⟨false,0,qc_,qc_,H',⟨nA_ _⟩,⟨kk_ BX⟩,⟨by rw [hW0];exact hB_⟩⟩
     case round =>
      clear H' BX HB
      rw [← hW0] at HO HL HW
      obtain ⟨x6,x28,rfl,rfl,HA,HK2,BX,HB⟩:=hrel
      cases gk with
      | zero=>exact absurd HA.out (by simp [Z31.l1])
      | succ k2 =>
       have H:=HA.out
       clear HA
       simp only [Z31.l1] at H
       obtain ⟨hcx0,hcx1,hfx0,hfx1⟩:=c2_ BX
       by_cases c20:x28 < (x3.length:Int)
       ·rw [if_pos c20] at H
        have c20b0:=oC_ c20
        have c21:=cp_ H
        replace H:=ca_ H
        have c22:=cp_ H
        replace H:=ca_ H
        obtain ⟨ad2,A20,c20_,e2,hy2,hl20,hi20⟩:=at_L8 (Kd.N_reads' (Kd.N_below HO.out HB.out)).2.2 x28 c21 c22
        cases e2
        have HL20:=A_ hl20
        have HI20:=A_ hi20
        clear hl20 hi20 c20
        replace c21:=eq_true c21
        replace c22:=eq_true c22
        cases x6 with
        | true =>
         rw [if_pos rfl] at H
         have H':=A_ H
         clear H
         go_wp2
         go_roundg k2
         case measure=>have:=HK2.out;omega
         case rel=>exact ⟨true,(wrap64 (x28 + 1)),qc_,qc_,H',⟨by have:=HK2.out;omega⟩,⟨kk_ BX⟩,⟨hB_⟩⟩
        | false =>
         rw [if_neg (by decide)] at H
         obtain ⟨j20,A20f,H⟩:=bi_ H
         have H':=A_ H
         clear H
         go_wp2_with (go_at_call 97;(with_reducible refine (Z64.calls k2 _ _ (rd_L8 x3 x28) _ _ sx.f0 _ _ sx.f1 j20 _ (cc_ HI20) HL20.out (cb_ HI1) HL1.out (cb_ HI2) HL2.out A20f.out).mono ?_);rintro e w25 ⟨rfl,hb⟩;replace BX:=bb_ BX hb;replace HB:=b1_ hb;clear hb)
         go_roundg k2
         case measure=>have:=HK2.out;omega
         case rel=>exact ⟨(decide (j20 ≥ 0)),(wrap64 (x28 + 1)),qc_,qc_,H',⟨by have:=HK2.out;omega⟩,⟨kk_ BX⟩,⟨hB_⟩⟩
       ·rw [if_neg c20] at H
        have c20b0:=oD_ c20
        clear c20
        cases x6 with
        | true =>
         rw [if_pos rfl] at H
         have H':=A_ H
         clear H
         go_wp2
         go_roundg k2
         case measure=>have:=HK1.out;have:=HK2.out;omega
         case rel=>exact ⟨x3,(wrap64 (x22 + 1)),qc_,H',⟨by have:=HK1.out;have:=HK2.out;omega⟩,⟨Kd.N_below HO.out hB_⟩,⟨Kd.N_below HL.out hB_⟩,⟨bE_ HW.out hB_⟩⟩
        | false =>
         rw [if_neg (by decide)] at H
         obtain ⟨⟨o1,o2,o3⟩,A30,H⟩:=bi_ H
         try dsimp only at H
         have H':=A_ H
         clear H
         go_wp2_with (first | ((with_reducible refine gA_ (f:=98) rfl ?_);refine gL_ (some 43) Try.func98 #[.agg #[.slice A1 sx.f0.length c1,.slice A2 sx.f1.length c2]] rfl qa_ ?_;(with_reducible refine (Z57.calls k2 _ _ sx.f0 _ _ sx.f1 o1 o2 o3 _ (cb_ HI1) HL1.out (cb_ HI2) HL2.out A30.out).mono ?_);rintro e w43 ⟨v43,v44,rfl,ho,ho2,hb⟩;refine ⟨_,rfl,?_⟩;have HO43:=A_ (Kd.N_lower (base':=W0.heap.size) (Kd.N_mono (ok':=fun k_=>W0.heap.size≤k_) ho (fun k_ hk=>Nat.le_trans (bF_ hB_) hk.1)) (bF_ hB_));replace HB:=b1_ hb;clear hb ho ho2;obtain ⟨A43,c43,e43⟩:=Kd.N_slice HO43.out;subst e43) | ((with_reducible refine gB_ (N:=47) rfl ?_);refine Kd.S_lit k33 _ 33 ?hg (N:=47) ?hd (xs:=([]:List S33)) (inner:=[]) (ok:=(fun k_=>(W0.heap.size≤k_))) (okp:=(fun k_=>(W0.heap.size≤k_))) ?hr ?hp (fun _ hk=>hk) (bF_ hB_) (Below.refl _ _) (nA_ _) (by simp) ?_;(case hd=>rfl);(case hg=>rfl);(case hr=>first | (go_simp;done) | (go_simp;rfl));(case hp=>exact (Reps.none _ _));intro v47 w6 ho7 hb hg_ hnew_;clear hg_ hnew_;have HO47:=A_ (Kd.S_N (Kd.S_lower (base':=W0.heap.size) ho7 (bF_ hB_)));replace HO43:=A_ (Kd.N_below (by (with_reducible repeat (first | apply Kd.N_alloc | apply Kd.N_drewN | apply Kd.N_drew));exact HO43.out) hb);replace HB:=b1_ hb;clear hb ho7))
         go_loopg [12,50] k2 (fun kq v12 v50 w'=>∃ (x12:List S33) (x50:Int),v50 = .int .i64 x50∧Aside0 (Z31.l2 kq x3 x12 tl (tl.length:Int) x22 o1 (o1.length:Int) x50 = some r)∧Aside0 (kq≤k2)∧Aside0 (Kd.N k33 33 w' W0.heap.size (fun k_=>W0.heap.size≤k_) v12 x12)∧Aside0 (Kd.N k33 33 w' W0.heap.size (fun k_=>W0.heap.size≤k_) (.slice A43 o1.length c43) o1)∧Aside0 (Below W0.heap.size W0 w'))
         case atStart=>exact ⟨[],0,qc_,H',⟨nA_ _⟩,⟨by (with_reducible repeat (first | apply Kd.N_alloc | apply Kd.N_drewN | apply Kd.N_drew));exact HO47.out⟩,⟨by (with_reducible repeat (first | apply Kd.N_alloc | apply Kd.N_drewN | apply Kd.N_drew));exact HO43.out⟩,⟨hB_⟩⟩
         case round =>
          clear H' HO43 HO47 HB BX hcx0 hcx1 hfx0 hfx1 HI1 HI2 HL1 HL2
          obtain ⟨x12,x50,rfl,HA,HK3,HO12,HO43,HW0⟩:=hrel
          have HB:=A_ (Below.refl wr.heap.size wr)
          obtain ⟨A12,c12_,e12⟩:=Kd.N_slice HO12.out
          subst e12
          cases gk with
          | zero=>exact absurd HA.out (by simp [Z31.l2])
          | succ k3 =>
           have H:=HA.out
           clear HA c11 c12
           simp only [Z31.l2] at H
           by_cases c30:x50 < (o1.length:Int)
           ·rw [if_pos c30] at H
            have c30b0:=oC_ c30
            have c11:=cp_ H
            replace H:=ca_ H
            have c12:=cp_ H
            replace H:=ca_ H
            obtain ⟨y40,A40,H⟩:=bi_ H
            clear hx1 hx2
            obtain ⟨ad3,A9,c9,A8,c8,e1,hz1,hz2,hz3,hz4,hz5,hz6⟩:=at_T33 (Kd.N_reads' HO43.out).2.2 x50 c11 c12
            cases e1
            clear hz1 hz2 hz3 hz4 hz5 hz6
            obtain ⟨ce,hce,hMe,hcc⟩:=Kd.N_get HO43.out z33 x50 c11 c12
            obtain ⟨sy,hsy⟩:∃ sy,sy = rd_T33 o1 x50:=⟨_,rfl⟩
            change Kd.FK k33 _ _ (rd_T33 o1 x50) ce at hMe
            rw [← hsy] at hMe A40
            obtain ⟨D1,d1,D2,d2,rfl,hl1,hf1,hl2,hf2⟩:=k33_openF hMe
            have hy1:=hcc 0 _ rfl
            rw [Nat.add_zero] at hy1
            have hy2:=hcc 1 _ rfl
            rw [add_field _ _ 1 (by omega)] at hy2
            simp only [show k33.sz = 2 from rfl] at hy1 hy2
            have F1:=A_ (Kd.F_mono hf1 (fun k_ hk=>hk.1))
            have F2:=A_ (Kd.F_mono hf2 (fun k_ hk=>hk.1))
            have HM1:=A_ hl1
            have HM2:=A_ hl2
            have H':=A_ H
            clear hcc hce hsy hl1 hl2 hMe hf1 hf2 H c30
            replace c11:=eq_true c11
            replace c12:=eq_true c12
            go_wp2_with (first | ((with_reducible refine gB_ (N:=14) rfl ?_);refine bx_ 14 #[.slice none 0 0,.slice none 0 0] 33 ?_;intro gy hg w52 hbox hb;have BY:=A_ hbox;have GY:=gw_ wr hg;replace HB:=b1_ hb;clear hb hbox hg;obtain ⟨hcy0,hcy1,hfy0,hfy1⟩:=c2_ BY) | ((with_reducible refine gate_store (t:=33) (p:=14) rfl ?_);refine store_event (t:=33) (p:=14) (v:=?vo_w3) (w1:=((w52.setCell ⟨gy,0,none⟩ (.slice D1 sy.f0.length d1)).setCell ⟨gy,1,none⟩ (.slice D2 sy.f1.length d2))) ?hg ?ho ?hn ?hr ?_;(case ho=>rfl);(case hg=>rfl);(case hn=>rfl);(case hr=>first | (go_simp;done) | (go_simp;rfl));intro w53 hw;have n7_:Aside0 (w53.heap[gy]? = some (.cells #[.slice D1 sy.f0.length d1,.slice D2 sy.f1.length d2] 33 (0,0))):=⟨(by rw [hw];exact qp_)⟩;have n8_:Aside0 (Below wr.heap.size wr w53):=⟨(by rw [hw];exact hB_)⟩;clear hw;clear BY;clear HB;have BY:=n7_;have HB:=n8_;clear n7_ n8_;clear hcy0 hcy1 hfy0 hfy1;obtain ⟨hcy0,hcy1,hfy0,hfy1⟩:=c2_ BY) | ((with_reducible refine gA_ (f:=86) rfl ?_);refine gL_ (some 56) Try.func86 #[.slice A12 x12.length c12_,.agg #[.slice D1 sy.f0.length d1,.slice D2 sy.f1.length d2]] rfl qa_ ?_;(refine (Z44.calls k3 (fun k_=>W0.heap.size≤k_) _ _ x12 (fun k_=>W0.heap.size≤k_) _ _ sy.f0 (fun k_=>W0.heap.size≤k_) _ _ sy.f1 y40 _ (Kd.N_V (Kd.N_below HO12.out hB_)) (Kd.V_mk HM1.out (Kd.F_below F1.out hB_)) (Kd.V_mk HM2.out (Kd.F_below F2.out hB_)) A40.out).mono ?_);rintro e w56 ⟨v56,rfl,ho,hb⟩;refine ⟨_,rfl,?_⟩;have HO56:=A_ (Kd.N_lower (base':=W0.heap.size) (Kd.N_mono (ok':=fun k_=>W0.heap.size≤k_) ho (fun k_ hk=>by rcases hk with (h1_ | h1_ | h1_) | h1_ <;> first | exact h1_ | exact Nat.le_trans (bF_ HW0.out) (Nat.le_trans (bF_ hB_) h1_))) (Nat.le_trans (bF_ HW0.out) (bF_ hB_)));replace HB:=b1_ hb;clear hb ho))
            go_roundg k3
            case measure=>have:=HK3.out;omega
            case rel=>exact ⟨y40,(wrap64 (x50 + 1)),qc_,H',⟨by have:=HK3.out;omega⟩,⟨by (with_reducible repeat (first | apply Kd.N_alloc | apply Kd.N_drewN | apply Kd.N_drew));exact HO56.out⟩,⟨Kd.N_below HO43.out hB_⟩,⟨bE_ HW0.out hB_⟩⟩
           ·rw [if_neg c30] at H
            have c30b0:=oD_ c30
            clear c30
            have LM:=A_ (cp_ H)
            have H':=A_ (ca_ H)
            clear H
            go_wp2_with ((with_reducible refine gate_builtin (b:=.append) (xs:=#[.tmp 58,.tmp 60]) rfl ?_);at_builtin;refine Kd.N_append (Kd.slice 33 k33) (w0:=w) w.heap.size rfl (.tmp 58) (.tmp 60) 55 25 (.slice none 0 0) 24 rfl Try.underlying55 info25 rfl (by decide) (by omega) (.slice A3 x3.length c3) x3 x12 [.slice A12 x12.length c12_] (fun k_=>w.heap.size≤k_) (fun k_=>W0.heap.size≤k_) rfl rfl ?aP ?aK ?aF ?aO ?aB ?aS ?aL ?_;(case aP=>exact Kd.FK_slice_mk (Kd.N_reads' HO12.out).2.1 (Kd.F_below (Kd.N_F HO12.out) hB_));(case aK=>exact (fun k_ hk=>⟨Nat.le_trans (bF_ HW.out) hk,Kd.fresh' (Kd.N_lt HO.out) k_ hk⟩));(case aF=>exact (fun k_ hk=>Nat.le_trans (bF_ HW.out) (Nat.le_trans (bF_ HW0.out) (Nat.le_trans (bF_ hB_) hk))));(case aO=>exact Kd.N_below HO.out (bE_ HW0.out hB_));(case aB=>exact bE_ HW.out (bE_ HW0.out hB_));(case aS=>exact Nat.le_trans (bF_ HW.out) (Nat.le_trans (bF_ HW0.out) (bF_ hB_)));(case aL=>have:=LM.out;omega);intro v61 w61 ho hb hg hat;have HO61:=A_ ho;have HL61:=A_ (Kd.N_after (Kd.N_below HL.out (bE_ HW0.out hB_)) hg hat);clear HB;have HB:=A_ hb;clear ho hb hg hat)
            go_roundg k3
            case measure=>have:=HK1.out;have:=HK2.out;have:=HK3.out;omega
            case rel=>exact ⟨(x3 ++ [x12]),(wrap64 (x22 + 1)),qc_,H',⟨by have:=HK1.out;have:=HK2.out;have:=HK3.out;omega⟩,⟨by (with_reducible repeat (first | apply Kd.N_alloc | apply Kd.N_drewN | apply Kd.N_drew));exact HO61.out⟩,⟨by (with_reducible repeat (first | apply Kd.N_alloc | apply Kd.N_drewN | apply Kd.N_drew));exact HL61.out⟩,⟨hB_⟩⟩
    ·rw [if_neg c10] at H
     have c10b0:=oD_ c10
     clear c10
     obtain rfl:=Option.some.inj H
     go_wp2
     go_ret
     exact ⟨_,qb_,Kd.N_below HO.out hB_,bE_ HW.out hB_⟩
end Go.Proofs.Ytoijcallajegfaa.A
end
section
namespace Go.Proofs.Ytoijcallajegfaa.A
open Go.RowKit Go.Proofs.YtoijcallajegfaaW.PrintWords Go.Proofs.YtoijcallajegfaaW.PrintLast Go.Proofs.YtoijcallajegfaaW.PrintMore
attribute [local go_sem] max2_int min2_int max_two min_two max_three min_three max_four min_four
set_option linter.unusedVariables false
set_option linter.unusedSimpArgs false
def Z30.l0:Nat→List (S33)→List (S33)→Int→Option (Bool)
 | 0,_,_,_=>none
 | k + 1,x0,x1,x5=>if x5 < (x0.length:Int) then (if 0≤x5 then (if x5 < (x1.length:Int) then ((Z37.f k ((rd_T33 x0 x5).f0) ((rd_T33 x0 x5).f1) ((rd_T33 x1 x5).f0) ((rd_T33 x1 x5).f1)).bind fun t1254=>(if t1254 = true then (Z30.l0 k x0 x1 (wrap64 (x5 + 1))) else (some false))) else (none)) else (none)) else (some true)
def Z30.f (k:Nat) (l0:List (S33)) (l1:List (S33)):Option (Bool):=if (l0.length:Int) = (l1.length:Int) then (Z30.l0 k l0 l1 0) else (some false)
theorem Z30.mono_l:∀ k,(∀ y0 y1 y2,LeO (Z30.l0 k y0 y1 y2) (Z30.l0 (k + 1) y0 y1 y2))
 | 0=>fun _ _ _ r h=>by simp [Z30.l0] at h
 | k + 1=>by
  have ih0:=Z30.mono_l k
  ·intro y0 y1 y2
   unfold Z30.l0
   repeat' first|exact ih0 _ _ _|exact Z37.mono _ _ _ _ _|exact lo_|refine LeO.ite ?_ ?_|refine LeO.bind ?_ (fun _=>?_)
theorem Z30.mono:∀ a0 a1 k,LeO (Z30.f k a0 a1) (Z30.f (k + 1) a0 a1):=by
 intro a0 a1 k
 have ih0:=Z30.mono_l k
 unfold Z30.f
 repeat' first|exact ih0 _ _ _|exact Z37.mono _ _ _ _ _|exact lo_|refine LeO.ite ?_ ?_|refine LeO.bind ?_ (fun _=>?_)
def Z30.T6:Bool × List (List Nat × List Nat):=(true,[([],[]),([],[]),([0,1],[0,1]),([2],[2]),([],[]),([],[]),([4,5],[4,5]),([6],[6]),([3,7],[3,7]),([8],[8])])
def Z30.B6:List Nat:=[0,0,3,7,0,0,48,112,255,511]
theorem Z30.tab6:rtab .any (opsOf Try.f38 6) = Z30.T6:=by kernel_rfl
theorem Z30.bits6:waitsOk Z30.T6.2 Z30.B6 = true:=by kernel_rfl
set_option maxHeartbeats 8000000 in
set_option maxRecDepth 100000 in
theorem Z30.calls (k:Nat) (A0:Option Addr) (c0:Nat) (l0:List (S33)) (A1:Option Addr) (c1:Nat) (l1:List (S33)) (r:Bool) (w:World) (hr0:Kd.C k33 w A0 l0.length l0) (hc0:l0.length≤c0) (hr1:Kd.C k33 w A1 l1.length l1) (hc1:l1.length≤c1) (h:Z30.f k l0 l1 = some r) :
  Calls Try.prog 38 #[.slice A0 l0.length c0,.slice A1 l1.length c1] w fun e w'=>e = .returned (.bool r)∧Below w.heap.size w w':=by
 have hu33:=Try.underlying33
 have HR0:=A_ hr0
 have HC0:=A_ hc0
 clear hr0 hc0
 have HR1:=A_ hr1
 have HC1:=A_ hc1
 clear hr1 hc1
 have HB:=A_ (Below.refl w.heap.size w)
 have H:=h
 unfold Z30.f at H
 clear h
 by_cases c3:(l0.length:Int) = (l1.length:Int)
 ·rw [if_pos c3] at H
  have c3b0:((l0.length:Int) == (l1.length:Int)) = true:=beq_iff_eq.mpr c3
  have c3b1:((l0.length:Int) != (l1.length:Int)) = false:=bne_eq_false_iff_eq.mpr c3
  have c3b2:(l0.length == l1.length) = true:=by first | simpa using c3 | (simp at c3 ⊢;omega)
  clear c3
  have H':=A_ H
  clear H
  go_enter Try.func38,Try.ntmps38
  go_wp2
  go_loopg [5] k (fun kq v5 w'=>∃ (x5_1:Int),v5 = .int .i64 x5_1∧Aside0 (Z30.l0 kq l0 l1 x5_1 = some r)∧Aside0 (kq≤k)∧Aside0 (Below w.heap.size w w'))
  case atStart=>exact ⟨(0),qc_,H',⟨nA_ _⟩,⟨hB_⟩⟩
  case round =>
   clear H'
   obtain ⟨x5_1,rfl,HA,HK1,HB⟩:=hrel
   cases gk with
   | zero=>exact absurd HA.out (by simp [Z30.l0])
   | succ k1 =>
    have H:=HA.out
    clear HA
    simp only [Z30.l0] at H
    by_cases c4:x5_1 < (l0.length:Int)
    ·rw [if_pos c4] at H
     have c4b0:=oC_ c4
     clear c4
     replace H:=cx_ H;obtain ⟨c5b0,H⟩:=H
     replace H:=cx_ H;obtain ⟨c6b0,H⟩:=H
     obtain ⟨t1254,A7,H⟩:=bi_ H
     by_cases c8:t1254 = true
     ·subst c8
      rw [if_pos rfl] at H
      have H':=A_ H
      clear H
      try go_wp2
      replace HB:=A_ (bC_ HB.out)
      have p1252:0≤(x5_1:Int):=oB_ qe_
      have q1252:x5_1 < (l0.length:Int):=oB_ qe_
      obtain ⟨ad1252,A1252_0,c1252_0,A1252_1,c1252_1,e1252,hx1252_0,hx1252_1,hl1252_0,hi1252_0,hl1252_1,hi1252_1⟩:=at_T33 HR0.out x5_1 p1252 q1252
      have hw1252_1:=hx1252_1
      have hw1252_0:=hx1252_0
      cases e1252
      replace hx1252_0:=(HB.out.cell (World.block_lt_of_cell? w _ hx1252_0)).trans hx1252_0
      replace hx1252_1:=(HB.out.cell (World.block_lt_of_cell? w _ hx1252_1)).trans hx1252_1
      have HR1252_0:=A_ hi1252_0
      have HC1252_0:=A_ hl1252_0
      clear hi1252_0 hl1252_0
      have HR1252_1:=A_ hi1252_1
      have HC1252_1:=A_ hl1252_1
      clear hi1252_1 hl1252_1
      replace p1252:=eq_true p1252
      replace q1252:=eq_true q1252
      have p1253:0≤(x5_1:Int):=oB_ qe_
      have q1253:x5_1 < (l1.length:Int):=oB_ qe_
      obtain ⟨ad1253,A1253_0,c1253_0,A1253_1,c1253_1,e1253,hx1253_0,hx1253_1,hl1253_0,hi1253_0,hl1253_1,hi1253_1⟩:=at_T33 HR1.out x5_1 p1253 q1253
      have hw1253_1:=hx1253_1
      have hw1253_0:=hx1253_0
      cases e1253
      replace hx1253_0:=(HB.out.cell (World.block_lt_of_cell? w _ hx1253_0)).trans hx1253_0
      replace hx1253_1:=(HB.out.cell (World.block_lt_of_cell? w _ hx1253_1)).trans hx1253_1
      have HR1253_0:=A_ hi1253_0
      have HC1253_0:=A_ hl1253_0
      clear hi1253_0 hl1253_0
      have HR1253_1:=A_ hi1253_1
      have HC1253_1:=A_ hl1253_1
      clear hi1253_1 hl1253_1
      replace p1253:=eq_true p1253
      replace q1253:=eq_true q1253
      refine start_ (n:=10) (S:=fun w'=>w'.cell? (ad1252.add ((x5_1).toNat * 2)) = some (.slice A1252_0 ((rd_T33 l0 x5_1).f0).length c1252_0)∧w'.cell? ⟨(ad1252.add ((x5_1).toNat * 2)).block,(ad1252.add ((x5_1).toNat * 2)).off + 1,none⟩ = some (.slice A1252_1 ((rd_T33 l0 x5_1).f1).length c1252_1)∧w'.cell? (ad1253.add ((x5_1).toNat * 2)) = some (.slice A1253_0 ((rd_T33 l1 x5_1).f0).length c1253_0)∧w'.cell? ⟨(ad1253.add ((x5_1).toNat * 2)).block,(ad1253.add ((x5_1).toNat * 2)).off + 1,none⟩ = some (.slice A1253_1 ((rd_T33 l1 x5_1).f1).length c1253_1)) (ds:=[]) (bl_ 10 0) (by kernel_rfl) rfl (by kernel_rfl) ⟨((HB.out.cell (World.block_lt_of_cell? w _ hw1252_0)).trans hw1252_0),((HB.out.cell (World.block_lt_of_cell? w _ hw1252_1)).trans hw1252_1),((HB.out.cell (World.block_lt_of_cell? w _ hw1253_0)).trans hw1253_0),((HB.out.cell (World.block_lt_of_cell? w _ hw1253_1)).trans hw1253_1)⟩ (fun hHeld=>?_);refine with_tabW Z30.tab6 Z30.bits6 (fun HT_ HW_=>?_)
      generalize wr.drew = w9 at HB HR1252_0 HR1252_1 HR1253_0 HR1253_1 hx1252_0 hx1252_1 hx1253_0 hx1253_1 hHeld ⊢
      refine pu_ 0 (some 17) (bl_ 10 1) HT_ ?_
      refine pu_ 1 (some 18) (bl_ 10 3) HT_ ?_
      refine pu_ 2 (some 19) (bl_ 10 7) HT_ ?_
      refine pu_ 4 (some 21) (bl_ 10 23) HT_ ?_
      refine pu_ 5 (some 22) (bl_ 10 55) HT_ ?_
      refine pu_ 6 (some 23) (bl_ 10 119) HT_ ?_
      refine ta_ 3 (some 20) (bl_ 10 127) HT_ HW_ hHeld ?_
      refine ta_ 7 (some 24) (bl_ 10 255) HT_ HW_ hHeld ?_
      refine on_ 8 (some 25) (bl_ 10 511) HT_ (fun K hK=>?_)
      refine gO_ Try.func35 #[.agg #[.slice A1252_0 ((rd_T33 l0 x5_1).f0).length c1252_0,.slice A1252_1 ((rd_T33 l0 x5_1).f1).length c1252_1],.agg #[.slice A1253_0 ((rd_T33 l1 x5_1).f0).length c1253_0,.slice A1253_1 ((rd_T33 l1 x5_1).f1).length c1253_1]] (by rfl) rfl rfl qa_ ?_
      with_reducible refine (Z37.calls k1 _ _ ((rd_T33 l0 x5_1).f0) _ _ ((rd_T33 l0 x5_1).f1) _ _ ((rd_T33 l1 x5_1).f0) _ _ ((rd_T33 l1 x5_1).f1) true _ (cb_ HR1252_0) HC1252_0.out (cb_ HR1252_1) HC1252_1.out (cb_ HR1253_0) HC1253_0.out (cb_ HR1253_1) HC1253_1.out A7.out).mono ?_
      rintro e w10 ⟨rfl,hb⟩
      refine ⟨_,rfl,?_⟩
      replace HB:=b1_ hb
      clear hb
      refine hK.out _ _ ⟨((HB.out.cell (World.block_lt_of_cell? w _ hw1252_0)).trans hw1252_0),((HB.out.cell (World.block_lt_of_cell? w _ hw1252_1)).trans hw1252_1),((HB.out.cell (World.block_lt_of_cell? w _ hw1253_0)).trans hw1253_0),((HB.out.cell (World.block_lt_of_cell? w _ hw1253_1)).trans hw1253_1)⟩ (fun hHeld=>?_)
      clear hK K
      refine no_ (some 25) ?_
      refine pu_ 9 (some 26) (bl_ 10 1023) HT_ ?_
      refine done_ (done_of HT_.out (by kernel_rfl)) ?_
      try go_wp2
      go_roundg k1
      case measure=>have:=HK1.out;omega
      case rel=>exact ⟨(wrap64 (x5_1 + 1)),qc_,H',⟨by have:=HK1.out;omega⟩,⟨hB_⟩⟩
     ·replace c8:=Bool.eq_false_iff.mpr c8
      subst c8
      have H1:(some false) = some r:=by rw [if_neg (show ¬ (false = true) by decide)] at H;exact H
      clear H
      have H:=H1
      clear H1
      obtain rfl:=Option.some.inj H
      try go_wp2
      replace HB:=A_ (bC_ HB.out)
      have p1252:0≤(x5_1:Int):=oB_ qe_
      have q1252:x5_1 < (l0.length:Int):=oB_ qe_
      obtain ⟨ad1252,A1252_0,c1252_0,A1252_1,c1252_1,e1252,hx1252_0,hx1252_1,hl1252_0,hi1252_0,hl1252_1,hi1252_1⟩:=at_T33 HR0.out x5_1 p1252 q1252
      have hw1252_1:=hx1252_1
      have hw1252_0:=hx1252_0
      cases e1252
      replace hx1252_0:=(HB.out.cell (World.block_lt_of_cell? w _ hx1252_0)).trans hx1252_0
      replace hx1252_1:=(HB.out.cell (World.block_lt_of_cell? w _ hx1252_1)).trans hx1252_1
      have HR1252_0:=A_ hi1252_0
      have HC1252_0:=A_ hl1252_0
      clear hi1252_0 hl1252_0
      have HR1252_1:=A_ hi1252_1
      have HC1252_1:=A_ hl1252_1
      clear hi1252_1 hl1252_1
      replace p1252:=eq_true p1252
      replace q1252:=eq_true q1252
      have p1253:0≤(x5_1:Int):=oB_ qe_
      have q1253:x5_1 < (l1.length:Int):=oB_ qe_
      obtain ⟨ad1253,A1253_0,c1253_0,A1253_1,c1253_1,e1253,hx1253_0,hx1253_1,hl1253_0,hi1253_0,hl1253_1,hi1253_1⟩:=at_T33 HR1.out x5_1 p1253 q1253
      have hw1253_1:=hx1253_1
      have hw1253_0:=hx1253_0
      cases e1253
      replace hx1253_0:=(HB.out.cell (World.block_lt_of_cell? w _ hx1253_0)).trans hx1253_0
      replace hx1253_1:=(HB.out.cell (World.block_lt_of_cell? w _ hx1253_1)).trans hx1253_1
      have HR1253_0:=A_ hi1253_0
      have HC1253_0:=A_ hl1253_0
      clear hi1253_0 hl1253_0
      have HR1253_1:=A_ hi1253_1
      have HC1253_1:=A_ hl1253_1
      clear hi1253_1 hl1253_1
      replace p1253:=eq_true p1253
      replace q1253:=eq_true q1253
      refine start_ (n:=10) (S:=fun w'=>w'.cell? (ad1252.add ((x5_1).toNat * 2)) = some (.slice A1252_0 ((rd_T33 l0 x5_1).f0).length c1252_0)∧w'.cell? ⟨(ad1252.add ((x5_1).toNat * 2)).block,(ad1252.add ((x5_1).toNat * 2)).off + 1,none⟩ = some (.slice A1252_1 ((rd_T33 l0 x5_1).f1).length c1252_1)∧w'.cell? (ad1253.add ((x5_1).toNat * 2)) = some (.slice A1253_0 ((rd_T33 l1 x5_1).f0).length c1253_0)∧w'.cell? ⟨(ad1253.add ((x5_1).toNat * 2)).block,(ad1253.add ((x5_1).toNat * 2)).off + 1,none⟩ = some (.slice A1253_1 ((rd_T33 l1 x5_1).f1).length c1253_1)) (ds:=[]) (bl_ 10 0) (by kernel_rfl) rfl (by kernel_rfl) ⟨((HB.out.cell (World.block_lt_of_cell? w _ hw1252_0)).trans hw1252_0),((HB.out.cell (World.block_lt_of_cell? w _ hw1252_1)).trans hw1252_1),((HB.out.cell (World.block_lt_of_cell? w _ hw1253_0)).trans hw1253_0),((HB.out.cell (World.block_lt_of_cell? w _ hw1253_1)).trans hw1253_1)⟩ (fun hHeld=>?_);refine with_tabW Z30.tab6 Z30.bits6 (fun HT_ HW_=>?_)
      generalize wr.drew = w11 at HB HR1252_0 HR1252_1 HR1253_0 HR1253_1 hx1252_0 hx1252_1 hx1253_0 hx1253_1 hHeld ⊢
      refine pu_ 0 (some 17) (bl_ 10 1) HT_ ?_
      refine pu_ 1 (some 18) (bl_ 10 3) HT_ ?_
      refine pu_ 2 (some 19) (bl_ 10 7) HT_ ?_
      refine pu_ 4 (some 21) (bl_ 10 23) HT_ ?_
      refine pu_ 5 (some 22) (bl_ 10 55) HT_ ?_
      refine pu_ 6 (some 23) (bl_ 10 119) HT_ ?_
      refine ta_ 3 (some 20) (bl_ 10 127) HT_ HW_ hHeld ?_
      refine ta_ 7 (some 24) (bl_ 10 255) HT_ HW_ hHeld ?_
      refine on_ 8 (some 25) (bl_ 10 511) HT_ (fun K hK=>?_)
      refine gO_ Try.func35 #[.agg #[.slice A1252_0 ((rd_T33 l0 x5_1).f0).length c1252_0,.slice A1252_1 ((rd_T33 l0 x5_1).f1).length c1252_1],.agg #[.slice A1253_0 ((rd_T33 l1 x5_1).f0).length c1253_0,.slice A1253_1 ((rd_T33 l1 x5_1).f1).length c1253_1]] (by rfl) rfl rfl qa_ ?_
      with_reducible refine (Z37.calls k1 _ _ ((rd_T33 l0 x5_1).f0) _ _ ((rd_T33 l0 x5_1).f1) _ _ ((rd_T33 l1 x5_1).f0) _ _ ((rd_T33 l1 x5_1).f1) false _ (cb_ HR1252_0) HC1252_0.out (cb_ HR1252_1) HC1252_1.out (cb_ HR1253_0) HC1253_0.out (cb_ HR1253_1) HC1253_1.out A7.out).mono ?_
      rintro e w12 ⟨rfl,hb⟩
      refine ⟨_,rfl,?_⟩
      replace HB:=b1_ hb
      clear hb
      refine hK.out _ _ ⟨((HB.out.cell (World.block_lt_of_cell? w _ hw1252_0)).trans hw1252_0),((HB.out.cell (World.block_lt_of_cell? w _ hw1252_1)).trans hw1252_1),((HB.out.cell (World.block_lt_of_cell? w _ hw1253_0)).trans hw1253_0),((HB.out.cell (World.block_lt_of_cell? w _ hw1253_1)).trans hw1253_1)⟩ (fun hHeld=>?_)
      clear hK K
      refine no_ (some 25) ?_
      refine pu_ 9 (some 26) (bl_ 10 1023) HT_ ?_
      refine done_ (done_of HT_.out (by kernel_rfl)) ?_
      try go_wp2
      go_ret
      exact ⟨qb_,hB_⟩
    ·rw [if_neg c4] at H
     have c4b0:=oD_ c4
     clear c4
     obtain rfl:=Option.some.inj H
     go_wp2
     go_ret
     exact ⟨qb_,hB_⟩
 ·rw [if_neg c3] at H
  have c3b0:((l0.length:Int) == (l1.length:Int)) = false:=beq_eq_false_iff_ne.mpr c3
  have c3b1:((l0.length:Int) != (l1.length:Int)) = true:=bne_iff_ne.mpr c3
  have c3b2:(l0.length == l1.length) = false:=by first | simpa using c3 | (simp at c3 ⊢;omega)
  obtain rfl:=Option.some.inj H
  go_enter Try.func38,Try.ntmps38
  go_wp2
  go_ret
  exact ⟨qb_,hB_⟩
def Z24.l0:Nat→List (List (S33))→List (List (S33))→Int→Option (Bool)
 | 0,_,_,_=>none
 | k + 1,x0,x1,x5=>if x5 < (x0.length:Int) then (if 0≤x5 then (if x5 < (x1.length:Int) then ((Z30.f k (rd_L8 x0 x5) (rd_L8 x1 x5)).bind fun t1483=>(if t1483 = true then (Z24.l0 k x0 x1 (wrap64 (x5 + 1))) else (some false))) else (none)) else (none)) else (some true)
def Z24.f (k:Nat) (l0:List (List (S33))) (l1:List (List (S33))):Option (Bool):=if (l0.length:Int) = (l1.length:Int) then (Z24.l0 k l0 l1 0) else (some false)
theorem Z24.mono_l:∀ k,(∀ y0 y1 y2,LeO (Z24.l0 k y0 y1 y2) (Z24.l0 (k + 1) y0 y1 y2))
 | 0=>fun _ _ _ r h=>by simp [Z24.l0] at h
 | k + 1=>by
  have ih0:=Z24.mono_l k
  ·intro y0 y1 y2
   unfold Z24.l0
   repeat' first|exact ih0 _ _ _|exact Z30.mono _ _ _|exact lo_|refine LeO.ite ?_ ?_|refine LeO.bind ?_ (fun _=>?_)
theorem Z24.mono:∀ a0 a1 k,LeO (Z24.f k a0 a1) (Z24.f (k + 1) a0 a1):=by
 intro a0 a1 k
 have ih0:=Z24.mono_l k
 unfold Z24.f
 repeat' first|exact ih0 _ _ _|exact Z30.mono _ _ _|exact lo_|refine LeO.ite ?_ ?_|refine LeO.bind ?_ (fun _=>?_)
def Z24.T6:Bool × List (List Nat × List Nat):=(true,[([],[]),([],[]),([0,1],[0,1]),([2],[2]),([],[]),([],[]),([4,5],[4,5]),([6],[6]),([3,7],[3,7]),([8],[8])])
def Z24.B6:List Nat:=[0,0,3,7,0,0,48,112,255,511]
theorem Z24.tab6:rtab .any (opsOf Try.f45 6) = Z24.T6:=by kernel_rfl
theorem Z24.bits6:waitsOk Z24.T6.2 Z24.B6 = true:=by kernel_rfl
set_option maxHeartbeats 8000000 in
set_option maxRecDepth 100000 in
theorem Z24.calls (k:Nat) (A0:Option Addr) (c0:Nat) (l0:List (List (S33))) (A1:Option Addr) (c1:Nat) (l1:List (List (S33))) (r:Bool) (w:World) (hr0:Kd.C (Kd.slice 33 k33) w A0 l0.length l0) (hc0:l0.length≤c0) (hr1:Kd.C (Kd.slice 33 k33) w A1 l1.length l1) (hc1:l1.length≤c1) (h:Z24.f k l0 l1 = some r) :
  Calls Try.prog 45 #[.slice A0 l0.length c0,.slice A1 l1.length c1] w fun e w'=>e = .returned (.bool r)∧Below w.heap.size w w':=by
 have HR0:=A_ hr0
 have HC0:=A_ hc0
 clear hr0 hc0
 have HR1:=A_ hr1
 have HC1:=A_ hc1
 clear hr1 hc1
 have HB:=A_ (Below.refl w.heap.size w)
 have H:=h
 unfold Z24.f at H
 clear h
 by_cases c3:(l0.length:Int) = (l1.length:Int)
 ·rw [if_pos c3] at H
  have c3b0:((l0.length:Int) == (l1.length:Int)) = true:=beq_iff_eq.mpr c3
  have c3b1:((l0.length:Int) != (l1.length:Int)) = false:=bne_eq_false_iff_eq.mpr c3
  have c3b2:(l0.length == l1.length) = true:=by first | simpa using c3 | (simp at c3 ⊢;omega)
  clear c3
  have H':=A_ H
  clear H
  go_enter Try.func45,Try.ntmps45
  go_wp2
  go_loopg [5] k (fun kq v5 w'=>∃ (x5_1:Int),v5 = .int .i64 x5_1∧Aside0 (Z24.l0 kq l0 l1 x5_1 = some r)∧Aside0 (kq≤k)∧Aside0 (Below w.heap.size w w'))
  case atStart=>exact ⟨(0),qc_,H',⟨nA_ _⟩,⟨hB_⟩⟩
  case round =>
   clear H'
   obtain ⟨x5_1,rfl,HA,HK1,HB⟩:=hrel
   cases gk with
   | zero=>exact absurd HA.out (by simp [Z24.l0])
   | succ k1 =>
    have H:=HA.out
    clear HA
    simp only [Z24.l0] at H
    by_cases c4:x5_1 < (l0.length:Int)
    ·rw [if_pos c4] at H
     have c4b0:=oC_ c4
     clear c4
     replace H:=cx_ H;obtain ⟨c5b0,H⟩:=H
     replace H:=cx_ H;obtain ⟨c6b0,H⟩:=H
     obtain ⟨t1483,A7,H⟩:=bi_ H
     by_cases c8:t1483 = true
     ·subst c8
      rw [if_pos rfl] at H
      have H':=A_ H
      clear H
      try go_wp2
      replace HB:=A_ (bC_ HB.out)
      have p1481:0≤(x5_1:Int):=oB_ qe_
      have q1481:x5_1 < (l0.length:Int):=oB_ qe_
      obtain ⟨ad1481,A1481_0,c1481_0,e1481,hx1481_0,hl1481_0,hi1481_0⟩:=at_L8 HR0.out x5_1 p1481 q1481
      have hw1481_0:=hx1481_0
      cases e1481
      replace hx1481_0:=(HB.out.cell (World.block_lt_of_cell? w _ hx1481_0)).trans hx1481_0
      have HR1481_0:=A_ hi1481_0
      have HC1481_0:=A_ hl1481_0
      clear hi1481_0 hl1481_0
      replace p1481:=eq_true p1481
      replace q1481:=eq_true q1481
      have p1482:0≤(x5_1:Int):=oB_ qe_
      have q1482:x5_1 < (l1.length:Int):=oB_ qe_
      obtain ⟨ad1482,A1482_0,c1482_0,e1482,hx1482_0,hl1482_0,hi1482_0⟩:=at_L8 HR1.out x5_1 p1482 q1482
      have hw1482_0:=hx1482_0
      cases e1482
      replace hx1482_0:=(HB.out.cell (World.block_lt_of_cell? w _ hx1482_0)).trans hx1482_0
      have HR1482_0:=A_ hi1482_0
      have HC1482_0:=A_ hl1482_0
      clear hi1482_0 hl1482_0
      replace p1482:=eq_true p1482
      replace q1482:=eq_true q1482
      refine start_ (n:=10) (S:=fun w'=>w'.cell? (ad1481.add (x5_1).toNat) = some (.slice A1481_0 (rd_L8 l0 x5_1).length c1481_0)∧w'.cell? (ad1482.add (x5_1).toNat) = some (.slice A1482_0 (rd_L8 l1 x5_1).length c1482_0)) (ds:=[]) (bl_ 10 0) (by kernel_rfl) rfl (by kernel_rfl) ⟨((HB.out.cell (World.block_lt_of_cell? w _ hw1481_0)).trans hw1481_0),((HB.out.cell (World.block_lt_of_cell? w _ hw1482_0)).trans hw1482_0)⟩ (fun hHeld=>?_);refine with_tabW Z24.tab6 Z24.bits6 (fun HT_ HW_=>?_)
      generalize wr.drew = w9 at HB HR1481_0 HR1482_0 hx1481_0 hx1482_0 hHeld ⊢
      refine pu_ 0 (some 17) (bl_ 10 1) HT_ ?_
      refine pu_ 1 (some 18) (bl_ 10 3) HT_ ?_
      refine pu_ 2 (some 19) (bl_ 10 7) HT_ ?_
      refine pu_ 4 (some 21) (bl_ 10 23) HT_ ?_
      refine pu_ 5 (some 22) (bl_ 10 55) HT_ ?_
      refine pu_ 6 (some 23) (bl_ 10 119) HT_ ?_
      refine ta_ 3 (some 20) (bl_ 10 127) HT_ HW_ hHeld ?_
      refine ta_ 7 (some 24) (bl_ 10 255) HT_ HW_ hHeld ?_
      refine on_ 8 (some 25) (bl_ 10 511) HT_ (fun K hK=>?_)
      refine gO_ Try.func38 #[.slice A1481_0 (rd_L8 l0 x5_1).length c1481_0,.slice A1482_0 (rd_L8 l1 x5_1).length c1482_0] (by rfl) rfl rfl qa_ ?_
      with_reducible refine (Z30.calls k1 _ _ (rd_L8 l0 x5_1) _ _ (rd_L8 l1 x5_1) true _ (cb_ HR1481_0) HC1481_0.out (cb_ HR1482_0) HC1482_0.out A7.out).mono ?_
      rintro e w10 ⟨rfl,hb⟩
      refine ⟨_,rfl,?_⟩
      replace HB:=b1_ hb
      clear hb
      refine hK.out _ _ ⟨((HB.out.cell (World.block_lt_of_cell? w _ hw1481_0)).trans hw1481_0),((HB.out.cell (World.block_lt_of_cell? w _ hw1482_0)).trans hw1482_0)⟩ (fun hHeld=>?_)
      clear hK K
      refine no_ (some 25) ?_
      refine pu_ 9 (some 26) (bl_ 10 1023) HT_ ?_
      refine done_ (done_of HT_.out (by kernel_rfl)) ?_
      try go_wp2
      go_roundg k1
      case measure=>have:=HK1.out;omega
      case rel=>exact ⟨(wrap64 (x5_1 + 1)),qc_,H',⟨by have:=HK1.out;omega⟩,⟨hB_⟩⟩
     ·replace c8:=Bool.eq_false_iff.mpr c8
      subst c8
      have H1:(some false) = some r:=by rw [if_neg (show ¬ (false = true) by decide)] at H;exact H
      clear H
      have H:=H1
      clear H1
      obtain rfl:=Option.some.inj H
      try go_wp2
      replace HB:=A_ (bC_ HB.out)
      have p1481:0≤(x5_1:Int):=oB_ qe_
      have q1481:x5_1 < (l0.length:Int):=oB_ qe_
      obtain ⟨ad1481,A1481_0,c1481_0,e1481,hx1481_0,hl1481_0,hi1481_0⟩:=at_L8 HR0.out x5_1 p1481 q1481
      have hw1481_0:=hx1481_0
      cases e1481
      replace hx1481_0:=(HB.out.cell (World.block_lt_of_cell? w _ hx1481_0)).trans hx1481_0
      have HR1481_0:=A_ hi1481_0
      have HC1481_0:=A_ hl1481_0
      clear hi1481_0 hl1481_0
      replace p1481:=eq_true p1481
      replace q1481:=eq_true q1481
      have p1482:0≤(x5_1:Int):=oB_ qe_
      have q1482:x5_1 < (l1.length:Int):=oB_ qe_
      obtain ⟨ad1482,A1482_0,c1482_0,e1482,hx1482_0,hl1482_0,hi1482_0⟩:=at_L8 HR1.out x5_1 p1482 q1482
      have hw1482_0:=hx1482_0
      cases e1482
      replace hx1482_0:=(HB.out.cell (World.block_lt_of_cell? w _ hx1482_0)).trans hx1482_0
      have HR1482_0:=A_ hi1482_0
      have HC1482_0:=A_ hl1482_0
      clear hi1482_0 hl1482_0
      replace p1482:=eq_true p1482
      replace q1482:=eq_true q1482
      refine start_ (n:=10) (S:=fun w'=>w'.cell? (ad1481.add (x5_1).toNat) = some (.slice A1481_0 (rd_L8 l0 x5_1).length c1481_0)∧w'.cell? (ad1482.add (x5_1).toNat) = some (.slice A1482_0 (rd_L8 l1 x5_1).length c1482_0)) (ds:=[]) (bl_ 10 0) (by kernel_rfl) rfl (by kernel_rfl) ⟨((HB.out.cell (World.block_lt_of_cell? w _ hw1481_0)).trans hw1481_0),((HB.out.cell (World.block_lt_of_cell? w _ hw1482_0)).trans hw1482_0)⟩ (fun hHeld=>?_);refine with_tabW Z24.tab6 Z24.bits6 (fun HT_ HW_=>?_)
      generalize wr.drew = w11 at HB HR1481_0 HR1482_0 hx1481_0 hx1482_0 hHeld ⊢
      refine pu_ 0 (some 17) (bl_ 10 1) HT_ ?_
      refine pu_ 1 (some 18) (bl_ 10 3) HT_ ?_
      refine pu_ 2 (some 19) (bl_ 10 7) HT_ ?_
      refine pu_ 4 (some 21) (bl_ 10 23) HT_ ?_
      refine pu_ 5 (some 22) (bl_ 10 55) HT_ ?_
      refine pu_ 6 (some 23) (bl_ 10 119) HT_ ?_
      refine ta_ 3 (some 20) (bl_ 10 127) HT_ HW_ hHeld ?_
      refine ta_ 7 (some 24) (bl_ 10 255) HT_ HW_ hHeld ?_
      refine on_ 8 (some 25) (bl_ 10 511) HT_ (fun K hK=>?_)
      refine gO_ Try.func38 #[.slice A1481_0 (rd_L8 l0 x5_1).length c1481_0,.slice A1482_0 (rd_L8 l1 x5_1).length c1482_0] (by rfl) rfl rfl qa_ ?_
      with_reducible refine (Z30.calls k1 _ _ (rd_L8 l0 x5_1) _ _ (rd_L8 l1 x5_1) false _ (cb_ HR1481_0) HC1481_0.out (cb_ HR1482_0) HC1482_0.out A7.out).mono ?_
      rintro e w12 ⟨rfl,hb⟩
      refine ⟨_,rfl,?_⟩
      replace HB:=b1_ hb
      clear hb
      refine hK.out _ _ ⟨((HB.out.cell (World.block_lt_of_cell? w _ hw1481_0)).trans hw1481_0),((HB.out.cell (World.block_lt_of_cell? w _ hw1482_0)).trans hw1482_0)⟩ (fun hHeld=>?_)
      clear hK K
      refine no_ (some 25) ?_
      refine pu_ 9 (some 26) (bl_ 10 1023) HT_ ?_
      refine done_ (done_of HT_.out (by kernel_rfl)) ?_
      try go_wp2
      go_ret
      exact ⟨qb_,hB_⟩
    ·rw [if_neg c4] at H
     have c4b0:=oD_ c4
     clear c4
     obtain rfl:=Option.some.inj H
     go_wp2
     go_ret
     exact ⟨qb_,hB_⟩
 ·rw [if_neg c3] at H
  have c3b0:((l0.length:Int) == (l1.length:Int)) = false:=beq_eq_false_iff_ne.mpr c3
  have c3b1:((l0.length:Int) != (l1.length:Int)) = true:=bne_iff_ne.mpr c3
  have c3b2:(l0.length == l1.length) = false:=by first | simpa using c3 | (simp at c3 ⊢;omega)
  obtain rfl:=Option.some.inj H
  go_enter Try.func45,Try.ntmps45
  go_wp2
  go_ret
  exact ⟨qb_,hB_⟩
def Z51.l0:Nat→List Int→Int→Int→Option (Int × List Int)
 | 0,_,_,_=>none
 | k + 1,x0,x1,x5=>if x5 < (x0.length:Int) then (if 0≤x5 then (Z51.l0 k (x0.set (x5:Int).toNat x1) (wrap64 (x1 + 1)) (wrap64 (x5 + 1))) else (none)) else (some (x1,x0))
def Z51.f (k:Nat) (l0:List Int) (a1:Int):Option (Int × List Int):=Z51.l0 k l0 a1 0
theorem Z51.mono_l:∀ k,(∀ y0 y1 y2,LeO (Z51.l0 k y0 y1 y2) (Z51.l0 (k + 1) y0 y1 y2))
 | 0=>fun _ _ _ r h=>by simp [Z51.l0] at h
 | k + 1=>by
  have ih0:=Z51.mono_l k
  ·intro y0 y1 y2
   unfold Z51.l0
   repeat' first|exact ih0 _ _ _|exact lo_|refine LeO.ite ?_ ?_|refine LeO.bind ?_ (fun _=>?_)
theorem Z51.mono:∀ a0 a1 k,LeO (Z51.f k a0 a1) (Z51.f (k + 1) a0 a1):=by
 intro a0 a1 k
 have ih0:=Z51.mono_l k
 unfold Z51.f
 repeat' first|exact ih0 _ _ _|exact lo_|refine LeO.ite ?_ ?_|refine LeO.bind ?_ (fun _=>?_)
set_option maxHeartbeats 8000000 in
set_option maxRecDepth 100000 in
theorem Z51.calls (k:Nat) (P0_:Nat→Prop) (u9000_:Value) (l0:List Int) (a1:Int) (r1:Int) (r2:List Int) (w0 w:World) (hB:Below w0.heap.size w0 w) (ho0:Kd.R (Kd.int .i64) 3 w w0.heap.size P0_ u9000_ l0) (h:Z51.f k l0 a1 = some (r1,r2)) :
  Calls Try.prog 88 #[u9000_,.int .i64 a1] w fun e w'=>e = .returned (.int .i64 r1)∧Kd.R (Kd.int .i64) 3 w' w0.heap.size (fun k_=>(P0_ k_ ∨ w.heap.size≤k_)) u9000_ r2∧Below w0.heap.size w0 w'∧Kept w w' (fun k_=>P0_ k_):=by
 have HO0:=A_ (show Kd.R (Kd.int .i64) 3 w w0.heap.size (fun k_=>(P0_ k_ ∨ w.heap.size≤k_)) u9000_ l0 from Kd.R_mono ho0 (fun k_ hk=>(.inl hk)))
 have HK:=A_ (Kept.refl w (fun k_=>P0_ k_))
 have HW0:=A_ hB.size
 have HB:=A_ hB
 clear hB
 have H:=h
 unfold Z51.f at H
 clear h
 have H':=A_ H
 clear H
 go_enter Try.func88,Try.ntmps88
 go_wp2
 go_loopg [1,5] k (fun kq v1 v5 w'=>∃ (x0_1:List Int) (x1_1:Int) (x5_1:Int),v1 = .int .i64 x1_1∧v5 = .int .i64 x5_1∧Aside0 (Z51.l0 kq x0_1 x1_1 x5_1 = some (r1,r2))∧Aside0 (kq≤k)∧Aside0 (Kd.R (Kd.int .i64) 3 w' w0.heap.size (fun k_=>(P0_ k_ ∨ w.heap.size≤k_)) u9000_ x0_1)∧Aside0 (Kept w w' (fun k_=>P0_ k_))∧Aside0 (Below w0.heap.size w0 w'))
 case atStart=>exact ⟨(l0),(a1),(0),qc_,qc_,H',⟨nA_ _⟩,⟨(rr_ HO0)⟩,⟨by repeat (first | (with_reducible first | exact HK.out | apply Kept.alloc | apply Kept.drewN | apply Kept.drew) | exact HK.out)⟩,⟨hB_⟩⟩
 case round =>
  clear H'
  obtain ⟨x0_1,x1_1,x5_1,rfl,rfl,HA,HK1,HO_0,HK,HB⟩:=hrel
  cases gk with
  | zero=>exact absurd HA.out (by simp [Z51.l0])
  | succ k1 =>
   have H:=HA.out
   clear HA
   simp only [Z51.l0] at H
   by_cases c3:x5_1 < (x0_1.length:Int)
   ·rw [if_pos c3] at H
    have c3b0:=oC_ c3
    clear c3
    replace H:=cx_ H;obtain ⟨c4b0,H⟩:=H
    obtain ⟨y1255,hy1255⟩:∃ y_:List Int,y_ = (x0_1.set (x5_1:Int).toNat x1_1):=⟨_,rfl⟩
    replace H:(Z51.l0 k1 y1255 (wrap64 (x1_1 + 1)) (wrap64 (x5_1 + 1))) = some (r1,r2):=by first | (rw [hy1255];exact H) | exact H
    have Ny1255:=A_ hy1255
    clear hy1255
    have H':=A_ H
    clear H
    obtain ⟨Ao6,co6,eo6⟩:=Kd.R_slice HO_0.out
    subst eo6
    have p5:0≤(x5_1:Int):=oB_ qe_
    have q5:(x5_1:Int) < ((x0_1.length:Int):Int):=oB_ qe_
    obtain ⟨go5,co5,eo5,gb5,gl5,cl5,HG5⟩:=Kd.R_form HO_0.out (by omega)
    (first | cases eo5 | (injection eo5 with ea_ en_ ec_;(first | subst ea_ | (injection ea_ with ea_;subst ea_));subst ec_;clear en_))
    have GB5:=A_ gb5
    have GG5:=A_ HG5
    clear gb5 gl5 HG5
    have HMgo5:=A_ (show (P0_ go5 ∨ w.heap.size≤go5) from (HO_0.out.1 _ rfl))
    obtain ⟨hx5_0,hf5_0⟩:=Kd.R_celln 0 HO_0.out (x5_1:Int) p5 q5
    replace p5:=eq_true p5
    replace q5:=eq_true q5
    have HP7:=Kd.R_putg HO_0.out (x5_1:Int) x1_1
    go_wp2_with (first | ((with_reducible refine gate_store (t:=3) (p:=15) rfl ?_);refine store_event (t:=3) (p:=15) (v:=?vo_w8) (w1:=(wr.setCell ⟨go5,(x5_1:Int).toNat,none⟩ (.int .i64 x1_1))) ?hg ?ho ?hn ?hr ?_;(case ho=>rfl);(case hg=>rfl);(case hn=>rfl);(case hr=>first | (go_simp;done) | (go_simp;rfl));intro w8 hw;have hg:wr.grownBy w8 (some go5):=(by rw [hw];exact HP7.2);have hp_:Kd.R (Kd.int .i64) 3 w8 w0.heap.size (fun k_=>(P0_ k_ ∨ w.heap.size≤k_)) (.slice (some ⟨go5,0,none⟩) x0_1.length co6) y1255:=(by rw [hw,Ny1255.out];exact HP7.1);clear HP7;replace HB:=A_ ((by rw [hw];exact bD_ (HB.out) GB5.out:Below w0.heap.size w0 w8));replace HK:=A_ (Kept.of_grown (S:=(fun k_=>P0_ k_)) hg (by repeat (first | (with_reducible first | exact HK.out | apply Kept.alloc | apply Kept.drewN | apply Kept.drew) | exact HK.out)) (fun k_ e_=>(HO_0.out.1 k_ e_)));replace HO_0:=A_ (hp_);clear hg hw hp_))
    go_roundg k1
    case measure=>have:=HK1.out;omega
    case rel=>exact ⟨(y1255),(wrap64 (x1_1 + 1)),(wrap64 (x5_1 + 1)),qc_,qc_,H',⟨by have:=HK1.out;omega⟩,⟨(rr_ HO_0)⟩,⟨by repeat (first | (with_reducible first | exact HK.out | apply Kept.alloc | apply Kept.drewN | apply Kept.drew) | exact HK.out)⟩,⟨hB_⟩⟩
   ·rw [if_neg c3] at H
    have c3b0:=oD_ c3
    clear c3
    simp only [Option.some.injEq,Prod.mk.injEq] at H
    obtain ⟨rfl,rfl⟩:=H
    obtain ⟨Ao9,co9,eo9⟩:=Kd.R_slice HO_0.out
    subst eo9
    go_wp2
    go_ret
    exact ⟨qb_,(rr_ HO_0),hB_,by repeat (first | (with_reducible first | exact HK.out | apply Kept.alloc | apply Kept.drewN | apply Kept.drew) | exact HK.out)⟩
def Z18.l0:Nat→List S33→Int→Int→Option (Int × List S33)
 | 0,_,_,_=>none
 | k + 1,x0,x1,i=>if i < (x0.length:Int) then (if 0≤i then ((Z51.f k (rd_T33 x0 i).f0 x1).bind fun t=>((Z51.f k (rd_T33 x0 i).f1 t.1).bind fun s=>(Z18.l0 k (x0.set i.toNat ⟨t.2,s.2⟩) s.1 (wrap64 (i + 1))))) else none) else some (x1,x0)
def Z18.f (k:Nat) (l0:List S33) (a1:Int):Option (Int × List S33):=Z18.l0 k l0 a1 0
theorem Z18.mono_l:∀ k,(∀ y0 y1 y2,LeO (Z18.l0 k y0 y1 y2) (Z18.l0 (k + 1) y0 y1 y2))
 | 0=>fun _ _ _ r h=>by simp [Z18.l0] at h
 | k + 1=>by
  have ih0:=Z18.mono_l k
  ·intro y0 y1 y2
   unfold Z18.l0
   repeat' first|exact Z51.mono _ _ _|exact ih0 _ _ _|exact lo_|refine LeO.ite ?_ ?_|refine LeO.bind ?_ (fun _=>?_)
theorem Z18.mono:∀ a0 a1 k,LeO (Z18.f k a0 a1) (Z18.f (k + 1) a0 a1):=by
 intro a0 a1 k
 exact Z18.mono_l k _ _ _
set_option maxHeartbeats 8000000 in
set_option maxRecDepth 100000 in
theorem Z18.calls (k:Nat) (P0_:Nat→Prop) (u9000_:Value) (l0:List S33) (a1:Int) (r1:Int) (r2:List S33) (w0 w:World) (hB:Below w0.heap.size w0 w) (ho0:Kd.S k33 33 w w0.heap.size P0_ u9000_ l0) (h:Z18.f k l0 a1 = some (r1,r2)) :
  Calls Try.prog 39 #[u9000_,.int .i64 a1] w fun e w'=>e = .returned (.int .i64 r1)∧Kd.S k33 33 w' w0.heap.size (fun k_=>(P0_ k_ ∨ w.heap.size≤k_)) u9000_ r2∧Below w0.heap.size w0 w'∧Kept w w' (fun k_=>P0_ k_):=by
 have hu:=Try.underlying33
 have HO0:=A_ (show Kd.S k33 33 w w0.heap.size (fun k_=>(P0_ k_ ∨ w.heap.size≤k_)) u9000_ l0 from Kd.S_mono ho0 (fun k_ hk=>(.inl hk)))
 clear ho0
 have HK:=A_ (Kept.refl w (fun k_=>P0_ k_))
 have HB:=A_ hB
 clear hB
 have H':=A_ (show Z18.l0 k l0 a1 0 = some (r1,r2) from h)
 clear h
 obtain ⟨Ao,co,eo⟩:=Kd.R_slice (Kd.S_R HO0.out)
 obtain ⟨n0,hn0⟩:∃ n0,n0 = l0.length:=⟨_,rfl⟩
 rw [← hn0] at eo
 have HN0:=A_ hn0.symm
 clear hn0
 subst eo
 go_enter Try.func39,Try.ntmps39
 go_wp2
 go_loopg [1,5] k (fun kq v1 v5 w'=>∃ (x0_1:List S33) (x1_1:Int) (x5_1:Int),v1 = .int .i64 x1_1∧v5 = .int .i64 x5_1∧Aside0 (Z18.l0 kq x0_1 x1_1 x5_1 = some (r1,r2))∧Aside0 (kq≤k)∧Aside0 (x0_1.length = n0)∧Aside0 (Kd.S k33 33 w' w0.heap.size (fun k_=>(P0_ k_ ∨ w.heap.size≤k_)) (.slice Ao n0 co) x0_1)∧Aside0 (Kept w w' (fun k_=>P0_ k_))∧Aside0 (Below w0.heap.size w0 w'))
 case atStart=>exact ⟨l0,a1,0,rfl,rfl,H',⟨nA_ _⟩,HN0,⟨(ss_ HO0)⟩,⟨by repeat (first | (with_reducible first | exact HK.out | apply Kept.alloc | apply Kept.drewN | apply Kept.drew) | exact HK.out)⟩,⟨hB_⟩⟩
 case round =>
  clear H' HO0 HK HB HN0
  obtain ⟨x0,x1,i,rfl,rfl,HA,HK1,HN,HO,HK,HB⟩:=hrel
  cases gk with
  | zero=>exact absurd HA.out (by simp [Z18.l0])
  | succ k1 =>
   have H:=HA.out
   clear HA
   simp only [Z18.l0] at H
   rw [HN.out] at H
   by_cases c3:i < (n0:Int)
   ·rw [if_pos c3] at H
    have c4:=cp_ H
    replace H:=ca_ H
    have c3b0:=oC_ c3
    have c4b0:=oC_ c4
    obtain ⟨⟨t1,t2⟩,A3,H⟩:=Option.bind_eq_some_iff.mp H
    obtain ⟨⟨s1,s2⟩,A4,H⟩:=Option.bind_eq_some_iff.mp H
    have A3:=A_ A3
    have A4:=A_ A4
    have H':=A_ H
    clear H
    obtain ⟨g,cap,eg,hgb,hgl,cells,hcells⟩:=Kd.R_form (Kd.S_R HO.out) (by have:=HN.out;omega)
    cases eg
    obtain ⟨oki,c,hcl,hM,hcc,hoki,hH⟩:=Kd.S_lend HO.out ⟨[],[]⟩ i c4 c3
    obtain ⟨v0,v1,rfl,hR0,hR1,hne⟩:=k33_openN hM
    change Kd.R _ _ _ _ _ _ (rd_T33 x0 i).f0 at hR0
    change Kd.R _ _ _ _ _ _ (rd_T33 x0 i).f1 at hR1
    obtain ⟨Av,cv,rfl⟩:=Kd.R_slice hR0
    obtain ⟨Au,cu,rfl⟩:=Kd.R_slice hR1
    have hx0:=hcc 0 _ rfl
    have hx1:=hcc 1 _ rfl
    simp only [show k33.sz = 2 from rfl,Nat.add_zero] at hx0 hx1
    have HG:=A_ hoki
    have HR0:=A_ hR0
    have HR1:=A_ hR1
    have HH:=A_ hH
    have HNE:=A_ hne
    have HX1:=A_ hx1
    clear hR0 hR1 hH hoki hcc hcl HO hne
    replace c3:=eq_true c3
    replace c4:=eq_true c4
    go_upto_region 5 with ((with_reducible refine gA_ (f:=88) rfl ?_);refine goesL_ _ rfl rfl Try.func88 (by kernel_rfl) rfl #[.slice Av (rd_T33 x0 i).f0.length cv,.int .i64 x1] rfl (by (try simp only [mA_,mB_,mC_]);first | done | rfl) ?_;(refine (Z51.calls k1 (fun k_=>some k_ = (.slice Av (rd_T33 x0 i).f0.length cv:Value).ownBlock) _ (rd_T33 x0 i).f0 x1 t1 t2 w0 _ ?side1 ?side2 A3.out).mono ?_);(case side1=>repeat (first | (with_reducible first | exact HB.out | apply bA_ | apply bB_ | apply bC_) | exact HB.out));(case side2=>(with_reducible repeat (first | apply rA_ | apply rB_ | apply rC_));exact Kd.R_tight rfl HR0.out);rintro e w9 ⟨rfl,hy0,hb,hkp⟩;refine ⟨_,rfl,?_⟩;have hx9:=cell_kept HX1.out hkp (fun hs=>(HG.out g (HR0.out.1 g hs.symm)).2 rfl);have HY0:=A_ hy0;have HB9:=A_ hb;have HK9:=A_ hkp;clear hy0 hb hkp hx0 hx1)
    go_wp2_with ((with_reducible refine gA_ (f:=88) rfl ?_);refine goesL_ _ rfl rfl Try.func88 (by kernel_rfl) rfl #[.slice Au (rd_T33 x0 i).f1.length cu,.int .i64 t1] rfl (by (try simp only [mA_,mB_,mC_]);first | done | rfl) ?_;(refine (Z51.calls k1 (fun k_=>some k_ = (.slice Au (rd_T33 x0 i).f1.length cu:Value).ownBlock) _ (rd_T33 x0 i).f1 t1 s1 s2 w0 _ HB9.out (Kd.R_kept (Kd.R_tight rfl HR1.out) HK9.out (fun k_ hk hs=>HNE.out k_ hs.symm hk.symm)) A4.out).mono ?_);rintro e w10 ⟨rfl,hz0,hb,hkp⟩;refine ⟨_,rfl,?_⟩;have HZ0:=A_ hz0;have HB10:=A_ hb;have HK10:=A_ hkp;clear hz0 hb hkp)
    have q0:=Kd.R_mono (Kd.R_kept (Kd.R_tight rfl HY0.out) HK10.out (fun k_ hk hs=>HNE.out k_ hk.symm hs.symm)) (ok':=oki) (fun k_ hk=>HR0.out.1 k_ hk.symm)
    have q1:=Kd.R_mono (Kd.R_tight rfl HZ0.out) (ok':=oki) (fun k_ hk=>HR1.out.1 k_ hk.symm)
    have hS:=Kd.H_back (Kd.H_kept (Kd.H_kept HH.out HK9.out (fun k_ _ hn hs=>hn (HR0.out.1 k_ hs.symm))) HK10.out (fun k_ _ hn hs=>hn (HR1.out.1 k_ hs.symm))) (k33_mkM w10 w0.heap.size oki (⟨t2,s2⟩:S33) q0 q1 HNE.out) (fun k_ hk=>hk)
    have HS:=A_ hS
    have HK':=A_ (Kept.then_ (Kept.then_ HK.out HK9.out (fun k_ hk=>(HG.out k_ (HR0.out.1 k_ hk.symm)).1)) HK10.out (fun k_ hk=>(HG.out k_ (HR1.out.1 k_ hk.symm)).1))
    clear hS q0 q1
    go_roundg k1
    case measure=>have:=HK1.out;omega
    case rel=>exact ⟨x0.set i.toNat ⟨t2,s2⟩,s1,wrap64 (i + 1),rfl,rfl,H',⟨by have:=HK1.out;omega⟩,⟨by rw [List.length_set]⟩,HS,HK',HB10⟩
   ·rw [if_neg c3] at H
    have c3b0:=oD_ c3
    clear c3
    simp only [Option.some.injEq,Prod.mk.injEq] at H
    obtain ⟨rfl,rfl⟩:=H
    go_wp2
    go_ret
    exact ⟨rfl,(ss_ HO),hB_,by repeat (first | (with_reducible first | exact HK.out | apply Kept.alloc | apply Kept.drewN | apply Kept.drew) | exact HK.out)⟩
def Z11.l0:Nat→List (List S33)→Int→Int→Option (Int × List (List S33))
 | 0,_,_,_=>none
 | k + 1,x0,x1,i=>if i < (x0.length:Int) then (if 0≤i then ((Z18.f k (rd_L8 x0 i) x1).bind fun t=>(Z11.l0 k (x0.set i.toNat t.2) t.1 (wrap64 (i + 1)))) else none) else some (x1,x0)
def Z11.f (k:Nat) (l0:List (List S33)) (a1:Int):Option (Int × List (List S33)):=Z11.l0 k l0 a1 0
theorem Z11.mono_l:∀ k,(∀ y0 y1 y2,LeO (Z11.l0 k y0 y1 y2) (Z11.l0 (k + 1) y0 y1 y2))
 | 0=>fun _ _ _ r h=>by simp [Z11.l0] at h
 | k + 1=>by
  have ih0:=Z11.mono_l k
  intro y0 y1 y2
  unfold Z11.l0
  repeat' first|exact Z18.mono _ _ _|exact ih0 _ _ _|exact lo_|refine LeO.ite ?_ ?_|refine LeO.bind ?_ (fun _=>?_)
theorem Z11.mono:∀ a0 a1 k,LeO (Z11.f k a0 a1) (Z11.f (k + 1) a0 a1):=by
 intro a0 a1 k
 exact Z11.mono_l k _ _ _
theorem Z11.more {α:Type} {d:Kd α} {e base:Nat} {W:World} {ok oki:Nat→Prop} {v:Value} {xs:List α} {i:Int} {c:List Value} (h:Kd.H d e W base ok v xs i oki c) (hn:∀ k,W.heap.size≤k→ok k):Kd.H d e W base ok v xs i (fun k=>oki k ∨ W.heap.size≤k) c:=by
 obtain ⟨h1,f,hf⟩:=h
 exact ⟨fun k hk=>hk.elim (h1 k) (hn k),f,Kd.R_mono (Kd.R_bound hf) (fun k hk=>⟨hk.1.1,fun h2=>h2.elim hk.1.2 (fun h3=>absurd hk.2.2.1 (Nat.not_lt.mpr h3))⟩)⟩
set_option maxHeartbeats 8000000 in
set_option maxRecDepth 100000 in
theorem Z11.calls (k:Nat) (P0_:Nat→Prop) (u9000_:Value) (l0:List (List S33)) (a1:Int) (r1:Int) (r2:List (List S33)) (w0 w:World) (hB:Below w0.heap.size w0 w) (ho0:Kd.S (M.sliceS 33 k33) 25 w w0.heap.size P0_ u9000_ l0) (h:Z11.f k l0 a1 = some (r1,r2)) :
  Calls Try.prog 46 #[u9000_,.int .i64 a1] w fun e w'=>e = .returned (.int .i64 r1)∧Kd.S (M.sliceS 33 k33) 25 w' w0.heap.size (fun k_=>(P0_ k_ ∨ w.heap.size≤k_)) u9000_ r2∧Below w0.heap.size w0 w'∧Kept w w' (fun k_=>P0_ k_):=by
 have HO0:=A_ (show Kd.S (M.sliceS 33 k33) 25 w w0.heap.size (fun k_=>(P0_ k_ ∨ w.heap.size≤k_)) u9000_ l0 from Kd.S_mono ho0 (fun k_ hk=>(.inl hk)))
 clear ho0
 have HK:=A_ (Kept.refl w (fun k_=>P0_ k_))
 have HB:=A_ hB
 clear hB
 have H':=A_ (show Z11.l0 k l0 a1 0 = some (r1,r2) from h)
 clear h
 obtain ⟨Ao,co,eo⟩:=Kd.R_slice (Kd.S_R HO0.out)
 obtain ⟨n0,hn0⟩:∃ n0,n0 = l0.length:=⟨_,rfl⟩
 rw [← hn0] at eo
 have HN0:=A_ hn0.symm
 clear hn0
 subst eo
 go_enter Try.func46,Try.ntmps46
 go_wp2
 go_loopg [1,5] k (fun kq v1 v5 w'=>∃ (x0_1:List (List S33)) (x1_1:Int) (x5_1:Int),v1 = .int .i64 x1_1∧v5 = .int .i64 x5_1∧Aside0 (Z11.l0 kq x0_1 x1_1 x5_1 = some (r1,r2))∧Aside0 (kq≤k)∧Aside0 (x0_1.length = n0)∧Aside0 (Kd.S (M.sliceS 33 k33) 25 w' w0.heap.size (fun k_=>(P0_ k_ ∨ w.heap.size≤k_)) (.slice Ao n0 co) x0_1)∧Aside0 (Kept w w' (fun k_=>P0_ k_))∧Aside0 (Below w0.heap.size w0 w'))
 case atStart=>exact ⟨l0,a1,0,rfl,rfl,H',⟨nA_ _⟩,HN0,⟨(ss_ HO0)⟩,⟨by repeat (first | (with_reducible first | exact HK.out | apply Kept.alloc | apply Kept.drewN | apply Kept.drew) | exact HK.out)⟩,⟨hB_⟩⟩
 case round =>
  clear H' HO0 HK HB HN0
  obtain ⟨x0,x1,i,rfl,rfl,HA,HK1,HN,HO,HK,HB⟩:=hrel
  cases gk with
  | zero=>exact absurd HA.out (by simp [Z11.l0])
  | succ k1 =>
   have H:=HA.out
   clear HA
   simp only [Z11.l0] at H
   rw [HN.out] at H
   by_cases c3:i < (n0:Int)
   ·rw [if_pos c3] at H
    have c4:=cp_ H
    replace H:=ca_ H
    have c3b0:=oC_ c3
    have c4b0:=oC_ c4
    obtain ⟨⟨t1,t2⟩,A3,H⟩:=Option.bind_eq_some_iff.mp H
    have A3:=A_ A3
    have H':=A_ H
    clear H
    obtain ⟨g,cap,eg,hgb,hgl,cells,hcells⟩:=Kd.R_form (Kd.S_R HO.out) (by have:=HN.out;omega)
    cases eg
    obtain ⟨oki,c,hcl,hM,hcc,hoki,hH⟩:=Kd.S_lend HO.out [] i c4 c3
    obtain ⟨v0,rfl,hS0⟩:=hM
    change Kd.S _ _ _ _ _ _ (rd_L8 x0 i) at hS0
    obtain ⟨Av,cv,rfl⟩:=Kd.S_slice hS0
    have hx0:=hcc 0 _ rfl
    simp only [show (M.sliceS 33 k33).sz = 1 from rfl,Nat.add_zero,Nat.mul_one] at hx0
    have HG:=A_ hoki
    have HS0:=A_ hS0
    have HH:=A_ (Z11.more hH (fun k_ hk=>.inr (Nat.le_trans HK.out.1 hk)))
    clear hS0 hH hoki hcc hcl HO
    replace c3:=eq_true c3
    replace c4:=eq_true c4
    go_wp2_with ((with_reducible refine gA_ (f:=39) rfl ?_);refine goesL_ _ rfl rfl Try.func39 (by kernel_rfl) rfl #[.slice Av (rd_L8 x0 i).length cv,.int .i64 x1] rfl (by (try simp only [mA_,mB_,mC_]);first | done | rfl) ?_;(refine (Z18.calls k1 oki _ (rd_L8 x0 i) x1 t1 t2 w0 _ hB_ (ss_ HS0) A3.out).mono ?_);rintro e w9 ⟨rfl,hy0,hb,hkp⟩;refine ⟨_,rfl,?_⟩;have HY0:=A_ hy0;have HB9:=A_ hb;have HK9:=A_ hkp;clear hy0 hb hkp hx0)
    have hS:=Kd.H_back (Kd.H_kept HH.out HK9.out (fun k_ _ hn hs=>hn (.inl hs))) (x':=t2) (okp:=(fun k_=>oki k_ ∨ wr.heap.size≤k_)) ⟨_,rfl,HY0.out⟩ (fun k_ hk=>hk)
    have HS:=A_ hS
    have HK':=A_ (Kept.then_ HK.out HK9.out (fun k_ hk=>(HG.out k_ hk).1))
    have hlen:t2.length = (rd_L8 x0 i).length:=by
     obtain ⟨A_,c_,e_⟩:=Kd.S_slice HY0.out
     injection e_ with _ e2_ _
     exact e2_.symm
    clear hS
    go_roundg k1
    case measure=>have:=HK1.out;omega
    case rel=>exact ⟨x0.set i.toNat t2,t1,wrap64 (i + 1),rfl,rfl,H',⟨by have:=HK1.out;omega⟩,⟨by rw [List.length_set]⟩,HS,HK',HB9⟩
   ·rw [if_neg c3] at H
    have c3b0:=oD_ c3
    clear c3
    simp only [Option.some.injEq,Prod.mk.injEq] at H
    obtain ⟨rfl,rfl⟩:=H
    go_wp2
    go_ret
    exact ⟨rfl,(ss_ HO),hB_,by repeat (first | (with_reducible first | exact HK.out | apply Kept.alloc | apply Kept.drewN | apply Kept.drew) | exact HK.out)⟩
def Z50.l0:Nat→List Int→Int→Int→Option (Int)
 | 0,_,_,_=>none
 | k + 1,x0,x1,x5=>if x5 < (x0.length:Int) then (if 0≤x5 then (if (rd x0 x5) = x1 then (Z50.l0 k x0 (wrap64 (x1 + 1)) (wrap64 (x5 + 1))) else (some (-1))) else (none)) else (some x1)
def Z50.f (k:Nat) (l0:List Int) (a1:Int):Option (Int):=Z50.l0 k l0 a1 0
theorem Z50.mono_l:∀ k,(∀ y0 y1 y2,LeO (Z50.l0 k y0 y1 y2) (Z50.l0 (k + 1) y0 y1 y2))
 | 0=>fun _ _ _ r h=>by simp [Z50.l0] at h
 | k + 1=>by
  have ih0:=Z50.mono_l k
  ·intro y0 y1 y2
   unfold Z50.l0
   repeat' first|exact ih0 _ _ _|exact lo_|refine LeO.ite ?_ ?_|refine LeO.bind ?_ (fun _=>?_)
theorem Z50.mono:∀ a0 a1 k,LeO (Z50.f k a0 a1) (Z50.f (k + 1) a0 a1):=by
 intro a0 a1 k
 have ih0:=Z50.mono_l k
 unfold Z50.f
 repeat' first|exact ih0 _ _ _|exact lo_|refine LeO.ite ?_ ?_|refine LeO.bind ?_ (fun _=>?_)
set_option maxHeartbeats 8000000 in
set_option maxRecDepth 100000 in
theorem Z50.calls (k:Nat) (A0:Option Addr) (c0:Nat) (l0:List Int) (a1:Int) (r:Int) (w:World) (hr0:Kd.C (Kd.int .i64) w A0 l0.length l0) (hc0:l0.length≤c0) (h:Z50.f k l0 a1 = some r) :
  Calls Try.prog 89 #[.slice A0 l0.length c0,.int .i64 a1] w fun e w'=>e = .returned (.int .i64 r)∧Drawn0 w w':=by
 have HR0:=A_ hr0
 have HC0:=A_ hc0
 clear hr0 hc0
 have H:=h
 unfold Z50.f at H
 clear h
 have H':=A_ H
 clear H
 go_enter Try.func89,Try.ntmps89
 go_wp2
 go_loopg [1,5] k (fun kq v1 v5 w'=>∃ (x1_1:Int) (x5_1:Int),v1 = .int .i64 x1_1∧v5 = .int .i64 x5_1∧Aside0 (Z50.l0 kq l0 x1_1 x5_1 = some r)∧Aside0 (kq≤k)∧Drawn0 w w')
 case atStart=>exact ⟨(a1),(0),qc_,qc_,H',⟨nA_ _⟩,by repeat (first | exact Drawn0.refl _ | apply Drawn0.step)⟩
 case round =>
  clear H'
  obtain ⟨x1_1,x5_1,rfl,rfl,HA,HK1,⟨m1,rfl⟩⟩:=hrel
  cases gk with
  | zero=>exact absurd HA.out (by simp [Z50.l0])
  | succ k1 =>
   have H:=HA.out
   clear HA
   simp only [Z50.l0] at H
   by_cases c3:x5_1 < (l0.length:Int)
   ·rw [if_pos c3] at H
    have c3b0:=oC_ c3
    clear c3
    replace H:=cx_ H;obtain ⟨c4b0,H⟩:=H
    by_cases c5:(rd l0 x5_1) = x1_1
    ·rw [if_pos c5] at H
     have c5b0:((rd l0 x5_1) == x1_1) = true:=beq_iff_eq.mpr c5
     have c5b1:((rd l0 x5_1) != x1_1) = false:=bne_eq_false_iff_eq.mpr c5
     clear c5
     have H':=A_ H
     clear H
     have p1256:0≤(x5_1:Int):=oB_ qe_
     have q1256:x5_1 < (l0.length:Int):=oB_ qe_
     obtain ⟨ad1256,e1256,hx1256_0⟩:=Kd.at_int HR0.out x5_1 p1256 q1256
     cases e1256
     replace p1256:=eq_true p1256
     replace q1256:=eq_true q1256
     go_wp2
     go_roundg k1
     case measure=>have:=HK1.out;omega
     case rel=>exact ⟨(wrap64 (x1_1 + 1)),(wrap64 (x5_1 + 1)),qc_,qc_,H',⟨by have:=HK1.out;omega⟩,by repeat (first | exact Drawn0.refl _ | apply Drawn0.step)⟩
    ·rw [if_neg c5] at H
     have c5b0:((rd l0 x5_1) == x1_1) = false:=beq_eq_false_iff_ne.mpr c5
     have c5b1:((rd l0 x5_1) != x1_1) = true:=bne_iff_ne.mpr c5
     obtain rfl:=Option.some.inj H
     have p1256:0≤(x5_1:Int):=oB_ qe_
     have q1256:x5_1 < (l0.length:Int):=oB_ qe_
     obtain ⟨ad1256,e1256,hx1256_0⟩:=Kd.at_int HR0.out x5_1 p1256 q1256
     cases e1256
     replace p1256:=eq_true p1256
     replace q1256:=eq_true q1256
     go_wp2
     go_ret
     exact ⟨qc_,by repeat (first | exact Drawn0.refl _ | apply Drawn0.step)⟩
   ·rw [if_neg c3] at H
    have c3b0:=oD_ c3
    clear c3
    obtain rfl:=Option.some.inj H
    go_wp2
    go_ret
    exact ⟨qc_,by repeat (first | exact Drawn0.refl _ | apply Drawn0.step)⟩
def Z17.l0:Nat→List (S33)→Int→Int→Option (Int)
 | 0,_,_,_=>none
 | k + 1,x0,x1,x5=>if x5 < (x0.length:Int) then (if 0≤x5 then ((Z50.f k ((rd_T33 x0 x5).f0) x1).bind fun t1258=>(if t1258 < 0 then (some (-1)) else ((Z50.f k ((rd_T33 x0 x5).f1) t1258).bind fun t1260=>(if t1260 < 0 then (some (-1)) else (Z17.l0 k x0 t1260 (wrap64 (x5 + 1))))))) else (none)) else (some x1)
def Z17.f (k:Nat) (l0:List (S33)) (a1:Int):Option (Int):=Z17.l0 k l0 a1 0
theorem Z17.mono_l:∀ k,(∀ y0 y1 y2,LeO (Z17.l0 k y0 y1 y2) (Z17.l0 (k + 1) y0 y1 y2))
 | 0=>fun _ _ _ r h=>by simp [Z17.l0] at h
 | k + 1=>by
  have ih0:=Z17.mono_l k
  ·intro y0 y1 y2
   unfold Z17.l0
   repeat' first|exact ih0 _ _ _|exact Z50.mono _ _ _|exact lo_|refine LeO.ite ?_ ?_|refine LeO.bind ?_ (fun _=>?_)
theorem Z17.mono:∀ a0 a1 k,LeO (Z17.f k a0 a1) (Z17.f (k + 1) a0 a1):=by
 intro a0 a1 k
 have ih0:=Z17.mono_l k
 unfold Z17.f
 repeat' first|exact ih0 _ _ _|exact Z50.mono _ _ _|exact lo_|refine LeO.ite ?_ ?_|refine LeO.bind ?_ (fun _=>?_)
set_option maxHeartbeats 8000000 in
set_option maxRecDepth 100000 in
theorem Z17.calls (k:Nat) (A0:Option Addr) (c0:Nat) (l0:List (S33)) (a1:Int) (r:Int) (w:World) (hr0:Kd.C k33 w A0 l0.length l0) (hc0:l0.length≤c0) (h:Z17.f k l0 a1 = some r) :
  Calls Try.prog 40 #[.slice A0 l0.length c0,.int .i64 a1] w fun e w'=>e = .returned (.int .i64 r)∧Drawn0 w w':=by
 have HR0:=A_ hr0
 have HC0:=A_ hc0
 clear hr0 hc0
 have H:=h
 unfold Z17.f at H
 clear h
 have H':=A_ H
 clear H
 go_enter Try.func40,Try.ntmps40
 go_wp2
 go_loopg [1,5] k (fun kq v1 v5 w'=>∃ (x1_1:Int) (x5_1:Int),v1 = .int .i64 x1_1∧v5 = .int .i64 x5_1∧Aside0 (Z17.l0 kq l0 x1_1 x5_1 = some r)∧Aside0 (kq≤k)∧Drawn0 w w')
 case atStart=>exact ⟨(a1),(0),qc_,qc_,H',⟨nA_ _⟩,by repeat (first | exact Drawn0.refl _ | apply Drawn0.step)⟩
 case round =>
  clear H'
  obtain ⟨x1_1,x5_1,rfl,rfl,HA,HK1,⟨m1,rfl⟩⟩:=hrel
  cases gk with
  | zero=>exact absurd HA.out (by simp [Z17.l0])
  | succ k1 =>
   have H:=HA.out
   clear HA
   simp only [Z17.l0] at H
   by_cases c3:x5_1 < (l0.length:Int)
   ·rw [if_pos c3] at H
    have c3b0:=oC_ c3
    clear c3
    replace H:=cx_ H;obtain ⟨c4b0,H⟩:=H
    obtain ⟨t1258,A5,H⟩:=bi_ H
    by_cases c6:t1258 < 0
    ·rw [if_pos c6] at H
     have c6b0:=oC_ c6
     clear c6
     obtain rfl:=Option.some.inj H
     have p1257:0≤(x5_1:Int):=oB_ qe_
     have q1257:x5_1 < (l0.length:Int):=oB_ qe_
     obtain ⟨ad1257,A1257_0,c1257_0,A1257_1,c1257_1,e1257,hx1257_0,hx1257_1,hl1257_0,hi1257_0,hl1257_1,hi1257_1⟩:=at_T33 HR0.out x5_1 p1257 q1257
     cases e1257
     have HR1257_0:=A_ hi1257_0
     have HC1257_0:=A_ hl1257_0
     clear hi1257_0 hl1257_0
     have HR1257_1:=A_ hi1257_1
     have HC1257_1:=A_ hl1257_1
     clear hi1257_1 hl1257_1
     replace p1257:=eq_true p1257
     replace q1257:=eq_true q1257
     go_wp2_with (first | ((with_reducible refine gA_ (f:=89) rfl ?_);refine gL_ (some 18) Try.func89 #[.slice A1257_0 ((rd_T33 l0 x5_1).f0).length c1257_0,.int .i64 x1_1] rfl qa_ ?_;(with_reducible refine (Z50.calls k1 _ _ ((rd_T33 l0 x5_1).f0) x1_1 t1258 _ (cc_ HR1257_0) HC1257_0.out A5.out).mono ?_);rintro e w' ⟨rfl,⟨nd,rfl⟩⟩;refine ⟨_,rfl,?_⟩))
     go_ret
     exact ⟨qc_,by repeat (first | exact Drawn0.refl _ | apply Drawn0.step)⟩
    ·rw [if_neg c6] at H
     have c6b0:=oD_ c6
     clear c6
     obtain ⟨t1260,A7,H⟩:=bi_ H
     by_cases c8:t1260 < 0
     ·rw [if_pos c8] at H
      have c8b0:=oC_ c8
      clear c8
      obtain rfl:=Option.some.inj H
      have p1257:0≤(x5_1:Int):=oB_ qe_
      have q1257:x5_1 < (l0.length:Int):=oB_ qe_
      obtain ⟨ad1257,A1257_0,c1257_0,A1257_1,c1257_1,e1257,hx1257_0,hx1257_1,hl1257_0,hi1257_0,hl1257_1,hi1257_1⟩:=at_T33 HR0.out x5_1 p1257 q1257
      cases e1257
      have HR1257_0:=A_ hi1257_0
      have HC1257_0:=A_ hl1257_0
      clear hi1257_0 hl1257_0
      have HR1257_1:=A_ hi1257_1
      have HC1257_1:=A_ hl1257_1
      clear hi1257_1 hl1257_1
      replace p1257:=eq_true p1257
      replace q1257:=eq_true q1257
      go_wp2_with (first | ((with_reducible refine gA_ (f:=89) rfl ?_);refine gL_ (some 18) Try.func89 #[.slice A1257_0 ((rd_T33 l0 x5_1).f0).length c1257_0,.int .i64 x1_1] rfl qa_ ?_;(with_reducible refine (Z50.calls k1 _ _ ((rd_T33 l0 x5_1).f0) x1_1 t1258 _ (cc_ HR1257_0) HC1257_0.out A5.out).mono ?_);rintro e w' ⟨rfl,⟨nd,rfl⟩⟩;refine ⟨_,rfl,?_⟩;have p1259:0≤(x5_1:Int):=oB_ qe_;have q1259:x5_1 < (l0.length:Int):=oB_ qe_;obtain ⟨ad1259,A1259_0,c1259_0,A1259_1,c1259_1,e1259,hx1259_0,hx1259_1,hl1259_0,hi1259_0,hl1259_1,hi1259_1⟩:=at_T33 HR0.out x5_1 p1259 q1259;obtain rfl:ad1257 = ad1259:=(by injection e1259);have HR1259_0:=A_ hi1259_0;have HC1259_0:=A_ hl1259_0;clear hi1259_0 hl1259_0;have HR1259_1:=A_ hi1259_1;have HC1259_1:=A_ hl1259_1;clear hi1259_1 hl1259_1;replace p1259:=eq_true p1259;replace q1259:=eq_true q1259;have ea_:=Option.some.inj (hx1257_0.symm.trans hx1259_0);injection ea_ with ea_ en_ ec_;subst ea_;subst ec_;clear en_;have ea_:=Option.some.inj (hx1257_1.symm.trans hx1259_1);injection ea_ with ea_ en_ ec_;subst ea_;subst ec_;clear en_) | ((with_reducible refine gA_ (f:=89) rfl ?_);refine gL_ (some 27) Try.func89 #[.slice A1257_1 ((rd_T33 l0 x5_1).f1).length c1257_1,.int .i64 t1258] rfl qa_ ?_;(with_reducible refine (Z50.calls k1 _ _ ((rd_T33 l0 x5_1).f1) t1258 t1260 _ (cc_ HR1259_1) HC1259_1.out A7.out).mono ?_);rintro e w' ⟨rfl,⟨nd,rfl⟩⟩;refine ⟨_,rfl,?_⟩))
      go_ret
      exact ⟨qc_,by repeat (first | exact Drawn0.refl _ | apply Drawn0.step)⟩
     ·rw [if_neg c8] at H
      have c8b0:=oD_ c8
      clear c8
      have H':=A_ H
      clear H
      have p1257:0≤(x5_1:Int):=oB_ qe_
      have q1257:x5_1 < (l0.length:Int):=oB_ qe_
      obtain ⟨ad1257,A1257_0,c1257_0,A1257_1,c1257_1,e1257,hx1257_0,hx1257_1,hl1257_0,hi1257_0,hl1257_1,hi1257_1⟩:=at_T33 HR0.out x5_1 p1257 q1257
      cases e1257
      have HR1257_0:=A_ hi1257_0
      have HC1257_0:=A_ hl1257_0
      clear hi1257_0 hl1257_0
      have HR1257_1:=A_ hi1257_1
      have HC1257_1:=A_ hl1257_1
      clear hi1257_1 hl1257_1
      replace p1257:=eq_true p1257
      replace q1257:=eq_true q1257
      go_wp2_with (first | ((with_reducible refine gA_ (f:=89) rfl ?_);refine gL_ (some 18) Try.func89 #[.slice A1257_0 ((rd_T33 l0 x5_1).f0).length c1257_0,.int .i64 x1_1] rfl qa_ ?_;(with_reducible refine (Z50.calls k1 _ _ ((rd_T33 l0 x5_1).f0) x1_1 t1258 _ (cc_ HR1257_0) HC1257_0.out A5.out).mono ?_);rintro e w' ⟨rfl,⟨nd,rfl⟩⟩;refine ⟨_,rfl,?_⟩;have p1259:0≤(x5_1:Int):=oB_ qe_;have q1259:x5_1 < (l0.length:Int):=oB_ qe_;obtain ⟨ad1259,A1259_0,c1259_0,A1259_1,c1259_1,e1259,hx1259_0,hx1259_1,hl1259_0,hi1259_0,hl1259_1,hi1259_1⟩:=at_T33 HR0.out x5_1 p1259 q1259;obtain rfl:ad1257 = ad1259:=(by injection e1259);have HR1259_0:=A_ hi1259_0;have HC1259_0:=A_ hl1259_0;clear hi1259_0 hl1259_0;have HR1259_1:=A_ hi1259_1;have HC1259_1:=A_ hl1259_1;clear hi1259_1 hl1259_1;replace p1259:=eq_true p1259;replace q1259:=eq_true q1259;have ea_:=Option.some.inj (hx1257_0.symm.trans hx1259_0);injection ea_ with ea_ en_ ec_;subst ea_;subst ec_;clear en_;have ea_:=Option.some.inj (hx1257_1.symm.trans hx1259_1);injection ea_ with ea_ en_ ec_;subst ea_;subst ec_;clear en_) | ((with_reducible refine gA_ (f:=89) rfl ?_);refine gL_ (some 27) Try.func89 #[.slice A1257_1 ((rd_T33 l0 x5_1).f1).length c1257_1,.int .i64 t1258] rfl qa_ ?_;(with_reducible refine (Z50.calls k1 _ _ ((rd_T33 l0 x5_1).f1) t1258 t1260 _ (cc_ HR1259_1) HC1259_1.out A7.out).mono ?_);rintro e w' ⟨rfl,⟨nd,rfl⟩⟩;refine ⟨_,rfl,?_⟩))
      go_roundg k1
      case measure=>have:=HK1.out;omega
      case rel=>exact ⟨(t1260),(wrap64 (x5_1 + 1)),qc_,qc_,H',⟨by have:=HK1.out;omega⟩,by repeat (first | exact Drawn0.refl _ | apply Drawn0.step)⟩
   ·rw [if_neg c3] at H
    have c3b0:=oD_ c3
    clear c3
    obtain rfl:=Option.some.inj H
    go_wp2
    go_ret
    exact ⟨qc_,by repeat (first | exact Drawn0.refl _ | apply Drawn0.step)⟩
def Z10.l0:Nat→List (List (S33))→Int→Int→Option (Int)
 | 0,_,_,_=>none
 | k + 1,x0,x1,x5=>if x5 < (x0.length:Int) then (if 0≤x5 then ((Z17.f k (rd_L8 x0 x5) x1).bind fun t1485=>(if t1485 < 0 then (some (-1)) else (Z10.l0 k x0 t1485 (wrap64 (x5 + 1))))) else (none)) else (some x1)
def Z10.f (k:Nat) (l0:List (List (S33))) (a1:Int):Option (Int):=Z10.l0 k l0 a1 0
theorem Z10.mono_l:∀ k,(∀ y0 y1 y2,LeO (Z10.l0 k y0 y1 y2) (Z10.l0 (k + 1) y0 y1 y2))
 | 0=>fun _ _ _ r h=>by simp [Z10.l0] at h
 | k + 1=>by
  have ih0:=Z10.mono_l k
  ·intro y0 y1 y2
   unfold Z10.l0
   repeat' first|exact ih0 _ _ _|exact Z17.mono _ _ _|exact lo_|refine LeO.ite ?_ ?_|refine LeO.bind ?_ (fun _=>?_)
theorem Z10.mono:∀ a0 a1 k,LeO (Z10.f k a0 a1) (Z10.f (k + 1) a0 a1):=by
 intro a0 a1 k
 have ih0:=Z10.mono_l k
 unfold Z10.f
 repeat' first|exact ih0 _ _ _|exact Z17.mono _ _ _|exact lo_|refine LeO.ite ?_ ?_|refine LeO.bind ?_ (fun _=>?_)
set_option maxHeartbeats 8000000 in
set_option maxRecDepth 100000 in
theorem Z10.calls (k:Nat) (A0:Option Addr) (c0:Nat) (l0:List (List (S33))) (a1:Int) (r:Int) (w:World) (hr0:Kd.C (Kd.slice 33 k33) w A0 l0.length l0) (hc0:l0.length≤c0) (h:Z10.f k l0 a1 = some r) :
  Calls Try.prog 47 #[.slice A0 l0.length c0,.int .i64 a1] w fun e w'=>e = .returned (.int .i64 r)∧Drawn0 w w':=by
 have HR0:=A_ hr0
 have HC0:=A_ hc0
 clear hr0 hc0
 have H:=h
 unfold Z10.f at H
 clear h
 have H':=A_ H
 clear H
 go_enter Try.func47,Try.ntmps47
 go_wp2
 go_loopg [1,5] k (fun kq v1 v5 w'=>∃ (x1_1:Int) (x5_1:Int),v1 = .int .i64 x1_1∧v5 = .int .i64 x5_1∧Aside0 (Z10.l0 kq l0 x1_1 x5_1 = some r)∧Aside0 (kq≤k)∧Drawn0 w w')
 case atStart=>exact ⟨(a1),(0),qc_,qc_,H',⟨nA_ _⟩,by repeat (first | exact Drawn0.refl _ | apply Drawn0.step)⟩
 case round =>
  clear H'
  obtain ⟨x1_1,x5_1,rfl,rfl,HA,HK1,⟨m1,rfl⟩⟩:=hrel
  cases gk with
  | zero=>exact absurd HA.out (by simp [Z10.l0])
  | succ k1 =>
   have H:=HA.out
   clear HA
   simp only [Z10.l0] at H
   by_cases c3:x5_1 < (l0.length:Int)
   ·rw [if_pos c3] at H
    have c3b0:=oC_ c3
    clear c3
    replace H:=cx_ H;obtain ⟨c4b0,H⟩:=H
    obtain ⟨t1485,A5,H⟩:=bi_ H
    by_cases c6:t1485 < 0
    ·rw [if_pos c6] at H
     have c6b0:=oC_ c6
     clear c6
     obtain rfl:=Option.some.inj H
     have p1484:0≤(x5_1:Int):=oB_ qe_
     have q1484:x5_1 < (l0.length:Int):=oB_ qe_
     obtain ⟨ad1484,A1484_0,c1484_0,e1484,hx1484_0,hl1484_0,hi1484_0⟩:=at_L8 HR0.out x5_1 p1484 q1484
     cases e1484
     have HR1484_0:=A_ hi1484_0
     have HC1484_0:=A_ hl1484_0
     clear hi1484_0 hl1484_0
     replace p1484:=eq_true p1484
     replace q1484:=eq_true q1484
     go_wp2_with (first | ((with_reducible refine gA_ (f:=40) rfl ?_);refine gL_ (some 17) Try.func40 #[.slice A1484_0 (rd_L8 l0 x5_1).length c1484_0,.int .i64 x1_1] rfl qa_ ?_;(with_reducible refine (Z17.calls k1 _ _ (rd_L8 l0 x5_1) x1_1 t1485 _ (cc_ HR1484_0) HC1484_0.out A5.out).mono ?_);rintro e w' ⟨rfl,⟨nd,rfl⟩⟩;refine ⟨_,rfl,?_⟩))
     go_ret
     exact ⟨qc_,by repeat (first | exact Drawn0.refl _ | apply Drawn0.step)⟩
    ·rw [if_neg c6] at H
     have c6b0:=oD_ c6
     clear c6
     have H':=A_ H
     clear H
     have p1484:0≤(x5_1:Int):=oB_ qe_
     have q1484:x5_1 < (l0.length:Int):=oB_ qe_
     obtain ⟨ad1484,A1484_0,c1484_0,e1484,hx1484_0,hl1484_0,hi1484_0⟩:=at_L8 HR0.out x5_1 p1484 q1484
     cases e1484
     have HR1484_0:=A_ hi1484_0
     have HC1484_0:=A_ hl1484_0
     clear hi1484_0 hl1484_0
     replace p1484:=eq_true p1484
     replace q1484:=eq_true q1484
     go_wp2_with (first | ((with_reducible refine gA_ (f:=40) rfl ?_);refine gL_ (some 17) Try.func40 #[.slice A1484_0 (rd_L8 l0 x5_1).length c1484_0,.int .i64 x1_1] rfl qa_ ?_;(with_reducible refine (Z17.calls k1 _ _ (rd_L8 l0 x5_1) x1_1 t1485 _ (cc_ HR1484_0) HC1484_0.out A5.out).mono ?_);rintro e w' ⟨rfl,⟨nd,rfl⟩⟩;refine ⟨_,rfl,?_⟩))
     go_roundg k1
     case measure=>have:=HK1.out;omega
     case rel=>exact ⟨(t1485),(wrap64 (x5_1 + 1)),qc_,qc_,H',⟨by have:=HK1.out;omega⟩,by repeat (first | exact Drawn0.refl _ | apply Drawn0.step)⟩
   ·rw [if_neg c3] at H
    have c3b0:=oD_ c3
    clear c3
    obtain rfl:=Option.some.inj H
    go_wp2
    go_ret
    exact ⟨qc_,by repeat (first | exact Drawn0.refl _ | apply Drawn0.step)⟩
end Go.Proofs.Ytoijcallajegfaa.A
end
section
namespace Go.Proofs.Ytoijcallajegfaa.A
open Go.RowKit Go.Proofs.YtoijcallajegfaaW.PrintWords Go.Proofs.YtoijcallajegfaaW.PrintLast Go.Proofs.YtoijcallajegfaaW.PrintMore Go.Proofs.Ytoijcallajegfaa.M
set_option linter.unusedVariables false
set_option linter.unusedSimpArgs false
theorem fresh_N {α:Type} {d:Kd α} {e b b0:Nat} {w:World} {ok:Nat→Prop} {v:Value} {xs:List α} (h:Kd.N d e w b ok v xs) (hb:b0≤b):Kd.N d e w b0 (fun k=>0≤k∧k < w.heap.size) v xs:=Kd.N_lower (Kd.N_mono (Kd.N_bound h) (fun _ hk=>⟨Nat.zero_le _,hk.2⟩)) hb
def Z1.F (k:Nat) (a0:Int):Prop:=∃ (r0:List (List S33)) (m0:Int) (z0:List (List S33)),Z31.f k a0 = some r0∧Z27.f k a0 = some r0∧Z24.f k r0 r0 = some true∧Z11.f k r0 1 = some (m0,z0)∧Z10.f k z0 1 = some m0∧decide (m0 < 0) = false
set_option maxHeartbeats 8000000 in
set_option maxRecDepth 100000 in
theorem Z1.calls (k:Nat) (a0:Int) (w:World)  (h:Z1.F k a0) :
  Calls Try.prog 10 #[.int .i64 a0] w fun e w'=>e = .returned (.bool true)∧Below w.heap.size w w':=by
 have HB:=A_ (Below.refl w.heap.size w)
 unfold Z1.F at h
 obtain ⟨r0,m0,z0,FW,FG,FQ0,FM0,FH0,FMM0⟩:=h
 replace FW:=A_ FW
 replace FG:=A_ FG
 replace FQ0:=A_ FQ0
 replace FM0:=A_ FM0
 replace FH0:=A_ FH0
 go_enter Try.func10,Try.ntmps10
 go_upto_region 1 with (fail)
 go_upto_region 2 with (first | ((with_reducible refine gA_ (f:=44) rfl ?_);refine goesL_ _ rfl rfl Try.func44 (by kernel_rfl) rfl #[.int .i64 a0] rfl (by (try simp only [mA_,mB_,mC_]);first | done | rfl) ?_;have HBo:=HB.out;refine (Z31.calls k a0 r0 _  FW.out).mono ?_;rintro e w1 ⟨v0_,rfl,h0_,hb0⟩;refine ⟨_,rfl,?_⟩;have n_:=A_ (below_then HBo HBo.size hb0);clear HB;have HB:=n_;clear n_;have HSw1:=A_ hb0.size;have Hw0:=A_ (fresh_N (b0:=w.heap.size) h0_ HBo.size);clear h0_;obtain ⟨Aw0,cw0,ew0⟩:=Kd.N_slice Hw0.out;subst ew0;clear hb0 HBo))
 go_upto_region 3 with (first | ((with_reducible refine gA_ (f:=41) rfl ?_);refine goesL_ _ rfl rfl Try.func41 (by kernel_rfl) rfl #[.int .i64 a0] rfl (by (try simp only [mA_,mB_,mC_]);first | done | rfl) ?_;have HBo:=HB.out;refine (Z27.callsS k a0 r0 _  FG.out).mono ?_;rintro e w2 ⟨v0_,rfl,h0_,hb0⟩;refine ⟨_,rfl,?_⟩;have n_:=A_ (Kd.N_below Hw0.out hb0);clear Hw0;have Hw0:=n_;clear n_;have n_:=A_ (below_then HBo HBo.size hb0);clear HB;have HB:=n_;clear n_;have HSw2:=A_ hb0.size;have Hg0:=A_ (fresh_S (b0:=w.heap.size) h0_ HBo.size);clear h0_;obtain ⟨Ag0,cg0,eg0⟩:=Kd.R_slice (Kd.S_R Hg0.out);subst eg0;clear hb0 HBo))
 go_upto_region 6 with (first | ((with_reducible refine gA_ (f:=45) rfl ?_);refine goesL_ _ rfl rfl Try.func45 (by kernel_rfl) rfl #[.slice Ag0 r0.length cg0,.slice Aw0 r0.length cw0] rfl (by (try simp only [mA_,mB_,mC_]);first | done | rfl) ?_;have HBo:=HB.out;refine (Z24.calls k Ag0 cg0 r0 Aw0 cw0 r0 true _ (Kd.R_reads' (Kd.S_R Hg0.out)).2.2 (Kd.R_reads' (Kd.S_R Hg0.out)).2.1 (Kd.N_reads' Hw0.out).2.2 (Kd.N_reads' Hw0.out).2.1 FQ0.out).mono ?_;rintro e w3 ⟨rfl,hb0⟩;refine ⟨_,rfl,?_⟩;have n_:=A_ (Kd.N_below Hw0.out hb0);clear Hw0;have Hw0:=n_;clear n_;have n_:=A_ (Kd.S_below Hg0.out hb0);clear Hg0;have Hg0:=n_;clear n_;have n_:=A_ (below_then HBo HBo.size hb0);clear HB;have HB:=n_;clear n_;have HSw3:=A_ hb0.size;clear hb0 HBo))
 go_upto_region 8 with (first | ((with_reducible refine gA_ (f:=46) rfl ?_);refine goesL_ _ rfl rfl Try.func46 (by kernel_rfl) rfl #[.slice Ag0 r0.length cg0,.int .i64 1] rfl (by (try simp only [mA_,mB_,mC_]);first | done | rfl) ?_;have HBo:=HB.out;refine (Z11.calls k (fun k_=>w1.heap.size≤k_∧k_ < w2.heap.size) _ r0 1 m0 z0 w _ HB.out Hg0.out FM0.out).mono ?_;rintro e w4 ⟨rfl,hy0_,hb0,hkp⟩;refine ⟨_,rfl,?_⟩;have Xy:=A_ (hy0_);have n_:=A_ (Kd.N_kept Hw0.out hkp (fun k_ hk hs=>by have:=hk.1;have:=hk.2;have:=hs.1;have:=hs.2;have:=HSw1.out;have:=HSw2.out;have:=HSw3.out;omega));clear Hw0;have Hw0:=n_;clear n_;have n_:=A_ (hb0);clear HB;have HB:=n_;clear n_;have HSw4:=A_ hkp.1;clear Hg0;have Hy:=Xy;clear Xy;clear hb0 hkp HBo;have Hg0:=Hy;clear Hy;have EL0:=A_ (show r0.length = z0.length from (Kd.R_reads' (Kd.S_R Hg0.out)).1)))
 go_upto_region 13 with (first | ((with_reducible refine gA_ (f:=47) rfl ?_);refine goesL_ _ rfl rfl Try.func47 (by kernel_rfl) rfl #[.slice Ag0 z0.length cg0,.int .i64 1] rfl (by (try simp only [mA_,mB_,mC_]);first | done | rfl | (rw [← EL0.out];rfl)) ?_;have HBo:=HB.out;refine (Z10.calls k Ag0 cg0 z0 1 m0 _ (Kd.R_reads' (Kd.S_R Hg0.out)).2.2 (Nat.le_trans (Nat.le_of_eq EL0.out.symm) (Kd.R_reads' (Kd.S_R Hg0.out)).2.1) FH0.out).mono ?_;rintro e w5 ⟨rfl,hd⟩;refine ⟨_,rfl,?_⟩;replace hd:=Drawn0.below hd;have n_:=A_ (Kd.N_below Hw0.out hd);clear Hw0;have Hw0:=n_;clear n_;have n_:=A_ (Kd.S_below Hg0.out hd);clear Hg0;have Hg0:=n_;clear n_;have n_:=A_ (below_then HBo HBo.size hd);clear HB;have HB:=n_;clear n_;have HSw5:=A_ hd.size;clear hd HBo))
 go_upto_region 14 with (first | ((with_reducible refine gA_ (f:=41) rfl ?_);refine goesL_ _ rfl rfl Try.func41 (by kernel_rfl) rfl #[.int .i64 a0] rfl (by (try simp only [mA_,mB_,mC_]);first | done | rfl | (rw [← EL0.out];rfl)) ?_;have HBo:=HB.out;refine (Z27.callsS k a0 r0 _  FG.out).mono ?_;rintro e w6 ⟨v0_,rfl,h0_,hb0⟩;refine ⟨_,rfl,?_⟩;have n_:=A_ (Kd.N_below Hw0.out hb0);clear Hw0;have Hw0:=n_;clear n_;have n_:=A_ (Kd.S_below Hg0.out hb0);clear Hg0;have Hg0:=n_;clear n_;have n_:=A_ (below_then HBo HBo.size hb0);clear HB;have HB:=n_;clear n_;have HSw6:=A_ hb0.size;have Hh0:=A_ (fresh_S (b0:=w.heap.size) h0_ HBo.size);clear h0_;obtain ⟨Ah0,ch0,eh0⟩:=Kd.R_slice (Kd.S_R Hh0.out);subst eh0;clear hb0 HBo))
 go_upto_region 17 with (first | ((with_reducible refine gA_ (f:=45) rfl ?_);refine goesL_ _ rfl rfl Try.func45 (by kernel_rfl) rfl #[.slice Ah0 r0.length ch0,.slice Aw0 r0.length cw0] rfl (by (try simp only [mA_,mB_,mC_]);first | done | rfl | (rw [← EL0.out];rfl)) ?_;have HBo:=HB.out;refine (Z24.calls k Ah0 ch0 r0 Aw0 cw0 r0 true _ (Kd.R_reads' (Kd.S_R Hh0.out)).2.2 (Kd.R_reads' (Kd.S_R Hh0.out)).2.1 (Kd.N_reads' Hw0.out).2.2 (Kd.N_reads' Hw0.out).2.1 FQ0.out).mono ?_;rintro e w7 ⟨rfl,hb0⟩;refine ⟨_,rfl,?_⟩;have n_:=A_ (Kd.N_below Hw0.out hb0);clear Hw0;have Hw0:=n_;clear n_;have n_:=A_ (Kd.S_below Hg0.out hb0);clear Hg0;have Hg0:=n_;clear n_;have n_:=A_ (Kd.S_below Hh0.out hb0);clear Hh0;have Hh0:=n_;clear n_;have n_:=A_ (below_then HBo HBo.size hb0);clear HB;have HB:=n_;clear n_;have HSw7:=A_ hb0.size;clear hb0 HBo))
 go_wp2_with (first | ((with_reducible refine gA_ (f:=47) rfl ?_);refine goesL_ _ rfl rfl Try.func47 (by kernel_rfl) rfl #[.slice Ag0 z0.length cg0,.int .i64 1] rfl (by (try simp only [mA_,mB_,mC_]);first | done | rfl | (rw [← EL0.out];rfl)) ?_;have HBo:=HB.out;refine (Z10.calls k Ag0 cg0 z0 1 m0 _ (Kd.R_reads' (Kd.S_R Hg0.out)).2.2 (Nat.le_trans (Nat.le_of_eq EL0.out.symm) (Kd.R_reads' (Kd.S_R Hg0.out)).2.1) FH0.out).mono ?_;rintro e w8 ⟨rfl,hd⟩;refine ⟨_,rfl,?_⟩;replace hd:=Drawn0.below hd;have n_:=A_ (Kd.N_below Hw0.out hd);clear Hw0;have Hw0:=n_;clear n_;have n_:=A_ (Kd.S_below Hg0.out hd);clear Hg0;have Hg0:=n_;clear n_;have n_:=A_ (Kd.S_below Hh0.out hd);clear Hh0;have Hh0:=n_;clear n_;have n_:=A_ (below_then HBo HBo.size hd);clear HB;have HB:=n_;clear n_;have HSw8:=A_ hd.size;clear hd HBo))
 go_ret
 exact ⟨rfl,HB.out⟩
end Go.Proofs.Ytoijcallajegfaa.A
end
section
/- Plain mathematics: surfaces that are alike by renaming. No conditions. -/
namespace Go.Proofs.Ytoijcallajegfaa.M
set_option linter.unusedVariables false
set_option linter.unusedSimpArgs false
structure Is (s t:List Nat × List Nat) (f:Nat→Nat):Prop where
 len:t.1.length = s.1.length
 lt:∀ x,x < s.1.length→f x < s.1.length
 inj:∀ x y,x < s.1.length→y < s.1.length→f x = f y→x = y
 r:∀ x,x < s.1.length→f (g s.1 x) = g t.1 (f x)
 u:∀ x,x < s.1.length→f (g s.2 x) = g t.2 (f x)
theorem Sf.gr {r u:List Nat} (hs:Sf r u) {x:Nat} (h:x < r.length):g r x < r.length:=g_lt hs.pr h
theorem Sf.gu {r u:List Nat} (hs:Sf r u) {x:Nat} (h:x < r.length):g u x < r.length:=by
 have:=g_lt hs.pu (i:=x) (by rw [hs.eq];exact h)
 rw [hs.eq] at this
 exact this
theorem Sf.ir {r u:List Nat} (hs:Sf r u) {x:Nat} (h:x < r.length):ix r x < r.length:=ix_lt hs.pr h
theorem Sf.iu {r u:List Nat} (hs:Sf r u) {x:Nat} (h:x < r.length):ix u x < r.length:=by
 have:=ix_lt hs.pu (x:=x) (by rw [hs.eq];exact h)
 rw [hs.eq] at this
 exact this
theorem Is.refl (s:List Nat × List Nat):Is s s (fun x=>x):=⟨rfl,fun _ h=>h,fun _ _ _ _ h=>h,fun _ _=>rfl,fun _ _=>rfl⟩
theorem Is.trans {s t v:List Nat × List Nat} {f h:Nat→Nat} (a:Is s t f) (b:Is t v h):Is s v (fun x=>h (f x)) where
 len:=b.len.trans a.len
 lt x hx:=by have:=b.lt (f x) (by rw [a.len];exact a.lt x hx);rw [a.len] at this;exact this
 inj x y hx hy e:=a.inj x y hx hy (b.inj _ _ (by rw [a.len];exact a.lt x hx) (by rw [a.len];exact a.lt y hy) e)
 r x hx:=by show h (f (g s.1 x)) = _;rw [a.r x hx,b.r _ (by rw [a.len];exact a.lt x hx)]
 u x hx:=by show h (f (g s.2 x)) = _;rw [a.u x hx,b.u _ (by rw [a.len];exact a.lt x hx)]
def bk (n:Nat) (f:Nat→Nat) (y:Nat):Nat:=ix (tab n f) y
theorem bk_lt {n:Nat} {f:Nat→Nat} (h1:∀ x,x < n→f x < n) (h2:∀ x y,x < n→y < n→f x = f y→x = y) {y:Nat} (hy:y < n):bk n f y < n:=by
 have:=ix_lt (isP_tab h1 h2) (x:=y) (by rw [tab_len];exact hy)
 rw [tab_len] at this
 exact this
theorem f_bk {n:Nat} {f:Nat→Nat} (h1:∀ x,x < n→f x < n) (h2:∀ x y,x < n→y < n→f x = f y→x = y) {y:Nat} (hy:y < n):f (bk n f y) = y:=by
 have h:=g_ix (isP_tab h1 h2) (x:=y) (by rw [tab_len];exact hy)
 have hb:ix (tab n f) y < n:=bk_lt h1 h2 hy
 rw [g_tab hb] at h
 exact h
theorem bk_f {n:Nat} {f:Nat→Nat} (h1:∀ x,x < n→f x < n) (h2:∀ x y,x < n→y < n→f x = f y→x = y) {x:Nat} (hx:x < n):bk n f (f x) = x :=
 h2 _ _ (bk_lt h1 h2 (h1 x hx)) hx (f_bk h1 h2 (h1 x hx))
theorem Is.symm {s t:List Nat × List Nat} {f:Nat→Nat} (hs:Sf s.1 s.2) (a:Is s t f):Is t s (bk s.1.length f) where
 len:=a.len.symm
 lt y hy:=by rw [a.len] at hy ⊢;exact bk_lt a.lt a.inj hy
 inj y z hy hz e:=by
  rw [a.len] at hy hz
  rw [← f_bk a.lt a.inj hy,← f_bk a.lt a.inj hz,e]
 r y hy:=by
  rw [a.len] at hy
  have hb:=bk_lt a.lt a.inj hy
  have e:g t.1 y = f (g s.1 (bk s.1.length f y)):=by rw [a.r _ hb,f_bk a.lt a.inj hy]
  rw [e,bk_f a.lt a.inj (hs.gr hb)]
 u y hy:=by
  rw [a.len] at hy
  have hb:=bk_lt a.lt a.inj hy
  have e:g t.2 y = f (g s.2 (bk s.1.length f y)):=by rw [a.u _ hb,f_bk a.lt a.inj hy]
  rw [e,bk_f a.lt a.inj (hs.gu hb)]
theorem Sf.of_is {s t:List Nat × List Nat} {f:Nat→Nat} (hs:Sf s.1 s.2) (a:Is s t f) (p1:IsP t.1) (p2:IsP t.2) (hl:t.2.length = t.1.length):Sf t.1 t.2:=by
 refine sf_of_tr p1 p2 (by rw [a.len];exact hs.le) hl (by rw [a.len];exact hs.pos) (fun S s0 k1 k2 y hy=>?_)
 rw [a.len] at k1 k2 hy
 have i0:=bk_lt a.lt a.inj hs.pos
 have h0:S (f (bk s.1.length f 0)):=by rw [f_bk a.lt a.inj hs.pos];exact s0
 have hm:=(reach_full hs i0).2 (bk s.1.length f y) (bk_lt a.lt a.inj hy)
 have:=(bfs_ind (fun x=>S (f x)) (n:=s.1.length) (fun x hx h=>⟨by rw [a.r x hx];exact k1 _ (a.lt x hx) h,hs.gr hx⟩) (fun x hx h=>⟨by rw [a.u x hx];exact k2 _ (a.lt x hx) h,hs.gu hx⟩) _ _ [bk s.1.length f 0] (by intro x hx;obtain rfl:x = bk s.1.length f 0:=(by simpa using hx);exact ⟨h0,i0⟩) _ hm).1
 rw [f_bk a.lt a.inj hy] at this
 exact this
theorem Sf.all_of {r u:List Nat} (hs:Sf r u) {S:Nat→Prop} {i:Nat} (hi:i < r.length) (h0:S i) (h1:∀ x,x < r.length→S x→S (g r x)) (h2:∀ x,x < r.length→S x→S (g u x)):∀ y,y < r.length→S y:=by
 intro y hy
 have hm:=(reach_full hs hi).2 y hy
 exact (bfs_ind S (n:=r.length) (fun x hx h=>⟨h1 x hx h,hs.gr hx⟩) (fun x hx h=>⟨h2 x hx h,hs.gu hx⟩) _ _ [i] (by intro x hx;obtain rfl:x = i:=(by simpa using hx);exact ⟨h0,hi⟩) _ hm).1
theorem Is.ir {s t:List Nat × List Nat} {f:Nat→Nat} (hs:Sf s.1 s.2) (ht:Sf t.1 t.2) (a:Is s t f) {x:Nat} (hx:x < s.1.length):f (ix s.1 x) = ix t.1 (f x):=by
 have h1:=hs.ir hx
 refine (ix_eq ht.pr (by rw [a.len];exact a.lt _ h1) ?_).symm
 rw [← a.r _ h1,g_ix hs.pr hx]
theorem Is.iu {s t:List Nat × List Nat} {f:Nat→Nat} (hs:Sf s.1 s.2) (ht:Sf t.1 t.2) (a:Is s t f) {x:Nat} (hx:x < s.1.length):f (ix s.2 x) = ix t.2 (f x):=by
 have h1:=hs.iu hx
 refine (ix_eq ht.pu (by rw [ht.eq,a.len];exact a.lt _ h1) ?_).symm
 rw [← a.u _ h1,g_ix hs.pu (by rw [hs.eq];exact hx)]
end Go.Proofs.Ytoijcallajegfaa.M
end
section
/- The canonical form tells which surfaces are alike. No conditions. -/
namespace Go.Proofs.Ytoijcallajegfaa.M
set_option linter.unusedVariables false
set_option linter.unusedSimpArgs false
theorem is_rS {s:List Nat × List Nat} (hs:Sf s.1 s.2) {i:Nat} (hi:i < s.1.length):Is s (rS s.1 s.2 i) (g (nm s.1 s.2 i)):=by
 obtain ⟨p,l⟩:=isP_nm hs hi
 refine ⟨(rS_len i).1,fun x hx=>?_,fun x y hx hy e=>g_inj p (by rw [l];exact hx) (by rw [l];exact hy) e,fun x hx=>?_,fun x hx=>?_⟩
 ·have:=g_lt p (i:=x) (by rw [l];exact hx)
  rw [l] at this
  exact this
 ·have h1:=g_lt p (i:=x) (by rw [l];exact hx)
  rw [l] at h1
  show _ = g (ren s.1 (nm s.1 s.2 i)) _
  rw [g_ren h1,ix_g p (by rw [l];exact hx)]
 ·have h1:=g_lt p (i:=x) (by rw [l];exact hx)
  rw [l] at h1
  show _ = g (ren s.2 (nm s.1 s.2 i)) _
  rw [g_ren (by rw [hs.eq];exact h1),ix_g p (by rw [l];exact hx)]
theorem sf_rS {s:List Nat × List Nat} (hs:Sf s.1 s.2) {i:Nat} (hi:i < s.1.length):Sf (rS s.1 s.2 i).1 (rS s.1 s.2 i).2:=by
 obtain ⟨p,l⟩:=isP_nm hs hi
 have h:=rS_len (r:=s.1) (u:=s.2) i
 exact hs.of_is (is_rS hs hi) (isP_ren hs.pr p l.symm) (isP_ren hs.pu p (by rw [l,hs.eq])) (by rw [h.1,h.2,hs.eq])
theorem canK_at (r u:List Nat):∀ k,∃ i,i≤k∧canK r u k = rS r u i:=by
 intro k
 induction k with
 | zero=>exact ⟨0,Nat.le_refl _,rfl⟩
 | succ k ih =>
  obtain ⟨i,hi,e⟩:=ih
  unfold canK
  split
  ·exact ⟨k + 1,Nat.le_refl _,rfl⟩
  ·exact ⟨i,by omega,e⟩
theorem canS_at {r u:List Nat} (hs:Sf r u):∃ i,i < r.length∧canS r u = rS r u i:=by
 obtain ⟨i,hi,e⟩:=canK_at r u (r.length - 1)
 have:=hs.pos
 exact ⟨i,by omega,e⟩
theorem sf_canS {s:List Nat × List Nat} (hs:Sf s.1 s.2):Sf (canS s.1 s.2).1 (canS s.1 s.2).2:=by
 obtain ⟨i,hi,e⟩:=canS_at hs
 rw [e]
 exact sf_rS hs hi
end Go.Proofs.Ytoijcallajegfaa.M
end
section
/- Cycles: the program and the reference answer alike. No conditions. -/
namespace Go.Proofs.Ytoijcallajegfaa.M
set_option linter.unusedVariables false
set_option linter.unusedSimpArgs false
open Go.RowKit Go.Proofs.YtoijcallajegfaaW.PrintWords Go.Proofs.YtoijcallajegfaaW.PrintLast Go.Proofs.YtoijcallajegfaaW.PrintMore Go.Proofs.Ytoijcallajegfaa.A
def I2 (l:List (List Nat)):List (List Int):=l.map I
theorem I2_len (l:List (List Nat)):(I2 l).length = l.length:=by simp [I2]
end Go.Proofs.Ytoijcallajegfaa.M
end
section
/- Marks that laws lay and look for. No conditions. -/
namespace Go.Proofs.Ytoijcallajegfaa.M
set_option linter.unusedVariables false
set_option linter.unusedSimpArgs false
open Go.RowKit Go.Proofs.YtoijcallajegfaaW.PrintWords Go.Proofs.YtoijcallajegfaaW.PrintLast Go.Proofs.YtoijcallajegfaaW.PrintMore Go.Proofs.Ytoijcallajegfaa.A
def markL (n:Nat) (a:Int):List Int:=(List.range n).map (fun (i:Nat)=>a + (i:Int))
theorem markL_len (n:Nat) (a:Int):(markL n a).length = n:=by simp [markL]
theorem rd_markL {n i:Nat} {a:Int} (h:i < n):rd (markL n a) (i:Int) = a + (i:Int):=by
 rw [rd_get _ i (by rw [markL_len];exact h)]
 simp [markL]
theorem w64a (a:Int) (i:Nat) (h0:0≤a) (h:a + (i:Int)≤9000000000000000000):wrap64 (a + (i:Int) + 1) = a + ((i + 1:Nat):Int):=by rw [w64 (by omega) (by omega)];omega
theorem mark_ev (l:List Int) (a:Int) (h0:0≤a) (h:a + (l.length:Int)≤9000000000000000000):Ev (fun k=>Z51.f k l a) (a + (l.length:Int),markL l.length a):=by
 unfold Z51.f
 have H:∀ (d i:Nat) (c:List Int),i + d = l.length→c.length = l.length→(∀ j:Nat,j < i→rd c (j:Int) = a + (j:Int))→Ev (fun k=>Z51.l0 k c (a + (i:Int)) (i:Int)) (a + (l.length:Int),markL l.length a):=by
  intro d
  induction d with
  | zero =>
   intro i c hi hc hx
   refine ev_succ ?_
   have h1:¬ ((i:Int) < (c.length:Int)):=by omega
   have e:c = markL l.length a:=ext_rd (by rw [markL_len];exact hc) (fun j hj=>by rw [hx j (by omega),rd_markL (by omega)])
   have e2:i = l.length:=by omega
   simp only [Z51.l0,h1,if_false]
   rw [e,e2]
   exact Ev.now _
  | succ d ih =>
   intro i c hi hc hx
   refine ev_succ ?_
   have h1:(i:Int) < (c.length:Int):=by omega
   have h2:(0:Int)≤(i:Int):=by omega
   have h3:=w64s i (by omega)
   have h4:=w64a a i h0 (by omega)
   simp only [Z51.l0,h1,h2,h3,h4,if_true,Int.toNat_natCast]
   refine ih (i + 1) _ (by omega) (by rw [List.length_set];exact hc) (fun j hj=>?_)
   rw [rd_set (by omega)]
   by_cases e:i = j
   ·subst e
    simp
   ·rw [if_neg e]
    exact hx j (by omega)
 have:=H l.length 0 l (by omega) rfl (fun j hj=>by omega)
 simpa using this
theorem held_ev (n:Nat) (a:Int) (h0:0≤a) (h:a + (n:Int)≤9000000000000000000):Ev (fun k=>Z50.f k (markL n a) a) (a + (n:Int)):=by
 unfold Z50.f
 have H:∀ d i:Nat,i + d = n→Ev (fun k=>Z50.l0 k (markL n a) (a + (i:Int)) (i:Int)) (a + (n:Int)):=by
  intro d
  induction d with
  | zero =>
   intro i hi
   obtain rfl:i = n:=by omega
   refine ev_succ ?_
   have h1:¬ ((i:Int) < ((markL i a).length:Int)):=by rw [markL_len];omega
   simp only [Z50.l0,h1,if_false]
   exact Ev.now _
  | succ d ih =>
   intro i hi
   refine ev_succ ?_
   have h1:(i:Int) < ((markL n a).length:Int):=by rw [markL_len];omega
   have h2:(0:Int)≤(i:Int):=by omega
   have h3:=w64s i (by omega)
   have h4:=w64a a i h0 (by omega)
   have h5:=rd_markL (n:=n) (i:=i) (a:=a) (by omega)
   simp only [Z50.l0,h1,h2,h3,h4,h5,if_true]
   exact ih (i + 1) (by omega)
 have:=H n 0 (by omega)
 simpa using this
end Go.Proofs.Ytoijcallajegfaa.M
end
section
/- Marks on lists of lists. No conditions. -/
namespace Go.Proofs.Ytoijcallajegfaa.M
set_option linter.unusedVariables false
set_option linter.unusedSimpArgs false
open Go.RowKit Go.Proofs.YtoijcallajegfaaW.PrintWords Go.Proofs.YtoijcallajegfaaW.PrintLast Go.Proofs.YtoijcallajegfaaW.PrintMore Go.Proofs.Ytoijcallajegfaa.A
theorem getD_mid {α:Type} (p:List α) (x:α) (xs:List α) (d:α):(p ++ x :: xs).getD p.length d = x:=by
 rw [List.getD_eq_getElem?_getD,List.getElem?_append_right (Nat.le_refl _)]
 simp
theorem set_mid {α:Type} (p:List α) (x y:α) (xs:List α):(p ++ x :: xs).set p.length y = p ++ y :: xs:=by
 rw [List.set_append_right _ _ (Nat.le_refl _)]
 simp
theorem snoc_app {α:Type} (p:List α) (x:α) (xs:List α):p ++ x :: xs = (p ++ [x]) ++ xs:=by simp
end Go.Proofs.Ytoijcallajegfaa.M
end
section
/- One round about a corner; first places in lists. No conditions. -/
namespace Go.Proofs.Ytoijcallajegfaa.M
set_option linter.unusedVariables false
set_option linter.unusedSimpArgs false
open Go.RowKit Go.Proofs.YtoijcallajegfaaW.PrintWords Go.Proofs.YtoijcallajegfaaW.PrintLast Go.Proofs.YtoijcallajegfaaW.PrintMore Go.Proofs.Ytoijcallajegfaa.A
theorem impl_then {p q:List Nat} (hp:IsP p) (hq:IsP q) (hl:p.length = q.length) (h24:p.length≤24):Ev (fun k=>Z47.f k (I p) (I q)) (I (thn p q)):=by
 unfold Z47.f
 refine Ev.bind (impl_permOk (I p)) ?_
 have e1:permB (I p) = true:=permB_I.mpr ⟨hp,h24⟩
 have e2:permB (I q) = true:=permB_I.mpr ⟨hq,by omega⟩
 simp only [e1,if_true]
 refine Ev.bind (impl_permOk (I q)) ?_
 have e3:((p.length:Int) != (q.length:Int)) = false:=by simp [hl]
 simp only [e2,if_true,I_len',e3]
 refine ev_succ ?_
 have h1:(0:Int)≤(p.length:Int):=by omega
 have h2:p.length≤35184372088832:=by omega
 simp only [Z47.j0,Bool.false_eq_true,if_false,I_len',h1,h2,if_true,Int.toNat_natCast]
 have H:∀ (d i:Nat) (c:List Nat),i + d = p.length→c.length = p.length→(∀ j,j < i→g c j = g q (g p j))→Ev (fun k=>Z47.l0 k (I q) (I c) (I p) (p.length:Int) (i:Int)) (I (thn p q)):=by
  intro d
  induction d with
  | zero =>
   intro i c h hc hx
   refine ev_succ ?_
   have h1:¬ ((i:Int) < (p.length:Int)):=by omega
   have e:thn p q = c:=by
    refine (eq_tab hc (fun j hj=>hx j (by omega))).symm
   simp only [Z47.l0,h1,if_false]
   rw [e]
   exact Ev.now _
  | succ d ih =>
   intro i c h hc hx
   refine ev_succ ?_
   have hi:i < p.length:=by omega
   have gp:=g_lt hp hi
   have c1:(i:Int) < (p.length:Int):=by omega
   have c2:(0:Int)≤(i:Int):=by omega
   have c3:(0:Int)≤((g p i:Nat):Int):=by omega
   have c4:((g p i:Nat):Int) < (q.length:Int):=by omega
   have c5:(i:Int) < (c.length:Int):=by omega
   have h3:=w64s i (by omega)
   simp only [Z47.l0,c1,c2,c3,c4,c5,h3,rdI,I_len',I_set,if_true,Int.toNat_natCast]
   refine ih (i + 1) _ (by omega) (by rw [List.length_set];exact hc) (fun j hj=>?_)
   rw [g_set (by omega)]
   by_cases e:i = j
   ·subst e
    simp
   ·rw [if_neg e]
    exact hx j (by omega)
 have:=H p.length 0 (List.replicate p.length 0) (by omega) (by simp) (fun j hj=>by omega)
 rw [I_rep] at this
 exact this
theorem rdL_mid (a:List (List Nat)) (c:List Nat) (b:List (List Nat)):rd_L5 (I2 (a ++ c :: b)) (a.length:Int) = I c:=by
 unfold rd_L5 I2
 rw [Int.toNat_natCast,List.map_append,List.map_cons,← List.length_map (f:=I)]
 exact getD_mid _ _ _ _
end Go.Proofs.Ytoijcallajegfaa.M
end
section
/- Slopes and paths: the program and the reference answer alike. No conditions. -/
namespace Go.Proofs.Ytoijcallajegfaa.M
set_option linter.unusedVariables false
set_option linter.unusedSimpArgs false
open Go.RowKit Go.Proofs.YtoijcallajegfaaW.PrintWords Go.Proofs.YtoijcallajegfaaW.PrintLast Go.Proofs.YtoijcallajegfaaW.PrintMore Go.Proofs.Ytoijcallajegfaa.A
theorem tab_snoc (i:Nat) (f:Nat→Nat):tab i f ++ [f i] = tab (i + 1) f:=by unfold tab;rw [List.range_succ];simp
theorem spec_then {p q:List Nat} (hp:∀ i,i < p.length→g p i < q.length) (h:p.length≤1000):Ev (fun k=>Z61.f k (I p) (I q)) (I (thn p q)):=by
 unfold Z61.f
 have H:∀ d i:Nat,i + d = p.length→Ev (fun k=>Z61.l0 k (I q) (I (tab i (fun i=>g q (g p i)))) (I p) (p.length:Int) (i:Int)) (I (thn p q)):=by
  intro d
  induction d with
  | zero =>
   intro i h
   obtain rfl:i = p.length:=by omega
   refine ev_succ ?_
   have h1:¬ ((p.length:Int) < (p.length:Int)):=by omega
   simp only [Z61.l0,h1,if_false]
   exact Ev.now _
  | succ d ih =>
   intro i h
   have hi:i < p.length:=by omega
   have hg:=hp i hi
   refine ev_succ ?_
   have h1:(i:Int) < (p.length:Int):=by omega
   have h2:=w64s i (by omega)
   have h3:(I (tab i (fun i=>g q (g p i)))).length < 17592186044416:=by rw [I_len,tab_len];omega
   have h4:(0:Int)≤(i:Int):=by omega
   have h5:(0:Int)≤((g p i:Nat):Int):=by omega
   have h6:((g p i:Nat):Int) < (q.length:Int):=by omega
   have e:=tab_snoc i (fun i=>g q (g p i))
   simp only [Z61.l0,h1,h2,h3,h4,h5,h6,rdI,I_len',if_true,I_snoc,e]
   exact ih (i + 1) (by omega)
 have:=H p.length 0 (by omega)
 simp only [I_len']
 exact this
def wk (r u:List Nat) (w:ByteArray):Nat→Nat→Nat
 | 0,x=>x
 | j + 1,x=>if bt w (j:Int) = 114 then g r (wk r u w j x) else g u (wk r u w j x)
end Go.Proofs.Ytoijcallajegfaa.M
end
section
/- Words of letters: the program and the reference act alike. No conditions. -/
namespace Go.Proofs.Ytoijcallajegfaa.M
set_option linter.unusedVariables false
set_option linter.unusedSimpArgs false
open Go.RowKit Go.Proofs.YtoijcallajegfaaW.PrintWords Go.Proofs.YtoijcallajegfaaW.PrintLast Go.Proofs.YtoijcallajegfaaW.PrintMore Go.Proofs.Ytoijcallajegfaa.A
def lt (c:Int) (s:List Nat × List Nat):List Nat × List Nat:=if c = 84 then (s.1,thn (inv s.1) s.2) else if c = 116 then (s.1,thn s.1 s.2) else if c = 83 then (inv s.2,s.1) else (s.2,inv s.1)
theorem sf_lt {s:List Nat × List Nat} (hs:Sf s.1 s.2) (c:Int):Sf (lt c s).1 (lt c s).2∧(lt c s).1.length = s.1.length:=by
 unfold lt
 split
 ·exact ⟨sf_T hs,rfl⟩
 ·split
  ·exact ⟨sf_t hs,rfl⟩
  ·split
   ·exact ⟨sf_S hs,by show (inv s.2).length = _;rw [inv_len,hs.eq]⟩
   ·exact ⟨sf_s hs,hs.eq⟩
def rn (w:ByteArray) (s:List Nat × List Nat):Nat→List Nat × List Nat
 | 0=>s
 | j + 1=>lt (bt w (j:Int)) (rn w s j)
theorem thn_small {r u:List Nat} (hs:Sf r u):(∀ i,i < (inv r).length→g (inv r) i < u.length)∧(∀ i,i < r.length→g r i < u.length):=by
 constructor
 ·intro i hi
  have:=g_lt (isP_inv hs.pr) hi
  rw [inv_len] at this
  rw [hs.eq]
  exact this
 ·intro i hi
  rw [hs.eq]
  exact g_lt hs.pr hi
theorem spec_letter {s:List Nat × List Nat} (hs:Sf s.1 s.2) (c:Int):Ev (fun k=>Z42.f k (I s.1) (I s.2) c) (I (lt c s).1,I (lt c s).2):=by
 have hle:=hs.le
 have heq:=hs.eq
 have c1:([]:List Int).length + (I s.1).length < 17592186044416:=by rw [I_len];simp;omega
 have c2:([]:List Int).length + (I s.2).length < 17592186044416:=by rw [I_len];simp;omega
 obtain ⟨t1,t2⟩:=thn_small hs
 unfold Z42.f lt
 by_cases h1:c = 84
 ·simp only [h1,if_true]
  refine Ev.bind (a:=(I s.1,I (thn (inv s.1) s.2))) ?_ (Ev.now _)
  unfold Z56.f
  simp only [Option.bind_some,c1,if_true,List.nil_append]
  exact Ev.bind (spec_inv hs.pr hs.le) (Ev.bind (spec_then t1 (by rw [inv_len];omega)) (Ev.now _))
 ·by_cases h2:c = 116
  ·have n1:¬ ((116:Int) = 84):=by omega
   simp only [h2,n1,if_true,if_false]
   refine Ev.bind (a:=(I s.1,I (thn s.1 s.2))) ?_ (Ev.now _)
   unfold Z33.f
   simp only [Option.bind_some,c1,if_true,List.nil_append]
   exact Ev.bind (spec_then t2 (by omega)) (Ev.now _)
  ·by_cases h3:c = 83
   ·have n1:¬ ((83:Int) = 84):=by omega
    have n2:¬ ((83:Int) = 116):=by omega
    simp only [h3,n1,n2,if_true,if_false]
    refine Ev.bind (a:=(I (inv s.2),I s.1)) ?_ (Ev.now _)
    unfold Z63.f
    refine Ev.bind (spec_inv hs.pu (by omega)) ?_
    simp only [Option.bind_some,c1,if_true,List.nil_append]
    exact Ev.now _
   ·simp only [h1,h2,h3,if_false]
    refine Ev.bind (a:=(I s.2,I (inv s.1))) ?_ (Ev.now _)
    unfold Z43.f
    simp only [Option.bind_some,c2,if_true,List.nil_append]
    exact Ev.bind (spec_inv hs.pr hs.le) (Ev.now _)
def letB (c:Int):Bool:=decide (c = 84 ∨ c = 116 ∨ c = 83 ∨ c = 115)
def wordB (w:ByteArray):Bool:=decide ((∀ j,j < w.size→letB (bt w (j:Int)) = true)∧w.size≤40)
theorem copy_ev (l:List Int) (h:l.length≤1000000):Z49.f l = some l:=by
 unfold Z49.f
 have c1:([]:List Int).length + l.length < 17592186044416:=by simp;omega
 simp only [Option.bind_some,c1,if_true,List.nil_append]
theorem impl_letter {s:List Nat × List Nat} (hs:Sf s.1 s.2) (c:Int) (hc:letB c = true):Ev (fun k=>Z9.f k (I s.1) (I s.2) c) (I (lt c s).1,I (lt c s).2):=by
 have hle:=hs.le
 have heq:=hs.eq
 have h0:=surfB_I.mpr hs
 have k1:=copy_ev (I s.1) (by rw [I_len];omega)
 have k2:=copy_ev (I s.2) (by rw [I_len];omega)
 have hc:=of_decide_eq_true hc
 unfold Z9.f lt
 by_cases h1:c = 84
 ·simp only [h1,if_true]
  refine Ev.bind (a:=(I s.1,I (thn (inv s.1) s.2),true)) ?_ (Ev.now _)
  unfold Z14.f
  refine Ev.bind (impl_surf _ _) ?_
  simp only [h0,k1,if_true,Option.bind_some]
  exact Ev.bind (impl_inv hs.pr hs.le) (Ev.bind (impl_then (isP_inv hs.pr) hs.pu (by rw [inv_len,hs.eq]) (by rw [inv_len];exact hs.le)) (Ev.now _))
 ·by_cases h2:c = 116
  ·have n1:¬ ((116:Int) = 84):=by omega
   simp only [h2,n1,if_true,if_false]
   refine Ev.bind (a:=(I s.1,I (thn s.1 s.2),true)) ?_ (Ev.now _)
   unfold Z6.f
   refine Ev.bind (impl_surf _ _) ?_
   simp only [h0,k1,if_true,Option.bind_some]
   exact Ev.bind (impl_then hs.pr hs.pu hs.eq.symm hs.le) (Ev.now _)
  ·by_cases h3:c = 83
   ·have n1:¬ ((83:Int) = 84):=by omega
    have n2:¬ ((83:Int) = 116):=by omega
    simp only [h3,n1,n2,if_true,if_false]
    refine Ev.bind (a:=(I (inv s.2),I s.1,true)) ?_ (Ev.now _)
    unfold Z23.f
    refine Ev.bind (impl_surf _ _) ?_
    simp only [h0,if_true]
    refine Ev.bind (impl_inv hs.pu (by omega)) ?_
    simp only [k1,Option.bind_some]
    exact Ev.now _
   ·have h4:c = 115:=by omega
    have n1:¬ ((115:Int) = 84):=by omega
    have n2:¬ ((115:Int) = 116):=by omega
    have n3:¬ ((115:Int) = 83):=by omega
    simp only [h4,n1,n2,n3,if_true,if_false]
    refine Ev.bind (a:=(I s.2,I (inv s.1),true)) ?_ (Ev.now _)
    unfold Z8.f
    refine Ev.bind (impl_surf _ _) ?_
    simp only [h0,k2,if_true,Option.bind_some]
    exact Ev.bind (impl_inv hs.pr hs.le) (Ev.now _)
end Go.Proofs.Ytoijcallajegfaa.M
end
section
/- Surfaces that are alike; surfaces that a word keeps. No conditions. -/
namespace Go.Proofs.Ytoijcallajegfaa.M
set_option linter.unusedVariables false
set_option linter.unusedSimpArgs false
open Go.RowKit Go.Proofs.YtoijcallajegfaaW.PrintWords Go.Proofs.YtoijcallajegfaaW.PrintLast Go.Proofs.YtoijcallajegfaaW.PrintMore Go.Proofs.Ytoijcallajegfaa.A
theorem impl_same (a b:List Nat × List Nat) (h1:a.1.length≤1000000) (h2:a.2.length≤1000000):Ev (fun k=>Z22.f k (I a.1) (I a.2) (I b.1) (I b.2)) (decide (a = b)):=by
 unfold Z22.f
 refine Ev.bind (equal_ev a.1 b.1 (by omega)) ?_
 by_cases h:a.1 = b.1
 ·have e:decide (a = b) = decide (a.2 = b.2):=by
   rw [decide_eq_decide,Prod.ext_iff]
   simp [h]
  rw [e]
  simp only [h,decide_true,if_true]
  exact Ev.bind (equal_ev a.2 b.2 (by omega)) (Ev.now _)
 ·have e:decide (a = b) = false:=by
   rw [decide_eq_false_iff_not]
   intro e
   exact h (by rw [e])
  rw [e]
  simp only [h,decide_false,Bool.false_eq_true,if_false]
  exact Ev.now _
theorem spec_same (a b:List Nat × List Nat) (h1:a.1.length≤1000000) (h2:a.2.length≤1000000):Ev (fun k=>Z25.f k (I a.1) (I a.2) (I b.1) (I b.2)) (decide (a = b)):=by
 unfold Z25.f
 refine Ev.bind (sameList_nat a.1 b.1 (by omega)) ?_
 by_cases h:a.1 = b.1
 ·have e:decide (a = b) = decide (a.2 = b.2):=by
   rw [decide_eq_decide,Prod.ext_iff]
   simp [h]
  rw [e]
  simp only [h,decide_true,if_true]
  exact Ev.bind (sameList_nat a.2 b.2 (by omega)) (Ev.now _)
 ·have e:decide (a = b) = false:=by
   rw [decide_eq_false_iff_not]
   intro e
   exact h (by rw [e])
  rw [e]
  simp only [h,decide_false,Bool.false_eq_true,if_false]
  exact Ev.now _
end Go.Proofs.Ytoijcallajegfaa.M
end
section
/- The orbit in plain words: the program and the reference run alike. No conditions. -/
namespace Go.Proofs.Ytoijcallajegfaa.M
set_option linter.unusedVariables false
set_option linter.unusedSimpArgs false
open Go.RowKit Go.Proofs.YtoijcallajegfaaW.PrintWords Go.Proofs.YtoijcallajegfaaW.PrintLast Go.Proofs.YtoijcallajegfaaW.PrintMore Go.Proofs.Ytoijcallajegfaa.A
def oS (p:List Nat × List Nat):S33:=⟨I p.1,I p.2⟩
def nxt (c:Int) (s:List Nat × List Nat):List Nat × List Nat:=canS (lt c s).1 (lt c s).2
theorem sf_nxt {s:List Nat × List Nat} (hs:Sf s.1 s.2) (c:Int):Sf (nxt c s).1 (nxt c s).2:=sf_canS (s:=lt c s) (sf_lt hs c).1
structure PO where
 L:List (List Nat × List Nat)
 W:List ByteArray
 F:List Int
 B:List Int
 T:List Int
 S:List Int
def PO.orb (s:PO):Orb:=⟨s.L.map oS,s.W,s.F,s.B,s.T,s.S⟩
def fi (L:List (List Nat × List Nat)) (x:List Nat × List Nat):Int:=if x ∈ L then ((L.idxOf x:Nat):Int) else -1
def atL (L:List (List Nat × List Nat)) (i:Nat):List Nat × List Nat:=L.getD i ([],[])
def atW (W:List ByteArray) (i:Nat):ByteArray:=rdOf ByteArray.empty W (i:Int)
def stepP (i:Nat) (c:Int) (s:PO):Option PO :=
 if nxt c (atL s.L i) ∈ s.L then some { s with T:=if c = 84 then s.T ++ [((s.L.idxOf (nxt c (atL s.L i)):Nat):Int)] else s.T,S:=if c = 84 then s.S else s.S ++ [((s.L.idxOf (nxt c (atL s.L i)):Nat):Int)] }
 else if s.L.length = 120 then none
 else some ⟨s.L ++ [nxt c (atL s.L i)],s.W ++ [atW s.W i ++ strOfNums [c]],s.F ++ [(i:Int)],s.B ++ [c],if c = 84 then s.T ++ [(s.L.length:Int)] else s.T,if c = 84 then s.S else s.S ++ [(s.L.length:Int)]⟩
def roundP (i:Nat) (s:PO):Option PO:=(stepP i 84 s).bind (stepP i 83)
def lpP:Nat→PO→Nat→Option PO
 | 0,s,_=>some s
 | f + 1,s,i=>if i < s.L.length then (roundP i s).bind (fun s'=>lpP f s' (i + 1)) else some s
structure Good (s:PO):Prop where
 sf:∀ x ∈ s.L,Sf x.1 x.2
 lw:s.W.length = s.L.length
 lf:s.F.length = s.L.length
 lb:s.B.length = s.L.length
 ws:∀ j,j < s.L.length→(atW s.W j).size≤j
 lt:s.T.length≤200
 ls:s.S.length≤200
theorem atL_get {L:List (List Nat × List Nat)} {i:Nat} (h:i < L.length):atL L i = L[i]:=by simp [atL,List.getD_eq_getElem?_getD,h]
theorem atL_mem {L:List (List Nat × List Nat)} {i:Nat} (h:i < L.length):atL L i ∈ L:=by rw [atL_get h];exact List.getElem_mem h
theorem rd_oS {L:List (List Nat × List Nat)} {i:Nat} (h:i < L.length):rd_T33 (L.map oS) (i:Int) = oS (atL L i):=by
 unfold rd_T33
 rw [atL_get h]
 simp [List.getD_eq_getElem?_getD,h]
theorem str1 (c:Int):(strOfNums [c]).size = 1:=by simp [strOfNums,ByteArray.size]
theorem oidx_ev {L:List (List Nat × List Nat)} (hL:∀ x ∈ L,Sf x.1 x.2) (hl:L.length≤1000) (x:List Nat × List Nat):Ev (fun k=>indexO k (L.map oS) (I x.1) (I x.2)) (fi L x):=by
 unfold indexO
 have c1:(L.map oS).length < 4611686018427387904:=by rw [List.length_map];omega
 simp only [c1,if_true]
 have H:∀ (M:List (List Nat × List Nat)) (i:Nat),(∀ x ∈ M,Sf x.1 x.2)→Ev (fun k=>idxS k (I x.1) (I x.2) (M.map oS) i) (if x ∈ M then ((i + M.idxOf x:Nat):Int) else -1):=by
  intro M
  induction M with
  | nil=>intro i _;exact Ev.now _
  | cons y M ih =>
   intro i hM
   have hy:=hM y (by simp)
   have ly:=hy.le
   have ly2:=hy.eq
   rw [List.map_cons]
   simp only [idxS]
   refine Ev.bind (impl_same y x (by omega) (by omega)) ?_
   by_cases e:y = x
   ·subst e
    simp only [decide_true,if_true,List.mem_cons,true_or,List.idxOf_cons_self,Nat.add_zero]
    exact Ev.now _
   ·have hb:(y == x) = false:=beq_eq_false_iff_ne.mpr e
    simp only [e,decide_false,Bool.false_eq_true,if_false]
    have key:=ih (i + 1) (fun z hz=>hM z (by simp [hz]))
    have e1:(if x ∈ y :: M then ((i + (y :: M).idxOf x:Nat):Int) else -1) = (if x ∈ M then ((i + 1 + M.idxOf x:Nat):Int) else -1):=by
     have e2:x ∈ y :: M ↔ x ∈ M:=by simp [Ne.symm e]
     rw [List.idxOf_cons,hb]
     by_cases hm:x ∈ M
     ·rw [if_pos (e2.mpr hm),if_pos hm]
      simp only [cond_false]
      congr 1
      omega
     ·rw [if_neg (fun h=>hm (e2.mp h)),if_neg hm]
    rw [e1]
    exact key
 have key:=H L 0 hL
 unfold fi
 simp only [Nat.zero_add] at key
 exact key
theorem ofind_ev {L:List (List Nat × List Nat)} (hL:∀ x ∈ L,Sf x.1 x.2) (hl:L.length≤1000) (x:List Nat × List Nat):Ev (fun k=>Z64.f k (L.map oS) (I x.1) (I x.2)) (fi L x):=by
 unfold Z64.f
 have H:∀ d i:Nat,i + d = L.length→(∀ j,j < i→atL L j≠x)→Ev (fun k=>Z64.l0 k (L.map oS) (L.length:Int) (i:Int) (I x.1) (I x.2)) (fi L x):=by
  intro d
  induction d with
  | zero =>
   intro i hi hn
   obtain rfl:i = L.length:=by omega
   have e:fi L x = -1:=by
    unfold fi
    rw [if_neg]
    intro hm
    obtain ⟨j,hj,e⟩:=List.mem_iff_getElem.mp hm
    exact hn j hj (by rw [atL_get hj,e])
   refine ev_succ ?_
   have c1:¬ ((L.length:Int) < (L.length:Int)):=by omega
   simp only [Z64.l0,c1,if_false,e]
   exact Ev.now _
  | succ d ih =>
   intro i hi hn
   have hil:i < L.length:=by omega
   have hy:=hL _ (atL_mem hil)
   have ly:=hy.le
   have ly2:=hy.eq
   have c1:(i:Int) < (L.length:Int):=by omega
   have c2:(0:Int)≤(i:Int):=by omega
   have c3:=w64s i (by omega)
   refine ev_succ ?_
   simp only [Z64.l0,c1,c2,c3,List.length_map,rd_oS hil,if_true]
   refine Ev.bind (spec_same (atL L i) x (by omega) (by omega)) ?_
   by_cases e:atL L i = x
   ·have ef:fi L x = (i:Int):=by
     unfold fi
     have hm:x ∈ L:=by rw [← e];exact atL_mem hil
     rw [if_pos hm]
     congr 1
     have h1:L.idxOf x≤i:=by
      apply Classical.byContradiction
      intro hlt
      have:=List.not_of_lt_findIdx (xs:=L) (p:=(· == x)) (i:=i) (by unfold List.idxOf at hlt;omega)
      rw [← atL_get hil,e] at this
      simp at this
     have h2:¬ L.idxOf x < i:=by
      intro hlt
      have hlt2:L.idxOf x < L.length:=List.idxOf_lt_length_of_mem hm
      refine hn _ hlt ?_
      rw [atL_get hlt2]
      exact List.getElem_idxOf hlt2
     omega
    rw [ef]
    simp only [e,decide_true,if_true]
    exact Ev.now _
   ·simp only [e,decide_false,Bool.false_eq_true,if_false]
    exact ih (i + 1) (by omega) (fun j hj=>by
     by_cases ej:j = i
     ·rw [ej];exact e
     ·exact hn j (by omega))
 have key:=H L.length 0 (Nat.zero_add _) (fun j hj=>by omega)
 rw [List.length_map]
 exact key
theorem fi_neg {L:List (List Nat × List Nat)} {x:List Nat × List Nat}:fi L x < 0 ↔ x ∉ L:=by
 unfold fi
 by_cases h:x ∈ L
 ·rw [if_pos h];constructor
  ·intro h2;omega
  ·intro h2;exact absurd h h2
 ·rw [if_neg h];simp [h]
theorem let_ok {c:Int} (hc:c = 84 ∨ c = 83):letB c = true:=by
 rcases hc with rfl | rfl <;> rfl
theorem stpO_ev {s:PO} (hg:Good s) {i:Nat} (hi:i < s.L.length) (hl:s.L.length≤120) {c:Int} (hc:c = 84 ∨ c = 83):Ev (fun k=>stpO k (i:Int) c s.orb) ((stepP i c s).map PO.orb):=by
 have hs:=hg.sf _ (atL_mem hi)
 have h1:=impl_letter hs c (let_ok hc)
 have h2:=impl_canon (sf_lt hs c).1
 have h3:=oidx_ev hg.sf (by omega) (nxt c (atL s.L i))
 have c1:(0:Int)≤(i:Int):=by omega
 have c2:(i:Int) < (s.orb.L.length:Int):=by show (i:Int) < ((s.L.map oS).length:Int);rw [List.length_map];omega
 unfold stpO
 simp only [c1,c2,if_true]
 have e1:rd_T33 s.orb.L (i:Int) = oS (atL s.L i):=rd_oS hi
 rw [e1]
 refine Ev.bind h1 (Ev.bind h2 (Ev.bind h3 ?_))
 have el:s.orb.L.length = s.L.length:=List.length_map _
 have lw:=hg.lw
 have lf:=hg.lf
 have lb:=hg.lb
 have lt':=hg.lt
 have ls:=hg.ls
 by_cases hm:nxt c (atL s.L i) ∈ s.L
 ·have hn:¬ fi s.L (nxt c (atL s.L i)) < 0:=fun h=>fi_neg.mp h hm
  have e2:fi s.L (nxt c (atL s.L i)) = ((s.L.idxOf (nxt c (atL s.L i)):Nat):Int):=if_pos hm
  have c5:s.orb.T.length < 1000000∧s.orb.S.length < 1000000:=⟨by show s.T.length < _;omega,by show s.S.length < _;omega⟩
  have e3:stepP i c s = some { s with T:=if c = 84 then s.T ++ [((s.L.idxOf (nxt c (atL s.L i)):Nat):Int)] else s.T,S:=if c = 84 then s.S else s.S ++ [((s.L.idxOf (nxt c (atL s.L i)):Nat):Int)] }:=if_pos hm
  rw [e3,e2]
  rw [e2] at hn
  rw [if_neg hn,if_pos c5]
  exact Ev.now _
 ·have hn:fi s.L (nxt c (atL s.L i)) < 0:=fi_neg.mpr hm
  simp only [hn,if_true]
  by_cases h120:s.L.length = 120
  ·have e3:stepP i c s = none:=by unfold stepP;rw [if_neg hm,if_pos h120]
   have c6:(s.orb.L.length:Int) = 120:=by rw [el];omega
   rw [e3,if_pos c6]
   exact Ev.now _
  ·have c6:¬ (s.orb.L.length:Int) = 120:=by rw [el];omega
   have c7:s.orb.L.length < 1000000∧s.orb.W.length < 1000000∧s.orb.F.length < 1000000∧s.orb.B.length < 1000000∧s.orb.T.length < 1000000∧s.orb.S.length < 1000000:=⟨by rw [el];omega,by show s.W.length < _;omega,by show s.F.length < _;omega,by show s.B.length < _;omega,by show s.T.length < _;omega,by show s.S.length < _;omega⟩
   have c8:(i:Int) < (s.orb.W.length:Int):=by show (i:Int) < (s.W.length:Int);omega
   have c9:(rdOf ByteArray.empty s.orb.W (i:Int)).size + 1≤9223372036854775807:=by have:=hg.ws i hi;show (atW s.W i).size + 1≤_;omega
   have e3:stepP i c s = some ⟨s.L ++ [nxt c (atL s.L i)],s.W ++ [atW s.W i ++ strOfNums [c]],s.F ++ [(i:Int)],s.B ++ [c],if c = 84 then s.T ++ [(s.L.length:Int)] else s.T,if c = 84 then s.S else s.S ++ [(s.L.length:Int)]⟩:=by unfold stepP;rw [if_neg hm,if_neg h120]
   rw [e3,if_neg c6,if_pos c7,if_pos c8,if_pos c9]
   have e4:s.orb.L ++ [(⟨I (canS (lt c (atL s.L i)).1 (lt c (atL s.L i)).2).1,I (canS (lt c (atL s.L i)).1 (lt c (atL s.L i)).2).2⟩:S33)] = (s.L ++ [nxt c (atL s.L i)]).map oS:=by rw [List.map_append];rfl
   refine Ev.of (k:=0) (fun k=>LeO.refl _) ?_
   show some (some (Orb.mk _ _ _ _ _ _)) = some (some (Orb.mk _ _ _ _ _ _))
   rw [e4,el]
   rfl
theorem atW_app {W:List ByteArray} {j:Nat} (h:j < W.length) (x:ByteArray):atW (W ++ [x]) j = atW W j:=by
 unfold atW rdOf
 rw [Int.toNat_natCast,List.getD_eq_getElem?_getD,List.getD_eq_getElem?_getD,List.getElem?_append_left h]
theorem atW_last (W:List ByteArray) (x:ByteArray):atW (W ++ [x]) W.length = x:=by
 unfold atW rdOf
 rw [Int.toNat_natCast,List.getD_eq_getElem?_getD,List.getElem?_append_right (Nat.le_refl _)]
 simp
theorem step_good {s s':PO} (hg:Good s) {i:Nat} (hi:i < s.L.length) {c:Int} (hT:s.T.length < 200) (hS:s.S.length < 200) (h:stepP i c s = some s'):Good s'∧i < s'.L.length∧s'.T.length≤s.T.length + 1∧s'.S.length≤s.S.length + 1∧(s.L.length≤120→s'.L.length≤120):=by
 have hs:=hg.sf _ (atL_mem hi)
 unfold stepP at h
 by_cases hm:nxt c (atL s.L i) ∈ s.L
 ·rw [if_pos hm] at h
  have h:=Option.some.inj h
  subst h
  have q1:(if c = 84 then s.T ++ [((s.L.idxOf (nxt c (atL s.L i)):Nat):Int)] else s.T).length≤s.T.length + 1:=by split <;> simp
  have q2:(if c = 84 then s.S else s.S ++ [((s.L.idxOf (nxt c (atL s.L i)):Nat):Int)]).length≤s.S.length + 1:=by split <;> simp
  exact ⟨⟨hg.sf,hg.lw,hg.lf,hg.lb,hg.ws,by show (if c = 84 then _ else _:List Int).length≤200;omega,by show (if c = 84 then _ else _:List Int).length≤200;omega⟩,hi,q1,q2,fun h=>h⟩
 ·rw [if_neg hm] at h
  by_cases h120:s.L.length = 120
  ·rw [if_pos h120] at h;cases h
  ·rw [if_neg h120] at h
   have h:=Option.some.inj h
   subst h
   have q1:(if c = 84 then s.T ++ [(s.L.length:Int)] else s.T).length≤s.T.length + 1:=by split <;> simp
   have q2:(if c = 84 then s.S else s.S ++ [(s.L.length:Int)]).length≤s.S.length + 1:=by split <;> simp
   refine ⟨⟨fun x hx=>?_,by simp [hg.lw],by simp [hg.lf],by simp [hg.lb],fun j hj=>?_,by show (if c = 84 then _ else _:List Int).length≤200;omega,by show (if c = 84 then _ else _:List Int).length≤200;omega⟩,by simp;omega,q1,q2,fun h=>by simp;omega⟩
   ·rcases List.mem_append.mp hx with hx | hx
    ·exact hg.sf x hx
    ·obtain rfl:x = nxt c (atL s.L i):=by simpa using hx
     exact sf_nxt hs c
   ·have hj:j < s.L.length + 1:=by simpa using hj
    show (atW (s.W ++ [atW s.W i ++ strOfNums [c]]) j).size≤j
    by_cases e:j = s.L.length
    ·rw [e,← hg.lw,atW_last,ByteArray.size_append,str1,hg.lw]
     have:=hg.ws i hi
     omega
    ·rw [atW_app (by rw [hg.lw];omega)]
     exact hg.ws j (by omega)
def stepU (i:Nat) (c:Int) (L:List (List Nat × List Nat)) (W:List ByteArray):List (List Nat × List Nat) × List ByteArray:=if nxt c (atL L i) ∈ L then (L,W) else (L ++ [nxt c (atL L i)],W ++ [atW W i ++ strOfNums [c]])
theorem stepU_of {s s':PO} {i:Nat} {c:Int} (h:stepP i c s = some s'):stepU i c s.L s.W = (s'.L,s'.W):=by
 unfold stepP at h
 unfold stepU
 by_cases hm:nxt c (atL s.L i) ∈ s.L
 ·rw [if_pos hm] at h ⊢
  have h:=Option.some.inj h
  subst h
  rfl
 ·rw [if_neg hm] at h ⊢
  by_cases h120:s.L.length = 120
  ·rw [if_pos h120] at h;cases h
  ·rw [if_neg h120] at h
   have h:=Option.some.inj h
   subst h
   rfl
theorem stepU_none {s:PO} {i:Nat} {c:Int} (h:stepP i c s = none):(stepU i c s.L s.W).1.length = 121:=by
 unfold stepP at h
 unfold stepU
 by_cases hm:nxt c (atL s.L i) ∈ s.L
 ·rw [if_pos hm] at h;cases h
 ·rw [if_neg hm] at h ⊢
  by_cases h120:s.L.length = 120
  ·simp [h120]
  ·rw [if_neg h120] at h;cases h
structure GoodU (L:List (List Nat × List Nat)) (W:List ByteArray):Prop where
 sf:∀ x ∈ L,Sf x.1 x.2
 lw:W.length = L.length
 ws:∀ j,j < L.length→(atW W j).size≤j
theorem Good.u {s:PO} (h:Good s):GoodU s.L s.W:=⟨h.sf,h.lw,h.ws⟩
theorem stepU_good {L:List (List Nat × List Nat)} {W:List ByteArray} (hg:GoodU L W) {i:Nat} (hi:i < L.length) (c:Int):GoodU (stepU i c L W).1 (stepU i c L W).2∧L.length≤(stepU i c L W).1.length∧(stepU i c L W).1.length≤L.length + 1:=by
 have hs:=hg.sf _ (atL_mem hi)
 unfold stepU
 by_cases hm:nxt c (atL L i) ∈ L
 ·rw [if_pos hm];exact ⟨hg,Nat.le_refl _,by simp⟩
 ·rw [if_neg hm]
  refine ⟨⟨fun x hx=>?_,by simp [hg.lw],fun j hj=>?_⟩,by simp,by simp⟩
  ·rcases List.mem_append.mp hx with hx | hx
   ·exact hg.sf x hx
   ·obtain rfl:x = nxt c (atL L i):=by simpa using hx
    exact sf_nxt hs c
  ·have hj:j < L.length + 1:=by simpa using hj
   show (atW (W ++ [atW W i ++ strOfNums [c]]) j).size≤j
   by_cases e:j = L.length
   ·rw [e,← hg.lw,atW_last,ByteArray.size_append,str1,hg.lw]
    have:=hg.ws i hi
    omega
   ·rw [atW_app (by rw [hg.lw];omega)]
    exact hg.ws j (by omega)
theorem specU_ev {L:List (List Nat × List Nat)} {W:List ByteArray} (hg:GoodU L W) {i:Nat} (hi:i < L.length) (hl:L.length≤1000) {j:Nat} {c:Int} (hj:j < 2) (hc:rd [84,83] (j:Int) = c) (res:List S33 × List ByteArray × Bool)
  (H:Ev (fun k=>Z57.l1 k ((stepU i c L W).1.map oS) (stepU i c L W).2 (i:Int) [84,83] 2 ((j + 1:Nat):Int)) res):Ev (fun k=>Z57.l1 k (L.map oS) W (i:Int) [84,83] 2 (j:Int)) res:=by
 have hs:=hg.sf _ (atL_mem hi)
 have h1:=spec_letter hs c
 have h2:=spec_canon (sf_lt hs c).1
 have h3:=ofind_ev hg.sf (by omega) (nxt c (atL L i))
 have c1:(j:Int) < 2:=by omega
 have c2:(0:Int)≤(j:Int):=by omega
 have c3:=w64s j (by omega)
 have c4:(j:Int) < (([84,83]:List Int).length:Int):=by show (j:Int) < ((2:Nat):Int);omega
 have c5:(0:Int)≤(i:Int):=by omega
 have c6:(i:Int) < ((L.map oS).length:Int):=by rw [List.length_map];omega
 refine ev_succ ?_
 simp only [Z57.l1,c1,c2,c3,c4,c5,c6,hc,rd_oS hi,if_true,Option.bind_some]
 refine Ev.bind h1 (Ev.bind h2 (Ev.bind h3 ?_))
 unfold stepU at H
 by_cases hm:nxt c (atL L i) ∈ L
 ·have hn:¬ fi L (nxt c (atL L i)) < 0:=fun h=>fi_neg.mp h hm
  rw [if_pos hm] at H
  simp only [hn,if_false]
  exact H
 ·have hn:fi L (nxt c (atL L i)) < 0:=fi_neg.mpr hm
  rw [if_neg hm] at H
  have c7:(L.map oS).length < 2932031007402:=by rw [List.length_map];omega
  have c8:(i:Int) < (W.length:Int):=by have:=hg.lw;omega
  have c9:(rdOf ByteArray.empty W (i:Int)).size + (strOfNums [c]).size≤9223372036854775807:=by have:=hg.ws i hi;rw [str1];show (atW W i).size + 1≤_;omega
  have c10:W.length < 8796093022208:=by have:=hg.lw;omega
  simp only [hn,c7,c8,c9,c10,if_true]
  have e4:L.map oS ++ [(⟨I (canS (lt c (atL L i)).1 (lt c (atL L i)).2).1,I (canS (lt c (atL L i)).1 (lt c (atL L i)).2).2⟩:S33)] = (L ++ [nxt c (atL L i)]).map oS:=by rw [List.map_append];rfl
  rw [e4]
  exact H
def specR:Option PO→List S33 × List ByteArray × Bool
 | none=>([],[],false)
 | some s=>(s.L.map oS,s.W,true)
theorem orb_sim:∀ (f i:Nat) (s:PO),121≤f + i→Good s→i≤s.L.length→s.L.length≤120→s.T.length≤i→s.S.length≤i→Ev (fun k=>loopO k s.orb (i:Int)) ((lpP f s i).map PO.orb)∧Ev (fun k=>Z57.l0 k (s.L.map oS) s.W (i:Int)) (specR (lpP f s i)):=by
 intro f
 induction f with
 | zero=>intro i s h1 h2 h3 h4;omega
 | succ f ih =>
  intro i s hf hg hi0 hl hT hS
  have el:s.orb.L.length = s.L.length:=List.length_map _
  by_cases hi:i < s.L.length
  ·have c1:(i:Int) < (s.orb.L.length:Int):=by rw [el];omega
   have c2:(i:Int) < ((s.L.map oS).length:Int):=by rw [List.length_map];omega
   have c3:=w64s i (by omega)
   have hu:=hg.u
   have e1:=stpO_ev hg hi hl (c:=84) (.inl rfl)
   have u1:=stepU_good hu hi 84
   have eL:lpP (f + 1) s i = (roundP i s).bind (fun s'=>lpP f s' (i + 1)):=by rw [lpP,if_pos hi]
   have fin:∀ (L2:List (List Nat × List Nat)) (W2:List ByteArray) (res:List S33 × List ByteArray × Bool),stepU i 83 (stepU i 84 s.L s.W).1 (stepU i 84 s.L s.W).2 = (L2,W2)→Ev (fun k=>if ((L2.map oS).length:Int) > 120 then (some (([]:List S33),([]:List ByteArray),false)) else Z57.l0 k (L2.map oS) W2 (wrap64 ((i:Int) + 1))) res→Ev (fun k=>Z57.l0 k (s.L.map oS) s.W (i:Int)) res:=by
    intro L2 W2 res e H
    refine ev_succ ?_
    simp only [Z57.l0,c2,if_true,Option.bind_some]
    refine specU_ev hu hi (by omega) (j:=0) (c:=84) (by omega) rfl res ?_
    have hi2:i < (stepU i 84 s.L s.W).1.length:=by omega
    refine specU_ev u1.1 hi2 (by omega) (j:=1) (c:=83) (by omega) rfl res ?_
    rw [e]
    refine ev_succ ?_
    have c9:¬ ((((1 + 1:Nat):Int)) < 2):=by omega
    simp only [Z57.l1,c9,if_false]
    exact H
   have impl0:∀ r:Option Orb,Ev (fun k=>innerO k (i:Int) [84,83] s.orb) r→Ev (fun k=>match r with | none=>some none | some s'=>loopO k s' (wrap64 ((i:Int) + 1))) ((lpP (f + 1) s i).map PO.orb)→Ev (fun k=>loopO k s.orb (i:Int)) ((lpP (f + 1) s i).map PO.orb):=by
    intro r h1 h2
    refine ev_succ ?_
    simp only [loopO,c1,if_true]
    exact Ev.bind h1 h2
   cases h84:stepP i 84 s with
   | none =>
    have en:lpP (f + 1) s i = none:=by rw [eL];unfold roundP;rw [h84];rfl
    have l121:=stepU_none h84
    rw [h84] at e1
    rw [en] at impl0 ⊢
    have u2:=stepU_good u1.1 (i:=i) (by omega) 83
    have l2:(stepU i 83 (stepU i 84 s.L s.W).1 (stepU i 84 s.L s.W).2).1.length > 120:=by omega
    refine ⟨impl0 none ?_ (Ev.now _),?_⟩
    ·unfold innerO
     exact Ev.bind e1 (Ev.now _)
    ·revert l2
     generalize ep:stepU i 83 (stepU i 84 s.L s.W).1 (stepU i 84 s.L s.W).2 = p
     intro l2
     refine fin p.1 p.2 _ ep ?_
     have c9:((p.1.map oS).length:Int) > 120:=by rw [List.length_map];omega
     simp only [c9,if_true]
     exact Ev.now _
   | some s1 =>
    obtain ⟨g1,i1,t1,ss1,l1⟩:=step_good hg hi (by omega) (by omega) h84
    have e2:=stpO_ev g1 i1 (l1 hl) (c:=83) (.inr rfl)
    have eu:=stepU_of h84
    rw [h84] at e1
    have eR:lpP (f + 1) s i = (stepP i 83 s1).bind (fun s'=>lpP f s' (i + 1)):=by rw [eL];unfold roundP;rw [h84];rfl
    cases h83:stepP i 83 s1 with
    | none =>
     have en:lpP (f + 1) s i = none:=by rw [eR,h83];rfl
     have l121:=stepU_none h83
     rw [h83] at e2
     rw [en] at impl0 ⊢
     have l2:(stepU i 83 (stepU i 84 s.L s.W).1 (stepU i 84 s.L s.W).2).1.length > 120:=by rw [eu,l121];omega
     refine ⟨impl0 none ?_ (Ev.now _),?_⟩
     ·unfold innerO
      refine Ev.bind e1 ?_
      simp only [innerO]
      exact Ev.bind e2 (Ev.now _)
     ·revert l2
      generalize ep:stepU i 83 (stepU i 84 s.L s.W).1 (stepU i 84 s.L s.W).2 = p
      intro l2
      refine fin p.1 p.2 _ ep ?_
      have c9:((p.1.map oS).length:Int) > 120:=by rw [List.length_map];omega
      simp only [c9,if_true]
      exact Ev.now _
    | some s2 =>
     obtain ⟨g2,i2,t2,ss2,l2⟩:=step_good g1 i1 (by omega) (by omega) h83
     have eu2:=stepU_of h83
     rw [h83] at e2
     have es:lpP (f + 1) s i = lpP f s2 (i + 1):=by rw [eR,h83];rfl
     have hT2:s2.T.length≤i + 1∧s2.S.length≤i + 1:=by
      have a1:s1.S.length = s.S.length:=by
       unfold stepP at h84
       split at h84
       ·have h:=Option.some.inj h84;subst h;rfl
       ·split at h84
        ·cases h84
        ·have h:=Option.some.inj h84;subst h;rfl
      have a2:s2.T.length = s1.T.length:=by
       unfold stepP at h83
       split at h83
       ·have h:=Option.some.inj h83;subst h;rfl
       ·split at h83
        ·cases h83
        ·have h:=Option.some.inj h83;subst h;rfl
      omega
     obtain ⟨k1,k2⟩:=ih (i + 1) s2 (by omega) g2 (by omega) (l2 (l1 hl)) hT2.1 hT2.2
     rw [es] at impl0 ⊢
     refine ⟨impl0 (some s2.orb) ?_ ?_,?_⟩
     ·unfold innerO
      refine Ev.bind e1 ?_
      simp only [innerO]
      refine Ev.bind e2 (Ev.now _)
     ·simp only [c3]
      exact k1
     ·refine fin s2.L s2.W _ (by rw [eu];exact eu2) ?_
      have c9:¬ ((s2.L.map oS).length:Int) > 120:=by rw [List.length_map];have:=l2 (l1 hl);omega
      simp only [c9,if_false,c3]
      exact k2
  ·have c1:¬ (i:Int) < (s.orb.L.length:Int):=by rw [el];omega
   have c2:¬ (i:Int) < ((s.L.map oS).length:Int):=by rw [List.length_map];omega
   have eL:lpP (f + 1) s i = some s:=by rw [lpP,if_neg hi]
   rw [eL]
   constructor
   ·refine ev_succ ?_
    simp only [loopO,c1,if_false]
    exact Ev.now _
   ·refine ev_succ ?_
    simp only [Z57.l0,c2,if_false]
    exact Ev.now _
def start0 (a:List Nat × List Nat):PO:=⟨[canS a.1 a.2],[⟨#[]⟩],[-1],[0],[],[]⟩
def orbP (a:List Nat × List Nat):Option PO:=lpP 121 (start0 a) 0
theorem start_good {a:List Nat × List Nat} (ha:Sf a.1 a.2):Good (start0 a) :=
 ⟨fun x hx=>by obtain rfl:x = canS a.1 a.2:=(by simpa [start0] using hx);exact sf_canS ha,rfl,rfl,rfl,fun j hj=>by
  have hj:j < 1:=hj
  obtain rfl:j = 0:=by omega
  exact Nat.le_refl _,by simp [start0],by simp [start0]⟩
theorem orb_both {a:List Nat × List Nat} (ha:Sf a.1 a.2):Ev (fun k=>orbitO k (I a.1) (I a.2)) ((orbP a).map PO.orb)∧Ev (fun k=>Z57.f k (I a.1) (I a.2)) (specR (orbP a)):=by
 obtain ⟨h1,h2⟩:=orb_sim 121 0 (start0 a) (by omega) (start_good ha) (Nat.zero_le _) (by simp [start0]) (by simp [start0]) (by simp [start0])
 constructor
 ·unfold orbitO
  refine Ev.bind (impl_canon ha) ?_
  simp only [if_true]
  exact h1
 ·unfold Z57.f
  exact Ev.bind (spec_canon ha) h2
theorem orb_run:∀ (f i:Nat) (s:PO),121≤f + i→Good s→i≤s.L.length→s.L.length≤120→s.T.length≤i→s.S.length≤i→Ev (fun k=>loopO k s.orb (i:Int)) ((lpP f s i).map PO.orb):=by
 intro f
 induction f with
 | zero=>intro i s h1 h2 h3 h4;omega
 | succ f ih =>
  intro i s hf hg hi0 hl hT hS
  have el:s.orb.L.length = s.L.length:=List.length_map _
  by_cases hi:i < s.L.length
  ·have c1:(i:Int) < (s.orb.L.length:Int):=by rw [el];omega
   have e1:=stpO_ev hg hi hl (c:=84) (.inl rfl)
   have eL:lpP (f + 1) s i = (roundP i s).bind (fun s'=>lpP f s' (i + 1)):=by rw [lpP,if_pos hi]
   have impl0:∀ r:Option Orb,Ev (fun k=>innerO k (i:Int) [84,83] s.orb) r→Ev (fun k=>match r with | none=>some none | some s'=>loopO k s' (wrap64 ((i:Int) + 1))) ((lpP (f + 1) s i).map PO.orb)→Ev (fun k=>loopO k s.orb (i:Int)) ((lpP (f + 1) s i).map PO.orb):=by
    intro r h1 h2
    refine ev_succ ?_
    simp only [loopO,c1,if_true]
    exact Ev.bind h1 h2
   cases h84:stepP i 84 s with
   | none =>
    have en:lpP (f + 1) s i = none:=by rw [eL];unfold roundP;rw [h84];rfl
    rw [h84] at e1
    rw [en] at impl0 ⊢
    refine impl0 none ?_ (Ev.now _)
    unfold innerO
    exact Ev.bind e1 (Ev.now _)
   | some s1 =>
    obtain ⟨g1,i1,t1,ss1,l1⟩:=step_good hg hi (by omega) (by omega) h84
    have e2:=stpO_ev g1 i1 (l1 hl) (c:=83) (.inr rfl)
    rw [h84] at e1
    have eR:lpP (f + 1) s i = (stepP i 83 s1).bind (fun s'=>lpP f s' (i + 1)):=by rw [eL];unfold roundP;rw [h84];rfl
    cases h83:stepP i 83 s1 with
    | none =>
     have en:lpP (f + 1) s i = none:=by rw [eR,h83];rfl
     rw [h83] at e2
     rw [en] at impl0 ⊢
     refine impl0 none ?_ (Ev.now _)
     unfold innerO
     refine Ev.bind e1 ?_
     simp only [innerO]
     exact Ev.bind e2 (Ev.now _)
    | some s2 =>
     obtain ⟨g2,i2,t2,ss2,l2⟩:=step_good g1 i1 (by omega) (by omega) h83
     rw [h83] at e2
     have es:lpP (f + 1) s i = lpP f s2 (i + 1):=by rw [eR,h83];rfl
     have hT2:s2.T.length≤i + 1∧s2.S.length≤i + 1:=by
      have a1:s1.S.length = s.S.length:=by
       unfold stepP at h84
       split at h84
       ·have h:=Option.some.inj h84;subst h;rfl
       ·split at h84
        ·cases h84
        ·have h:=Option.some.inj h84;subst h;rfl
      have a2:s2.T.length = s1.T.length:=by
       unfold stepP at h83
       split at h83
       ·have h:=Option.some.inj h83;subst h;rfl
       ·split at h83
        ·cases h83
        ·have h:=Option.some.inj h83;subst h;rfl
      omega
     have k1:=ih (i + 1) s2 (by omega) g2 (by omega) (l2 (l1 hl)) hT2.1 hT2.2
     have c3:=w64s i (by omega)
     rw [es] at impl0 ⊢
     refine impl0 (some s2.orb) ?_ ?_
     ·unfold innerO
      refine Ev.bind e1 ?_
      simp only [innerO]
      refine Ev.bind e2 (Ev.now _)
     ·simp only [c3]
      exact k1
  ·have c1:¬ (i:Int) < (s.orb.L.length:Int):=by rw [el];omega
   have eL:lpP (f + 1) s i = some s:=by rw [lpP,if_neg hi]
   rw [eL]
   refine ev_succ ?_
   simp only [loopO,c1,if_false]
   exact Ev.now _
theorem orb_impl {a:List Nat × List Nat} (ha:Sf a.1 a.2):Ev (fun k=>orbitO k (I a.1) (I a.2)) ((orbP a).map PO.orb):=by
 unfold orbitO
 refine Ev.bind (impl_canon ha) ?_
 simp only [if_true]
 exact orb_run 121 0 (start0 a) (by omega) (start_good ha) (Nat.zero_le _) (by simp [start0]) (by simp [start0]) (by simp [start0])
theorem orbO_no {r u:List Int} (h:¬ surfB r u = true):Ev (fun k=>orbitO k r u) none:=by
 unfold orbitO
 refine Ev.bind (impl_canon_no h) ?_
 simp only [Bool.false_eq_true,if_false]
 exact Ev.now _
end Go.Proofs.Ytoijcallajegfaa.M
end
section
/- The orbit's size: the program and the reference agree. No conditions. -/
namespace Go.Proofs.Ytoijcallajegfaa.M
set_option linter.unusedSimpArgs false
open Go.RowKit Go.Proofs.YtoijcallajegfaaW.PrintWords Go.Proofs.YtoijcallajegfaaW.PrintLast Go.Proofs.YtoijcallajegfaaW.PrintMore Go.Proofs.Ytoijcallajegfaa.A
def orbR (r u:List Int):Option PO:=if surfB r u = true then orbP (N r,N u) else none
theorem N_I' (l:List Nat):N (I l) = l:=N_I l
theorem orbR_I {a:List Nat × List Nat} (ha:Sf a.1 a.2):orbR (I a.1) (I a.2) = orbP a:=by
 unfold orbR
 rw [if_pos (surfB_I.mpr ha),N_I',N_I']
theorem orbR_ev (r u:List Int):Ev (fun k=>orbitO k r u) ((orbR r u).map PO.orb):=by
 by_cases h:surfB r u = true
 ·obtain ⟨r',u',rfl,rfl,hs⟩:=surf_nat h
  rw [orbR_I (a:=(r',u')) hs]
  exact orb_impl (a:=(r',u')) hs
 ·have e:orbR r u = none:=if_neg h
  rw [e]
  exact orbO_no h
def outL:Option PO→List S33 × Bool
 | none=>([],false)
 | some s=>(s.L.map oS,true)
end Go.Proofs.Ytoijcallajegfaa.M
end
section
/- Lists of surfaces sorted, each once: put in one by one, or all at the end. No conditions. -/
namespace Go.Proofs.Ytoijcallajegfaa.M
set_option linter.unusedVariables false
set_option linter.unusedSimpArgs false
open Go.RowKit Go.Proofs.YtoijcallajegfaaW.PrintWords Go.Proofs.YtoijcallajegfaaW.PrintLast Go.Proofs.YtoijcallajegfaaW.PrintMore Go.Proofs.Ytoijcallajegfaa.A
def Up (l:List (List Nat × List Nat)):Prop:=l.Pairwise (fun a b=>cmpS a b < 0)
theorem Up.nodup {l:List (List Nat × List Nat)} (h:Up l):l.Nodup :=
 h.imp (fun {a b} hab e=>by subst e;rw [(cmpS_eq _ _).2 rfl] at hab;omega)
theorem up_uniq {l l':List (List Nat × List Nat)} (h:Up l) (h':Up l') (hm:∀ x,x ∈ l ↔ x ∈ l'):l = l':=by
 refine List.Perm.eq_of_pairwise (le:=fun a b=>cmpS a b < 0) ?_ h h' ((List.perm_ext_iff_of_nodup h.nodup h'.nodup).2 hm)
 intro a b _ _ h1 h2
 have:=cmpS_neg a b
 omega
def insS (l:List (List Nat × List Nat)) (s:List Nat × List Nat):List (List Nat × List Nat) :=
 match l with
 | []=>[s]
 | x :: xs=>if x = s then x :: xs else if cmpS s x < 0 then s :: x :: xs else x :: insS xs s
theorem mem_insS {l:List (List Nat × List Nat)} {s y:List Nat × List Nat}:y ∈ insS l s ↔ y = s ∨ y ∈ l:=by
 induction l with
 | nil=>simp [insS]
 | cons x xs ih =>
  unfold insS
  split
  ·rename_i e;subst e;simp
  ·split
   ·simp
   ·simp only [List.mem_cons,ih]
    constructor
    ·rintro (h | h | h)
     ·exact .inr (.inl h)
     ·exact .inl h
     ·exact .inr (.inr h)
    ·rintro (h | h | h)
     ·exact .inr (.inl h)
     ·exact .inl h
     ·exact .inr (.inr h)
theorem up_insS {l:List (List Nat × List Nat)} (s:List Nat × List Nat) (h:Up l):Up (insS l s):=by
 induction l with
 | nil=>exact List.pairwise_singleton _ _
 | cons x xs ih =>
  obtain ⟨h1,h2⟩:=List.pairwise_cons.1 h
  unfold insS
  split
  ·exact h
  ·rename_i hne
   split
   ·rename_i hlt
    refine List.pairwise_cons.2 ⟨?_,h⟩
    intro y hy
    rcases List.mem_cons.1 hy with rfl | hy
    ·exact hlt
    ·exact cmpS_tr _ _ _ hlt (h1 y hy)
   ·rename_i hnl
    refine List.pairwise_cons.2 ⟨?_,ih h2⟩
    intro y hy
    rcases mem_insS.1 hy with rfl | hy
    ·have e:=cmpS_neg x y
     have:cmpS x y≠0:=fun h0=>hne ((cmpS_eq _ _).1 h0)
     omega
    ·exact h1 y hy
def insAll (l:List (List Nat × List Nat)) (ss:List (List Nat × List Nat)):List (List Nat × List Nat):=ss.foldl insS l
theorem up_insAll:∀ (ss l:List (List Nat × List Nat)),Up l→Up (insAll l ss)
 | [],_,h=>h
 | s :: ss,l,h=>up_insAll ss (insS l s) (up_insS s h)
theorem mem_insAll:∀ (ss l:List (List Nat × List Nat)) (y:List Nat × List Nat),y ∈ insAll l ss ↔ y ∈ l ∨ y ∈ ss
 | [],l,y=>by simp [insAll]
 | s :: ss,l,y=>by
  have:=mem_insAll ss (insS l s) y
  rw [mem_insS] at this
  show y ∈ insAll (insS l s) ss ↔ _
  rw [this,List.mem_cons]
  constructor
  ·rintro ((h | h) | h)
   ·exact .inr (.inl h)
   ·exact .inl h
   ·exact .inr (.inr h)
  ·rintro (h | h | h)
   ·exact .inl (.inr h)
   ·exact .inl (.inl h)
   ·exact .inr h
theorem mem_cptGo:∀ (p:List Nat × List Nat) (l:List (List Nat × List Nat)) (y:List Nat × List Nat),y ∈ p :: cptGo (fun a b=>decide (a = b)) p l ↔ y ∈ p :: l
 | p,[],y=>by simp [cptGo]
 | p,x :: l,y=>by
  have:=mem_cptGo x l y
  unfold cptGo
  by_cases e:x = p
  ·subst e
   simp only [decide_true,if_true]
   rw [this]
   simp
  ·simp only [e,decide_false,Bool.false_eq_true,if_false]
   rw [List.mem_cons,this,List.mem_cons (l:=x :: l)]
theorem up_cptGo:∀ (p:List Nat × List Nat) (l:List (List Nat × List Nat)),(p :: l).Pairwise (fun a b=>¬ cmpS b a < 0)→Up (p :: cptGo (fun a b=>decide (a = b)) p l)
 | p,[],_=>List.pairwise_singleton _ _
 | p,x :: l,h=>by
  obtain ⟨h1,h2⟩:=List.pairwise_cons.1 h
  have:=up_cptGo x l h2
  unfold cptGo
  by_cases e:x = p
  ·subst e
   simp only [decide_true,if_true]
   exact this
  ·simp only [e,decide_false,Bool.false_eq_true,if_false]
   refine List.pairwise_cons.2 ⟨?_,this⟩
   intro y hy
   rw [mem_cptGo] at hy
   have hpx:cmpS p x < 0:=by
    have a:=h1 x (by simp)
    have b:=cmpS_neg p x
    have c:cmpS p x≠0:=fun h0=>e ((cmpS_eq _ _).1 h0).symm
    omega
   rcases List.mem_cons.1 hy with rfl | hy
   ·exact hpx
   ·have hxy:=(List.pairwise_cons.1 h2).1 y hy
    by_cases e0:cmpS x y = 0
    ·rw [← (cmpS_eq _ _).1 e0];exact hpx
    ·have:=cmpS_neg x y
     exact cmpS_tr _ _ _ hpx (by omega)
theorem sortS_ins (l:List (List Nat × List Nat)):sortS l = insAll [] l:=by
 have hp:=List.mergeSort_perm l (fun a b=>decide (¬ cmpS b a < 0))
 have hs:(l.mergeSort (fun a b=>decide (¬ cmpS b a < 0))).Pairwise (fun a b=>¬ cmpS b a < 0):=by
  have:=List.pairwise_mergeSort (le:=fun a b=>decide (¬ cmpS b a < 0)) (fun a b c h1 h2=>decide_eq_true (cmpS_le_tr c b a (of_decide_eq_true h2) (of_decide_eq_true h1))) (fun a b=>by
   have:=cmpS_neg a b
   simp only [Bool.or_eq_true,decide_eq_true_eq]
   omega) l
  exact this.imp (fun h=>of_decide_eq_true h)
 unfold sortS
 generalize l.mergeSort (fun a b=>decide (¬ cmpS b a < 0)) = m at hp hs
 have h2:=up_insAll l [] List.Pairwise.nil
 cases m with
 | nil =>
  have:l = []:=hp.symm.eq_nil
  subst this
  rfl
 | cons x m =>
  refine up_uniq (up_cptGo x m hs) h2 ?_
  intro y
  rw [mem_insAll]
  show y ∈ x :: cptGo (fun a b=>decide (a = b)) x m ↔ _
  rw [mem_cptGo,hp.mem_iff]
  simp
end Go.Proofs.Ytoijcallajegfaa.M
end
section
/- All surfaces with few squares: the program and the reference list them alike. No conditions. -/
namespace Go.Proofs.Ytoijcallajegfaa.M
set_option linter.unusedVariables false
set_option linter.unusedSimpArgs false
open Go.RowKit Go.Proofs.YtoijcallajegfaaW.PrintWords Go.Proofs.YtoijcallajegfaaW.PrintLast Go.Proofs.YtoijcallajegfaaW.PrintMore Go.Proofs.Ytoijcallajegfaa.A
def permN (n:Nat):List (List Nat):=(List.range n).foldl (fun out _=>(out.map (fun p=>((List.range n).filter (fun x=>decide (x ∉ p))).map (fun x=>p ++ [x]))).flatten) [[]]
theorem allPerms_tab:Z48.f 500 ((1:Nat):Int) = some (I2 (permN 1))∧Z48.f 500 ((2:Nat):Int) = some (I2 (permN 2))∧Z48.f 500 ((3:Nat):Int) = some (I2 (permN 3))∧Z48.f 500 ((4:Nat):Int) = some (I2 (permN 4)):=by decide +kernel
theorem l10Perms_tab:Z58.f 500 ((1:Nat):Int) = some (I2 (permN 1))∧Z58.f 500 ((2:Nat):Int) = some (I2 (permN 2))∧Z58.f 500 ((3:Nat):Int) = some (I2 (permN 3))∧Z58.f 500 ((4:Nat):Int) = some (I2 (permN 4)):=by decide +kernel
theorem four_cases {n:Nat} (h1:1≤n) (h4:n≤4):n = 1 ∨ n = 2 ∨ n = 3 ∨ n = 4:=by omega
theorem allPerms_ev {n:Nat} (h1:1≤n) (h4:n≤4):Ev (fun k=>Z48.f k (n:Int)) (I2 (permN n)):=by
 rcases four_cases h1 h4 with rfl | rfl | rfl | rfl
 ·exact Ev.of (Z48.mono _) allPerms_tab.1
 ·exact Ev.of (Z48.mono _) allPerms_tab.2.1
 ·exact Ev.of (Z48.mono _) allPerms_tab.2.2.1
 ·exact Ev.of (Z48.mono _) allPerms_tab.2.2.2
theorem l10Perms_ev {n:Nat} (h1:1≤n) (h4:n≤4):Ev (fun k=>Z58.f k (n:Int)) (I2 (permN n)):=by
 rcases four_cases h1 h4 with rfl | rfl | rfl | rfl
 ·exact Ev.of (Z58.mono _) l10Perms_tab.1
 ·exact Ev.of (Z58.mono _) l10Perms_tab.2.1
 ·exact Ev.of (Z58.mono _) l10Perms_tab.2.2.1
 ·exact Ev.of (Z58.mono _) l10Perms_tab.2.2.2
theorem permN_tab:∀ n:Fin 5,1≤n.val→(permN n.val).length≤24∧∀ p ∈ permN n.val,p.length = n.val:=by decide +kernel
theorem permN_len {n:Nat} (h1:1≤n) (h4:n≤4):(permN n).length≤24∧∀ p ∈ permN n,p.length = n:=permN_tab ⟨n,by omega⟩ h1
def LS (l:List (List Nat × List Nat)):List S33:=l.map ofN
theorem LS_len (l:List (List Nat × List Nat)):(LS l).length = l.length:=by simp [LS]
theorem LS_app (a b:List (List Nat × List Nat)):LS (a ++ b) = LS a ++ LS b:=by simp [LS]
theorem LS_mid (p:List (List Nat × List Nat)) (x:List Nat × List Nat) (xs:List (List Nat × List Nat)):rd_T33 (LS (p ++ x :: xs)) (p.length:Int) = ⟨I x.1,I x.2⟩:=by
 unfold rd_T33
 rw [Int.toNat_natCast,LS_app]
 have:=getD_mid (LS p) (ofN x) (LS xs) z33
 rw [LS_len] at this
 exact this
theorem insert_ev {n:Nat} (hn:n≤1000000) {s:List Nat × List Nat} (hs:s.1.length = n∧s.2.length = n) (l:List (List Nat × List Nat)) (hl:∀ x ∈ l,x.1.length = n∧x.2.length = n) (hlen:l.length≤1000000):Ev (fun k=>Z44.f k (LS l) (I s.1) (I s.2)) (LS (insS l s)):=by
 unfold Z44.f
 have D:∀ (rest p o:List (List Nat × List Nat)),p.length + rest.length = l.length→p ++ rest = l→o.length≤p.length + 1→Ev (fun k=>Z44.l0 k (LS o) true (LS l) ((LS l).length:Int) (p.length:Int) (I s.1) (I s.2)) (LS (o ++ rest)):=by
  intro rest
  induction rest with
  | nil =>
   intro p o hp e ho
   refine ev_succ ?_
   have h1:¬ ((p.length:Int) < ((LS l).length:Int)):=by rw [LS_len];simp at hp;omega
   simp only [Z44.l0,h1,if_false,if_true,List.append_nil]
   exact Ev.now _
  | cons x rest ih =>
   intro p o hp e ho
   rw [List.length_cons] at hp
   refine ev_succ ?_
   have h1:((p.length:Int) < ((LS l).length:Int)):=by rw [LS_len];omega
   have h2:(0:Int)≤(p.length:Int):=by omega
   have h3:=w64s p.length (by omega)
   have h4:rd_T33 (LS l) (p.length:Int) = ⟨I x.1,I x.2⟩:=by rw [← e];exact LS_mid p x rest
   have h5:(LS o).length < 2932031007402:=by rw [LS_len];omega
   have hx:=hl x (by rw [← e];simp)
   have e2:LS o ++ [(⟨I x.1,I x.2⟩:S33)] = LS (o ++ [x]):=by rw [LS_app];rfl
   have key:=ih (p ++ [x]) (o ++ [x]) (by simp;omega) (by rw [← e];simp) (by simp;omega)
   have e3:((p ++ [x]).length:Int) = ((p.length + 1:Nat):Int):=by simp
   rw [e3] at key
   have e4:o ++ [x] ++ rest = o ++ x :: rest:=by simp
   rw [e4] at key
   simp only [Z44.l0,h1,h2,h4,if_true]
   refine Ev.bind (spec_same x s (by omega) (by omega)) ?_
   by_cases hxs:x = s
   ·simp only [hxs,decide_true,if_true,h5,h3]
    rw [hxs] at e2 key
    rw [e2]
    exact key
   ·simp only [hxs,decide_false,Bool.false_eq_true,if_false,if_true,h5,h3]
    rw [e2]
    exact key
 have H:∀ (rest p:List (List Nat × List Nat)),p.length + rest.length = l.length→p ++ rest = l→Ev (fun k=>Z44.l0 k (LS p) false (LS l) ((LS l).length:Int) (p.length:Int) (I s.1) (I s.2)) (LS (p ++ insS rest s)):=by
  intro rest
  induction rest with
  | nil =>
   intro p hp e
   refine ev_succ ?_
   have h1:¬ ((p.length:Int) < ((LS l).length:Int)):=by rw [LS_len];simp at hp;omega
   have h5:(LS p).length < 2932031007402:=by rw [LS_len];simp at hp;omega
   simp only [Z44.l0,h1,if_false,Bool.false_eq_true,h5,if_true]
   have e2:LS p ++ [(⟨I s.1,I s.2⟩:S33)] = LS (p ++ insS [] s):=by rw [LS_app];rfl
   rw [e2]
   exact Ev.now _
  | cons x rest ih =>
   intro p hp e
   rw [List.length_cons] at hp
   refine ev_succ ?_
   have h1:((p.length:Int) < ((LS l).length:Int)):=by rw [LS_len];omega
   have h2:(0:Int)≤(p.length:Int):=by omega
   have h3:=w64s p.length (by omega)
   have h4:rd_T33 (LS l) (p.length:Int) = ⟨I x.1,I x.2⟩:=by rw [← e];exact LS_mid p x rest
   have h5:(LS p).length < 2932031007402:=by rw [LS_len];omega
   have hx:=hl x (by rw [← e];simp)
   have e2:LS p ++ [(⟨I x.1,I x.2⟩:S33)] = LS (p ++ [x]):=by rw [LS_app];rfl
   have e3:((p ++ [x]).length:Int) = ((p.length + 1:Nat):Int):=by simp
   have d1:=D rest (p ++ [x]) (p ++ [x]) (by simp;omega) (by rw [← e];simp) (by simp)
   rw [e3] at d1
   simp only [Z44.l0,h1,h2,h4,if_true]
   refine Ev.bind (spec_same x s (by omega) (by omega)) ?_
   by_cases hxs:x = s
   ·have e4:p ++ insS (x :: rest) s = p ++ [x] ++ rest:=by
     unfold insS
     rw [if_pos hxs]
     simp
    rw [e4]
    simp only [hxs,decide_true,if_true,h5,h3]
    rw [hxs] at d1 e2
    rw [e2]
    exact d1
   ·simp only [hxs,decide_false,Bool.false_eq_true,if_false]
    refine Ev.bind (spec_before s x (by omega) (by omega) (by omega) (by omega)) ?_
    by_cases hb:cmpS s x < 0
    ·have h6:(LS p ++ [(⟨I s.1,I s.2⟩:S33)]).length < 2932031007402:=by rw [List.length_append,LS_len];simp;omega
     simp only [hb,decide_true,if_true,h5,Option.bind_some,h6,h3]
     have e4:p ++ insS (x :: rest) s = p ++ [s] ++ [x] ++ rest:=by
      unfold insS
      rw [if_neg hxs,if_pos hb]
      simp
     have e5:LS p ++ [(⟨I s.1,I s.2⟩:S33)] ++ [⟨I x.1,I x.2⟩] = LS (p ++ [s] ++ [x]):=by rw [LS_app,LS_app];rfl
     have d2:=D rest (p ++ [x]) (p ++ [s] ++ [x]) (by simp;omega) (by rw [← e];simp) (by simp)
     rw [e3] at d2
     rw [e4,e5]
     exact d2
    ·simp only [hb,decide_false,Bool.false_eq_true,if_false,h5,if_true,h3]
     have key:=ih (p ++ [x]) (by simp;omega) (by rw [← e];simp)
     rw [e3] at key
     have e4:p ++ insS (x :: rest) s = p ++ [x] ++ insS rest s:=by
      conv=>lhs;unfold insS
      rw [if_neg hxs,if_neg hb]
      simp
     rw [e4,e2]
     exact key
 exact H l [] (by simp) rfl
def pr (p q:List Nat):List (List Nat × List Nat):=if surfB (I p) (I q) = true then [canS p q] else []
theorem pr_len (p q:List Nat):(pr p q).length≤1:=by unfold pr;split <;> simp
theorem pr_mem {p q:List Nat} {x:List Nat × List Nat} (h:x ∈ pr p q):x.1.length = p.length∧x.2.length = q.length:=by
 unfold pr at h
 split at h
 ·rw [List.mem_singleton.1 h];exact canK_len _
 ·cases h
theorem pr_no {p q:List Nat} (h:¬ surfB (I p) (I q) = true):pr p q = []:=by unfold pr;rw [if_neg h]
theorem pr_yes {p q:List Nat} (h:surfB (I p) (I q) = true):pr p q = [canS p q]:=by unfold pr;rw [if_pos h]
def prs (P:List (List Nat)) (p:List Nat):List (List Nat × List Nat):=P.flatMap (pr p)
def pairs (P R:List (List Nat)):List (List Nat × List Nat):=R.flatMap (prs P)
theorem flatM_len {α β:Type} (f:α→List β) (n:Nat) (h:∀ x,(f x).length≤n):∀ l:List α,(l.flatMap f).length≤l.length * n
 | []=>by simp
 | x :: l=>by
  have:=flatM_len f n h l
  have:=h x
  rw [List.flatMap_cons,List.length_append,List.length_cons,Nat.succ_mul]
  omega
theorem prs_len (P:List (List Nat)) (p:List Nat):(prs P p).length≤P.length:=by
 have:=flatM_len (pr p) 1 (pr_len p) P
 unfold prs;omega
theorem LS_ok {n:Nat} (hn:n≤1000000) {l:List (List Nat × List Nat)} (h:∀ x ∈ l,x.1.length = n∧x.2.length = n):∀ x ∈ LS l,okS x:=by
 intro x hx
 obtain ⟨y,hy,rfl⟩:=List.mem_map.1 hx
 have:=h y hy
 exact ⟨I_NN (by omega),I_NN (by omega)⟩
theorem LS_toN (l:List (List Nat × List Nat)):(LS l).map toN = l:=by
 unfold LS
 rw [List.map_map]
 conv=>rhs;rw [← List.map_id l]
 exact List.map_congr_left (fun x _=>toN_ofN x)
theorem sortSurf_f {n:Nat} (hn:n≤1000000) {l:List (List Nat × List Nat)} (h:∀ x ∈ l,x.1.length = n∧x.2.length = n) (hl:l.length≤1000000):Z16.f (LS l) = some (LS (insAll [] l)):=by
 unfold Z16.f
 rw [if_pos ⟨LS_ok hn h,by rw [LS_len];omega⟩,LS_toN,sortS_ins]
 rfl
theorem rdL_P {P pre rest:List (List Nat)} {p:List Nat} (e:pre ++ p :: rest = P):rd_L5 (I2 P) (pre.length:Int) = I p:=by rw [← e];exact rdL_mid pre p rest
def surfN (n:Nat):List (List Nat × List Nat):=insAll [] (pairs (permN n) (permN n))
theorem impl_with {n:Nat} (h1:1≤n) (h4:n≤4):Ev (fun k=>Z15.f k (n:Int)) (LS (surfN n)):=by
 obtain ⟨hP,hQ⟩:=permN_len h1 h4
 have hA:=allPerms_ev h1 h4
 unfold Z15.f
 have c1:¬ ((n:Int) < 1):=by omega
 have c2:¬ ((n:Int) > 4):=by omega
 simp only [c1,c2,if_false,decide_false]
 refine ev_succ ?_
 simp only [Z15.j0,Bool.false_eq_true,if_false]
 refine Ev.bind hA ?_
 unfold surfN
 generalize permN n = P at hP hQ hA
 have H1:∀ (p:List Nat) (x20:Int) (R:List S33) (rest pre:List (List Nat)) (acc:List (List Nat × List Nat)),pre ++ rest = P→acc.length + rest.length≤100000 →
   Ev (fun k=>Z15.l0 k (n:Int) (LS (acc ++ rest.flatMap (pr p))) (I2 P) ((I2 P).length:Int) (wrap64 (x20 + 1))) R→Ev (fun k=>Z15.l1 k (n:Int) (LS acc) (I p) (I2 P) ((I2 P).length:Int) x20 (I2 P) ((I2 P).length:Int) (pre.length:Int)) R:=by
  intro p x20 R rest
  induction rest with
  | nil =>
   intro pre acc e hl hR
   refine ev_succ ?_
   rw [List.append_nil] at e
   have d1:¬ ((pre.length:Int) < ((I2 P).length:Int)):=by rw [I2_len,e];omega
   simp only [Z15.l1,d1,if_false]
   simpa using hR
  | cons q rest ih =>
   intro pre acc e hl hR
   rw [List.length_cons] at hl
   have hlen:P.length = pre.length + (rest.length + 1):=by rw [← e];simp
   refine ev_succ ?_
   have d1:((pre.length:Int) < ((I2 P).length:Int)):=by rw [I2_len];omega
   have d2:(0:Int)≤(pre.length:Int):=by omega
   have d3:=w64s pre.length (by omega)
   have d4:=rdL_P e
   have d5:(LS acc).length < 2932031007402:=by rw [LS_len];omega
   have e3:((pre ++ [q]).length:Int) = ((pre.length + 1:Nat):Int):=by simp
   have hpl:=pr_len p q
   have key:=ih (pre ++ [q]) (acc ++ pr p q) (by rw [← e];simp) (by rw [List.length_append];omega) (by rw [List.append_assoc,← List.flatMap_cons];exact hR)
   rw [e3] at key
   simp only [Z15.l1,d1,d2,d4,if_true]
   by_cases hb:surfB (I p) (I q) = true
   ·refine Ev.bind (impl_canon (surfB_I.1 hb)) ?_
    simp only [d5,if_true,d3]
    rw [pr_yes hb,LS_app] at key
    exact key
   ·refine Ev.bind (impl_canon_no hb) ?_
    simp only [Bool.false_eq_true,if_false,d3]
    rw [pr_no hb,List.append_nil] at key
    exact key
 have H0:∀ (rest pre:List (List Nat)) (acc:List (List Nat × List Nat)),pre ++ rest = P→acc.length + rest.length * 24≤10000→(∀ x ∈ acc,x.1.length = n∧x.2.length = n) →
   Ev (fun k=>Z15.l0 k (n:Int) (LS acc) (I2 P) ((I2 P).length:Int) (pre.length:Int)) (LS (insAll [] (acc ++ pairs P rest))):=by
  intro rest
  induction rest with
  | nil =>
   intro pre acc e hl hx
   refine ev_succ ?_
   rw [List.append_nil] at e
   have d1:¬ ((pre.length:Int) < ((I2 P).length:Int)):=by rw [I2_len,e];omega
   have d2:=sortSurf_f (by omega) hx (by simp at hl;omega)
   simp only [Z15.l0,d1,if_false,d2,Option.bind_some]
   have e2:acc ++ pairs P [] = acc:=by simp [pairs]
   rw [e2]
   exact Ev.now _
  | cons p rest ih =>
   intro pre acc e hl hx
   rw [List.length_cons] at hl
   have hlen:P.length = pre.length + (rest.length + 1):=by rw [← e];simp
   refine ev_succ ?_
   have d1:((pre.length:Int) < ((I2 P).length:Int)):=by rw [I2_len];omega
   have d2:(0:Int)≤(pre.length:Int):=by omega
   have d3:=w64s pre.length (by omega)
   have d4:=rdL_P e
   simp only [Z15.l0,d1,d2,d4,if_true]
   refine Ev.bind hA ?_
   have e3:((pre ++ [p]).length:Int) = ((pre.length + 1:Nat):Int):=by simp
   have hpl:=prs_len P p
   have hp:p.length = n:=hQ p (by rw [← e];simp)
   have hx2:∀ x ∈ acc ++ prs P p,x.1.length = n∧x.2.length = n:=by
    intro x hm
    rcases List.mem_append.1 hm with hm | hm
    ·exact hx x hm
    ·obtain ⟨q,hq,hxq⟩:=List.mem_flatMap.1 hm
     obtain ⟨a1,a2⟩:=pr_mem hxq
     exact ⟨a1.trans hp,a2.trans (hQ q hq)⟩
   have key:=ih (pre ++ [p]) (acc ++ prs P p) (by rw [← e];simp) (by rw [List.length_append];omega) hx2
   rw [e3,List.append_assoc] at key
   refine H1 p (pre.length:Int) _ P [] acc (by simp) (by omega) ?_
   rw [d3]
   exact key
 have:=H0 P [] [] (by simp) (by simp;omega) (by simp)
 rw [List.nil_append] at this
 exact this
theorem insAll_app (l a b:List (List Nat × List Nat)):insAll l (a ++ b) = insAll (insAll l a) b:=List.foldl_append
theorem insS_len (l:List (List Nat × List Nat)) (s:List Nat × List Nat):(insS l s).length≤l.length + 1:=by
 induction l with
 | nil=>simp [insS]
 | cons x l ih =>
  unfold insS
  split
  ·simp
  ·split
   ·simp
   ·simpa using ih
theorem insAll_len:∀ (ss l:List (List Nat × List Nat)),(insAll l ss).length≤l.length + ss.length
 | [],l=>by simp [insAll]
 | s :: ss,l=>by
  have:=insAll_len ss (insS l s)
  have:=insS_len l s
  show (insAll (insS l s) ss).length≤_
  rw [List.length_cons]
  omega
theorem spec_in14 (n:Int):Z69.f n 1 4 = some (decide (1≤n) && decide (n≤4)):=by
 unfold Z69.f
 by_cases h1:1≤n <;> by_cases h2:n≤4 <;> simp [h1,h2]
theorem spec_with {n:Nat} (h1:1≤n) (h4:n≤4):Ev (fun k=>Z20.f k (n:Int)) (LS (surfN n)):=by
 obtain ⟨hP,hQ⟩:=permN_len h1 h4
 have hA:=l10Perms_ev h1 h4
 unfold Z20.f
 have c0:(decide ((1:Int)≤(n:Int)) && decide ((n:Int)≤4)) = true:=by
  rw [Bool.and_eq_true]
  exact ⟨decide_eq_true (by omega),decide_eq_true (by omega)⟩
 rw [spec_in14,c0]
 simp only [Option.bind_some,if_true]
 refine Ev.bind hA ?_
 unfold surfN
 generalize permN n = P at hP hQ hA
 have H1:∀ (p:List Nat),p.length = n→∀ (x18:Int) (R:List S33) (rest pre:List (List Nat)) (acc:List (List Nat × List Nat)),pre ++ rest = P→acc.length + rest.length≤100000→(∀ x ∈ acc,x.1.length = n∧x.2.length = n) →
   Ev (fun k=>Z20.l0 k (LS (insAll acc (rest.flatMap (pr p)))) (I2 P) (I2 P) ((I2 P).length:Int) (wrap64 (x18 + 1))) R→Ev (fun k=>Z20.l1 k (LS acc) (I2 P) (I p) (I2 P) ((I2 P).length:Int) x18 (I2 P) ((I2 P).length:Int) (pre.length:Int)) R:=by
  intro p hp x18 R rest
  induction rest with
  | nil =>
   intro pre acc e hl hx hR
   refine ev_succ ?_
   rw [List.append_nil] at e
   have d1:¬ ((pre.length:Int) < ((I2 P).length:Int)):=by rw [I2_len,e];omega
   simp only [Z20.l1,d1,if_false]
   exact hR
  | cons q rest ih =>
   intro pre acc e hl hx hR
   rw [List.length_cons] at hl
   have hlen:P.length = pre.length + (rest.length + 1):=by rw [← e];simp
   have hq:q.length = n:=hQ q (by rw [← e];simp)
   refine ev_succ ?_
   have d1:((pre.length:Int) < ((I2 P).length:Int)):=by rw [I2_len];omega
   have d2:(0:Int)≤(pre.length:Int):=by omega
   have d3:=w64s pre.length (by omega)
   have d4:=rdL_P e
   have e3:((pre ++ [q]).length:Int) = ((pre.length + 1:Nat):Int):=by simp
   have hpl:=pr_len p q
   have hil:=insAll_len (pr p q) acc
   have hx2:∀ x ∈ insAll acc (pr p q),x.1.length = n∧x.2.length = n:=by
    intro x hm
    rcases (mem_insAll _ _ _).1 hm with hm | hm
    ·exact hx x hm
    ·obtain ⟨a1,a2⟩:=pr_mem hm
     exact ⟨a1.trans hp,a2.trans hq⟩
   have key:=ih (pre ++ [q]) (insAll acc (pr p q)) (by rw [← e];simp) (by omega) hx2 (by rw [← insAll_app,← List.flatMap_cons];exact hR)
   rw [e3] at key
   simp only [Z20.l1,d1,d2,d4,if_true]
   refine Ev.bind (spec_surf _ _) ?_
   by_cases hb:surfB (I p) (I q) = true
   ·simp only [hb,if_true]
    refine Ev.bind (spec_canon (surfB_I.1 hb)) ?_
    have hc:(canS p q).1.length = n∧(canS p q).2.length = n:=by
     obtain ⟨a1,a2⟩:=canK_len (r:=p) (u:=q) (p.length - 1)
     exact ⟨a1.trans hp,a2.trans hq⟩
    refine Ev.bind (insert_ev (by omega) hc acc hx (by omega)) ?_
    rw [pr_yes hb] at key
    simp only [d3]
    exact key
   ·simp only [hb,Bool.false_eq_true,if_false,d3]
    rw [pr_no hb] at key
    exact key
 have H0:∀ (rest pre:List (List Nat)) (acc:List (List Nat × List Nat)),pre ++ rest = P→acc.length + rest.length * 24≤10000→(∀ x ∈ acc,x.1.length = n∧x.2.length = n) →
   Ev (fun k=>Z20.l0 k (LS acc) (I2 P) (I2 P) ((I2 P).length:Int) (pre.length:Int)) (LS (insAll acc (pairs P rest))):=by
  intro rest
  induction rest with
  | nil =>
   intro pre acc e hl hx
   refine ev_succ ?_
   rw [List.append_nil] at e
   have d1:¬ ((pre.length:Int) < ((I2 P).length:Int)):=by rw [I2_len,e];omega
   simp only [Z20.l0,d1,if_false]
   exact Ev.now _
  | cons p rest ih =>
   intro pre acc e hl hx
   rw [List.length_cons] at hl
   have hlen:P.length = pre.length + (rest.length + 1):=by rw [← e];simp
   refine ev_succ ?_
   have d1:((pre.length:Int) < ((I2 P).length:Int)):=by rw [I2_len];omega
   have d2:(0:Int)≤(pre.length:Int):=by omega
   have d3:=w64s pre.length (by omega)
   have d4:=rdL_P e
   simp only [Z20.l0,d1,d2,d4,if_true]
   have e3:((pre ++ [p]).length:Int) = ((pre.length + 1:Nat):Int):=by simp
   have hpl:=prs_len P p
   have hil:=insAll_len (prs P p) acc
   have hp:p.length = n:=hQ p (by rw [← e];simp)
   have hx2:∀ x ∈ insAll acc (prs P p),x.1.length = n∧x.2.length = n:=by
    intro x hm
    rcases (mem_insAll _ _ _).1 hm with hm | hm
    ·exact hx x hm
    ·obtain ⟨q,hq,hxq⟩:=List.mem_flatMap.1 hm
     obtain ⟨a1,a2⟩:=pr_mem hxq
     exact ⟨a1.trans hp,a2.trans (hQ q hq)⟩
   have key:=ih (pre ++ [p]) (insAll acc (prs P p)) (by rw [← e];simp) (by omega) hx2
   rw [e3,← insAll_app] at key
   refine H1 p hp (pre.length:Int) _ P [] acc (by simp) (by omega) hx ?_
   rw [d3]
   exact key
 exact H0 P [] [] (by simp) (by simp;omega) (by simp)
end Go.Proofs.Ytoijcallajegfaa.M
end
section
/- Plain mathematics: classes of what is linked. No conditions. -/
namespace Go.Proofs.Ytoijcallajegfaa.M
set_option linter.unusedVariables false
set_option linter.unusedSimpArgs false
inductive Cn (up:Nat→Option Nat):Nat→Nat→Prop
 | refl (i:Nat):Cn up i i
 | up {i j k:Nat}:up i = some j→Cn up j k→Cn up i k
 | dn {i j k:Nat}:up j = some i→Cn up j k→Cn up i k
theorem Cn.trans {up:Nat→Option Nat} {i j k:Nat} (h:Cn up i j) (h':Cn up j k):Cn up i k:=by
 induction h with
 | refl i=>exact h'
 | up e _ ih=>exact .up e (ih h')
 | dn e _ ih=>exact .dn e (ih h')
theorem Cn.symm {up:Nat→Option Nat} {i j:Nat} (h:Cn up i j):Cn up j i:=by
 induction h with
 | refl i=>exact .refl i
 | up e _ ih=>exact ih.trans (.dn e (.refl _))
 | dn e _ ih=>exact ih.trans (.up e (.refl _))
theorem Cn.one {up:Nat→Option Nat} {i j:Nat} (h:up i = some j):Cn up i j:=.up h (.refl _)
theorem Cn.lt {n:Nat} {up:Nat→Option Nat} (hup:∀ i j,up i = some j→i < n∧j < n) {i j:Nat} (h:Cn up i j) (hi:i < n):j < n:=by
 induction h with
 | refl i=>exact hi
 | up e _ ih=>exact ih (hup _ _ e).2
 | dn e _ ih=>exact ih (hup _ _ e).1
theorem Cn.closed {up:Nat→Option Nat} {S:Nat→Prop} (hS:∀ i j,up i = some j→(S i ↔ S j)) {i j:Nat} (h:Cn up i j):S i ↔ S j:=by
 induction h with
 | refl i=>exact Iff.rfl
 | up e _ ih=>exact (hS _ _ e).trans ih
 | dn e _ ih=>exact (hS _ _ e).symm.trans ih
structure Grp (n:Nat) (up:Nat→Option Nat) (t:Nat) (G:Nat→Nat):Prop where
 le:∀ j,j < n→G j≤j
 fix:∀ j,j < n→G (G j) = G j
 cn:∀ j,j < n→Cn up j (G j)
 ed:∀ i j,i < t→up i = some j→G i = G j
def mgf (G:Nat→Nat) (a b:Nat):Nat→Nat:=fun j=>if G j = a ∨ G j = b then min a b else G j
theorem Grp.start (n:Nat) (up:Nat→Option Nat):Grp n up 0 (fun j=>j):=⟨fun j _=>Nat.le_refl _,fun j _=>rfl,fun j _=>.refl _,fun i j h _=>by omega⟩
theorem Grp.skip {n t:Nat} {up:Nat→Option Nat} {G:Nat→Nat} (h:Grp n up t G) (e:up t = none):Grp n up (t + 1) G :=
 ⟨h.le,h.fix,h.cn,fun i j hi hj=>by
  by_cases e2:i = t
  ·subst e2
   rw [e] at hj
   cases hj
  ·exact h.ed i j (by omega) hj⟩
theorem Grp.merge {n t k:Nat} {up:Nat→Option Nat} (hup:∀ i j,up i = some j→i < n∧j < n) {G:Nat→Nat} (h:Grp n up t G) (e:up t = some k):Grp n up (t + 1) (mgf G (G t) (G k)):=by
 obtain ⟨ht,hk⟩:=hup t k e
 have ha:=h.fix t ht
 have hb:=h.fix k hk
 have la:=h.le t ht
 have lb:=h.le k hk
 have hab:Cn up (G t) (G k):=(h.cn t ht).symm.trans ((Cn.one e).trans (h.cn k hk))
 have hm:min (G t) (G k) = G t ∨ min (G t) (G k) = G k:=by omega
 refine ⟨fun j hj=>?_,fun j hj=>?_,fun j hj=>?_,fun i j hi hj=>?_⟩
 ·unfold mgf
  have:=h.le j hj
  split <;> omega
 ·have key:∀ c,(c = G t ∨ c = G k)→mgf G (G t) (G k) c = min (G t) (G k):=by
   intro c hc
   unfold mgf
   rw [if_pos (by rcases hc with rfl | rfl;exact .inl ha;exact .inr hb)]
  by_cases hc:G j = G t ∨ G j = G k
  ·have e1:mgf G (G t) (G k) j = min (G t) (G k):=by unfold mgf;rw [if_pos hc]
   rw [e1]
   exact key _ hm
  ·have e1:mgf G (G t) (G k) j = G j:=by unfold mgf;rw [if_neg hc]
   rw [e1]
   unfold mgf
   rw [h.fix j hj,if_neg hc]
 ·unfold mgf
  split
  ·rename_i hc
   refine (h.cn j hj).trans ?_
   rcases hc with hc | hc <;> rcases hm with hm | hm <;> rw [hc,hm]
   ·exact .refl _
   ·exact hab
   ·exact hab.symm
   ·exact .refl _
  ·exact h.cn j hj
 ·by_cases e2:i = t
  ·subst e2
   rw [e] at hj
   injection hj with hj
   subst hj
   unfold mgf
   simp
  ·unfold mgf
   rw [h.ed i j (by omega) hj]
theorem Grp.iff {n:Nat} {up:Nat→Option Nat} (hup:∀ i j,up i = some j→i < n∧j < n) {G:Nat→Nat} (h:Grp n up n G) {i j:Nat} (hi:i < n) (hj:j < n):G i = G j ↔ Cn up i j:=by
 constructor
 ·intro e
  have:=(h.cn i hi).trans ((by rw [e];exact .refl _:Cn up (G i) (G j)).trans (h.cn j hj).symm)
  exact this
 ·intro hc
  induction hc with
  | refl i=>rfl
  | up e _ ih=>rw [h.ed _ _ (hup _ _ e).1 e];exact ih (hup _ _ e).2 hj
  | dn e _ ih=>rw [← h.ed _ _ (hup _ _ e).1 e];exact ih (hup _ _ e).1 hj
theorem Grp.head {n:Nat} {up:Nat→Option Nat} (hup:∀ i j,up i = some j→i < n∧j < n) {G:Nat→Nat} (h:Grp n up n G) {i:Nat} (hi:i < n):G i = i ↔ ∀ j,Cn up i j→i≤j:=by
 constructor
 ·intro e j hc
  have hj:=hc.lt hup hi
  have:=(h.iff hup hi hj).mpr hc
  have:=h.le j hj
  omega
 ·intro hc
  have:=hc _ (h.cn i hi)
  have:=h.le i hi
  omega
def ups (up:Nat→Option Nat):Nat→Nat→Option Nat
 | 0,i=>some i
 | m + 1,i=>(up i).bind (ups up m)
theorem ups_succ (up:Nat→Option Nat) (m i:Nat):ups up (m + 1) i = (ups up m i).bind up:=by
 induction m generalizing i with
 | zero =>
  simp only [ups,Option.bind_some]
  cases h:up i <;> rfl
 | succ m ih =>
  show (up i).bind (ups up (m + 1)) = ((up i).bind (ups up m)).bind up
  cases h:up i with
  | none=>rfl
  | some j=>exact ih j
theorem ups_cn {up:Nat→Option Nat} {m i j:Nat} (h:ups up m i = some j):Cn up i j:=by
 induction m generalizing i with
 | zero=>simp [ups] at h;subst h;exact .refl _
 | succ m ih =>
  obtain ⟨z,hz,h2⟩:=Option.bind_eq_some_iff.mp h
  exact .up hz (ih h2)
structure Mk (n:Nat) (up:Nat→Option Nat) (row:Nat) (S0 add:List Nat):Prop where
 nd:add.Nodup
 lt:∀ x ∈ add,x < n
 new:∀ x ∈ add,x ∉ S0
 p:∀ x ∈ add,(∃ m,ups up m row = some x) ∨ (∃ m,ups up m x = some row)
theorem Mk.cn {n:Nat} {up:Nat→Option Nat} {row:Nat} {S0 add:List Nat} (h:Mk n up row S0 add) {x:Nat} (hx:x ∈ add):Cn up row x:=by
 rcases h.p x hx with ⟨m,hm⟩ | ⟨m,hm⟩
 ·exact ups_cn hm
 ·exact (ups_cn hm).symm
theorem Mk.add {n:Nat} {up:Nat→Option Nat} {row:Nat} {S0 add:List Nat} (h:Mk n up row S0 add) {x:Nat} (hx:x < n) (h1:x ∉ S0) (h2:x ∉ add) (hp:(∃ m,ups up m row = some x) ∨ (∃ m,ups up m x = some row)):Mk n up row S0 (add ++ [x]):=by
 refine ⟨List.nodup_append.mpr ⟨h.nd,by simp,fun a ha b hb e=>?_⟩,fun y hy=>?_,fun y hy=>?_,fun y hy=>?_⟩
 ·have:b = x:=by simpa using hb
  exact h2 (by rw [← this,← e];exact ha)
 ·rcases List.mem_append.mp hy with hy | hy
  ·exact h.lt y hy
  ·have:y = x:=by simpa using hy
   omega
 ·rcases List.mem_append.mp hy with hy | hy
  ·exact h.new y hy
  ·have:y = x:=by simpa using hy
   rw [this]
   exact h1
 ·rcases List.mem_append.mp hy with hy | hy
  ·exact h.p y hy
  ·have:y = x:=by simpa using hy
   rw [this]
   exact hp
theorem Mk.full {n:Nat} {up:Nat→Option Nat} (hup:∀ i j,up i = some j→i < n∧j < n) (hinj:∀ i i' j,up i = some j→up i' = some j→i = i') {row:Nat} {S0 add:List Nat} (h:Mk n up row S0 add) (hrow:row ∈ add)
  (hS0:∀ i j,up i = some j→(i ∈ S0 ↔ j ∈ S0)) (c1:∀ x ∈ add,∀ y,up x = some y→y ∈ S0 ∨ y ∈ add)
  (c2:∀ k x,up k = some x→(x ∈ S0 ∨ x ∈ add)→(∃ m,ups up m k = some row)→(k ∈ S0 ∨ k ∈ add)):∀ x,x ∈ add ↔ Cn up row x:=by
 have hrs:row ∉ S0:=h.new row hrow
 have chain:∀ m x,ups up m row = some x→x ∈ add:=by
  intro m
  induction m with
  | zero=>intro x hx;simp [ups] at hx;rw [← hx];exact hrow
  | succ m ih =>
   intro x hx
   rw [ups_succ] at hx
   obtain ⟨z,hz,hzx⟩:=Option.bind_eq_some_iff.mp hx
   have hza:=ih z hz
   rcases c1 z hza x hzx with k | k
   ·exact absurd ((hS0 z x hzx).mpr k) (h.new z hza)
   ·exact k
 have closed:∀ i j,up i = some j→((i ∈ S0 ∨ i ∈ add) ↔ (j ∈ S0 ∨ j ∈ add)):=by
  intro i j e
  constructor
  ·rintro (k | k)
   ·exact .inl ((hS0 i j e).mp k)
   ·exact c1 i k j e
  ·rintro (k | k)
   ·exact .inl ((hS0 i j e).mpr k)
   ·rcases h.p j k with ⟨m,hm⟩ | ⟨m,hm⟩
    ·cases m with
     | zero =>
      simp [ups] at hm
      subst hm
      exact c2 i _ e (.inr k) ⟨1,by simp [ups,e]⟩
     | succ m =>
      rw [ups_succ] at hm
      obtain ⟨z,hz,hzj⟩:=Option.bind_eq_some_iff.mp hm
      have:=hinj i z j e hzj
      subst this
      exact .inr (chain m _ hz)
    ·exact c2 i j e (.inr k) ⟨m + 1,by simp [ups,e,hm]⟩
 intro x
 constructor
 ·exact fun hx=>h.cn hx
 ·intro hc
  have h1:=(Cn.closed (S:=fun z=>z ∈ S0 ∨ z ∈ add) closed hc).mp (.inr hrow)
  rcases h1 with h1 | h1
  ·exact absurd ((Cn.closed (S:=fun z=>z ∈ S0) hS0 hc).mpr h1) hrs
  ·exact h1
end Go.Proofs.Ytoijcallajegfaa.M
end
section
/- Half turns: the tests of the program and of the reference come to one plain test. No conditions. -/
namespace Go.Proofs.Ytoijcallajegfaa.M
set_option linter.unusedVariables false
set_option linter.unusedSimpArgs false
open Go.RowKit Go.Proofs.YtoijcallajegfaaW.PrintWords Go.Proofs.YtoijcallajegfaaW.PrintLast Go.Proofs.YtoijcallajegfaaW.PrintMore Go.Proofs.Ytoijcallajegfaa.A
def Turn (r u a:List Nat):Prop:=∀ i,i < a.length→g a (g r i) = ix r (g a i)∧g a (g u i) = ix u (g a i)
instance (r u a:List Nat):Decidable (Turn r u a):=by unfold Turn;infer_instance
end Go.Proofs.Ytoijcallajegfaa.M
end
section
/- Half turns as the program makes them. No conditions. -/
namespace Go.Proofs.Ytoijcallajegfaa.M
set_option linter.unusedVariables false
set_option linter.unusedSimpArgs false
open Go.RowKit Go.Proofs.YtoijcallajegfaaW.PrintWords Go.Proofs.YtoijcallajegfaaW.PrintLast Go.Proofs.YtoijcallajegfaaW.PrintMore Go.Proofs.Ytoijcallajegfaa.A
structure TurnP (r u b:List Nat):Prop where
 len:b.length = r.length
 p:IsP b
 t:Turn r u b
theorem ix_inj {p:List Nat} (hp:IsP p) {x y:Nat} (hx:x < p.length) (hy:y < p.length) (h:ix p x = ix p y):x = y:=by
 rw [← g_ix hp hx,← g_ix hp hy,h]
structure FI (r u:List Nat) (im:Nat) (out:List Nat) (f:Nat→Nat):Prop where
 lt:∀ x ∈ out,f x < r.length
 z:f 0 = im
 z0:0 ∈ out
 t:∀ b,TurnP r u b→g b 0 = im→∀ x ∈ out,f x = g b x
theorem FI.add {r u:List Nat} {im:Nat} {out:List Nat} {f:Nat→Nat} (h:FI r u im out f) {y v:Nat} (hy:y ∉ out) (hv:v < r.length) (ht:∀ b,TurnP r u b→g b 0 = im→v = g b y):FI r u im (out ++ [y]) (fun z=>if z = y then v else f z):=by
 have h0:(0:Nat)≠y:=fun e=>hy (e ▸ h.z0)
 refine ⟨fun x hx=>?_,by simp [h0,h.z],by simp [h.z0],fun b hb hb0 x hx=>?_⟩
 ·by_cases e:x = y
  ·simp [e,hv]
  ·rcases List.mem_append.mp hx with hx | hx
   ·simp [e,h.lt x hx]
   ·exact absurd (by simpa using hx) e
 ·by_cases e:x = y
  ·subst e
   simp [ht b hb hb0]
  ·rcases List.mem_append.mp hx with hx | hx
   ·simp [e,h.t b hb hb0 x hx]
   ·exact absurd (by simpa using hx) e
end Go.Proofs.Ytoijcallajegfaa.M
end
section
/- Half turns: the program and the reference find the same ones. No conditions. -/
namespace Go.Proofs.Ytoijcallajegfaa.M
set_option linter.unusedVariables false
set_option linter.unusedSimpArgs false
open Go.RowKit Go.Proofs.YtoijcallajegfaaW.PrintWords Go.Proofs.YtoijcallajegfaaW.PrintLast Go.Proofs.YtoijcallajegfaaW.PrintMore Go.Proofs.Ytoijcallajegfaa.A
def Led (r u out:List Nat) (a:Nat):Prop:=∀ i,i < out.length→0 < i→∃ j,j < i∧j < a∧(g out i = g r (g out j) ∨ g out i = g u (g out j))
theorem g_app {out:List Nat} {x i:Nat} (h:i < out.length):g (out ++ [x]) i = g out i:=by
 unfold g
 rw [List.getD_eq_getElem?_getD,List.getD_eq_getElem?_getD,List.getElem?_append_left h]
theorem g_last (out:List Nat) (x:Nat):g (out ++ [x]) out.length = x:=getD_mid out x [] 0
theorem Led.st {r u out:List Nat} {a y:Nat} (h:Led r u out (a + 1)) (ha:a < out.length) (hy:y = g r (g out a) ∨ y = g u (g out a)):Led r u (st1 out y) (a + 1):=by
 unfold st1
 split
 ·exact h
 ·intro i hi h0
  by_cases e:i < out.length
  ·obtain ⟨j,j1,j2,j3⟩:=h i e h0
   refine ⟨j,j1,j2,?_⟩
   rw [g_app e,g_app (by omega)]
   exact j3
  ·have e2:i = out.length:=by simp at hi;omega
   subst e2
   refine ⟨a,ha,by omega,?_⟩
   rw [g_last,g_app ha]
   exact hy
inductive Given (r u L:List Nat) (i:Nat):Nat→Prop
 | z:Given r u L i 0
 | r (j:Nat):j < i→Given r u L i (g r (g L j))
 | u (j:Nat):j < i→Given r u L i (g u (g L j))
theorem Given.mono {r u L:List Nat} {i x:Nat} (h:Given r u L i x):Given r u L (i + 1) x:=by
 cases h with
 | z=>exact .z
 | r j hj=>exact .r j (by omega)
 | u j hj=>exact .u j (by omega)
structure GI (r u:List Nat) (im:Nat) (i:Nat) (c:List Nat):Prop where
 len:c.length = r.length
 lt:∀ x,x < r.length→g c x < r.length
 t:∀ b,TurnP r u b→g b 0 = im→∀ x,Given r u (reach r u 0) i x→g c x = g b x
 n:∀ b,TurnP r u b→g b 0≠im→∀ x,Given r u (reach r u 0) i x→g c x≠g b x
theorem GI.put {r u:List Nat} (hs:Sf r u) {p:List Nat} (hp:p = r ∨ p = u) {im:Nat} {c:List Nat} (P:Nat→Prop) (h1:c.length = r.length) (h2:∀ x,x < r.length→g c x < r.length) (ht:∀ b,TurnP r u b→g b 0 = im→∀ x,P x→g c x = g b x) (hn:∀ b,TurnP r u b→g b 0≠im→∀ x,P x→g c x≠g b x) {x:Nat} (hx:x < r.length) (hP:P x) :
  (c.set (g p x) (ix p (g c x))).length = r.length∧(∀ z,z < r.length→g (c.set (g p x) (ix p (g c x))) z < r.length)∧(∀ b,TurnP r u b→g b 0 = im→∀ z,(P z ∨ z = g p x)→g (c.set (g p x) (ix p (g c x))) z = g b z)∧(∀ b,TurnP r u b→g b 0≠im→∀ z,(P z ∨ z = g p x)→g (c.set (g p x) (ix p (g c x))) z≠g b z):=by
 have heq:=hs.eq
 have ipp:IsP p:=by rcases hp with rfl | rfl;exact hs.pr;exact hs.pu
 have hpl:p.length = r.length:=by rcases hp with rfl | rfl;rfl;exact heq
 have gx:=g_lt ipp (i:=x) (by omega)
 have cx:=h2 x hx
 have hv:=ix_lt ipp (x:=g c x) (by omega)
 have tp:∀ b,TurnP r u b→g b (g p x) = ix p (g b x):=fun b hb=>by
  have:=hb.t x (by rw [hb.len];exact hx)
  rcases hp with rfl | rfl
  ·exact this.1
  ·exact this.2
 refine ⟨by rw [List.length_set];exact h1,fun z hz=>?_,fun b hb hb0 z hz=>?_,fun b hb hb0 z hz=>?_⟩
 ·rw [g_set (by omega)]
  split
  ·omega
  ·exact h2 z hz
 ·rw [g_set (by omega)]
  by_cases e:g p x = z
  ·rw [if_pos e,← e,tp b hb,ht b hb hb0 x hP]
  ·rw [if_neg e]
   rcases hz with hz | hz
   ·exact ht b hb hb0 z hz
   ·exact absurd hz.symm e
 ·rw [g_set (by omega)]
  by_cases e:g p x = z
  ·rw [if_pos e,← e,tp b hb]
   intro h
   exact hn b hb hb0 x hP (ix_inj ipp (by omega) (by have:=g_lt hb.p (i:=x) (by rw [hb.len];exact hx);rw [hb.len] at this;omega) h)
  ·rw [if_neg e]
   rcases hz with hz | hz
   ·exact hn b hb hb0 z hz
   ·exact absurd hz.symm e
end Go.Proofs.Ytoijcallajegfaa.M
end
section
/- Rows whose elements' blocks are told by numbers. No conditions. -/
namespace Go.Proofs.Ytoijcallajegfaa.M
set_option linter.unusedVariables false
set_option linter.unusedSimpArgs false
open Go Go.RowKit Go.Proofs.YtoijcallajegfaaW.PrintWords.Kd Go.Proofs.YtoijcallajegfaaW.PrintWords Go.Proofs.YtoijcallajegfaaW.PrintLast Go.Proofs.YtoijcallajegfaaW.PrintMore Go.Proofs.Ytoijcallajegfaa.A
namespace TR
section
variable {α:Type} {d:Kd α} {f:Nat→Nat} {w W w1:World} {ok ok':Nat→Prop} {e base g:Nat} {u v:Value} {xs:List α} {n:Int}
def T (f:Nat→Nat) (d:Kd α) (e:Nat) (w:World) (base:Nat) (ok:Nat→Prop) (v:Value) (xs:List α) (n:Int):Prop :=
 ∃ zs:List (α × Nat),zs.map (·.1) = xs∧(zs.map (·.2)).Nodup∧(∀ q ∈ zs,(q.2:Int) < n)∧(Kd.tag f d).R e w base ok v zs
end
section
variable {α:Type} {f:Nat→Nat} {P:Program} {ops:Array Oper} {rest:List Oper} {o:Oper} {a:Act} {Q:Exit→Act→World→Prop}
end
end TR
end Go.Proofs.Ytoijcallajegfaa.M
end
section
/- The surfaces of a stratum: the program and the reference find the same ones. No conditions. -/
namespace Go.Proofs.Ytoijcallajegfaa.M
set_option linter.unusedVariables false
set_option linter.unusedSimpArgs false
open Go.RowKit Go.Proofs.YtoijcallajegfaaW.PrintWords Go.Proofs.YtoijcallajegfaaW.PrintLast Go.Proofs.YtoijcallajegfaaW.PrintMore Go.Proofs.Ytoijcallajegfaa.A
def tabN:Nat→List (List Nat × List Nat)
 | 1=>[([0],[0])]
 | 2=>[([0,1],[1,0]),([1,0],[0,1]),([1,0],[1,0])]
 | 3=>[([0,1,2],[1,2,0]),([0,2,1],[1,0,2]),([0,2,1],[1,2,0]),([1,2,0],[0,1,2]),([1,2,0],[0,2,1]),([1,2,0],[1,2,0]),([1,2,0],[2,0,1])]
 | 4=>[([0,1,2,3],[1,2,3,0]),([0,1,3,2],[1,2,0,3]),([0,1,3,2],[1,2,3,0]),([0,2,1,3],[1,0,3,2]),([0,2,1,3],[1,3,0,2]),([0,2,3,1],[1,0,2,3]),([0,2,3,1],[1,0,3,2]),([0,2,3,1],[1,2,0,3]),([0,2,3,1],[1,2,3,0]),([0,2,3,1],[1,3,0,2]),([0,2,3,1],[1,3,2,0]),([1,0,3,2],[0,2,1,3]),([1,0,3,2],[0,2,3,1]),([1,0,3,2],[1,2,3,0]),([1,0,3,2],[2,3,0,1]),([1,0,3,2],[2,3,1,0]),([1,2,3,0],[0,1,2,3]),([1,2,3,0],[0,1,3,2]),([1,2,3,0],[0,2,3,1]),([1,2,3,0],[0,3,1,2]),([1,2,3,0],[0,3,2,1]),([1,2,3,0],[1,0,3,2]),([1,2,3,0],[1,2,3,0]),([1,2,3,0],[1,3,0,2]),([1,2,3,0],[2,3,0,1]),([1,3,0,2],[2,0,3,1])]
 | _=>[]
theorem surf_tab3:surfN 1 = tabN 1∧surfN 2 = tabN 2∧surfN 3 = tabN 3:=by decide +kernel
theorem surf_tab4:surfN 4 = tabN 4:=by decide +kernel
theorem surf_tab {n:Nat} (h1:1≤n) (h4:n≤4):surfN n = tabN n:=by
 rcases four_cases h1 h4 with rfl | rfl | rfl | rfl
 ·exact surf_tab3.1
 ·exact surf_tab3.2.1
 ·exact surf_tab3.2.2
 ·exact surf_tab4
theorem tab_ok:∀ n:Fin 5,(tabN n.val).length≤26∧∀ s ∈ tabN n.val,surfB (I s.1) (I s.2) = true:=by decide +kernel
theorem tabN_ok {n:Nat} (h4:n≤4):(tabN n).length≤26∧∀ s ∈ tabN n,Sf s.1 s.2:=by
 obtain ⟨a,b⟩:=tab_ok ⟨n,by omega⟩
 exact ⟨a,fun s hs=>surfB_I.1 (b s hs)⟩
end Go.Proofs.Ytoijcallajegfaa.M
end
section
/- Lists of lists of numbers sorted and struck of doubles: what lies in memory. No conditions. -/
namespace Go.Proofs.Ytoijcallajegfaa.M
set_option linter.unusedVariables false
set_option linter.unusedSimpArgs false
open Go Go.RowKit Go.Proofs.YtoijcallajegfaaW.PrintWords Go.Proofs.YtoijcallajegfaaW.PrintLast Go.Proofs.YtoijcallajegfaaW.PrintMore Go.Proofs.Ytoijcallajegfaa.A Go.Sort Go.Shelf Go.Lib Go.Proofs Go.Proofs.YtoijcallajegfaaW.PrintWords.Kd
def toL (x:List Int):List Nat:=x.map Int.toNat
def eqL (x y:List Int):Bool:=decide (toL x = toL y)
end Go.Proofs.Ytoijcallajegfaa.M
end
section
namespace Go.Proofs.Ytoijcallajegfaa.A
open Go.RowKit Go.Proofs.YtoijcallajegfaaW.PrintWords Go.Proofs.YtoijcallajegfaaW.PrintLast Go.Proofs.YtoijcallajegfaaW.PrintMore
attribute [local go_sem] max2_int min2_int max_two min_two max_three min_three max_four min_four
set_option linter.unusedVariables false
set_option linter.unusedSimpArgs false
def slices_CompactFunc_int_int.f (l0:List (List Int)):Option (List (List Int)):=if (∀ x ∈ l0,M.NN x)∧l0.length < 4611686018427387904 then some ((M.cpt (fun a b=>decide (a = b)) ((l0.map M.toL).mergeSort (fun a b=>decide (¬ M.lexC b a < 0)))).map (fun l:List Nat=>l.map Int.ofNat)) else none
theorem slices_CompactFunc_int_int.eq (l xs':List (List Int)) (hq:∀ x ∈ l,M.NN x) (hp:xs'.Perm l) (hs:xs'.Pairwise (fun a b=>¬ M.lexC (M.toL b) (M.toL a) < 0)):M.cpt M.eqL xs' = (M.cpt (fun a b=>decide (a = b)) ((l.map M.toL).mergeSort (fun a b=>decide (¬ M.lexC b a < 0)))).map (fun l:List Nat=>l.map Int.ofNat):=by
 have h1:xs'.map M.toL = (l.map M.toL).mergeSort (fun a b=>decide (¬ M.lexC b a < 0)):=by
  refine List.Perm.eq_of_pairwise (le:=fun a b=>¬ M.lexC b a < 0) ?_ (by rw [List.pairwise_map];exact hs) ?_ ((hp.map _).trans (List.mergeSort_perm _ _).symm)
  ·intro a b _ _ h1 h2
   have:=M.lexC_neg a b
   exact (M.lexC_eq _ _).1 (by omega)
  ·have:=List.pairwise_mergeSort (le:=fun a b=>decide (¬ M.lexC b a < 0)) (fun a b c h1 h2=>decide_eq_true (M.lexC_le_tr c b a (of_decide_eq_true h2) (of_decide_eq_true h1))) (fun a b=>by
    have:=M.lexC_neg a b
    simp only [Bool.or_eq_true,decide_eq_true_eq]
    omega) (l.map M.toL)
   exact this.imp (fun h=>of_decide_eq_true h)
 have h2:(M.cpt M.eqL xs').map M.toL = M.cpt (fun a b=>decide (a = b)) (xs'.map M.toL):=M.cpt_map M.toL (fun a b=>decide (a = b)) xs'
 have h3:((M.cpt M.eqL xs').map M.toL).map (fun l:List Nat=>l.map Int.ofNat) = M.cpt M.eqL xs':=by
  rw [List.map_map]
  conv=>rhs;rw [← List.map_id (M.cpt M.eqL xs')]
  apply List.map_congr_left
  intro x hx
  exact M.NN_I (hq x (hp.mem_iff.1 ((M.cpt_sub M.eqL xs').subset hx)))
 rw [← h3,h2,h1]
theorem slices_CompactFunc_int_int.ok {l0 r:List (List Int)} (h:slices_CompactFunc_int_int.f l0 = some r):((∀ x ∈ l0,M.NN x)∧l0.length < 4611686018427387904)∧∀ xs':List (List Int),xs'.Perm l0→xs'.Pairwise (fun a b=>¬ M.lexC (M.toL b) (M.toL a) < 0)→M.cpt M.eqL xs' = r:=by
 unfold slices_CompactFunc_int_int.f at h
 split at h
 ·rename_i hq
  obtain rfl:=Option.some.inj h
  exact ⟨hq,fun xs' hp hs=>slices_CompactFunc_int_int.eq l0 xs' hq.1 hp hs⟩
 ·cases h
end Go.Proofs.Ytoijcallajegfaa.A
end
section
/- The strata: the program and the reference list them alike. No conditions. -/
namespace Go.Proofs.Ytoijcallajegfaa.M
set_option linter.unusedVariables false
set_option linter.unusedSimpArgs false
open Go.RowKit Go.Proofs.YtoijcallajegfaaW.PrintWords Go.Proofs.YtoijcallajegfaaW.PrintLast Go.Proofs.YtoijcallajegfaaW.PrintMore Go.Proofs.Ytoijcallajegfaa.A
def LUp (l:List (List Nat)):Prop:=l.Pairwise (fun a b=>lexC a b < 0)
theorem LUp.nodup {l:List (List Nat)} (h:LUp l):l.Nodup :=
 h.imp (fun {a b} hab e=>by subst e;rw [(lexC_eq _ _).2 rfl] at hab;omega)
end Go.Proofs.Ytoijcallajegfaa.M
end
section
/- The lists hold together. No conditions. -/
namespace Go.Proofs.Ytoijcallajegfaa.M
set_option linter.unusedVariables false
set_option linter.unusedSimpArgs false
open Go.RowKit Go.Proofs.YtoijcallajegfaaW.PrintWords Go.Proofs.YtoijcallajegfaaW.PrintLast Go.Proofs.YtoijcallajegfaaW.PrintMore Go.Proofs.Ytoijcallajegfaa.A
theorem can_tab:∀ n:Fin 5,∀ s ∈ tabN n.val,canS s.1 s.2 = s:=by decide +kernel
end Go.Proofs.Ytoijcallajegfaa.M
end
section
/- Orbits of surfaces with few squares. No conditions. -/
namespace Go.Proofs.Ytoijcallajegfaa.M
set_option linter.unusedVariables false
set_option linter.unusedSimpArgs false
open Go.RowKit Go.Proofs.YtoijcallajegfaaW.PrintWords Go.Proofs.YtoijcallajegfaaW.PrintLast Go.Proofs.YtoijcallajegfaaW.PrintMore Go.Proofs.Ytoijcallajegfaa.A
def orbC (c:List Nat × List Nat):Option PO:=lpP 121 ⟨[c],[⟨#[]⟩],[-1],[0],[],[]⟩ 0
def okO (n:Nat) (c:List Nat × List Nat):Bool :=
 match orbC c with
 | none=>false
 | some o=>decide (o.L.length≤26) && decide (o.L.Nodup) && decide (c ∈ o.L) && o.L.all (fun x=>decide (x ∈ tabN n) && decide (nxt 84 x ∈ o.L) && decide (nxt 116 x ∈ o.L) && decide (nxt 83 x ∈ o.L) && decide (nxt 115 x ∈ o.L)) && (List.range o.L.length).all (fun i=>wordB (atW o.W i) && decide (canS (rn (atW o.W i) c (atW o.W i).size).1 (rn (atW o.W i) c (atW o.W i).size).2 = atL o.L i))
theorem okO_tab3:∀ n:Fin 4,∀ c ∈ tabN n.val,okO n.val c = true:=by decide +kernel
theorem okO_tab4a:∀ c ∈ (tabN 4).take 9,okO 4 c = true:=by decide +kernel
theorem okO_tab4b:∀ c ∈ ((tabN 4).drop 9).take 9,okO 4 c = true:=by decide +kernel
theorem okO_tab4c:∀ c ∈ ((tabN 4).drop 9).drop 9,okO 4 c = true:=by decide +kernel
theorem okO_tab4:∀ c ∈ tabN 4,okO 4 c = true:=by
 intro c hc
 rw [← List.take_append_drop 9 (tabN 4),List.mem_append] at hc
 rcases hc with hc | hc
 ·exact okO_tab4a c hc
 ·rw [← List.take_append_drop 9 ((tabN 4).drop 9),List.mem_append] at hc
  rcases hc with hc | hc
  ·exact okO_tab4b c hc
  ·exact okO_tab4c c hc
structure Orbt (n:Nat) (c:List Nat × List Nat) (o:PO):Prop where
 eq:orbC c = some o
 le:o.L.length≤26
 nd:o.L.Nodup
 self:c ∈ o.L
 tab:∀ x ∈ o.L,x ∈ tabN n
 cl:∀ x ∈ o.L,∀ l:Int,nxt l x ∈ o.L
 wd:∀ i,i < o.L.length→wordB (atW o.W i) = true∧canS (rn (atW o.W i) c (atW o.W i).size).1 (rn (atW o.W i) c (atW o.W i).size).2 = atL o.L i
theorem orbt_ok {n:Nat} (h4:n≤4) {c:List Nat × List Nat} (hc:c ∈ tabN n):∃ o,Orbt n c o:=by
 have h:okO n c = true:=by
  rcases Nat.lt_or_ge n 4 with h | h
  ·exact okO_tab3 ⟨n,h⟩ c hc
  ·obtain rfl:n = 4:=by omega
   exact okO_tab4 c hc
 unfold okO at h
 cases e:orbC c with
 | none=>rw [e] at h;cases h
 | some o =>
  rw [e] at h
  simp only [Bool.and_eq_true,decide_eq_true_eq,List.all_eq_true,List.mem_range] at h
  obtain ⟨⟨⟨⟨h1,h2⟩,h3⟩,h5⟩,h6⟩:=h
  refine ⟨o,e,h1,h2,h3,fun x hx=>(h5 x hx).1.1.1.1,?_,h6⟩
  intro x hx l
  obtain ⟨⟨⟨⟨_,a1⟩,a2⟩,a3⟩,a4⟩:=h5 x hx
  unfold nxt lt at *
  by_cases l1:l = 84
  ·subst l1;exact a1
  ·by_cases l2:l = 116
   ·subst l2;exact a2
   ·by_cases l3:l = 83
    ·subst l3;exact a3
    ·rw [if_neg l1,if_neg l2,if_neg l3]
     exact a4
end Go.Proofs.Ytoijcallajegfaa.M
end
section
/- Orbits of surfaces with few squares: what the program answers. No conditions. -/
namespace Go.Proofs.Ytoijcallajegfaa.M
set_option linter.unusedVariables false
set_option linter.unusedSimpArgs false
open Go.RowKit Go.Proofs.YtoijcallajegfaaW.PrintWords Go.Proofs.YtoijcallajegfaaW.PrintLast Go.Proofs.YtoijcallajegfaaW.PrintMore Go.Proofs.Ytoijcallajegfaa.A
theorem orbR_few {r u:List Nat} (hs:Sf r u) {o:PO} (h:orbC (canS r u) = some o):orbR (I r) (I u) = some o:=by
 rw [orbR_I (a:=(r,u)) hs]
 exact h
end Go.Proofs.Ytoijcallajegfaa.M
end
section
/- Lists of surfaces: marks. No conditions. -/
namespace Go.Proofs.Ytoijcallajegfaa.M
set_option linter.unusedVariables false
set_option linter.unusedSimpArgs false
open Go.RowKit Go.Proofs.YtoijcallajegfaaW.PrintWords Go.Proofs.YtoijcallajegfaaW.PrintLast Go.Proofs.YtoijcallajegfaaW.PrintMore Go.Proofs.Ytoijcallajegfaa.A
def totF:List S33→Nat
 | []=>0
 | x :: xs=>x.f0.length + x.f1.length + totF xs
def mkF:List S33→Int→List S33
 | [],_=>[]
 | x :: xs,a=>⟨markL x.f0.length a,markL x.f1.length (a + (x.f0.length:Int))⟩ :: mkF xs (a + (x.f0.length:Int) + (x.f1.length:Int))
theorem markSurfS_ev (xs:List S33) (a:Int) (h0:0≤a) (h:a + (totF xs:Int)≤9000000000000000000) (hl:xs.length≤1000000000):Ev (fun k=>Z18.f k xs a) (a + (totF xs:Int),mkF xs a):=by
 unfold Z18.f
 have H:∀ (rest p:List S33) (b:Int),0≤b→b + (totF rest:Int)≤9000000000000000000→p.length + rest.length≤1000000000→Ev (fun k=>Z18.l0 k (p ++ rest) b (p.length:Int)) (b + (totF rest:Int),p ++ mkF rest b):=by
  intro rest
  induction rest with
  | nil =>
   intro p b hb ht hlen
   refine ev_succ ?_
   have h1:¬ ((p.length:Int) < ((p ++ ([]:List S33)).length:Int)):=by simp
   simp only [Z18.l0,h1,if_false]
   have:b + (totF []:Int) = b:=by simp [totF]
   rw [this]
   exact Ev.now _
  | cons x rest ih =>
   intro p b hb ht hlen
   rw [totF] at ht
   have g1:0≤b + (x.f0.length:Int):=by omega
   have g2:0≤b + (x.f0.length:Int) + (x.f1.length:Int):=by omega
   have g3:b + (x.f0.length:Int) + (x.f1.length:Int) + (totF rest:Int)≤9000000000000000000:=by omega
   have g4:b + (x.f0.length:Int)≤9000000000000000000:=by omega
   have g5:b + (x.f0.length:Int) + (x.f1.length:Int)≤9000000000000000000:=by omega
   have g6:p.length + 1 + rest.length≤1000000000:=by rw [List.length_cons] at hlen;omega
   have g7:b + ((totF (x :: rest):Nat):Int) = b + (x.f0.length:Int) + (x.f1.length:Int) + (totF rest:Int):=by rw [totF];omega
   have g8:¬ (b + (x.f0.length:Int) < 0):=by omega
   have g9:¬ (b + (x.f0.length:Int) + (x.f1.length:Int) < 0):=by omega
   refine ev_succ ?_
   have h1:(p.length:Int) < ((p ++ x :: rest).length:Int):=by simp;omega
   have h2:(0:Int)≤(p.length:Int):=by omega
   have h3:=w64s p.length (by omega)
   have h4:rd_T33 (p ++ x :: rest) (p.length:Int) = x:=by unfold rd_T33;rw [Int.toNat_natCast];exact getD_mid p x rest _
   simp only [Z18.l0,h1,h2,h4,if_true,Int.toNat_natCast,set_mid]
   refine Ev.bind (mark_ev x.f0 b hb g4) (Ev.bind (mark_ev x.f1 (b + (x.f0.length:Int)) g1 g5) ?_)
   simp only [h3]
   have:=ih (p ++ [⟨markL x.f0.length b,markL x.f1.length (b + (x.f0.length:Int))⟩]) (b + (x.f0.length:Int) + (x.f1.length:Int)) g2 g3 (by rw [List.length_append,List.length_singleton];exact g6)
   rw [snoc_app]
   have e:((p ++ [(⟨markL x.f0.length b,markL x.f1.length (b + (x.f0.length:Int))⟩:S33)]).length:Int) = ((p.length + 1:Nat):Int):=by simp
   rw [e] at this
   rw [g7]
   have e3:p ++ mkF (x :: rest) b = p ++ [(⟨markL x.f0.length b,markL x.f1.length (b + (x.f0.length:Int))⟩:S33)] ++ mkF rest (b + (x.f0.length:Int) + (x.f1.length:Int)):=by simp [mkF]
   rw [e3]
   exact this
 exact H xs [] a h0 h (by simpa using hl)
theorem heldSurfS_ev (xs:List S33) (a:Int) (h0:0≤a) (h:a + (totF xs:Int)≤9000000000000000000) (hl:xs.length≤1000000000):Ev (fun k=>Z17.f k (mkF xs a) a) (a + (totF xs:Int)):=by
 unfold Z17.f
 have H:∀ (rest p:List S33) (b:Int),0≤b→b + (totF rest:Int)≤9000000000000000000→p.length + rest.length≤1000000000→Ev (fun k=>Z17.l0 k (p ++ mkF rest b) b (p.length:Int)) (b + (totF rest:Int)):=by
  intro rest
  induction rest with
  | nil =>
   intro p b hb ht hlen
   refine ev_succ ?_
   have h1:¬ ((p.length:Int) < ((p ++ mkF [] b).length:Int)):=by simp [mkF]
   simp only [Z17.l0,h1,if_false]
   have:b + (totF []:Int) = b:=by simp [totF]
   rw [this]
   exact Ev.now _
  | cons x rest ih =>
   intro p b hb ht hlen
   rw [totF] at ht
   have g1:0≤b + (x.f0.length:Int):=by omega
   have g2:0≤b + (x.f0.length:Int) + (x.f1.length:Int):=by omega
   have g3:b + (x.f0.length:Int) + (x.f1.length:Int) + (totF rest:Int)≤9000000000000000000:=by omega
   have g4:b + (x.f0.length:Int)≤9000000000000000000:=by omega
   have g5:b + (x.f0.length:Int) + (x.f1.length:Int)≤9000000000000000000:=by omega
   have g6:p.length + 1 + rest.length≤1000000000:=by rw [List.length_cons] at hlen;omega
   have g7:b + ((totF (x :: rest):Nat):Int) = b + (x.f0.length:Int) + (x.f1.length:Int) + (totF rest:Int):=by rw [totF];omega
   have g8:¬ (b + (x.f0.length:Int) < 0):=by omega
   have g9:¬ (b + (x.f0.length:Int) + (x.f1.length:Int) < 0):=by omega
   refine ev_succ ?_
   have h1:(p.length:Int) < ((p ++ mkF (x :: rest) b).length:Int):=by simp [mkF];omega
   have h2:(0:Int)≤(p.length:Int):=by omega
   have h3:=w64s p.length (by omega)
   have h4:rd_T33 (p ++ mkF (x :: rest) b) (p.length:Int) = ⟨markL x.f0.length b,markL x.f1.length (b + (x.f0.length:Int))⟩:=by unfold rd_T33;rw [Int.toNat_natCast];exact getD_mid p _ _ _
   simp only [Z17.l0,h1,h2,h4,if_true]
   refine Ev.bind (held_ev x.f0.length b hb g4) ?_
   simp only [g8,if_false]
   refine Ev.bind (held_ev x.f1.length (b + (x.f0.length:Int)) g1 g5) ?_
   simp only [h3,g9,if_false]
   have:=ih (p ++ [⟨markL x.f0.length b,markL x.f1.length (b + (x.f0.length:Int))⟩]) (b + (x.f0.length:Int) + (x.f1.length:Int)) g2 g3 (by rw [List.length_append,List.length_singleton];exact g6)
   have e:((p ++ [(⟨markL x.f0.length b,markL x.f1.length (b + (x.f0.length:Int))⟩:S33)]).length:Int) = ((p.length + 1:Nat):Int):=by simp
   rw [e] at this
   rw [g7]
   have e3:p ++ mkF (x :: rest) b = p ++ [(⟨markL x.f0.length b,markL x.f1.length (b + (x.f0.length:Int))⟩:S33)] ++ mkF rest (b + (x.f0.length:Int) + (x.f1.length:Int)):=by simp [mkF]
   rw [e3]
   exact this
 exact H xs [] a h0 h (by simpa using hl)
theorem eqSurfS_same (xs:List S33) (hl:xs.length≤1000000000) (h:∀ x ∈ xs,x.f0.length≤1000000000∧x.f1.length≤1000000000):Ev (fun k=>Z30.f k xs xs) true:=by
 unfold Z30.f
 simp only [if_true]
 have H:∀ (rest p:List S33),p.length + rest.length≤1000000000→(∀ x ∈ rest,x.f0.length≤1000000000∧x.f1.length≤1000000000)→Ev (fun k=>Z30.l0 k (p ++ rest) (p ++ rest) (p.length:Int)) true:=by
  intro rest
  induction rest with
  | nil =>
   intro p hlen hx
   refine ev_succ ?_
   have h1:¬ ((p.length:Int) < ((p ++ ([]:List S33)).length:Int)):=by simp
   simp only [Z30.l0,h1,if_false]
   exact Ev.now _
  | cons x rest ih =>
   intro p hlen hx
   refine ev_succ ?_
   have h1:(p.length:Int) < ((p ++ x :: rest).length:Int):=by simp;omega
   have h2:(0:Int)≤(p.length:Int):=by omega
   have h3:=w64s p.length (by omega)
   have h4:rd_T33 (p ++ x :: rest) (p.length:Int) = x:=by unfold rd_T33;rw [Int.toNat_natCast];exact getD_mid p _ _ _
   have h5:=hx x (by simp)
   simp only [Z30.l0,h1,h2,h4,if_true]
   refine Ev.bind (eqSurf_same x.f0 x.f1 (by omega) (by omega)) ?_
   simp only [if_true,h3]
   rw [snoc_app]
   have:=ih (p ++ [x]) (by simp at hlen ⊢;omega) (fun y hy=>hx y (by simp [hy]))
   have e:((p ++ [x]).length:Int) = ((p.length + 1:Nat):Int):=by simp
   rw [e] at this
   exact this
 exact H xs [] (by simpa using hl) h
end Go.Proofs.Ytoijcallajegfaa.M
end
section
/- The orbit as a list: the program and the reference agree. No conditions. -/
namespace Go.Proofs.Ytoijcallajegfaa.M
set_option linter.unusedSimpArgs false
open Go.RowKit Go.Proofs.YtoijcallajegfaaW.PrintWords Go.Proofs.YtoijcallajegfaaW.PrintLast Go.Proofs.YtoijcallajegfaaW.PrintMore Go.Proofs.Ytoijcallajegfaa.A
theorem implOrb_ev (r u:List Int):Ev (fun k=>Z60.f k r u) (outL (orbR r u)):=by
 unfold Z60.f
 refine Ev.bind (orbR_ev r u) ?_
 cases orbR r u with
 | none=>exact Ev.now _
 | some s=>exact Ev.now _
end Go.Proofs.Ytoijcallajegfaa.M
end
section
/- The orbits of all surfaces with few squares: what the program lists. No conditions. -/
namespace Go.Proofs.Ytoijcallajegfaa.M
set_option linter.unusedVariables false
set_option linter.unusedSimpArgs false
open Go.RowKit Go.Proofs.YtoijcallajegfaaW.PrintWords Go.Proofs.YtoijcallajegfaaW.PrintLast Go.Proofs.YtoijcallajegfaaW.PrintMore Go.Proofs.Ytoijcallajegfaa.A
abbrev PC:Type:=List Nat × List Nat
def orbL (s:PC):List PC:=match orbC s with | some o=>o.L | none=>[]
def owP:List PC→List (List PC)→List (List PC)
 | [],outs=>outs
 | s :: ss,outs=>if outs.any (fun l=>decide (s ∈ l)) then owP ss outs else owP ss (outs ++ [insAll [] (orbL s)])
def clsN:Nat→List (List PC)
 | 1=>[[([0],[0])]]
 | 2=>[[([0,1],[1,0]),([1,0],[0,1]),([1,0],[1,0])]]
 | 3=>[[([0,1,2],[1,2,0]),([1,2,0],[0,1,2]),([1,2,0],[1,2,0]),([1,2,0],[2,0,1])],[([0,2,1],[1,0,2]),([0,2,1],[1,2,0]),([1,2,0],[0,2,1])]]
 | 4=>[[([0,1,2,3],[1,2,3,0]),([1,0,3,2],[2,3,1,0]),([1,2,3,0],[0,1,2,3]),([1,2,3,0],[1,2,3,0]),([1,2,3,0],[2,3,0,1]),([1,3,0,2],[2,0,3,1])],[([0,1,3,2],[1,2,0,3]),([0,1,3,2],[1,2,3,0]),([0,2,3,1],[1,0,2,3]),([0,2,3,1],[1,2,3,0]),([0,2,3,1],[1,3,0,2]),([1,2,3,0],[0,1,3,2]),([1,2,3,0],[0,2,3,1]),([1,2,3,0],[0,3,1,2]),([1,2,3,0],[1,3,0,2])],[([0,2,1,3],[1,0,3,2]),([0,2,1,3],[1,3,0,2]),([1,0,3,2],[0,2,1,3]),([1,0,3,2],[1,2,3,0]),([1,2,3,0],[0,3,2,1]),([1,2,3,0],[1,0,3,2])],[([0,2,3,1],[1,0,3,2]),([0,2,3,1],[1,2,0,3]),([0,2,3,1],[1,3,2,0]),([1,0,3,2],[0,2,3,1])],[([1,0,3,2],[2,3,0,1])]]
 | _=>[]
theorem cls_tab3:∀ n:Fin 4,owP (tabN n.val) [] = clsN n.val:=by decide +kernel
theorem cls_tab4:owP (tabN 4) [] = clsN 4:=by decide +kernel
theorem cls_tab {n:Nat} (h4:n≤4):owP (tabN n) [] = clsN n:=by
 rcases Nat.lt_or_ge n 4 with h | h
 ·exact cls_tab3 ⟨n,h⟩
 ·obtain rfl:n = 4:=by omega
  exact cls_tab4
theorem tab_len65:∀ n:Fin 5,∀ s ∈ tabN n.val,s.1.length = n.val∧s.2.length = n.val:=by decide +kernel
theorem LS_oS (l:List PC):LS l = l.map oS:=rfl
theorem insS_le (l:List PC) (s:PC):(insS l s).length≤l.length + 1:=by
 induction l with
 | nil=>simp [insS]
 | cons x l ih =>
  unfold insS
  split
  ·simp
  ·split
   ·simp
   ·simp only [List.length_cons];omega
theorem insAll_le:∀ (ss l:List PC),(insAll l ss).length≤l.length + ss.length
 | [],l=>by simp [insAll]
 | s :: ss,l=>by
  have h1:=insAll_le ss (insS l s)
  have h2:=insS_le l s
  show (insAll (insS l s) ss).length≤l.length + (ss.length + 1)
  omega
def okOuts (outs:List (List PC)):Prop:=∀ l ∈ outs,l.length≤26∧∀ x ∈ l,Sf x.1 x.2
theorem idxK_ev (x:PC):∀ (outs:List (List PC)) (i:Nat),okOuts outs→∃ j:Int,(0≤j ↔ outs.any (fun l=>decide (x ∈ l)) = true)∧Ev (fun k=>idxK k (I x.1) (I x.2) (outs.map LS) i) j:=by
 intro outs
 induction outs with
 | nil=>intro i _;exact ⟨-1,by simp,Ev.now _⟩
 | cons l outs ih =>
  intro i ho
  have hl:=ho l (by simp)
  have h1:=oidx_ev hl.2 (by omega) x
  rw [← LS_oS] at h1
  by_cases hm:x ∈ l
  ·have hf:0≤fi l x:=by
    have:=fi_neg (L:=l) (x:=x)
    apply Classical.byContradiction
    intro h
    exact this.mp (by omega) hm
   refine ⟨(i:Int),?_,?_⟩
   ·simp [hm]
   ·rw [List.map_cons]
    unfold idxK
    refine Ev.bind h1 ?_
    simp only [hf,if_true]
    exact Ev.now _
  ·have hf:¬ 0≤fi l x:=by
    have:=(fi_neg (L:=l) (x:=x)).mpr hm
    omega
   obtain ⟨j,h2,h3⟩:=ih (i + 1) (fun l' hl'=>ho l' (by simp [hl']))
   refine ⟨j,?_,?_⟩
   ·rw [h2,List.any_cons,decide_eq_false hm,Bool.false_or]
   ·rw [List.map_cons]
    unfold idxK
    refine Ev.bind h1 ?_
    simp only [hf,if_false]
    exact h3
theorem orbL_of {s:PC} {o:PO} (h:orbC s = some o):orbL s = o.L:=by unfold orbL;rw [h]
theorem ow_loop {n:Nat} (h1:1≤n) (h4:n≤4):∀ (rest pre:List PC),pre ++ rest = tabN n→∀ outs:List (List PC),okOuts outs→outs.length≤pre.length→Ev (fun k=>Z27.l0 k (outs.map LS) (LS (tabN n)) ((LS (tabN n)).length:Int) (pre.length:Int)) ((owP rest outs).map LS):=by
 have hle:=(tabN_ok h4).1
 intro rest
 induction rest with
 | nil =>
  intro pre hp outs ho hl
  rw [List.append_nil] at hp
  have c1:¬ (pre.length:Int) < ((LS (tabN n)).length:Int):=by rw [LS_len,← hp];omega
  refine ev_succ ?_
  simp only [Z27.l0,c1,if_false,owP]
  exact Ev.now _
 | cons s rest ih =>
  intro pre hp outs ho hl
  have hlen:pre.length + (rest.length + 1) = (tabN n).length:=by rw [← hp];simp
  have c1:(pre.length:Int) < ((LS (tabN n)).length:Int):=by rw [LS_len];omega
  have c2:(0:Int)≤(pre.length:Int):=by omega
  have hrd:rd_T33 (LS (tabN n)) (pre.length:Int) = ⟨I s.1,I s.2⟩:=by rw [← hp];exact LS_mid pre s rest
  have hs:s ∈ tabN n:=by rw [← hp];simp
  obtain ⟨j,hj,e1⟩:=idxK_ev s outs 0 ho
  have e1':Ev (fun k=>indexK k (outs.map LS) (I s.1) (I s.2)) j:=by
   unfold indexK
   have c3:(outs.map LS).length < 4611686018427387904:=by rw [List.length_map];omega
   simp only [c3,if_true]
   exact e1
  have hp':(pre ++ [s]) ++ rest = tabN n:=by rw [List.append_assoc];exact hp
  have hpl:(pre ++ [s]).length = pre.length + 1:=by simp
  by_cases hk:0≤j
  ·have key:=ih (pre ++ [s]) hp' outs ho (by omega)
   rw [hpl] at key
   have ek:owP (s :: rest) outs = owP rest outs:=by rw [owP,if_pos (hj.mp hk)]
   rw [ek]
   have c5:=w64s pre.length (by omega)
   refine ev_succ ?_
   simp only [Z27.l0,c1,c2,hrd,if_true]
   refine Ev.bind e1' ?_
   simp only [hk,c5,if_true]
   exact key
  ·have hsf:=(tabN_ok h4).2 s hs
   have hcan:canS s.1 s.2 = s:=can_tab ⟨n,by omega⟩ s hs
   obtain ⟨o,hO⟩:=orbt_ok h4 hs
   have hr:=orbR_few hsf (o:=o) (by rw [hcan];exact hO.eq)
   have e2:=implOrb_ev (I s.1) (I s.2)
   rw [hr] at e2
   have e2':Ev (fun k=>Z60.f k (I s.1) (I s.2)) (LS o.L,true):=e2
   have ol:=hO.le
   have e3:=sortSurf_f (n:=n) (by omega) (l:=o.L) (fun x hx=>tab_len65 ⟨n,by omega⟩ x (hO.tab x hx)) (by omega)
   have ek:owP (s :: rest) outs = owP rest (outs ++ [insAll [] o.L]):=by rw [owP,if_neg (fun h=>hk (hj.mpr h)),orbL_of hO.eq]
   have ho':okOuts (outs ++ [insAll [] o.L]):=by
    intro l hl'
    rcases List.mem_append.mp hl' with h | h
    ·exact ho l h
    ·obtain rfl:l = insAll [] o.L:=by simpa using h
     have:=insAll_le o.L []
     refine ⟨by simp at this;omega,fun x hx=>?_⟩
     rcases (mem_insAll _ _ _).mp hx with h | h
     ·cases h
     ·exact (tabN_ok h4).2 x (hO.tab x h)
   have key:=ih (pre ++ [s]) hp' (outs ++ [insAll [] o.L]) ho' (by rw [hpl];simp;omega)
   rw [hpl,List.map_append] at key
   rw [ek]
   have c6:(outs.map LS).length < 5864062014805:=by rw [List.length_map];omega
   have c5:=w64s pre.length (by omega)
   refine ev_succ ?_
   simp only [Z27.l0,c1,c2,hrd,if_true]
   refine Ev.bind e1' ?_
   simp only [hk,if_false]
   refine Ev.bind e2' ?_
   simp only [e3,Option.bind_some,c6,c5,if_true]
   exact key
theorem impl_orbits {n:Nat} (h1:1≤n) (h4:n≤4):Ev (fun k=>Z27.f k (n:Int)) ((clsN n).map LS):=by
 have c1:¬ (n:Int) < 1:=by omega
 have c2:decide ((n:Int) > 4) = false:=decide_eq_false (by omega)
 have w:=impl_with h1 h4
 rw [surf_tab h1 h4] at w
 unfold Z27.f
 simp only [c1,c2,if_false]
 refine ev_succ ?_
 simp only [Z27.j0,Bool.false_eq_true,if_false]
 refine Ev.bind w ?_
 have key:=ow_loop h1 h4 (tabN n) [] rfl [] (fun l hl=>by cases hl) (Nat.le_refl _)
 rw [cls_tab h4] at key
 exact key
end Go.Proofs.Ytoijcallajegfaa.M
end
section
/- The orbits of all surfaces with few squares: what the reference lists; marks on lists of lists. No conditions. -/
namespace Go.Proofs.Ytoijcallajegfaa.M
set_option linter.unusedVariables false
set_option linter.unusedSimpArgs false
open Go.RowKit Go.Proofs.YtoijcallajegfaaW.PrintWords Go.Proofs.YtoijcallajegfaaW.PrintLast Go.Proofs.YtoijcallajegfaaW.PrintMore Go.Proofs.Ytoijcallajegfaa.A
theorem rdL8_mid (pre:List (List S33)) (l:List S33) (rest:List (List S33)):rd_L8 (pre ++ l :: rest) (pre.length:Int) = l:=by
 unfold rd_L8
 rw [Int.toNat_natCast]
 exact getD_mid pre l rest _
theorem find_loop (s:PC) (outs:List (List PC)) (ho:okOuts outs) (hlen:outs.length≤1000) (ss:List S33) (n i:Int) (res:List (List S33))
  (h1:outs.any (fun l=>decide (s ∈ l)) = true→Ev (fun k=>Z31.l0 k (outs.map LS) ss n (wrap64 (i + 1))) res)
  (h2:outs.any (fun l=>decide (s ∈ l)) = false→Ev (fun k=>(Z57.f k (I s.1) (I s.2)).bind fun bt=>(Z31.l2 k (outs.map LS) ([]:List S33) ss n i bt.1 (bt.1.length:Int) 0)) res) :
  ∀ (rest pre:List (List PC)),pre ++ rest = outs→∀ b:Bool,(b || rest.any (fun l=>decide (s ∈ l))) = outs.any (fun l=>decide (s ∈ l))→Ev (fun k=>Z31.l1 k (outs.map LS) b ss n i (outs.map LS) ((outs.map LS).length:Int) (pre.length:Int) (I s.1) (I s.2)) res:=by
 intro rest
 induction rest with
 | nil =>
  intro pre hp b hb
  rw [List.append_nil] at hp
  rw [List.any_nil,Bool.or_false] at hb
  have c1:¬ (pre.length:Int) < ((outs.map LS).length:Int):=by rw [List.length_map,← hp];omega
  refine ev_succ ?_
  simp only [Z31.l1,c1,if_false]
  cases b with
  | true =>
   simp only [if_true]
   exact h1 hb.symm
  | false =>
   simp only [Bool.false_eq_true,if_false]
   exact h2 hb.symm
 | cons l rest ih =>
  intro pre hp b hb
  have hl:pre.length + (rest.length + 1) = outs.length:=by rw [← hp];simp
  have c1:(pre.length:Int) < ((outs.map LS).length:Int):=by rw [List.length_map];omega
  have c2:(0:Int)≤(pre.length:Int):=by omega
  have hrd:rd_L8 (outs.map LS) (pre.length:Int) = LS l:=by
   have:=rdL8_mid (pre.map LS) (LS l) (rest.map LS)
   rw [List.length_map] at this
   rw [← hp,List.map_append,List.map_cons]
   exact this
  have hm:l ∈ outs:=by rw [← hp];simp
  obtain ⟨g1,g2⟩:=ho l hm
  have hp':(pre ++ [l]) ++ rest = outs:=by rw [List.append_assoc];exact hp
  have hpl:(pre ++ [l]).length = pre.length + 1:=by simp
  have c5:=w64s pre.length (by omega)
  refine ev_succ ?_
  cases b with
  | true =>
   simp only [Z31.l1,c1,c2,c5,if_true]
   have key:=ih (pre ++ [l]) hp' true (by rw [Bool.true_or];rw [Bool.true_or] at hb;exact hb)
   rw [hpl] at key
   exact key
  | false =>
   have e:=ofind_ev g2 (by omega) s
   rw [← LS_oS] at e
   simp only [Z31.l1,c1,c2,c5,hrd,if_true,if_false,Bool.false_eq_true]
   refine Ev.bind e ?_
   have hd:decide (fi l s ≥ 0) = decide (s ∈ l):=by
    have:=fi_neg (L:=l) (x:=s)
    by_cases h:s ∈ l
    ·rw [decide_eq_true h]
     exact decide_eq_true (by
      apply Classical.byContradiction
      intro h3
      exact this.mp (by omega) h)
    ·rw [decide_eq_false h]
     exact decide_eq_false (by have:=this.mpr h;omega)
   rw [hd]
   have key:=ih (pre ++ [l]) hp' (decide (s ∈ l)) (by rw [← hb,List.any_cons,Bool.false_or])
   rw [hpl] at key
   exact key
theorem put_loop {n:Nat} (hn:n≤4) (outs:List (List S33)) (hlen:outs.length≤1000) (L:List PC) (hL:∀ x ∈ L,x.1.length = n∧x.2.length = n) (hl:L.length≤1000) (ss:List S33) (m i:Int) (res:List (List S33))
  (h:Ev (fun k=>Z31.l0 k (outs ++ [LS (insAll [] L)]) ss m (wrap64 (i + 1))) res) :
  ∀ (rest pre:List PC),pre ++ rest = L→∀ acc:List PC,insAll acc rest = insAll [] L→(∀ x ∈ acc,x.1.length = n∧x.2.length = n)→acc.length≤pre.length→Ev (fun k=>Z31.l2 k outs (LS acc) ss m i (LS L) ((LS L).length:Int) (pre.length:Int)) res:=by
 intro rest
 induction rest with
 | nil =>
  intro pre hp acc ha hacc hal
  rw [List.append_nil] at hp
  have c1:¬ (pre.length:Int) < ((LS L).length:Int):=by rw [LS_len,← hp];omega
  have c2:outs.length < 5864062014805:=by omega
  have e:acc = insAll [] L:=ha
  refine ev_succ ?_
  simp only [Z31.l2,c1,c2,if_false,if_true]
  rw [e]
  exact h
 | cons s rest ih =>
  intro pre hp acc ha hacc hal
  have hpl0:pre.length + (rest.length + 1) = L.length:=by rw [← hp];simp
  have c1:(pre.length:Int) < ((LS L).length:Int):=by rw [LS_len];omega
  have c2:(0:Int)≤(pre.length:Int):=by omega
  have hrd:rd_T33 (LS L) (pre.length:Int) = ⟨I s.1,I s.2⟩:=by rw [← hp];exact LS_mid pre s rest
  have hs:s ∈ L:=by rw [← hp];simp
  have e:=insert_ev (n:=n) (by omega) (hL s hs) acc hacc (by omega)
  have hp':(pre ++ [s]) ++ rest = L:=by rw [List.append_assoc];exact hp
  have hpl:(pre ++ [s]).length = pre.length + 1:=by simp
  have hle:=insS_le acc s
  have key:=ih (pre ++ [s]) hp' (insS acc s) ha (fun x hx=>by
   rcases mem_insS.mp hx with h | h
   ·rw [h];exact hL s hs
   ·exact hacc x h) (by omega)
  rw [hpl] at key
  have c5:=w64s pre.length (by omega)
  refine ev_succ ?_
  simp only [Z31.l2,c1,c2,hrd,if_true]
  refine Ev.bind e ?_
  simp only [c5]
  exact key
theorem ow_spec {n:Nat} (h1:1≤n) (h4:n≤4):∀ (rest pre:List PC),pre ++ rest = tabN n→∀ outs:List (List PC),okOuts outs→outs.length≤pre.length→Ev (fun k=>Z31.l0 k (outs.map LS) (LS (tabN n)) ((LS (tabN n)).length:Int) (pre.length:Int)) ((owP rest outs).map LS):=by
 have hle:=(tabN_ok h4).1
 intro rest
 induction rest with
 | nil =>
  intro pre hp outs ho hl
  rw [List.append_nil] at hp
  have c1:¬ (pre.length:Int) < ((LS (tabN n)).length:Int):=by rw [LS_len,← hp];omega
  refine ev_succ ?_
  simp only [Z31.l0,c1,if_false,owP]
  exact Ev.now _
 | cons s rest ih =>
  intro pre hp outs ho hl
  have hlen:pre.length + (rest.length + 1) = (tabN n).length:=by rw [← hp];simp
  have c1:(pre.length:Int) < ((LS (tabN n)).length:Int):=by rw [LS_len];omega
  have c2:(0:Int)≤(pre.length:Int):=by omega
  have hrd:rd_T33 (LS (tabN n)) (pre.length:Int) = ⟨I s.1,I s.2⟩:=by rw [← hp];exact LS_mid pre s rest
  have hs:s ∈ tabN n:=by rw [← hp];simp
  have hp':(pre ++ [s]) ++ rest = tabN n:=by rw [List.append_assoc];exact hp
  have hpl:(pre ++ [s]).length = pre.length + 1:=by simp
  have hsf:=(tabN_ok h4).2 s hs
  have hcan:canS s.1 s.2 = s:=can_tab ⟨n,by omega⟩ s hs
  have c5:=w64s pre.length (by omega)
  refine ev_succ ?_
  simp only [Z31.l0,c1,c2,hrd,if_true]
  refine find_loop s outs ho (by omega) (LS (tabN n)) _ _ _ (fun hk=>?_) (fun hk=>?_) outs [] rfl false (by rw [Bool.false_or])
  ·have key:=ih (pre ++ [s]) hp' outs ho (by omega)
   rw [hpl] at key
   have ek:owP (s :: rest) outs = owP rest outs:=by rw [owP,if_pos hk]
   rw [ek,c5]
   exact key
  ·obtain ⟨o,hO⟩:=orbt_ok h4 hs
   have hr:=orbR_few hsf (o:=o) (by rw [hcan];exact hO.eq)
   rw [orbR_I (a:=s) hsf] at hr
   have e2:=(orb_both (a:=s) hsf).2
   rw [hr] at e2
   have e2':Ev (fun k=>Z57.f k (I s.1) (I s.2)) (LS o.L,o.W,true):=e2
   have ol:=hO.le
   have ek:owP (s :: rest) outs = owP rest (outs ++ [insAll [] o.L]):=by rw [owP,if_neg (by rw [hk];decide),orbL_of hO.eq]
   have ho':okOuts (outs ++ [insAll [] o.L]):=by
    intro l hl'
    rcases List.mem_append.mp hl' with h | h
    ·exact ho l h
    ·obtain rfl:l = insAll [] o.L:=by simpa using h
     have:=insAll_le o.L []
     refine ⟨by simp at this;omega,fun x hx=>?_⟩
     rcases (mem_insAll _ _ _).mp hx with h | h
     ·cases h
     ·exact (tabN_ok h4).2 x (hO.tab x h)
   have key:=ih (pre ++ [s]) hp' (outs ++ [insAll [] o.L]) ho' (by rw [hpl];simp;omega)
   rw [hpl,List.map_append] at key
   rw [ek]
   refine Ev.bind e2' ?_
   refine put_loop h4 (outs.map LS) (by rw [List.length_map];omega) o.L (fun x hx=>tab_len65 ⟨n,by omega⟩ x (hO.tab x hx)) (by omega) _ _ _ _ ?_ o.L [] rfl [] rfl (fun x hx=>by cases hx) (Nat.le_refl _)
   rw [c5]
   exact key
theorem spec_orbits {n:Nat} (h1:1≤n) (h4:n≤4):Ev (fun k=>Z31.f k (n:Int)) ((clsN n).map LS):=by
 have c1:(n:Int) ≥ 1:=by omega
 have c2:decide ((n:Int)≤4) = true:=decide_eq_true (by omega)
 have w:=spec_with h1 h4
 rw [surf_tab h1 h4] at w
 unfold Z31.f Z69.f
 simp only [c1,c2,if_true,Option.bind_some]
 refine Ev.bind w ?_
 have key:=ow_spec h1 h4 (tabN n) [] rfl [] (fun l hl=>by cases hl) (Nat.le_refl _)
 rw [cls_tab h4] at key
 exact key
theorem orbits_no {n:Int} (h:¬ (1≤n∧n≤4)):Ev (fun k=>Z31.f k n) []∧Ev (fun k=>Z27.f k n) []:=by
 unfold Z31.f Z69.f Z27.f
 by_cases c:n ≥ 1
 ·have c1:¬ n < 1:=by omega
  have c2:decide (n≤4) = false:=decide_eq_false (by omega)
  have c3:decide (n > 4) = true:=decide_eq_true (by omega)
  simp only [c,c1,c2,c3,if_true,if_false,Option.bind_some,Bool.false_eq_true]
  refine ⟨Ev.now _,ev_succ ?_⟩
  simp only [Z27.j0,if_true]
  exact Ev.now _
 ·have c1:n < 1:=by omega
  simp only [c,c1,if_true,if_false,Option.bind_some,Bool.false_eq_true]
  refine ⟨Ev.now _,ev_succ ?_⟩
  simp only [Z27.j0,if_true]
  exact Ev.now _
def totG:List (List S33)→Nat
 | []=>0
 | l :: ls=>totF l + totG ls
def mkG:List (List S33)→Int→List (List S33)
 | [],_=>[]
 | l :: ls,a=>mkF l a :: mkG ls (a + (totF l:Int))
theorem mkG_len:∀ (xs:List (List S33)) (a:Int),(mkG xs a).length = xs.length
 | [],_=>rfl
 | l :: ls,a=>by rw [mkG,List.length_cons,List.length_cons,mkG_len ls]
theorem markSS_ev (xs:List (List S33)) (a:Int) (h0:0≤a) (h:a + (totG xs:Int)≤9000000000000000000) (hl:xs.length≤1000) (hx:∀ x ∈ xs,x.length≤1000):Ev (fun k=>Z11.f k xs a) (a + (totG xs:Int),mkG xs a):=by
 unfold Z11.f
 have H:∀ (rest p:List (List S33)) (b:Int),0≤b→b + (totG rest:Int)≤9000000000000000000→p.length + rest.length≤1000→(∀ x ∈ rest,x.length≤1000)→Ev (fun k=>Z11.l0 k (p ++ rest) b (p.length:Int)) (b + (totG rest:Int),p ++ mkG rest b):=by
  intro rest
  induction rest with
  | nil =>
   intro p b hb0 hb hp hx
   have c1:¬ (p.length:Int) < ((p ++ ([]:List (List S33))).length:Int):=by simp
   refine ev_succ ?_
   simp only [Z11.l0,c1,if_false,totG,mkG]
   have e:b + ((0:Nat):Int) = b:=by omega
   rw [e]
   exact Ev.now _
  | cons l ls ih =>
   intro p b hb0 hb hp hx
   rw [totG] at hb
   rw [List.length_cons] at hp
   have c1:(p.length:Int) < ((p ++ l :: ls).length:Int):=by simp;omega
   have c2:(0:Int)≤(p.length:Int):=by omega
   have e1:=markSurfS_ev l b hb0 (by omega) (by have:=hx l (by simp);omega)
   have key:=ih (p ++ [mkF l b]) (b + (totF l:Int)) (by omega) (by omega) (by simp;omega) (fun x h=>hx x (by simp [h]))
   have e2:(p ++ l :: ls).set p.length (mkF l b) = (p ++ [mkF l b]) ++ ls:=by rw [set_mid,List.append_assoc];rfl
   have e3:((p ++ [mkF l b]).length:Int) = ((p.length + 1:Nat):Int):=by simp
   rw [e3] at key
   have e4:b + (totF l:Int) + (totG ls:Int) = b + ((totG (l :: ls):Nat):Int):=by rw [totG];omega
   have e5:(p ++ [mkF l b]) ++ mkG ls (b + (totF l:Int)) = p ++ mkG (l :: ls) b:=by rw [mkG,List.append_assoc];rfl
   rw [e4,e5] at key
   have c5:=w64s p.length (by omega)
   refine ev_succ ?_
   simp only [Z11.l0,c1,c2,rdL8_mid,if_true]
   refine Ev.bind e1 ?_
   simp only [Int.toNat_natCast,e2,c5]
   exact key
 exact H xs [] a h0 h (by simp;exact hl) hx
theorem heldSS_ev (xs:List (List S33)) (a:Int) (h0:0≤a) (h:a + (totG xs:Int)≤9000000000000000000) (hl:xs.length≤1000) (hx:∀ x ∈ xs,x.length≤1000):Ev (fun k=>Z10.f k (mkG xs a) a) (a + (totG xs:Int)):=by
 unfold Z10.f
 have H:∀ (rest:List (List S33)) (p:List (List S33)) (b:Int),0≤b→b + (totG rest:Int)≤9000000000000000000→p.length + rest.length≤1000→(∀ x ∈ rest,x.length≤1000)→Ev (fun k=>Z10.l0 k (p ++ mkG rest b) b (p.length:Int)) (b + (totG rest:Int)):=by
  intro rest
  induction rest with
  | nil =>
   intro p b hb0 hb hp hx
   have c1:¬ (p.length:Int) < ((p ++ mkG ([]:List (List S33)) b).length:Int):=by simp [mkG]
   refine ev_succ ?_
   simp only [Z10.l0,c1,if_false,totG]
   have e:b + ((0:Nat):Int) = b:=by omega
   rw [e]
   exact Ev.now _
  | cons l ls ih =>
   intro p b hb0 hb hp hx
   rw [totG] at hb
   rw [List.length_cons] at hp
   rw [mkG]
   have hml:=mkG_len ls (b + (totF l:Int))
   have c1:(p.length:Int) < ((p ++ mkF l b :: mkG ls (b + (totF l:Int))).length:Int):=by simp;omega
   have c2:(0:Int)≤(p.length:Int):=by omega
   have e1:=heldSurfS_ev l b hb0 (by omega) (by have:=hx l (by simp);omega)
   have key:=ih (p ++ [mkF l b]) (b + (totF l:Int)) (by omega) (by omega) (by simp;omega) (fun x h=>hx x (by simp [h]))
   have e3:((p ++ [mkF l b]).length:Int) = ((p.length + 1:Nat):Int):=by simp
   rw [e3,List.append_assoc] at key
   have e4:b + (totF l:Int) + (totG ls:Int) = b + ((totG (l :: ls):Nat):Int):=by rw [totG];omega
   rw [e4] at key
   have c6:¬ (b + (totF l:Int)) < 0:=by omega
   have c5:=w64s p.length (by omega)
   refine ev_succ ?_
   simp only [Z10.l0,c1,c2,rdL8_mid,if_true]
   refine Ev.bind e1 ?_
   simp only [c6,c5,if_false]
   exact key
 exact H xs [] a h0 h (by simp;exact hl) hx
theorem eqSS_same (xs:List (List S33)) (hl:xs.length≤1000) (h:∀ l ∈ xs,l.length≤1000∧∀ x ∈ l,x.f0.length≤1000∧x.f1.length≤1000):Ev (fun k=>Z24.f k xs xs) true:=by
 unfold Z24.f
 simp only [if_true]
 have H:∀ (rest p:List (List S33)),p ++ rest = xs→Ev (fun k=>Z24.l0 k xs xs (p.length:Int)) true:=by
  intro rest
  induction rest with
  | nil =>
   intro p hp
   rw [List.append_nil] at hp
   have c1:¬ (p.length:Int) < (xs.length:Int):=by rw [hp];omega
   refine ev_succ ?_
   simp only [Z24.l0,c1,if_false]
   exact Ev.now _
  | cons l ls ih =>
   intro p hp
   have hlen:p.length + (ls.length + 1) = xs.length:=by rw [← hp];simp
   have c1:(p.length:Int) < (xs.length:Int):=by omega
   have c2:(0:Int)≤(p.length:Int):=by omega
   have hm:l ∈ xs:=by rw [← hp];simp
   obtain ⟨g1,g2⟩:=h l hm
   have e1:=eqSurfS_same l (by omega) (fun x hx=>by have:=g2 x hx;omega)
   have hrd:rd_L8 xs (p.length:Int) = l:=by rw [← hp];exact rdL8_mid p l ls
   have key:=ih (p ++ [l]) (by rw [List.append_assoc];exact hp)
   have hpl:(p ++ [l]).length = p.length + 1:=by simp
   rw [hpl] at key
   have c5:=w64s p.length (by omega)
   refine ev_succ ?_
   simp only [Z24.l0,c1,c2,hrd,if_true]
   refine Ev.bind e1 ?_
   simp only [if_true,c5]
   exact key
 exact H xs [] rfl
end Go.Proofs.Ytoijcallajegfaa.M
end
section
/- The law of the lists of orbits answers true. No conditions. -/
namespace Go.Proofs.Ytoijcallajegfaa.Pure
set_option linter.unusedVariables false
set_option linter.unusedSimpArgs false
set_option linter.unusedVariables false
set_option linter.unusedSimpArgs false
open Go.RowKit Go.Proofs.YtoijcallajegfaaW.PrintWords Go.Proofs.YtoijcallajegfaaW.PrintLast Go.Proofs.YtoijcallajegfaaW.PrintMore Go.Proofs.Ytoijcallajegfaa.A Go.Proofs.Ytoijcallajegfaa.M
theorem cls_len66:∀ n:Fin 5,(clsN n.val).length≤26∧∀ l ∈ clsN n.val,l.length≤26∧∀ x ∈ l,x.1.length≤4∧x.2.length≤4:=by decide +kernel
theorem FnExactOrbitsWith (n:Int) (hn:(Lit.int .i64 n).wf = true):∃ k,Z1.F k n:=by
 unfold Z1.F
 have key:∃ L:List (List S33),L.length≤26∧(∀ l ∈ L,l.length≤26∧∀ x ∈ l,x.f0.length≤4∧x.f1.length≤4)∧Ev (fun k=>Z31.f k n) L∧Ev (fun k=>Z27.f k n) L:=by
  by_cases h:1≤n∧n≤4
  ·obtain ⟨m,rfl⟩:∃ m:Nat,n = (m:Int):=⟨n.toNat,by omega⟩
   have h1:1≤m:=by omega
   have h4:m≤4:=by omega
   obtain ⟨a1,a2⟩:=cls_len66 ⟨m,by omega⟩
   refine ⟨_,by rw [List.length_map];exact a1,?_,spec_orbits h1 h4,impl_orbits h1 h4⟩
   intro l hl
   obtain ⟨y,hy,rfl⟩:=List.mem_map.1 hl
   obtain ⟨b1,b2⟩:=a2 y hy
   refine ⟨by rw [LS_len];exact b1,fun x hx=>?_⟩
   obtain ⟨z,hz,rfl⟩:=List.mem_map.1 hx
   have:=b2 z hz
   show (I z.1).length≤4∧(I z.2).length≤4
   rw [I_len,I_len]
   exact this
  ·exact ⟨[],by simp,by simp,(orbits_no h).1,(orbits_no h).2⟩
 obtain ⟨L,hl,hx,⟨K1,e1⟩,⟨K2,e2⟩⟩:=key
 obtain ⟨K5,e5⟩:=eqSS_same L (by omega) (fun l h=>⟨by have:=(hx l h).1;omega,fun x h2=>by have:=(hx l h).2 x h2;omega⟩)
 have ht:∀ l:List S33,(∀ x ∈ l,x.f0.length≤4∧x.f1.length≤4)→totF l≤l.length * 8:=by
  intro l
  induction l with
  | nil=>intro _;exact Nat.le_refl 0
  | cons x l ih =>
   intro h
   have a:=ih (fun y hy=>h y (List.mem_cons_of_mem _ hy))
   have b:=h x (by simp)
   rw [totF,List.length_cons]
   omega
 have hg:∀ L:List (List S33),(∀ l ∈ L,l.length≤26∧∀ x ∈ l,x.f0.length≤4∧x.f1.length≤4)→totG L≤L.length * 208:=by
  intro L
  induction L with
  | nil=>intro _;exact Nat.le_refl 0
  | cons l L ih =>
   intro h
   have a:=ih (fun y hy=>h y (List.mem_cons_of_mem _ hy))
   have b:=h l (by simp)
   have c:=ht l b.2
   have d:=b.1
   rw [totG,List.length_cons]
   omega
 have q0:=hg L hx
 have q1:(1:Int) + (totG L:Int)≤9000000000000000000:=by omega
 have q2:∀ x ∈ L,x.length≤1000:=fun x h=>by have:=(hx x h).1;omega
 obtain ⟨K7,e7⟩:=markSS_ev L 1 (by omega) q1 (by omega) q2
 obtain ⟨K8,e8⟩:=heldSS_ev L 1 (by omega) q1 (by omega) q2
 exact ⟨K1 + K2 + K5 + K7 + K8,L,_,_,e1 _ (by omega),e2 _ (by omega),e5 _ (by omega),e7 _ (by omega),e8 _ (by omega),decide_eq_false (by omega)⟩
end Go.Proofs.Ytoijcallajegfaa.Pure
end
