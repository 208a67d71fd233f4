/- Lemmas for the row FnExactStrataWith: the program's functions told as plain functions, and plain mathematics. No conditions. -/
import Derived.Test.YtoijcallajegfaaGreatQFnExactStrataWith2
section
namespace Go.Proofs.YtoijcallajegfaaGreat.A
open Go.RowKit Go.Proofs.YtoijcallajegfaaGreatW.PrintWords Go.Proofs.YtoijcallajegfaaGreatW.PrintLast Go.Proofs.YtoijcallajegfaaGreatW.PrintMore
attribute [local go_sem] max2_int min2_int max_two min_two max_three min_three max_four min_four
set_option linter.unusedVariables false
set_option linter.unusedSimpArgs false
mutual
def Z20.l0:Nat→List (List Int)→List (S38)→Int→Int→Option ((List (List Int)))
 | 0,_,_,_,_=>none
 | k + 1,x3,x10,x11,x12=>if x12 < x11 then (if 0≤x12 then (if x12 < (x10.length:Int) then ((Z31.f k ((rd_T38 x10 x12).f0) ((rd_T38 x10 x12).f1)).bind fun t363=>(Z20.l1 k x3 t363 0 x10 x11 x12)) else (none)) else (none)) else (some x3)
def Z20.l1:Nat→List (List Int)→List Int→Int→List (S38)→Int→Int→Option ((List (List Int)))
 | 0,_,_,_,_,_,_=>none
 | k + 1,x3,x6,x7,x10,x11,x12=>if x7 < (x3.length:Int) then (if 0≤x7 then ((Z60.f k (rd_L1 x3 x7) x6).bind fun t367=>(if t367 = true then (Z20.l1 k x3 x6 (wrap64 (x7 + 1)) x10 x11 x12) else ((Z50.f k (rd_L1 x3 x7) x6).bind fun t369=>(if t369 = true then (Z20.l0 k x3 x10 x11 (wrap64 (x12 + 1))) else ((some (([]:List (List Int)):List (List Int))).bind fun y370=>(if x7≤(x3.length:Int) then ((some (x3.take (x7:Int).toNat:List (List Int))).bind fun y373=>(if y370.length + y373.length < 5864062014805 then ((some (y370 ++ y373:List (List Int))).bind fun y378=>((some (([x6]:List (List Int)):List (List Int))).bind fun y381=>(if y378.length + y381.length < 5864062014805 then ((some (y378 ++ y381:List (List Int))).bind fun y384=>((some (x3.drop (x7:Int).toNat:List (List Int))).bind fun y387=>(if y384.length + y387.length < 5864062014805 then (Z20.l0 k (y384 ++ y387) x10 x11 (wrap64 (x12 + 1))) else (none)))) else (none)))) else (none))) else (none))))))) else (none)) else ((some (([]:List (List Int)):List (List Int))).bind fun y395=>(if 0≤x7 then (if x7≤(x3.length:Int) then ((some (x3.take (x7:Int).toNat:List (List Int))).bind fun y398=>(if y395.length + y398.length < 5864062014805 then ((some (y395 ++ y398:List (List Int))).bind fun y403=>((some (([x6]:List (List Int)):List (List Int))).bind fun y406=>(if y403.length + y406.length < 5864062014805 then ((some (y403 ++ y406:List (List Int))).bind fun y409=>((some (x3.drop (x7:Int).toNat:List (List Int))).bind fun y412=>(if y409.length + y412.length < 5864062014805 then (Z20.l0 k (y409 ++ y412) x10 x11 (wrap64 (x12 + 1))) else (none)))) else (none)))) else (none))) else (none)) else (none)))
end
def Z20.f (k:Nat) (a0:Int):Option ((List (List Int))):=(Z13.f k a0).bind fun t358=>(Z20.l0 k (([]:List (List Int))) t358 (t358.length:Int) 0)
theorem Z20.ay {P Q:Nat→Prop} (h:∀ k,P k→Q k:=by intro k hk;first | exact trivial | (revert hk;(try simp only [and_imp]);intros;(repeat' apply And.intro) <;> first | assumption | exact trivial)):∀ k,P k→Q k:=h
set_option maxHeartbeats 8000000 in
theorem Z20.mono_l:∀ k,(∀ y0 y1 y2 y3,LeO (Z20.l0 k y0 y1 y2 y3) (Z20.l0 (k + 1) y0 y1 y2 y3))∧(∀ y0 y1 y2 y3 y4 y5,LeO (Z20.l1 k y0 y1 y2 y3 y4 y5) (Z20.l1 (k + 1) y0 y1 y2 y3 y4 y5))
 | 0=>⟨fun _ _ _ _ r h=>by simp [Z20.l0] at h,fun _ _ _ _ _ _ r h=>by simp [Z20.l1] at h⟩
 | k + 1=>by
  obtain ⟨ih0,ih1⟩:=Z20.mono_l k
  refine ⟨?_,?_⟩
  ·intro y0 y1 y2 y3
   unfold Z20.l0
   repeat' first|exact ih0 _ _ _ _|exact ih1 _ _ _ _ _ _|exact Z50.mono _ _ _|exact Z31.mono _ _ _|exact Z13.mono _ _|exact Z60.mono _ _ _|exact lo_|refine LeO.ite ?_ ?_|refine LeO.bind ?_ (fun _=>?_)
  ·intro y0 y1 y2 y3 y4 y5
   unfold Z20.l1
   repeat' first|exact ih0 _ _ _ _|exact ih1 _ _ _ _ _ _|exact Z50.mono _ _ _|exact Z31.mono _ _ _|exact Z13.mono _ _|exact Z60.mono _ _ _|exact lo_|refine LeO.ite ?_ ?_|refine LeO.bind ?_ (fun _=>?_)
theorem Z20.mono:∀ a0 k,LeO (Z20.f k a0) (Z20.f (k + 1) a0):=by
 intro a0 k
 obtain ⟨ih0,ih1⟩:=Z20.mono_l k
 unfold Z20.f
 repeat' first|exact ih0 _ _ _ _|exact ih1 _ _ _ _ _ _|exact Z50.mono _ _ _|exact Z31.mono _ _ _|exact Z13.mono _ _|exact Z60.mono _ _ _|exact lo_|refine LeO.ite ?_ ?_|refine LeO.bind ?_ (fun _=>?_)
def Z20.T10:Bool × List (List Nat × List Nat):=(true,[([],[]),([],[]),([],[]),([1,2],[1,2]),([0,3],[0,3]),([],[]),([5],[5]),([4,6,4],[4,6]),([],[]),([],[]),([8,9],[8,9]),([7,10,7],[7,10]),([11,11,0,1,2,3,4,5,6,7,8,9,10,11],[1,8,11])])
def Z20.B10:List Nat:=[0,0,0,6,15,0,32,127,0,0,768,2047,4095]
theorem Z20.tab10:rtab .any (opsOf Tryz.f5 10) = Z20.T10:=by kernel_rfl
theorem Z20.bits10:waitsOk Z20.T10.2 Z20.B10 = true:=by kernel_rfl
set_option maxHeartbeats 8000000 in
set_option maxRecDepth 100000 in
theorem Z20.calls (k:Nat) (a0:Int) (r:List (List Int)) (w:World) (h:Z20.f k a0 = some r) :
  Calls Tryz.prog 5 #[.int .i64 a0] w fun e w'=>∃ v0_:Value,e = .returned (v0_)∧Kd.N (Kd.slice 3 (Kd.int .i64)) 27 w' w.heap.size (fun k_=>(w.heap.size≤k_)) v0_ r∧Below w.heap.size w w':=by
 have hu38:=Tryz.underlying38
 have HB:=A_ (Below.refl w.heap.size w)
 have H:=h
 unfold Z20.f at H
 clear h
 obtain ⟨y355,hy355⟩:∃ y_:List (List Int),y_ = (([]:List (List Int))):=⟨_,rfl⟩
 replace H:((Z13.f k a0).bind fun t358=>(Z20.l0 k y355 t358 (t358.length:Int) 0)) = some r:=by first | (rw [hy355];exact H) | exact H
 have Ny355:=A_ hy355
 clear hy355
 obtain ⟨t358,A2,H⟩:=bi_ H
 have H':=A_ H
 clear H
 go_enter Tryz.func5,Tryz.ntmps5
 go_wp2_with (first | ((with_reducible refine gB_ (N:=8) rfl ?_);refine Kd.N_lit (Kd.slice 3 (Kd.int .i64)) _ 27 ?hg (N':=8) ?hd (xs:=([]:List (List Int))) (inner:=[]) (ok:=(fun k_=>(w.heap.size≤k_))) (okp:=(fun k_=>(w.heap.size≤k_))) ?hr ?hp (fun _ hk=>hk) ((show ∀ k_,w.heap.size≤k_→(fun k_=>(w.heap.size≤k_)) k_ from fun k_ hk=>(Nat.le_trans (bF_ hB_) hk)) _ (nA_ _)) (Below.refl _ _) (nA_ _) (by simp) ?_;(case hd=>rfl);(case hg=>rfl);(case hr=>first | (go_simp;done) | (go_simp;rfl));(case hp=>exact (Reps.none _ _));intro v356 w3 ho4 hb hg_ hnew_;clear hg_ hnew_;(first | rw [← Ny355.out] at ho4 | (simp only [Int.reduceToNat] at ho4;rw [← Ny355.out] at ho4));have HO357:=A_ (Kd.N_lower ho4 (bF_ hB_));replace HB:=b1_ hb;clear hb ho4) | ((with_reducible refine gA_ (f:=18) rfl ?_);refine gL_ (some 10) Tryz.func18 #[.int .i64 a0] rfl qa_ ?_;(with_reducible refine (Z13.calls k a0 t358 _ A2.out).mono ?_);rintro e w5 ⟨v359,rfl,ho0,hb⟩;refine ⟨_,rfl,?_⟩;have HO360:=A_ (Kd.N_lower (Kd.N_mono (ok':=fun k_=>(w.heap.size≤k_)∧some k_≠(v356:Value).ownBlock) ho0 (fun k_ hk_=>⟨(Nat.le_trans (bF_ hB_) hk_),(Kd.fresh' (Kd.N_lt (by (with_reducible repeat (first | apply Kd.N_alloc | apply Kd.N_drewN | apply Kd.N_drew));exact HO357.out)) k_ hk_)⟩)) (bF_ hB_));replace HO357:=A_ (Kd.N_elder' (by (with_reducible repeat (first | apply Kd.N_alloc | apply Kd.N_drewN | apply Kd.N_drew));exact HO357.out) (Kd.N_base ho0) hb);replace HB:=b1_ hb;clear hb ho0;obtain ⟨Ao6,co6,eo6⟩:=Kd.N_slice HO360.out;subst eo6))
 go_loopg [3,12] k (fun kq v3 v12 w'=>∃ (x3_1:List (List Int)) (x12_1:Int),v12 = .int .i64 x12_1∧Aside0 (Z20.l0 kq x3_1 t358 (t358.length:Int) x12_1 = some r)∧Aside0 (kq≤k)∧Aside0 (Kd.N (Kd.slice 3 (Kd.int .i64)) 27 w' w.heap.size (fun k_=>(w.heap.size≤k_)∧some k_≠((.slice Ao6 t358.length co6):Value).ownBlock) v3 x3_1)∧Aside0 (Kd.N k38 38 w' w.heap.size (fun k_=>(w.heap.size≤k_)∧some k_≠(v3:Value).ownBlock) (.slice Ao6 t358.length co6) t358)∧Aside0 (Below w.heap.size w w'))
 case atStart=>exact ⟨(y355),(0),qc_,H',⟨nA_ _⟩,⟨by (with_reducible repeat (first | apply Kd.N_alloc | apply Kd.N_drewN | apply Kd.N_drew));exact HO357.out⟩,⟨by (with_reducible repeat (first | apply Kd.N_alloc | apply Kd.N_drewN | apply Kd.N_drew));exact HO360.out⟩,⟨hB_⟩⟩
 case round =>
  clear H'
  obtain ⟨x3_1,x12_1,rfl,HA,HK1,HO_3,HO_10,HB⟩:=hrel
  cases gk with
  | zero=>exact absurd HA.out (by simp [Z20.l0])
  | succ k1 =>
   have H:=HA.out
   clear HA
   simp only [Z20.l0] at H
   by_cases c7:x12_1 < (t358.length:Int)
   ·rw [if_pos c7] at H
    have c7b0:=oC_ c7
    clear c7
    have c8:=cp_ H
    replace H:=ca_ H
    have c8b0:=oC_ c8
    clear c8
    have c9:=cp_ H
    replace H:=ca_ H
    have c9b0:=oC_ c9
    clear c9
    obtain ⟨t363,A10,H⟩:=bi_ H
    have H':=A_ H
    clear H
    have p361:0≤(x12_1:Int):=oB_ qe_
    have q361:x12_1 < (t358.length:Int):=oB_ qe_
    obtain ⟨ad361,A361_0,c361_0,A361_1,c361_1,e361,hx361_0,hx361_1,hl361_0,hi361_0,hl361_1,hi361_1⟩:=at_T38 (Kd.N_reads' HO_10.out).2.2 x12_1 p361 q361
    cases e361
    obtain ⟨ce361,hce361,hMe361,hcc361⟩:=Kd.N_get HO_10.out z38 x12_1 p361 (by first | exact q361 | exact oB_ qe_ | (have e_:=(Kd.N_reads' HO_10.out).1;omega))
    obtain ⟨ua361_0,uc361_0,ua361_1,uc361_1,rfl,ul361_0,ge361_0,ul361_1,ge361_1⟩:=k38_openF hMe361
    have hv361_0:=hcc361 0 _ rfl
    rw [Nat.add_zero] at hv361_0
    replace hv361_0:=Option.some.inj (hv361_0.symm.trans hx361_0)
    injection hv361_0 with hva_ hvn_ hvc_
    rw [hva_] at ge361_0
    rw [hvc_] at ul361_0
    have HL361_0:=A_ (show Kd.V (Kd.int .i64) 3 _ w.heap.size _ _ ((rd_T38 t358 x12_1).f0) from Kd.V_mk ul361_0 ge361_0)
    clear hva_ hvn_ hvc_ ge361_0 ul361_0
    have hv361_1:=hcc361 1 _ rfl
    rw [add_field _ _ 1 (by omega)] at hv361_1
    replace hv361_1:=Option.some.inj (hv361_1.symm.trans hx361_1)
    injection hv361_1 with hva_ hvn_ hvc_
    rw [hva_] at ge361_1
    rw [hvc_] at ul361_1
    have HL361_1:=A_ (show Kd.V (Kd.int .i64) 3 _ w.heap.size _ _ ((rd_T38 t358 x12_1).f1) from Kd.V_mk ul361_1 ge361_1)
    clear hva_ hvn_ hvc_ ge361_1 ul361_1
    clear hcc361 hce361
    have HR361_0:=A_ hi361_0
    have HC361_0:=A_ hl361_0
    clear hi361_0 hl361_0
    have HR361_1:=A_ hi361_1
    have HC361_1:=A_ hl361_1
    clear hi361_1 hl361_1
    replace p361:=eq_true p361
    replace q361:=eq_true q361
    go_wp2_with (first | ((with_reducible refine gB_ (N:=5) rfl ?_);refine bx_ 5 #[.slice none 0 0,.slice none 0 0] 38 ?_;intro gb362 hg w11 hbox hb;replace HO_3:=A_ (Kd.N_below (Kd.N_elderB (by (with_reducible repeat (first | apply Kd.N_alloc | apply Kd.N_drewN | apply Kd.N_drew));exact HO_3.out) gb362 (Nat.le_of_eq hg.symm)) hb);replace HO_10:=A_ (Kd.N_below (Kd.N_elderB (by (with_reducible repeat (first | apply Kd.N_alloc | apply Kd.N_drewN | apply Kd.N_drew));exact HO_10.out) gb362 (Nat.le_of_eq hg.symm)) hb);replace HL361_0:=A_ (Kd.V_below (Kd.V_elderB (by (with_reducible repeat (first | apply Kd.V_alloc | apply Kd.V_drewN | apply Kd.V_drew));exact HL361_0.out) gb362 (Nat.le_of_eq hg.symm)) hb);replace HL361_1:=A_ (Kd.V_below (Kd.V_elderB (by (with_reducible repeat (first | apply Kd.V_alloc | apply Kd.V_drewN | apply Kd.V_drew));exact HL361_1.out) gb362 (Nat.le_of_eq hg.symm)) hb);replace HR361_0:=A_ (cD_ (by repeat (first | (with_reducible exact HR361_0.out) | (with_reducible refine cA_ ?_ _) | (with_reducible refine cB_ ?_ _) | (with_reducible refine cC_ ?_) | exact HR361_0.out)) hb);replace HR361_1:=A_ (cD_ (by repeat (first | (with_reducible exact HR361_1.out) | (with_reducible refine cA_ ?_ _) | (with_reducible refine cB_ ?_ _) | (with_reducible refine cC_ ?_) | exact HR361_1.out)) hb);have BK362:=A_ hbox;have GW362:=gw_ w hg;have GE362:=GW362;replace HB:=b1_ hb;clear hb hbox hg;obtain ⟨hcz12_0,hcz12_1,hfz12_0,hfz12_1⟩:=c2_ BK362) | ((with_reducible refine gA_ (f:=19) rfl ?_);refine gL_ (some 17) Tryz.func19 #[.agg #[.slice A361_0 ((rd_T38 t358 x12_1).f0).length c361_0,.slice A361_1 ((rd_T38 t358 x12_1).f1).length c361_1]] rfl qa_ ?_;(with_reducible refine (Z31.calls k1 _ _ ((rd_T38 t358 x12_1).f0) _ _ ((rd_T38 t358 x12_1).f1) t363 _ ?side1 ?side2 ?side3 ?side4 A10.out).mono ?_);(case side1=>repeat (first | exact ((Kd.V_reads' (by (with_reducible repeat (first | apply Kd.V_alloc | apply Kd.V_drewN | apply Kd.V_drew));exact (Kd.V_mono (Kd.V_far (p:=⟨gb362,1,none⟩) (Kd.V_far (p:=⟨gb362,0,none⟩) (Kd.V_mono HL361_0.out (fun k_ hk=>(⟨hk,hk.2⟩:_∧k_≠gb362))) (fun _ hk=>hk.2) (.slice A361_0 ((rd_T38 t358 x12_1).f0).length c361_0)) (fun _ hk=>hk.2) (.slice A361_1 ((rd_T38 t358 x12_1).f1).length c361_1)) (fun _ h_=>h_.1)))).2.2) | (with_reducible first | refine cA_ ?_ _ | refine cB_ ?_ _ | refine cC_ ?_)));(case side2=>exact HC361_0.out);(case side3=>repeat (first | exact ((Kd.V_reads' (by (with_reducible repeat (first | apply Kd.V_alloc | apply Kd.V_drewN | apply Kd.V_drew));exact (Kd.V_mono (Kd.V_far (p:=⟨gb362,1,none⟩) (Kd.V_far (p:=⟨gb362,0,none⟩) (Kd.V_mono HL361_1.out (fun k_ hk=>(⟨hk,hk.2⟩:_∧k_≠gb362))) (fun _ hk=>hk.2) (.slice A361_0 ((rd_T38 t358 x12_1).f0).length c361_0)) (fun _ hk=>hk.2) (.slice A361_1 ((rd_T38 t358 x12_1).f1).length c361_1)) (fun _ h_=>h_.1)))).2.2) | (with_reducible first | refine cA_ ?_ _ | refine cB_ ?_ _ | refine cC_ ?_)));(case side4=>exact HC361_1.out);rintro e w13 ⟨v364,rfl,ho0,hb⟩;refine ⟨_,rfl,?_⟩;replace HO_3:=A_ (Kd.N_elder' (by (with_reducible repeat (first | apply Kd.N_alloc | apply Kd.N_drewN | apply Kd.N_drew));exact (Kd.N_mono (Kd.N_far (p:=⟨gb362,1,none⟩) (Kd.N_far (p:=⟨gb362,0,none⟩) (Kd.N_mono HO_3.out (fun k_ hk=>(⟨hk,hk.2⟩:_∧k_≠gb362))) (fun _ hk=>hk.2) (.slice A361_0 ((rd_T38 t358 x12_1).f0).length c361_0)) (fun _ hk=>hk.2) (.slice A361_1 ((rd_T38 t358 x12_1).f1).length c361_1)) (fun _ h_=>h_.1))) (Kd.R_base ho0) hb);replace HO_10:=A_ (Kd.N_elder' (by (with_reducible repeat (first | apply Kd.N_alloc | apply Kd.N_drewN | apply Kd.N_drew));exact (Kd.N_mono (Kd.N_far (p:=⟨gb362,1,none⟩) (Kd.N_far (p:=⟨gb362,0,none⟩) (Kd.N_mono HO_10.out (fun k_ hk=>(⟨hk,hk.2⟩:_∧k_≠gb362))) (fun _ hk=>hk.2) (.slice A361_0 ((rd_T38 t358 x12_1).f0).length c361_0)) (fun _ hk=>hk.2) (.slice A361_1 ((rd_T38 t358 x12_1).f1).length c361_1)) (fun _ h_=>h_.1))) (Kd.R_base ho0) hb);have HO365:=A_ (rE_ (Kd.R_newM (M:=fun k_=>(w.heap.size≤k_)) ho0 (bF_ hB_) (fun k_ h_=>h_)) (bF_ hB_));replace HR361_0:=A_ (cD_ ((Kd.V_reads' (by (with_reducible repeat (first | apply Kd.V_alloc | apply Kd.V_drewN | apply Kd.V_drew));exact (Kd.V_mono (Kd.V_far (p:=⟨gb362,1,none⟩) (Kd.V_far (p:=⟨gb362,0,none⟩) (Kd.V_mono HL361_0.out (fun k_ hk=>(⟨hk,hk.2⟩:_∧k_≠gb362))) (fun _ hk=>hk.2) (.slice A361_0 ((rd_T38 t358 x12_1).f0).length c361_0)) (fun _ hk=>hk.2) (.slice A361_1 ((rd_T38 t358 x12_1).f1).length c361_1)) (fun _ h_=>h_.1)))).2.2) hb);replace HL361_0:=A_ (Kd.V_elder' (by (with_reducible repeat (first | apply Kd.V_alloc | apply Kd.V_drewN | apply Kd.V_drew));exact (Kd.V_mono (Kd.V_far (p:=⟨gb362,1,none⟩) (Kd.V_far (p:=⟨gb362,0,none⟩) (Kd.V_mono HL361_0.out (fun k_ hk=>(⟨hk,hk.2⟩:_∧k_≠gb362))) (fun _ hk=>hk.2) (.slice A361_0 ((rd_T38 t358 x12_1).f0).length c361_0)) (fun _ hk=>hk.2) (.slice A361_1 ((rd_T38 t358 x12_1).f1).length c361_1)) (fun _ h_=>h_.1))) (Kd.R_base ho0) hb);replace HR361_1:=A_ (cD_ ((Kd.V_reads' (by (with_reducible repeat (first | apply Kd.V_alloc | apply Kd.V_drewN | apply Kd.V_drew));exact (Kd.V_mono (Kd.V_far (p:=⟨gb362,1,none⟩) (Kd.V_far (p:=⟨gb362,0,none⟩) (Kd.V_mono HL361_1.out (fun k_ hk=>(⟨hk,hk.2⟩:_∧k_≠gb362))) (fun _ hk=>hk.2) (.slice A361_0 ((rd_T38 t358 x12_1).f0).length c361_0)) (fun _ hk=>hk.2) (.slice A361_1 ((rd_T38 t358 x12_1).f1).length c361_1)) (fun _ h_=>h_.1)))).2.2) hb);replace HL361_1:=A_ (Kd.V_elder' (by (with_reducible repeat (first | apply Kd.V_alloc | apply Kd.V_drewN | apply Kd.V_drew));exact (Kd.V_mono (Kd.V_far (p:=⟨gb362,1,none⟩) (Kd.V_far (p:=⟨gb362,0,none⟩) (Kd.V_mono HL361_1.out (fun k_ hk=>(⟨hk,hk.2⟩:_∧k_≠gb362))) (fun _ hk=>hk.2) (.slice A361_0 ((rd_T38 t358 x12_1).f0).length c361_0)) (fun _ hk=>hk.2) (.slice A361_1 ((rd_T38 t358 x12_1).f1).length c361_1)) (fun _ h_=>h_.1))) (Kd.R_base ho0) hb);replace BK362:=A_ (kE_ (g:=gb362) (o:=.cells #[.slice A361_0 ((rd_T38 t358 x12_1).f0).length c361_0,.slice A361_1 ((rd_T38 t358 x12_1).f1).length c361_1] 38 (0,0)) qp_ hb);replace HB:=b1_ hb;clear hb ho0))
    go_loopg [7] k1 (fun kq v7 w'=>∃ (x7_2:Int),v7 = .int .i64 x7_2∧Aside0 (Z20.l1 kq x3_1 t363 x7_2 t358 (t358.length:Int) x12_1 = some r)∧Aside0 (kq≤k1)∧Aside0 (Kd.N (Kd.slice 3 (Kd.int .i64)) 27 w' w.heap.size (fun k_=>(w.heap.size≤k_)∧some k_≠(v364:Value).ownBlock∧some k_≠((.slice (some ad361) t358.length co6):Value).ownBlock∧k_≠gb362) u3 x3_1)∧Aside0 (Kd.R (Kd.int .i64) 3 w' w.heap.size (fun k_=>(w.heap.size≤k_)) v364 t363)∧Aside0 (Kd.N k38 38 w' w.heap.size (fun k_=>(w.heap.size≤k_)∧some k_≠(u3:Value).ownBlock∧some k_≠(v364:Value).ownBlock∧k_≠gb362) (.slice (some ad361) t358.length co6) t358)∧Aside0 (Kd.V (Kd.int .i64) 3 w' w.heap.size (fun k_=>(w.heap.size≤k_)∧some k_≠(u3:Value).ownBlock∧some k_≠(v364:Value).ownBlock∧some k_≠((.slice (some ad361) t358.length co6):Value).ownBlock∧k_≠gb362) (.slice A361_0 ((rd_T38 t358 x12_1).f0).length c361_0) ((rd_T38 t358 x12_1).f0))∧Aside0 (Kd.V (Kd.int .i64) 3 w' w.heap.size (fun k_=>(w.heap.size≤k_)∧some k_≠(u3:Value).ownBlock∧some k_≠(v364:Value).ownBlock∧some k_≠((.slice (some ad361) t358.length co6):Value).ownBlock∧k_≠gb362) (.slice A361_1 ((rd_T38 t358 x12_1).f1).length c361_1) ((rd_T38 t358 x12_1).f1))∧Aside0 (w'.heap[gb362]? = some (.cells #[(.slice A361_0 ((rd_T38 t358 x12_1).f0).length c361_0),(.slice A361_1 ((rd_T38 t358 x12_1).f1).length c361_1)] 38 (0,0)))∧Aside0 (Kd.C (Kd.int .i64) w' A361_0 ((rd_T38 t358 x12_1).f0).length ((rd_T38 t358 x12_1).f0))∧Aside0 (Kd.C (Kd.int .i64) w' A361_1 ((rd_T38 t358 x12_1).f1).length ((rd_T38 t358 x12_1).f1))∧Aside0 (Below w.heap.size w w'))
    case atStart=>exact ⟨(0),qc_,H',⟨nA_ _⟩,⟨by (with_reducible repeat (first | apply Kd.N_alloc | apply Kd.N_drewN | apply Kd.N_drew));exact Kd.N_mono HO_3.out Z20.ay⟩,⟨(rw_ (Kd.R_mono HO365.out (fun _ hk=>hk.1)))⟩,⟨by (with_reducible repeat (first | apply Kd.N_alloc | apply Kd.N_drewN | apply Kd.N_drew));exact Kd.N_mono HO_10.out Z20.ay⟩,⟨by (with_reducible repeat (first | apply Kd.V_alloc | apply Kd.V_drewN | apply Kd.V_drew));exact Kd.V_mono HL361_0.out Z20.ay⟩,⟨by (with_reducible repeat (first | apply Kd.V_alloc | apply Kd.V_drewN | apply Kd.V_drew));exact Kd.V_mono HL361_1.out Z20.ay⟩,⟨(kk_ BK362)⟩,⟨by repeat (first | (with_reducible exact HR361_0.out) | (with_reducible refine cA_ ?_ _) | (with_reducible refine cB_ ?_ _) | (with_reducible refine cC_ ?_) | exact HR361_0.out)⟩,⟨by repeat (first | (with_reducible exact HR361_1.out) | (with_reducible refine cA_ ?_ _) | (with_reducible refine cB_ ?_ _) | (with_reducible refine cC_ ?_) | exact HR361_1.out)⟩,⟨hB_⟩⟩
    case round =>
     clear H'
     obtain ⟨x7_2,rfl,HA,HK2,HO_3,HO_6,HO_10,HO_363000,HO_363001,BK362,HR361_0,HR361_1,HB⟩:=hrel
     cases gk with
     | zero=>exact absurd HA.out (by simp [Z20.l1])
     | succ k2 =>
      have H:=HA.out
      clear HA
      simp only [Z20.l1] at H
      by_cases c14:x7_2 < (x3_1.length:Int)
      ·rw [if_pos c14] at H
       have c14b0:=oC_ c14
       clear c14
       have c15:=cp_ H
       replace H:=ca_ H
       have c15b0:=oC_ c15
       clear c15
       obtain ⟨t367,A16,H⟩:=bi_ H
       by_cases c17:t367 = true
       ·subst c17
        rw [if_pos rfl] at H
        have H':=A_ H
        clear H
        obtain ⟨Ao18,co18,eo18⟩:=Kd.N_slice HO_3.out
        subst eo18
        have p366:0≤(x7_2:Int):=oB_ qe_
        have q366:x7_2 < (x3_1.length:Int):=oB_ qe_
        obtain ⟨ad366,A366_0,c366_0,e366,hx366_0,hl366_0,hi366_0⟩:=at_L1 (Kd.N_reads' HO_3.out).2.2 x7_2 p366 q366
        cases e366
        obtain ⟨ce366,hce366,hMe366,hcc366⟩:=Kd.N_get HO_3.out [] x7_2 p366 (by first | exact q366 | exact oB_ qe_ | (have e_:=(Kd.N_reads' HO_3.out).1;omega))
        obtain ⟨ua366_0,uc366_0,rfl,ul366_0,ge366_0⟩:=Kd.FK_slice_open hMe366
        have hv366_0:=hcc366 0 _ rfl
        rw [Nat.add_zero,show ((Kd.slice 3 (Kd.int .i64))).sz = 1 from rfl,Nat.mul_one] at hv366_0
        replace hv366_0:=Option.some.inj (hv366_0.symm.trans hx366_0)
        injection hv366_0 with hva_ hvn_ hvc_
        rw [hva_] at ge366_0
        rw [hvc_] at ul366_0
        have HL366_0:=A_ (show Kd.V (Kd.int .i64) 3 _ w.heap.size _ _ (rd_L1 x3_1 x7_2) from Kd.V_mk ul366_0 ge366_0)
        clear hva_ hvn_ hvc_ ge366_0 ul366_0
        clear hcc366 hce366
        have HR366_0:=A_ hi366_0
        have HC366_0:=A_ hl366_0
        clear hi366_0 hl366_0
        replace p366:=eq_true p366
        replace q366:=eq_true q366
        obtain ⟨Ao19,co19,eo19⟩:=Kd.R_slice HO_6.out
        subst eo19
        go_wp2_with (first | (go_at_call 20;(with_reducible refine (Z60.calls k2 _ _ (rd_L1 x3_1 x7_2) _ _ t363 true _ ?side1 ?side2 ?side3 ?side4 A16.out).mono ?_);(case side1=>repeat (first | exact (by repeat (first | (with_reducible exact HR366_0.out) | (with_reducible refine cA_ ?_ _) | (with_reducible refine cB_ ?_ _) | (with_reducible refine cC_ ?_) | exact HR366_0.out)) | (with_reducible first | refine cA_ ?_ _ | refine cB_ ?_ _ | refine cC_ ?_)));(case side2=>exact HC366_0.out);(case side3=>exact cr_ HO_6);(case side4=>exact (Kd.R_reads' HO_6.out).2.1);rintro e w' ⟨rfl,⟨nd,rfl⟩⟩))
        go_roundg k2
        case measure=>have:=HK1.out;have:=HK2.out;omega
        case rel=>exact ⟨(wrap64 (x7_2 + 1)),qc_,H',⟨by have:=HK1.out;have:=HK2.out;omega⟩,⟨by (with_reducible repeat (first | apply Kd.N_alloc | apply Kd.N_drewN | apply Kd.N_drew));exact HO_3.out⟩,⟨(rr_ HO_6)⟩,⟨by (with_reducible repeat (first | apply Kd.N_alloc | apply Kd.N_drewN | apply Kd.N_drew));exact HO_10.out⟩,⟨by (with_reducible repeat (first | apply Kd.V_alloc | apply Kd.V_drewN | apply Kd.V_drew));exact HO_363000.out⟩,⟨by (with_reducible repeat (first | apply Kd.V_alloc | apply Kd.V_drewN | apply Kd.V_drew));exact HO_363001.out⟩,⟨(kk_ BK362)⟩,⟨by repeat (first | (with_reducible exact HR361_0.out) | (with_reducible refine cA_ ?_ _) | (with_reducible refine cB_ ?_ _) | (with_reducible refine cC_ ?_) | exact HR361_0.out)⟩,⟨by repeat (first | (with_reducible exact HR361_1.out) | (with_reducible refine cA_ ?_ _) | (with_reducible refine cB_ ?_ _) | (with_reducible refine cC_ ?_) | exact HR361_1.out)⟩,⟨hB_⟩⟩
       ·replace c17:=Bool.eq_false_iff.mpr c17
        subst c17
        have H1:((Z50.f k2 (rd_L1 x3_1 x7_2) t363).bind fun t369=>(if t369 = true then (Z20.l0 k2 x3_1 t358 (t358.length:Int) (wrap64 (x12_1 + 1))) else ((some (([]:List (List Int)):List (List Int))).bind fun y370=>(if x7_2≤(x3_1.length:Int) then ((some (x3_1.take (x7_2:Int).toNat:List (List Int))).bind fun y373=>(if y370.length + y373.length < 5864062014805 then ((some (y370 ++ y373:List (List Int))).bind fun y378=>((some (([t363]:List (List Int)):List (List Int))).bind fun y381=>(if y378.length + y381.length < 5864062014805 then ((some (y378 ++ y381:List (List Int))).bind fun y384=>((some (x3_1.drop (x7_2:Int).toNat:List (List Int))).bind fun y387=>(if y384.length + y387.length < 5864062014805 then (Z20.l0 k2 (y384 ++ y387) t358 (t358.length:Int) (wrap64 (x12_1 + 1))) else (none)))) else (none)))) else (none))) else (none))))) = some r:=by rw [if_neg (show ¬ (false = true) by decide)] at H;exact H
        clear H
        have H:=H1
        clear H1
        obtain ⟨t369,A20,H⟩:=bi_ H
        by_cases c21:t369 = true
        ·subst c21
         rw [if_pos rfl] at H
         have H':=A_ H
         clear H
         obtain ⟨Ao22,co22,eo22⟩:=Kd.N_slice HO_3.out
         subst eo22
         have p366:0≤(x7_2:Int):=oB_ qe_
         have q366:x7_2 < (x3_1.length:Int):=oB_ qe_
         obtain ⟨ad366,A366_0,c366_0,e366,hx366_0,hl366_0,hi366_0⟩:=at_L1 (Kd.N_reads' HO_3.out).2.2 x7_2 p366 q366
         cases e366
         obtain ⟨ce366,hce366,hMe366,hcc366⟩:=Kd.N_get HO_3.out [] x7_2 p366 (by first | exact q366 | exact oB_ qe_ | (have e_:=(Kd.N_reads' HO_3.out).1;omega))
         obtain ⟨ua366_0,uc366_0,rfl,ul366_0,ge366_0⟩:=Kd.FK_slice_open hMe366
         have hv366_0:=hcc366 0 _ rfl
         rw [Nat.add_zero,show ((Kd.slice 3 (Kd.int .i64))).sz = 1 from rfl,Nat.mul_one] at hv366_0
         replace hv366_0:=Option.some.inj (hv366_0.symm.trans hx366_0)
         injection hv366_0 with hva_ hvn_ hvc_
         rw [hva_] at ge366_0
         rw [hvc_] at ul366_0
         have HL366_0:=A_ (show Kd.V (Kd.int .i64) 3 _ w.heap.size _ _ (rd_L1 x3_1 x7_2) from Kd.V_mk ul366_0 ge366_0)
         clear hva_ hvn_ hvc_ ge366_0 ul366_0
         clear hcc366 hce366
         have HR366_0:=A_ hi366_0
         have HC366_0:=A_ hl366_0
         clear hi366_0 hl366_0
         replace p366:=eq_true p366
         replace q366:=eq_true q366
         obtain ⟨Ao23,co23,eo23⟩:=Kd.R_slice HO_6.out
         subst eo23
         go_wp2_with (first | (go_at_call 20;(with_reducible refine (Z60.calls k2 _ _ (rd_L1 x3_1 x7_2) _ _ t363 false _ ?side1 ?side2 ?side3 ?side4 A16.out).mono ?_);(case side1=>repeat (first | exact (by repeat (first | (with_reducible exact HR366_0.out) | (with_reducible refine cA_ ?_ _) | (with_reducible refine cB_ ?_ _) | (with_reducible refine cC_ ?_) | exact HR366_0.out)) | (with_reducible first | refine cA_ ?_ _ | refine cB_ ?_ _ | refine cC_ ?_)));(case side2=>exact HC366_0.out);(case side3=>exact cr_ HO_6);(case side4=>exact (Kd.R_reads' HO_6.out).2.1);rintro e w' ⟨rfl,⟨nd,rfl⟩⟩;have p368:0≤(x7_2:Int):=oB_ qe_;have q368:x7_2 < (x3_1.length:Int):=oB_ qe_;obtain ⟨ad368,A368_0,c368_0,e368,hx368_0,hl368_0,hi368_0⟩:=at_L1 (Kd.N_reads' HO_3.out).2.2 x7_2 p368 q368;obtain rfl:ad366 = ad368:=(by injection e368);obtain ⟨ce368,hce368,hMe368,hcc368⟩:=Kd.N_get HO_3.out [] x7_2 p368 (by first | exact q368 | exact oB_ qe_ | (have e_:=(Kd.N_reads' HO_3.out).1;omega));obtain ⟨ua368_0,uc368_0,rfl,ul368_0,ge368_0⟩:=Kd.FK_slice_open hMe368;have hv368_0:=hcc368 0 _ rfl;rw [Nat.add_zero,show ((Kd.slice 3 (Kd.int .i64))).sz = 1 from rfl,Nat.mul_one] at hv368_0;replace hv368_0:=Option.some.inj (hv368_0.symm.trans hx368_0);injection hv368_0 with hva_ hvn_ hvc_;rw [hva_] at ge368_0;rw [hvc_] at ul368_0;have HL368_0:=A_ (show Kd.V (Kd.int .i64) 3 _ w.heap.size _ _ (rd_L1 x3_1 x7_2) from Kd.V_mk ul368_0 ge368_0);clear hva_ hvn_ hvc_ ge368_0 ul368_0;clear hcc368 hce368;have HR368_0:=A_ hi368_0;have HC368_0:=A_ hl368_0;clear hi368_0 hl368_0;replace p368:=eq_true p368;replace q368:=eq_true q368;have ea_:=Option.some.inj (hx366_0.symm.trans hx368_0);injection ea_ with ea_ en_ ec_;subst ea_;subst ec_;clear en_) | (go_at_call 21;(with_reducible refine (Z50.calls k2 _ _ (rd_L1 x3_1 x7_2) _ _ t363 true _ ?side1 ?side2 ?side3 ?side4 A20.out).mono ?_);(case side1=>repeat (first | exact (by repeat (first | (with_reducible exact HR368_0.out) | (with_reducible refine cA_ ?_ _) | (with_reducible refine cB_ ?_ _) | (with_reducible refine cC_ ?_) | exact HR368_0.out)) | (with_reducible first | refine cA_ ?_ _ | refine cB_ ?_ _ | refine cC_ ?_)));(case side2=>exact HC368_0.out);(case side3=>exact cr_ HO_6);(case side4=>exact (Kd.R_reads' HO_6.out).2.1);rintro e w' ⟨rfl,⟨nd,rfl⟩⟩))
         go_roundg k2
         case measure=>have:=HK1.out;have:=HK2.out;omega
         case rel=>exact ⟨(x3_1),(wrap64 (x12_1 + 1)),qc_,H',⟨by have:=HK1.out;have:=HK2.out;omega⟩,⟨by (with_reducible repeat (first | apply Kd.N_alloc | apply Kd.N_drewN | apply Kd.N_drew));exact Kd.N_mono HO_3.out Z20.ay⟩,⟨by (with_reducible repeat (first | apply Kd.N_alloc | apply Kd.N_drewN | apply Kd.N_drew));exact Kd.N_mono HO_10.out Z20.ay⟩,⟨hB_⟩⟩
        ·replace c21:=Bool.eq_false_iff.mpr c21
         subst c21
         have H1:((some (([]:List (List Int)):List (List Int))).bind fun y370=>(if x7_2≤(x3_1.length:Int) then ((some (x3_1.take (x7_2:Int).toNat:List (List Int))).bind fun y373=>(if y370.length + y373.length < 5864062014805 then ((some (y370 ++ y373:List (List Int))).bind fun y378=>((some (([t363]:List (List Int)):List (List Int))).bind fun y381=>(if y378.length + y381.length < 5864062014805 then ((some (y378 ++ y381:List (List Int))).bind fun y384=>((some (x3_1.drop (x7_2:Int).toNat:List (List Int))).bind fun y387=>(if y384.length + y387.length < 5864062014805 then (Z20.l0 k2 (y384 ++ y387) t358 (t358.length:Int) (wrap64 (x12_1 + 1))) else (none)))) else (none)))) else (none))) else (none))) = some r:=by rw [if_neg (show ¬ (false = true) by decide)] at H;exact H
         clear H
         have H:=H1
         clear H1
         obtain ⟨y370,hy370⟩:∃ y_:List (List Int),y_ = (([]:List (List Int))):=⟨_,rfl⟩
         replace H:(if x7_2≤(x3_1.length:Int) then ((some (x3_1.take (x7_2:Int).toNat:List (List Int))).bind fun y373=>(if y370.length + y373.length < 5864062014805 then ((some (y370 ++ y373:List (List Int))).bind fun y378=>((some (([t363]:List (List Int)):List (List Int))).bind fun y381=>(if y378.length + y381.length < 5864062014805 then ((some (y378 ++ y381:List (List Int))).bind fun y384=>((some (x3_1.drop (x7_2:Int).toNat:List (List Int))).bind fun y387=>(if y384.length + y387.length < 5864062014805 then (Z20.l0 k2 (y384 ++ y387) t358 (t358.length:Int) (wrap64 (x12_1 + 1))) else (none)))) else (none)))) else (none))) else (none)) = some r:=by first | (rw [hy370];exact H) | exact H
         have Ny370:=A_ hy370
         clear hy370
         have c24b0:=eq_true (oB_ qe_:0≤x7_2)
         have c25:=cp_ H
         replace H:=ca_ H
         have c25b0:=eq_true c25
         have c25b1:=oC_ c25
         clear c25
         obtain ⟨y373,hy373⟩:∃ y_:List (List Int),y_ = (x3_1.take (x7_2:Int).toNat):=⟨_,rfl⟩
         replace H:(if y370.length + y373.length < 5864062014805 then ((some (y370 ++ y373:List (List Int))).bind fun y378=>((some (([t363]:List (List Int)):List (List Int))).bind fun y381=>(if y378.length + y381.length < 5864062014805 then ((some (y378 ++ y381:List (List Int))).bind fun y384=>((some (x3_1.drop (x7_2:Int).toNat:List (List Int))).bind fun y387=>(if y384.length + y387.length < 5864062014805 then (Z20.l0 k2 (y384 ++ y387) t358 (t358.length:Int) (wrap64 (x12_1 + 1))) else (none)))) else (none)))) else (none)) = some r:=by first | (rw [hy373];exact H) | exact H
         have Ny373:=A_ hy373
         clear hy373
         have c26:=cp_ H
         replace H:=ca_ H
         have LMc26:=A_ c26
         clear c26
         obtain ⟨y378,hy378⟩:∃ y_:List (List Int),y_ = (y370 ++ y373):=⟨_,rfl⟩
         replace H:((some (([t363]:List (List Int)):List (List Int))).bind fun y381=>(if y378.length + y381.length < 5864062014805 then ((some (y378 ++ y381:List (List Int))).bind fun y384=>((some (x3_1.drop (x7_2:Int).toNat:List (List Int))).bind fun y387=>(if y384.length + y387.length < 5864062014805 then (Z20.l0 k2 (y384 ++ y387) t358 (t358.length:Int) (wrap64 (x12_1 + 1))) else (none)))) else (none))) = some r:=by first | (rw [hy378];exact H) | exact H
         have Ny378:=A_ hy378
         clear hy378
         obtain ⟨y381,hy381⟩:∃ y_:List (List Int),y_ = (([t363]:List (List Int))):=⟨_,rfl⟩
         replace H:(if y378.length + y381.length < 5864062014805 then ((some (y378 ++ y381:List (List Int))).bind fun y384=>((some (x3_1.drop (x7_2:Int).toNat:List (List Int))).bind fun y387=>(if y384.length + y387.length < 5864062014805 then (Z20.l0 k2 (y384 ++ y387) t358 (t358.length:Int) (wrap64 (x12_1 + 1))) else (none)))) else (none)) = some r:=by first | (rw [hy381];exact H) | exact H
         have Ny381:=A_ hy381
         clear hy381
         have c27:=cp_ H
         replace H:=ca_ H
         have LMc27:=A_ c27
         clear c27
         obtain ⟨y384,hy384⟩:∃ y_:List (List Int),y_ = (y378 ++ y381):=⟨_,rfl⟩
         replace H:((some (x3_1.drop (x7_2:Int).toNat:List (List Int))).bind fun y387=>(if y384.length + y387.length < 5864062014805 then (Z20.l0 k2 (y384 ++ y387) t358 (t358.length:Int) (wrap64 (x12_1 + 1))) else (none))) = some r:=by first | (rw [hy384];exact H) | exact H
         have Ny384:=A_ hy384
         clear hy384
         have c28b0:=eq_true (oB_ qe_:0≤x7_2)
         have c29b0:=eq_true (oB_ qe_:x7_2≤(x3_1.length:Int))
         obtain ⟨y387,hy387⟩:∃ y_:List (List Int),y_ = (x3_1.drop (x7_2:Int).toNat):=⟨_,rfl⟩
         replace H:(if y384.length + y387.length < 5864062014805 then (Z20.l0 k2 (y384 ++ y387) t358 (t358.length:Int) (wrap64 (x12_1 + 1))) else (none)) = some r:=by first | (rw [hy387];exact H) | exact H
         have Ny387:=A_ hy387
         clear hy387
         have c30:=cp_ H
         replace H:=ca_ H
         have LMc30:=A_ c30
         clear c30
         obtain ⟨y392,hy392⟩:∃ y_:List (List Int),y_ = (y384 ++ y387):=⟨_,rfl⟩
         replace H:(Z20.l0 k2 y392 t358 (t358.length:Int) (wrap64 (x12_1 + 1))) = some r:=by first | (rw [hy392];exact H) | exact H
         have Ny392:=A_ hy392
         clear hy392
         have H':=A_ H
         clear H
         obtain ⟨Ao31,co31,eo31⟩:=Kd.N_slice HO_3.out
         subst eo31
         have p366:0≤(x7_2:Int):=oB_ qe_
         have q366:x7_2 < (x3_1.length:Int):=oB_ qe_
         obtain ⟨ad366,A366_0,c366_0,e366,hx366_0,hl366_0,hi366_0⟩:=at_L1 (Kd.N_reads' HO_3.out).2.2 x7_2 p366 q366
         cases e366
         obtain ⟨ce366,hce366,hMe366,hcc366⟩:=Kd.N_get HO_3.out [] x7_2 p366 (by first | exact q366 | exact oB_ qe_ | (have e_:=(Kd.N_reads' HO_3.out).1;omega))
         obtain ⟨ua366_0,uc366_0,rfl,ul366_0,ge366_0⟩:=Kd.FK_slice_open hMe366
         have hv366_0:=hcc366 0 _ rfl
         rw [Nat.add_zero,show ((Kd.slice 3 (Kd.int .i64))).sz = 1 from rfl,Nat.mul_one] at hv366_0
         replace hv366_0:=Option.some.inj (hv366_0.symm.trans hx366_0)
         injection hv366_0 with hva_ hvn_ hvc_
         rw [hva_] at ge366_0
         rw [hvc_] at ul366_0
         have HL366_0:=A_ (show Kd.V (Kd.int .i64) 3 _ w.heap.size _ _ (rd_L1 x3_1 x7_2) from Kd.V_mk ul366_0 ge366_0)
         clear hva_ hvn_ hvc_ ge366_0 ul366_0
         clear hcc366 hce366
         have HR366_0:=A_ hi366_0
         have HC366_0:=A_ hl366_0
         clear hi366_0 hl366_0
         replace p366:=eq_true p366
         replace q366:=eq_true q366
         obtain ⟨Ao32,co32,eo32⟩:=Kd.R_slice HO_6.out
         subst eo32
         try go_wp2_with (first | (go_at_call 20;(with_reducible refine (Z60.calls k2 _ _ (rd_L1 x3_1 x7_2) _ _ t363 false _ ?side1 ?side2 ?side3 ?side4 A16.out).mono ?_);(case side1=>repeat (first | exact (by repeat (first | (with_reducible exact HR366_0.out) | (with_reducible refine cA_ ?_ _) | (with_reducible refine cB_ ?_ _) | (with_reducible refine cC_ ?_) | exact HR366_0.out)) | (with_reducible first | refine cA_ ?_ _ | refine cB_ ?_ _ | refine cC_ ?_)));(case side2=>exact HC366_0.out);(case side3=>exact cr_ HO_6);(case side4=>exact (Kd.R_reads' HO_6.out).2.1);rintro e w' ⟨rfl,⟨nd,rfl⟩⟩;have p368:0≤(x7_2:Int):=oB_ qe_;have q368:x7_2 < (x3_1.length:Int):=oB_ qe_;obtain ⟨ad368,A368_0,c368_0,e368,hx368_0,hl368_0,hi368_0⟩:=at_L1 (Kd.N_reads' HO_3.out).2.2 x7_2 p368 q368;obtain rfl:ad366 = ad368:=(by injection e368);obtain ⟨ce368,hce368,hMe368,hcc368⟩:=Kd.N_get HO_3.out [] x7_2 p368 (by first | exact q368 | exact oB_ qe_ | (have e_:=(Kd.N_reads' HO_3.out).1;omega));obtain ⟨ua368_0,uc368_0,rfl,ul368_0,ge368_0⟩:=Kd.FK_slice_open hMe368;have hv368_0:=hcc368 0 _ rfl;rw [Nat.add_zero,show ((Kd.slice 3 (Kd.int .i64))).sz = 1 from rfl,Nat.mul_one] at hv368_0;replace hv368_0:=Option.some.inj (hv368_0.symm.trans hx368_0);injection hv368_0 with hva_ hvn_ hvc_;rw [hva_] at ge368_0;rw [hvc_] at ul368_0;have HL368_0:=A_ (show Kd.V (Kd.int .i64) 3 _ w.heap.size _ _ (rd_L1 x3_1 x7_2) from Kd.V_mk ul368_0 ge368_0);clear hva_ hvn_ hvc_ ge368_0 ul368_0;clear hcc368 hce368;have HR368_0:=A_ hi368_0;have HC368_0:=A_ hl368_0;clear hi368_0 hl368_0;replace p368:=eq_true p368;replace q368:=eq_true q368;have ea_:=Option.some.inj (hx366_0.symm.trans hx368_0);injection ea_ with ea_ en_ ec_;subst ea_;subst ec_;clear en_) | (go_at_call 21;(with_reducible refine (Z50.calls k2 _ _ (rd_L1 x3_1 x7_2) _ _ t363 false _ ?side1 ?side2 ?side3 ?side4 A20.out).mono ?_);(case side1=>repeat (first | exact (by repeat (first | (with_reducible exact HR368_0.out) | (with_reducible refine cA_ ?_ _) | (with_reducible refine cB_ ?_ _) | (with_reducible refine cC_ ?_) | exact HR368_0.out)) | (with_reducible first | refine cA_ ?_ _ | refine cB_ ?_ _ | refine cC_ ?_)));(case side2=>exact HC368_0.out);(case side3=>exact cr_ HO_6);(case side4=>exact (Kd.R_reads' HO_6.out).2.1);rintro e w' ⟨rfl,⟨nd,rfl⟩⟩))
         (try (rw [drewN_self wr];generalize hq_:World.drewN wr _ = wr;have n0_:Aside0 (Kd.V (Kd.int .i64) 3 wr w.heap.size (fun k_=>(w.heap.size≤k_)∧some k_≠(.slice (some ad361) t358.length co6:Value).ownBlock∧some k_≠(.slice (some ad366) x3_1.length co31:Value).ownBlock∧some k_≠(.slice Ao32 t363.length co32:Value).ownBlock∧k_≠gb362) (.slice A366_0 (rd_L1 x3_1 x7_2).length c366_0) (rd_L1 x3_1 x7_2)):=⟨by rw [← hq_];exact (by (with_reducible repeat (first | apply Kd.V_alloc | apply Kd.V_drewN | apply Kd.V_drew));exact Kd.V_mono HL366_0.out Z20.ay)⟩;have n1_:Aside0 (Kd.V (Kd.int .i64) 3 wr w.heap.size (fun k_=>(w.heap.size≤k_)∧some k_≠(.slice (some ad361) t358.length co6:Value).ownBlock∧some k_≠(.slice (some ad366) x3_1.length co31:Value).ownBlock∧some k_≠(.slice Ao32 t363.length co32:Value).ownBlock∧k_≠gb362) (.slice A366_0 (rd_L1 x3_1 x7_2).length c366_0) (rd_L1 x3_1 x7_2)):=⟨by rw [← hq_];exact (by (with_reducible repeat (first | apply Kd.V_alloc | apply Kd.V_drewN | apply Kd.V_drew));exact Kd.V_mono HL368_0.out Z20.ay)⟩;have n2_:Aside0 (Kd.N k38 38 wr w.heap.size (fun k_=>(w.heap.size≤k_)∧some k_≠(.slice (some ad366) x3_1.length co31:Value).ownBlock∧some k_≠(.slice Ao32 t363.length co32:Value).ownBlock∧k_≠gb362) (.slice (some ad361) t358.length co6) t358):=⟨by rw [← hq_];exact (by (with_reducible repeat (first | apply Kd.N_alloc | apply Kd.N_drewN | apply Kd.N_drew));exact HO_10.out)⟩;have n3_:Aside0 (Kd.N (Kd.slice 3 (Kd.int .i64)) 27 wr w.heap.size (fun k_=>(w.heap.size≤k_)∧some k_≠(.slice (some ad361) t358.length co6:Value).ownBlock∧some k_≠(.slice Ao32 t363.length co32:Value).ownBlock∧k_≠gb362) (.slice (some ad366) x3_1.length co31) x3_1):=⟨by rw [← hq_];exact (by (with_reducible repeat (first | apply Kd.N_alloc | apply Kd.N_drewN | apply Kd.N_drew));exact Kd.N_mono HO_3.out Z20.ay)⟩;have n4_:Aside0 (Kd.V (Kd.int .i64) 3 wr w.heap.size (fun k_=>(w.heap.size≤k_)∧some k_≠(.slice (some ad361) t358.length co6:Value).ownBlock∧some k_≠(.slice (some ad366) x3_1.length co31:Value).ownBlock∧some k_≠(.slice Ao32 t363.length co32:Value).ownBlock∧k_≠gb362) (.slice A361_0 ((rd_T38 t358 x12_1).f0).length c361_0) ((rd_T38 t358 x12_1).f0)):=⟨by rw [← hq_];exact (by (with_reducible repeat (first | apply Kd.V_alloc | apply Kd.V_drewN | apply Kd.V_drew));exact Kd.V_mono HO_363000.out Z20.ay)⟩;have n5_:Aside0 (Kd.V (Kd.int .i64) 3 wr w.heap.size (fun k_=>(w.heap.size≤k_)∧some k_≠(.slice (some ad361) t358.length co6:Value).ownBlock∧some k_≠(.slice (some ad366) x3_1.length co31:Value).ownBlock∧some k_≠(.slice Ao32 t363.length co32:Value).ownBlock∧k_≠gb362) (.slice A361_1 ((rd_T38 t358 x12_1).f1).length c361_1) ((rd_T38 t358 x12_1).f1)):=⟨by rw [← hq_];exact (by (with_reducible repeat (first | apply Kd.V_alloc | apply Kd.V_drewN | apply Kd.V_drew));exact Kd.V_mono HO_363001.out Z20.ay)⟩;have n6_:Aside0 (Kd.R (Kd.int .i64) 3 wr w.heap.size (fun k_=>(w.heap.size≤k_)) (.slice Ao32 t363.length co32) t363):=⟨by rw [← hq_];exact (rr_ HO_6)⟩;have n7_:Aside0 (wr.heap[gb362]? = some (.cells #[.slice A361_0 ((rd_T38 t358 x12_1).f0).length c361_0,.slice A361_1 ((rd_T38 t358 x12_1).f1).length c361_1] 38 (0,0))):=⟨by rw [← hq_];exact (kk_ BK362)⟩;have n8_:Aside0 (Below w.heap.size w wr):=⟨by rw [← hq_];exact hB_⟩;have n9_:Aside0 (Kd.C (Kd.int .i64) wr A361_0 ((rd_T38 t358 x12_1).f0).length ((rd_T38 t358 x12_1).f0)):=⟨by rw [← hq_];exact (by repeat (first | (with_reducible exact HR361_0.out) | (with_reducible refine cA_ ?_ _) | (with_reducible refine cB_ ?_ _) | (with_reducible refine cC_ ?_) | exact HR361_0.out))⟩;have n10_:Aside0 (Kd.C (Kd.int .i64) wr A361_1 ((rd_T38 t358 x12_1).f1).length ((rd_T38 t358 x12_1).f1)):=⟨by rw [← hq_];exact (by repeat (first | (with_reducible exact HR361_1.out) | (with_reducible refine cA_ ?_ _) | (with_reducible refine cB_ ?_ _) | (with_reducible refine cC_ ?_) | exact HR361_1.out))⟩;have n11_:Aside0 (Kd.C (Kd.int .i64) wr A366_0 (rd_L1 x3_1 x7_2).length (rd_L1 x3_1 x7_2)):=⟨by rw [← hq_];exact (by repeat (first | (with_reducible exact HR366_0.out) | (with_reducible refine cA_ ?_ _) | (with_reducible refine cB_ ?_ _) | (with_reducible refine cC_ ?_) | exact HR366_0.out))⟩;have n12_:Aside0 (Kd.C (Kd.int .i64) wr A366_0 (rd_L1 x3_1 x7_2).length (rd_L1 x3_1 x7_2)):=⟨by rw [← hq_];exact (by repeat (first | (with_reducible exact HR368_0.out) | (with_reducible refine cA_ ?_ _) | (with_reducible refine cB_ ?_ _) | (with_reducible refine cC_ ?_) | exact HR368_0.out))⟩;clear HL366_0 HL368_0 HO_10 HO_3 HO_363000 HO_363001 HO_6 BK362 HB HR361_0 HR361_1 HR366_0 HR368_0 hq_;have HL366_0:=n0_;have HL368_0:=n1_;have HO_10:=n2_;have HO_3:=n3_;have HO_363000:=n4_;have HO_363001:=n5_;have HO_6:=n6_;have BK362:=n7_;have HB:=n8_;have HR361_0:=n9_;have HR361_1:=n10_;have HR366_0:=n11_;have HR368_0:=n12_;clear n0_ n1_ n2_ n3_ n4_ n5_ n6_ n7_ n8_ n9_ n10_ n11_ n12_))
         replace HO_3:=A_ (Kd.N_drew HO_3.out)
         replace HO_6:=A_ (rC_ HO_6.out)
         replace HO_10:=A_ (Kd.N_drew HO_10.out)
         replace HO_363000:=A_ (Kd.V_drew HO_363000.out)
         replace HO_363001:=A_ (Kd.V_drew HO_363001.out)
         replace HL366_0:=A_ (Kd.V_drew HL366_0.out)
         replace HL368_0:=A_ (Kd.V_drew HL368_0.out)
         replace BK362:=A_ (kB_ BK362.out)
         replace HR361_0:=A_ (cC_ HR361_0.out)
         replace HR361_1:=A_ (cC_ HR361_1.out)
         replace HR366_0:=A_ (cC_ HR366_0.out)
         replace HR368_0:=A_ (cC_ HR368_0.out)
         replace HB:=A_ (bC_ HB.out)
         have q34:(x7_2:Int)≤((x3_1.length:Int):Int):=oB_ qe_
         obtain ⟨i034,hi034,_,hsz34,_⟩:=info_parts info27
         have hroom34:x3_1.length≤co31:=(Kd.N_reads' HO_3.out).2.1
         have hC34:Kd.F (Kd.slice 3 (Kd.int .i64)) _ _ (some ad366) x3_1.length x3_1:=(Kd.V_at (base:=w.heap.size) (Kd.N_V HO_3.out)).2.2
         have hcut34:=cut_to (P:=Tryz.prog) 22 27 .i64 Tryz.underlying22 hi034 (some ad366) x3_1.length co31 x7_2 (oB_ qe_) q34 hroom34
         have hr34:=Kd.F_take (m:=(x7_2:Int).toNat) hC34 (by omega)
         have hy34:y373.length = (x7_2:Int).toNat:=(by rw [Ny373.out,lB_];omega)
         rw [← Ny373.out] at hr34
         rw [← hy34] at hcut34
         have HO377:=A_ (show Kd.V (Kd.slice 3 (Kd.int .i64)) 27 _ w.heap.size _ (.slice (some ad366) y373.length co31) y373 from Kd.V_mk (by omega) hr34)
         have HC377:=A_ (show y373.length≤co31 from by omega)
         clear hr34 hC34 hroom34 hi034 hsz34
         have KY34:=A_ hy34
         clear hy34
         replace q34:=eq_true q34
         have q35:(x7_2:Int)≤((x3_1.length:Int):Int):=oB_ qe_
         obtain ⟨i035,hi035,_,hsz35,_⟩:=info_parts info27
         have hroom35:x3_1.length≤co31:=(Kd.N_reads' HO_3.out).2.1
         have hC35:Kd.F (Kd.slice 3 (Kd.int .i64)) _ _ (some ad366) x3_1.length x3_1:=(Kd.V_at (base:=w.heap.size) (Kd.N_V HO_3.out)).2.2
         have q035:(0:Int)≤(x7_2:Int):=oB_ qe_
         have hcut35:=cut_from (P:=Tryz.prog) 22 27 .i64 Tryz.underlying22 hi035 1 hsz35 (some ad366) x3_1.length co31 x7_2 q035 q35
         have hr35:=Kd.F_cut (m:=(x7_2:Int).toNat) (c:=co31) hC35 (by omega) hroom35
         obtain ⟨A35,hA35⟩:∃ A1,A1 = (if co31 = (x7_2:Int).toNat then (some ad366) else ((some ad366):Option Addr).map (·.add ((x7_2:Int).toNat * 1))):=⟨_,rfl⟩
         obtain ⟨c35,hc35⟩:∃ c1,c1 = co31 - (x7_2:Int).toNat:=⟨_,rfl⟩
         have hy35:y387.length = x3_1.length - (x7_2:Int).toNat:=(by rw [Ny387.out,lA_] <;> omega)
         rw [show (x3_1).drop (x7_2:Int).toNat = y387 from Ny387.out.symm] at hr35
         replace hr35:Kd.F (Kd.slice 3 (Kd.int .i64)) _ _ A35 y387.length y387:=(by rw [hA35];exact hr35)
         rw [← hy35,← hA35,← hc35] at hcut35
         have HO391:=A_ (show Kd.V (Kd.slice 3 (Kd.int .i64)) 27 _ w.heap.size _ (.slice A35 y387.length c35) y387 from Kd.V_mk (by rw [hy35,hc35];exact Nat.sub_le_sub_right hroom35 _) hr35)
         have HC391:=A_ (show y387.length≤c35 from by rw [hy35,hc35];exact Nat.sub_le_sub_right hroom35 _)
         clear hr35 hC35 hroom35 hi035 hsz35 hc35
         have KY35:=A_ hy35
         have KA35:=A_ hA35
         clear hy35 hA35
         replace q35:=eq_true q35
         refine start_ (n:=13) (S:=fun w'=>True) (ds:=[]) (bl_ 13 0) (by kernel_rfl) rfl (by kernel_rfl) trivial (fun hHeld=>?_);refine with_tabW Z20.tab10 Z20.bits10 (fun HT_ HW_=>?_)
         generalize wr.drew = w33 at HO_3 HO_6 HO_10 HO_363000 HO_363001 HL366_0 HL368_0 BK362 HR361_0 HR361_1 HR366_0 HR368_0 HB HO377 HO391 hHeld ⊢
         refine pu_ 1 (some 45) (bl_ 13 2) HT_ ?_
         refine pu_ 2 (some 46) (bl_ 13 6) HT_ ?_
         refine pu_ 3 (some 47) (bl_ 13 14) HT_ ?_
         refine pu_ 5 (some 49) (bl_ 13 46) HT_ ?_
         refine pu_ 8 (some 52) (bl_ 13 302) HT_ ?_
         refine pu_ 9 (some 53) (bl_ 13 814) HT_ ?_
         refine pu_ 10 (some 54) (bl_ 13 1838) HT_ ?_
         refine join_ (σ:=Value × Value × Value) 3 (bl_ 13 1919) (fun s_=>[(44,s_.1),(48,s_.2.1),(50,s_.2.2)]) (fun s_ w'=>(Kd.V (Kd.int .i64) 3 w' w.heap.size (fun k_=>(w.heap.size≤k_)∧some k_≠(s_.2.1:Value).ownBlock∧some k_≠(s_.2.2:Value).ownBlock∧some k_≠(.slice (some ad361) t358.length co6:Value).ownBlock∧some k_≠(.slice (some ad366) x3_1.length co31:Value).ownBlock∧k_≠gb362) (.slice A366_0 (rd_L1 x3_1 x7_2).length c366_0) (rd_L1 x3_1 x7_2))∧(Kd.V (Kd.int .i64) 3 w' w.heap.size (fun k_=>(w.heap.size≤k_)∧some k_≠(s_.2.1:Value).ownBlock∧some k_≠(s_.2.2:Value).ownBlock∧some k_≠(.slice (some ad361) t358.length co6:Value).ownBlock∧some k_≠(.slice (some ad366) x3_1.length co31:Value).ownBlock∧k_≠gb362) (.slice A366_0 (rd_L1 x3_1 x7_2).length c366_0) (rd_L1 x3_1 x7_2))∧(Kd.V (Kd.slice 3 (Kd.int .i64)) 27 w' w.heap.size (fun k_=>(w.heap.size≤k_)∧some k_≠(s_.2.1:Value).ownBlock∧some k_≠(s_.2.2:Value).ownBlock∧some k_≠(.slice (some ad361) t358.length co6:Value).ownBlock∧k_≠gb362) (.slice (some ad366) y373.length co31) y373)∧(Kd.N (Kd.slice 3 (Kd.int .i64)) 27 w' w.heap.size (fun k_=>(w.heap.size≤k_)∧some k_≠(s_.2.2:Value).ownBlock∧some k_≠(.slice (some ad361) t358.length co6:Value).ownBlock∧k_≠gb362) s_.2.1 y378)∧(Kd.N (Kd.slice 3 (Kd.int .i64)) 27 w' w.heap.size (fun k_=>(w.heap.size≤k_)∧some k_≠(s_.2.1:Value).ownBlock∧some k_≠(.slice (some ad361) t358.length co6:Value).ownBlock∧some k_≠(.slice (some ad366) x3_1.length co31:Value).ownBlock∧k_≠gb362) s_.2.2 y381)∧(Kd.V (Kd.slice 3 (Kd.int .i64)) 27 w' w.heap.size (fun k_=>(w.heap.size≤k_)∧some k_≠(s_.2.1:Value).ownBlock∧some k_≠(s_.2.2:Value).ownBlock∧some k_≠(.slice (some ad361) t358.length co6:Value).ownBlock∧k_≠gb362) (.slice A35 y387.length c35) y387)∧(Kd.N k38 38 w' w.heap.size (fun k_=>(w.heap.size≤k_)∧some k_≠(s_.2.1:Value).ownBlock∧some k_≠(s_.2.2:Value).ownBlock∧some k_≠(.slice (some ad366) x3_1.length co31:Value).ownBlock∧k_≠gb362) (.slice (some ad361) t358.length co6) t358)∧(Kd.N (Kd.slice 3 (Kd.int .i64)) 27 w' w.heap.size (fun k_=>(w.heap.size≤k_)∧some k_≠(s_.2.1:Value).ownBlock∧some k_≠(s_.2.2:Value).ownBlock∧some k_≠(.slice (some ad361) t358.length co6:Value).ownBlock∧k_≠gb362) (.slice (some ad366) x3_1.length co31) x3_1)∧(Kd.V (Kd.int .i64) 3 w' w.heap.size (fun k_=>(w.heap.size≤k_)∧some k_≠(s_.2.1:Value).ownBlock∧some k_≠(s_.2.2:Value).ownBlock∧some k_≠(.slice (some ad361) t358.length co6:Value).ownBlock∧some k_≠(.slice (some ad366) x3_1.length co31:Value).ownBlock∧k_≠gb362) (.slice A361_0 ((rd_T38 t358 x12_1).f0).length c361_0) ((rd_T38 t358 x12_1).f0))∧(Kd.V (Kd.int .i64) 3 w' w.heap.size (fun k_=>(w.heap.size≤k_)∧some k_≠(s_.2.1:Value).ownBlock∧some k_≠(s_.2.2:Value).ownBlock∧some k_≠(.slice (some ad361) t358.length co6:Value).ownBlock∧some k_≠(.slice (some ad366) x3_1.length co31:Value).ownBlock∧k_≠gb362) (.slice A361_1 ((rd_T38 t358 x12_1).f1).length c361_1) ((rd_T38 t358 x12_1).f1))∧(w'.heap[gb362]? = some (.cells #[.slice A361_0 ((rd_T38 t358 x12_1).f0).length c361_0,.slice A361_1 ((rd_T38 t358 x12_1).f1).length c361_1] 38 (0,0)))∧(Below w.heap.size w w')) ?_ ?_
         rotate_left
         ·intro hCont
          refine two_ (i:=0) (j:=6) (Ni:=some 44) (Nj:=some 50) (bl_ 13 1839) (bl_ 13 1902) rfl rfl rfl rfl (two_of HT_.out (by kernel_rfl)) (by decide) (by decide) (fun K hK=>?_) (fun K hK=>?_)
          ·skip
           refine Kd.N_lit_step (Kd.slice 3 (Kd.int .i64)) _ 27 ?hg (N':=44) ?hd (xs:=([]:List (List Int))) (inner:=[]) (ok:=(fun k_=>(w.heap.size≤k_)∧some k_≠(.slice (some ad366) x3_1.length co31:Value).ownBlock∧some k_≠(.slice Ao32 t363.length co32:Value).ownBlock∧some k_≠(.slice (some ad361) t358.length co6:Value).ownBlock∧k_≠gb362)) (okp:=(fun k_=>(w.heap.size≤k_)∧some k_≠(.slice (some ad366) x3_1.length co31:Value).ownBlock∧some k_≠(.slice Ao32 t363.length co32:Value).ownBlock∧some k_≠(.slice (some ad361) t358.length co6:Value).ownBlock∧k_≠gb362)) ?hr ?hp (fun _ hk=>hk) ((show ∀ k_,w33.heap.size≤k_→(fun k_=>(w.heap.size≤k_)∧some k_≠(.slice (some ad366) x3_1.length co31:Value).ownBlock∧some k_≠(.slice Ao32 t363.length co32:Value).ownBlock∧some k_≠(.slice (some ad361) t358.length co6:Value).ownBlock∧k_≠gb362) k_ from fun k_ hk=>⟨(Nat.le_trans (bF_ hB_) hk),Kd.fresh' (Kd.N_lt (by (with_reducible repeat (first | apply Kd.N_alloc | apply Kd.N_drewN | apply Kd.N_drew));exact HO_3.out)) k_ hk,Kd.fresh' (Kd.R_lt (rr_ HO_6)) k_ hk,Kd.fresh' (Kd.N_lt (by (with_reducible repeat (first | apply Kd.N_alloc | apply Kd.N_drewN | apply Kd.N_drew));exact HO_10.out)) k_ hk,Kd.freshB (kk_ BK362) k_ hk⟩) _ (nA_ _)) (Below.refl _ _) (nA_ _) (by simp) ?_;(case hd=>rfl);(case hg=>rfl);(case hr=>first | (go_simp;done) | (go_simp;rfl));(case hp=>exact (Reps.none _ _))
           intro v371 w36 ho37 hb hg_ hnew_
           clear hg_ hnew_
           (first | rw [← Ny370.out] at ho37 | (simp only [Int.reduceToNat] at ho37;rw [← Ny370.out] at ho37))
           replace HO_3:=A_ (Kd.N_elder' (by (with_reducible repeat (first | apply Kd.N_alloc | apply Kd.N_drewN | apply Kd.N_drew));exact HO_3.out) (Kd.N_base ho37) hb)
           replace HO_6:=rb_ HO_6 hb
           replace HO_10:=A_ (Kd.N_elder' (by (with_reducible repeat (first | apply Kd.N_alloc | apply Kd.N_drewN | apply Kd.N_drew));exact HO_10.out) (Kd.N_base ho37) hb)
           replace HO_363000:=A_ (Kd.V_elder' (by (with_reducible repeat (first | apply Kd.V_alloc | apply Kd.V_drewN | apply Kd.V_drew));exact HO_363000.out) (Kd.N_base ho37) hb)
           replace HO_363001:=A_ (Kd.V_elder' (by (with_reducible repeat (first | apply Kd.V_alloc | apply Kd.V_drewN | apply Kd.V_drew));exact HO_363001.out) (Kd.N_base ho37) hb)
           replace HL366_0:=A_ (Kd.V_elder' (by (with_reducible repeat (first | apply Kd.V_alloc | apply Kd.V_drewN | apply Kd.V_drew));exact HL366_0.out) (Kd.N_base ho37) hb)
           replace HL368_0:=A_ (Kd.V_elder' (by (with_reducible repeat (first | apply Kd.V_alloc | apply Kd.V_drewN | apply Kd.V_drew));exact HL368_0.out) (Kd.N_base ho37) hb)
           replace HO377:=A_ (Kd.V_elder' (by (with_reducible repeat (first | apply Kd.V_alloc | apply Kd.V_drewN | apply Kd.V_drew));exact HO377.out) (Kd.N_base ho37) hb)
           replace HO391:=A_ (Kd.V_elder' (by (with_reducible repeat (first | apply Kd.V_alloc | apply Kd.V_drewN | apply Kd.V_drew));exact HO391.out) (Kd.N_base ho37) hb)
           have HO372:=A_ (Kd.N_lower ho37 (bF_ hB_))
           replace BK362:=bb_ BK362 hb
           replace HR361_0:=A_ (cD_ (by repeat (first | (with_reducible exact HR361_0.out) | (with_reducible refine cA_ ?_ _) | (with_reducible refine cB_ ?_ _) | (with_reducible refine cC_ ?_) | exact HR361_0.out)) hb)
           replace HR361_1:=A_ (cD_ (by repeat (first | (with_reducible exact HR361_1.out) | (with_reducible refine cA_ ?_ _) | (with_reducible refine cB_ ?_ _) | (with_reducible refine cC_ ?_) | exact HR361_1.out)) hb)
           replace HR366_0:=A_ (cD_ (by repeat (first | (with_reducible exact HR366_0.out) | (with_reducible refine cA_ ?_ _) | (with_reducible refine cB_ ?_ _) | (with_reducible refine cC_ ?_) | exact HR366_0.out)) hb)
           replace HR368_0:=A_ (cD_ (by repeat (first | (with_reducible exact HR368_0.out) | (with_reducible refine cA_ ?_ _) | (with_reducible refine cB_ ?_ _) | (with_reducible refine cC_ ?_) | exact HR368_0.out)) hb)
           replace HB:=b1_ hb
           clear hb ho37
           refine hK.out _ _ trivial (fun hHeld=>?_)
           clear hK K
           refine no_ (some 44) ?_
           refine two_ (i:=4) (j:=6) (Ni:=some 48) (Nj:=some 50) (bl_ 13 1855) (bl_ 13 1903) rfl rfl rfl rfl (two_of HT_.out (by kernel_rfl)) (by decide) (by decide) (fun K hK=>?_) (fun K hK=>?_)
           ·skip
            refine Kd.N_append_rows_step (Kd.slice 3 (Kd.int .i64)) (w0:=w) w.heap.size (by rfl) (.tmp 44) (.tmp 47) 22 27 (.slice none 0 0) 24 rfl Tryz.underlying22 info27 rfl (by decide) (by omega) v371 y370 y373 _ _ _ (fun k_=>(w.heap.size≤k_)∧some k_≠(.slice Ao32 t363.length co32:Value).ownBlock∧some k_≠(.slice (some ad361) t358.length co6:Value).ownBlock∧k_≠gb362) (fun k_=>((fun k_=>(w.heap.size≤k_)∧some k_≠(.slice Ao32 t363.length co32:Value).ownBlock∧some k_≠(.slice (some ad361) t358.length co6:Value).ownBlock∧k_≠gb362)) k_∧some k_≠(v371:Value).ownBlock) rfl rfl ?aO ?aR (fun _ hk=>hk) ?aF ?aB ?aS ?aL ?_
            (case aR=>exact (by skip;exact Kd.V_F (Kd.V_mono (ok':=(fun k_=>((fun k_=>(w.heap.size≤k_)∧some k_≠(.slice Ao32 t363.length co32:Value).ownBlock∧some k_≠(.slice (some ad361) t358.length co6:Value).ownBlock∧k_≠gb362)) k_∧some k_≠(v371:Value).ownBlock)) (HO377.out) Z20.ay)))
            (case aB=>exact hB_)
            (case aF=>exact (fun k_ hk=>⟨(Nat.le_trans (bF_ hB_) hk),Kd.fresh' (Kd.R_lt (rr_ HO_6)) k_ hk,Kd.fresh' (Kd.N_lt (by (with_reducible repeat (first | apply Kd.N_alloc | apply Kd.N_drewN | apply Kd.N_drew));exact HO_10.out)) k_ hk,Kd.freshB (kk_ BK362) k_ hk⟩))
            (case aO=>exact (by (with_reducible repeat (first | apply Kd.N_alloc | apply Kd.N_drewN | apply Kd.N_drew));exact Kd.N_mono HO372.out Z20.ay))
            (case aS=>exact (bF_ hB_))
            (case aL=>have:=LMc26.out;omega)
            intro v379 w38 ho hb hg hat
            rw [← Ny378.out] at ho
            replace HO_3:=A_ (Kd.N_afterv (ok:=(fun k_=>(w.heap.size≤k_)∧some k_≠(.slice Ao32 t363.length co32:Value).ownBlock∧some k_≠(.slice (some ad361) t358.length co6:Value).ownBlock∧k_≠gb362)) (by (with_reducible repeat (first | apply Kd.N_alloc | apply Kd.N_drewN | apply Kd.N_drew));exact Kd.N_mono HO_3.out Z20.ay) hg hat)
            replace HO_6:=A_ (Kd.R_over' (rr_ HO_6) (Kd.N_typed (by (with_reducible repeat (first | apply Kd.N_alloc | apply Kd.N_drewN | apply Kd.N_drew));exact HO372.out)) (by decide) hg)
            replace HO_10:=A_ (Kd.N_afterv (ok:=(fun k_=>(w.heap.size≤k_)∧some k_≠(.slice (some ad366) x3_1.length co31:Value).ownBlock∧some k_≠(.slice Ao32 t363.length co32:Value).ownBlock∧k_≠gb362)) (by (with_reducible repeat (first | apply Kd.N_alloc | apply Kd.N_drewN | apply Kd.N_drew));exact Kd.N_mono HO_10.out Z20.ay) hg hat)
            replace HO_363000:=A_ (Kd.V_afterv (ok:=(fun k_=>(w.heap.size≤k_)∧some k_≠(.slice (some ad366) x3_1.length co31:Value).ownBlock∧some k_≠(.slice Ao32 t363.length co32:Value).ownBlock∧some k_≠(.slice (some ad361) t358.length co6:Value).ownBlock∧k_≠gb362)) (by (with_reducible repeat (first | apply Kd.V_alloc | apply Kd.V_drewN | apply Kd.V_drew));exact Kd.V_mono HO_363000.out Z20.ay) hg hat)
            replace HO_363001:=A_ (Kd.V_afterv (ok:=(fun k_=>(w.heap.size≤k_)∧some k_≠(.slice (some ad366) x3_1.length co31:Value).ownBlock∧some k_≠(.slice Ao32 t363.length co32:Value).ownBlock∧some k_≠(.slice (some ad361) t358.length co6:Value).ownBlock∧k_≠gb362)) (by (with_reducible repeat (first | apply Kd.V_alloc | apply Kd.V_drewN | apply Kd.V_drew));exact Kd.V_mono HO_363001.out Z20.ay) hg hat)
            replace BK362:=A_ (blk_grown (kk_ BK362) hg (Kd.N_ne HO372.out BK362.out (by decide)))
            replace HL366_0:=A_ (Kd.V_afterv (ok:=(fun k_=>(w.heap.size≤k_)∧some k_≠(.slice (some ad366) x3_1.length co31:Value).ownBlock∧some k_≠(.slice Ao32 t363.length co32:Value).ownBlock∧some k_≠(.slice (some ad361) t358.length co6:Value).ownBlock∧k_≠gb362)) (by (with_reducible repeat (first | apply Kd.V_alloc | apply Kd.V_drewN | apply Kd.V_drew));exact Kd.V_mono HL366_0.out Z20.ay) hg hat)
            replace HL368_0:=A_ (Kd.V_afterv (ok:=(fun k_=>(w.heap.size≤k_)∧some k_≠(.slice (some ad366) x3_1.length co31:Value).ownBlock∧some k_≠(.slice Ao32 t363.length co32:Value).ownBlock∧some k_≠(.slice (some ad361) t358.length co6:Value).ownBlock∧k_≠gb362)) (by (with_reducible repeat (first | apply Kd.V_alloc | apply Kd.V_drewN | apply Kd.V_drew));exact Kd.V_mono HL368_0.out Z20.ay) hg hat)
            replace HO377:=A_ (Kd.V_afterv (ok:=(fun k_=>(w.heap.size≤k_)∧some k_≠(.slice Ao32 t363.length co32:Value).ownBlock∧some k_≠(.slice (some ad361) t358.length co6:Value).ownBlock∧k_≠gb362)) (by (with_reducible repeat (first | apply Kd.V_alloc | apply Kd.V_drewN | apply Kd.V_drew));exact Kd.V_mono HO377.out Z20.ay) hg hat)
            replace HO391:=A_ (Kd.V_afterv (ok:=(fun k_=>(w.heap.size≤k_)∧some k_≠(.slice Ao32 t363.length co32:Value).ownBlock∧some k_≠(.slice (some ad361) t358.length co6:Value).ownBlock∧k_≠gb362)) (by (with_reducible repeat (first | apply Kd.V_alloc | apply Kd.V_drewN | apply Kd.V_drew));exact Kd.V_mono HO391.out Z20.ay) hg hat)
            replace HB:=A_ hb
            have HO380:=A_ ho
            clear HO372
            clear ho hb hg hat
            refine hK.out _ _ trivial (fun hHeld=>?_)
            clear hK K
            refine no_ (some 48) ?_
            refine on_ 6 (some 50) (bl_ 13 1919) HT_ (fun K hK=>?_)
            obtain ⟨Ao32,co32,eo32⟩:=Kd.R_slice HO_6.out
            (first | subst eo32 | (injection eo32 with f1_ f2_ f3_;have f4_:=f1_.symm;have f5_:=f3_.symm;clear f1_ f2_ f3_;subst f4_;subst f5_))
            refine Kd.N_lit_step (Kd.slice 3 (Kd.int .i64)) _ 27 ?hg (N':=50) ?hd (xs:=([t363]:List (List Int))) (inner:=[.slice Ao32 t363.length co32]) (ok:=(fun k_=>(w.heap.size≤k_)∧some k_≠(.slice (some ad366) x3_1.length co31:Value).ownBlock∧some k_≠(.slice (some ad361) t358.length co6:Value).ownBlock∧some k_≠(v379:Value).ownBlock∧k_≠gb362)) (okp:=(fun k_=>(w.heap.size≤k_)∧some k_≠(.slice (some ad366) x3_1.length co31:Value).ownBlock∧some k_≠(.slice (some ad361) t358.length co6:Value).ownBlock∧some k_≠(v379:Value).ownBlock∧k_≠gb362)) ?hr ?hp (fun _ hk=>hk) ((show ∀ k_,w38.heap.size≤k_→(fun k_=>(w.heap.size≤k_)∧some k_≠(.slice (some ad366) x3_1.length co31:Value).ownBlock∧some k_≠(.slice (some ad361) t358.length co6:Value).ownBlock∧some k_≠(v379:Value).ownBlock∧k_≠gb362) k_ from fun k_ hk=>⟨(Nat.le_trans (bF_ hB_) hk),Kd.fresh' (Kd.N_lt (by (with_reducible repeat (first | apply Kd.N_alloc | apply Kd.N_drewN | apply Kd.N_drew));exact HO_3.out)) k_ hk,Kd.fresh' (Kd.N_lt (by (with_reducible repeat (first | apply Kd.N_alloc | apply Kd.N_drewN | apply Kd.N_drew));exact HO_10.out)) k_ hk,Kd.fresh' (Kd.N_lt (by (with_reducible repeat (first | apply Kd.N_alloc | apply Kd.N_drewN | apply Kd.N_drew));exact HO380.out)) k_ hk,Kd.freshB (kk_ BK362) k_ hk⟩) _ (nA_ _)) (Below.refl _ _) (nA_ _) (by simp) ?_;(case hd=>rfl);(case hg=>rfl);(case hr=>first | (go_simp;done) | (go_simp;rfl));(case hp=>exact (Reps.one (show Kd.FK (Kd.slice 3 (Kd.int .i64)) _ _ t363 [.slice Ao32 t363.length co32] from (Kd.FK_slice_mk (Kd.R_reads' (Kd.R_mono (ok':=(fun k_=>(w.heap.size≤k_)∧some k_≠(.slice (some ad366) x3_1.length co31:Value).ownBlock∧some k_≠(.slice (some ad361) t358.length co6:Value).ownBlock∧some k_≠(v379:Value).ownBlock∧k_≠gb362)) (Kd.R_types (Kd.R_apart' (Kd.R_apart' (Kd.R_apart' (HO_6.out) (Kd.N_typed HO_3.out) (by decide)) (Kd.N_typed HO_10.out) (by decide)) (Kd.N_typed HO380.out) (by decide)) BK362.out (by decide)) Z20.ay)).2.1 (Kd.R_F (Kd.R_mono (ok':=(fun k_=>(w.heap.size≤k_)∧some k_≠(.slice (some ad366) x3_1.length co31:Value).ownBlock∧some k_≠(.slice (some ad361) t358.length co6:Value).ownBlock∧some k_≠(v379:Value).ownBlock∧k_≠gb362)) (Kd.R_types (Kd.R_apart' (Kd.R_apart' (Kd.R_apart' (HO_6.out) (Kd.N_typed HO_3.out) (by decide)) (Kd.N_typed HO_10.out) (by decide)) (Kd.N_typed HO380.out) (by decide)) BK362.out (by decide)) Z20.ay)))) (Reps.none _ _)))
            intro v382 w39 ho40 hb hg_ hnew_
            clear hg_ hnew_
            (first | rw [← Ny381.out] at ho40 | (simp only [Int.reduceToNat] at ho40;rw [← Ny381.out] at ho40))
            replace HO_3:=A_ (Kd.N_elder' (by (with_reducible repeat (first | apply Kd.N_alloc | apply Kd.N_drewN | apply Kd.N_drew));exact HO_3.out) (Kd.N_base ho40) hb)
            replace HO_10:=A_ (Kd.N_elder' (by (with_reducible repeat (first | apply Kd.N_alloc | apply Kd.N_drewN | apply Kd.N_drew));exact HO_10.out) (Kd.N_base ho40) hb)
            replace HO_363000:=A_ (Kd.V_elder' (by (with_reducible repeat (first | apply Kd.V_alloc | apply Kd.V_drewN | apply Kd.V_drew));exact HO_363000.out) (Kd.N_base ho40) hb)
            replace HO_363001:=A_ (Kd.V_elder' (by (with_reducible repeat (first | apply Kd.V_alloc | apply Kd.V_drewN | apply Kd.V_drew));exact HO_363001.out) (Kd.N_base ho40) hb)
            replace HL366_0:=A_ (Kd.V_elder' (by (with_reducible repeat (first | apply Kd.V_alloc | apply Kd.V_drewN | apply Kd.V_drew));exact HL366_0.out) (Kd.N_base ho40) hb)
            replace HL368_0:=A_ (Kd.V_elder' (by (with_reducible repeat (first | apply Kd.V_alloc | apply Kd.V_drewN | apply Kd.V_drew));exact HL368_0.out) (Kd.N_base ho40) hb)
            replace HO377:=A_ (Kd.V_elder' (by (with_reducible repeat (first | apply Kd.V_alloc | apply Kd.V_drewN | apply Kd.V_drew));exact HO377.out) (Kd.N_base ho40) hb)
            replace HO391:=A_ (Kd.V_elder' (by (with_reducible repeat (first | apply Kd.V_alloc | apply Kd.V_drewN | apply Kd.V_drew));exact HO391.out) (Kd.N_base ho40) hb)
            replace HO380:=A_ (Kd.N_elder' (by (with_reducible repeat (first | apply Kd.N_alloc | apply Kd.N_drewN | apply Kd.N_drew));exact HO380.out) (Kd.N_base ho40) hb)
            have HO383:=A_ (Kd.N_lower ho40 (bF_ hB_))
            replace BK362:=bb_ BK362 hb
            replace HB:=b1_ hb
            clear HO_6
            clear hb ho40
            refine hK.out _ _ trivial (fun hHeld=>?_)
            clear hK K
            refine no_ (some 50) ?_
            exact norm_ (by simp only [putAll,Act.put,sA_,sB_,sC_]) (hCont (v371,v379,v382) _ ⟨(by (with_reducible repeat (first | apply Kd.V_alloc | apply Kd.V_drewN | apply Kd.V_drew));exact Kd.V_mono HL366_0.out Z20.ay),(by (with_reducible repeat (first | apply Kd.V_alloc | apply Kd.V_drewN | apply Kd.V_drew));exact Kd.V_mono HL368_0.out Z20.ay),(by (with_reducible repeat (first | apply Kd.V_alloc | apply Kd.V_drewN | apply Kd.V_drew));exact Kd.V_mono HO377.out Z20.ay),(by (with_reducible repeat (first | apply Kd.N_alloc | apply Kd.N_drewN | apply Kd.N_drew));exact Kd.N_mono HO380.out Z20.ay),(by (with_reducible repeat (first | apply Kd.N_alloc | apply Kd.N_drewN | apply Kd.N_drew));exact Kd.N_mono HO383.out Z20.ay),(by (with_reducible repeat (first | apply Kd.V_alloc | apply Kd.V_drewN | apply Kd.V_drew));exact Kd.V_mono HO391.out Z20.ay),(by (with_reducible repeat (first | apply Kd.N_alloc | apply Kd.N_drewN | apply Kd.N_drew));exact Kd.N_mono HO_10.out Z20.ay),(by (with_reducible repeat (first | apply Kd.N_alloc | apply Kd.N_drewN | apply Kd.N_drew));exact Kd.N_mono HO_3.out Z20.ay),(by (with_reducible repeat (first | apply Kd.V_alloc | apply Kd.V_drewN | apply Kd.V_drew));exact Kd.V_mono HO_363000.out Z20.ay),(by (with_reducible repeat (first | apply Kd.V_alloc | apply Kd.V_drewN | apply Kd.V_drew));exact Kd.V_mono HO_363001.out Z20.ay),(kk_ BK362),hB_⟩)
           ·skip
            obtain ⟨Ao32,co32,eo32⟩:=Kd.R_slice HO_6.out
            (first | subst eo32 | (injection eo32 with f1_ f2_ f3_;have f4_:=f1_.symm;have f5_:=f3_.symm;clear f1_ f2_ f3_;subst f4_;subst f5_))
            refine Kd.N_lit_step (Kd.slice 3 (Kd.int .i64)) _ 27 ?hg (N':=50) ?hd (xs:=([t363]:List (List Int))) (inner:=[.slice Ao32 t363.length co32]) (ok:=(fun k_=>(w.heap.size≤k_)∧some k_≠(.slice (some ad366) x3_1.length co31:Value).ownBlock∧some k_≠(.slice (some ad361) t358.length co6:Value).ownBlock∧some k_≠(v371:Value).ownBlock∧k_≠gb362)) (okp:=(fun k_=>(w.heap.size≤k_)∧some k_≠(.slice (some ad366) x3_1.length co31:Value).ownBlock∧some k_≠(.slice (some ad361) t358.length co6:Value).ownBlock∧some k_≠(v371:Value).ownBlock∧k_≠gb362)) ?hr ?hp (fun _ hk=>hk) ((show ∀ k_,w36.heap.size≤k_→(fun k_=>(w.heap.size≤k_)∧some k_≠(.slice (some ad366) x3_1.length co31:Value).ownBlock∧some k_≠(.slice (some ad361) t358.length co6:Value).ownBlock∧some k_≠(v371:Value).ownBlock∧k_≠gb362) k_ from fun k_ hk=>⟨(Nat.le_trans (bF_ hB_) hk),Kd.fresh' (Kd.N_lt (by (with_reducible repeat (first | apply Kd.N_alloc | apply Kd.N_drewN | apply Kd.N_drew));exact HO_3.out)) k_ hk,Kd.fresh' (Kd.N_lt (by (with_reducible repeat (first | apply Kd.N_alloc | apply Kd.N_drewN | apply Kd.N_drew));exact HO_10.out)) k_ hk,Kd.fresh' (Kd.N_lt (by (with_reducible repeat (first | apply Kd.N_alloc | apply Kd.N_drewN | apply Kd.N_drew));exact HO372.out)) k_ hk,Kd.freshB (kk_ BK362) k_ hk⟩) _ (nA_ _)) (Below.refl _ _) (nA_ _) (by simp) ?_;(case hd=>rfl);(case hg=>rfl);(case hr=>first | (go_simp;done) | (go_simp;rfl));(case hp=>exact (Reps.one (show Kd.FK (Kd.slice 3 (Kd.int .i64)) _ _ t363 [.slice Ao32 t363.length co32] from (Kd.FK_slice_mk (Kd.R_reads' (Kd.R_mono (ok':=(fun k_=>(w.heap.size≤k_)∧some k_≠(.slice (some ad366) x3_1.length co31:Value).ownBlock∧some k_≠(.slice (some ad361) t358.length co6:Value).ownBlock∧some k_≠(v371:Value).ownBlock∧k_≠gb362)) (Kd.R_types (Kd.R_apart' (Kd.R_apart' (Kd.R_apart' (HO_6.out) (Kd.N_typed HO_3.out) (by decide)) (Kd.N_typed HO_10.out) (by decide)) (Kd.N_typed HO372.out) (by decide)) BK362.out (by decide)) Z20.ay)).2.1 (Kd.R_F (Kd.R_mono (ok':=(fun k_=>(w.heap.size≤k_)∧some k_≠(.slice (some ad366) x3_1.length co31:Value).ownBlock∧some k_≠(.slice (some ad361) t358.length co6:Value).ownBlock∧some k_≠(v371:Value).ownBlock∧k_≠gb362)) (Kd.R_types (Kd.R_apart' (Kd.R_apart' (Kd.R_apart' (HO_6.out) (Kd.N_typed HO_3.out) (by decide)) (Kd.N_typed HO_10.out) (by decide)) (Kd.N_typed HO372.out) (by decide)) BK362.out (by decide)) Z20.ay)))) (Reps.none _ _)))
            intro v382 w38 ho39 hb hg_ hnew_
            clear hg_ hnew_
            (first | rw [← Ny381.out] at ho39 | (simp only [Int.reduceToNat] at ho39;rw [← Ny381.out] at ho39))
            replace HO_3:=A_ (Kd.N_elder' (by (with_reducible repeat (first | apply Kd.N_alloc | apply Kd.N_drewN | apply Kd.N_drew));exact HO_3.out) (Kd.N_base ho39) hb)
            replace HO_10:=A_ (Kd.N_elder' (by (with_reducible repeat (first | apply Kd.N_alloc | apply Kd.N_drewN | apply Kd.N_drew));exact HO_10.out) (Kd.N_base ho39) hb)
            replace HO_363000:=A_ (Kd.V_elder' (by (with_reducible repeat (first | apply Kd.V_alloc | apply Kd.V_drewN | apply Kd.V_drew));exact HO_363000.out) (Kd.N_base ho39) hb)
            replace HO_363001:=A_ (Kd.V_elder' (by (with_reducible repeat (first | apply Kd.V_alloc | apply Kd.V_drewN | apply Kd.V_drew));exact HO_363001.out) (Kd.N_base ho39) hb)
            replace HL366_0:=A_ (Kd.V_elder' (by (with_reducible repeat (first | apply Kd.V_alloc | apply Kd.V_drewN | apply Kd.V_drew));exact HL366_0.out) (Kd.N_base ho39) hb)
            replace HL368_0:=A_ (Kd.V_elder' (by (with_reducible repeat (first | apply Kd.V_alloc | apply Kd.V_drewN | apply Kd.V_drew));exact HL368_0.out) (Kd.N_base ho39) hb)
            replace HO377:=A_ (Kd.V_elder' (by (with_reducible repeat (first | apply Kd.V_alloc | apply Kd.V_drewN | apply Kd.V_drew));exact HO377.out) (Kd.N_base ho39) hb)
            replace HO391:=A_ (Kd.V_elder' (by (with_reducible repeat (first | apply Kd.V_alloc | apply Kd.V_drewN | apply Kd.V_drew));exact HO391.out) (Kd.N_base ho39) hb)
            replace HO372:=A_ (Kd.N_elder' (by (with_reducible repeat (first | apply Kd.N_alloc | apply Kd.N_drewN | apply Kd.N_drew));exact HO372.out) (Kd.N_base ho39) hb)
            have HO383:=A_ (Kd.N_lower ho39 (bF_ hB_))
            replace BK362:=bb_ BK362 hb
            replace HR361_0:=A_ (cD_ (by repeat (first | (with_reducible exact HR361_0.out) | (with_reducible refine cA_ ?_ _) | (with_reducible refine cB_ ?_ _) | (with_reducible refine cC_ ?_) | exact HR361_0.out)) hb)
            replace HR361_1:=A_ (cD_ (by repeat (first | (with_reducible exact HR361_1.out) | (with_reducible refine cA_ ?_ _) | (with_reducible refine cB_ ?_ _) | (with_reducible refine cC_ ?_) | exact HR361_1.out)) hb)
            replace HR366_0:=A_ (cD_ (by repeat (first | (with_reducible exact HR366_0.out) | (with_reducible refine cA_ ?_ _) | (with_reducible refine cB_ ?_ _) | (with_reducible refine cC_ ?_) | exact HR366_0.out)) hb)
            replace HR368_0:=A_ (cD_ (by repeat (first | (with_reducible exact HR368_0.out) | (with_reducible refine cA_ ?_ _) | (with_reducible refine cB_ ?_ _) | (with_reducible refine cC_ ?_) | exact HR368_0.out)) hb)
            replace HB:=b1_ hb
            clear HO_6
            clear hb ho39
            refine hK.out _ _ trivial (fun hHeld=>?_)
            clear hK K
            refine no_ (some 50) ?_
            refine on_ 4 (some 48) (bl_ 13 1919) HT_ (fun K hK=>?_)
            refine Kd.N_append_rows_step (Kd.slice 3 (Kd.int .i64)) (w0:=w) w.heap.size (by rfl) (.tmp 44) (.tmp 47) 22 27 (.slice none 0 0) 24 rfl Tryz.underlying22 info27 rfl (by decide) (by omega) v371 y370 y373 _ _ _ (fun k_=>(w.heap.size≤k_)∧some k_≠(.slice (some ad361) t358.length co6:Value).ownBlock∧some k_≠(v382:Value).ownBlock∧k_≠gb362) (fun k_=>((fun k_=>(w.heap.size≤k_)∧some k_≠(.slice (some ad361) t358.length co6:Value).ownBlock∧some k_≠(v382:Value).ownBlock∧k_≠gb362)) k_∧some k_≠(v371:Value).ownBlock) rfl rfl ?aO ?aR (fun _ hk=>hk) ?aF ?aB ?aS ?aL ?_
            (case aR=>exact (by skip;exact Kd.V_F (Kd.V_mono (ok':=(fun k_=>((fun k_=>(w.heap.size≤k_)∧some k_≠(.slice (some ad361) t358.length co6:Value).ownBlock∧some k_≠(v382:Value).ownBlock∧k_≠gb362)) k_∧some k_≠(v371:Value).ownBlock)) (HO377.out) Z20.ay)))
            (case aB=>exact hB_)
            (case aF=>exact (fun k_ hk=>⟨(Nat.le_trans (bF_ hB_) hk),Kd.fresh' (Kd.N_lt (by (with_reducible repeat (first | apply Kd.N_alloc | apply Kd.N_drewN | apply Kd.N_drew));exact HO_10.out)) k_ hk,Kd.fresh' (Kd.N_lt (by (with_reducible repeat (first | apply Kd.N_alloc | apply Kd.N_drewN | apply Kd.N_drew));exact HO383.out)) k_ hk,Kd.freshB (kk_ BK362) k_ hk⟩))
            (case aO=>exact (by (with_reducible repeat (first | apply Kd.N_alloc | apply Kd.N_drewN | apply Kd.N_drew));exact Kd.N_mono HO372.out Z20.ay))
            (case aS=>exact (bF_ hB_))
            (case aL=>have:=LMc26.out;omega)
            intro v379 w40 ho hb hg hat
            rw [← Ny378.out] at ho
            replace HO_3:=A_ (Kd.N_afterv (ok:=(fun k_=>(w.heap.size≤k_)∧some k_≠(.slice (some ad361) t358.length co6:Value).ownBlock∧some k_≠(v382:Value).ownBlock∧k_≠gb362)) (by (with_reducible repeat (first | apply Kd.N_alloc | apply Kd.N_drewN | apply Kd.N_drew));exact Kd.N_mono HO_3.out Z20.ay) hg hat)
            replace HO_10:=A_ (Kd.N_afterv (ok:=(fun k_=>(w.heap.size≤k_)∧some k_≠(.slice (some ad366) x3_1.length co31:Value).ownBlock∧some k_≠(v382:Value).ownBlock∧k_≠gb362)) (by (with_reducible repeat (first | apply Kd.N_alloc | apply Kd.N_drewN | apply Kd.N_drew));exact Kd.N_mono HO_10.out Z20.ay) hg hat)
            replace HO_363000:=A_ (Kd.V_afterv (ok:=(fun k_=>(w.heap.size≤k_)∧some k_≠(.slice (some ad366) x3_1.length co31:Value).ownBlock∧some k_≠(.slice (some ad361) t358.length co6:Value).ownBlock∧some k_≠(v382:Value).ownBlock∧k_≠gb362)) (by (with_reducible repeat (first | apply Kd.V_alloc | apply Kd.V_drewN | apply Kd.V_drew));exact Kd.V_mono HO_363000.out Z20.ay) hg hat)
            replace HO_363001:=A_ (Kd.V_afterv (ok:=(fun k_=>(w.heap.size≤k_)∧some k_≠(.slice (some ad366) x3_1.length co31:Value).ownBlock∧some k_≠(.slice (some ad361) t358.length co6:Value).ownBlock∧some k_≠(v382:Value).ownBlock∧k_≠gb362)) (by (with_reducible repeat (first | apply Kd.V_alloc | apply Kd.V_drewN | apply Kd.V_drew));exact Kd.V_mono HO_363001.out Z20.ay) hg hat)
            replace BK362:=A_ (blk_grown (kk_ BK362) hg (Kd.N_ne HO372.out BK362.out (by decide)))
            replace HL366_0:=A_ (Kd.V_afterv (ok:=(fun k_=>(w.heap.size≤k_)∧some k_≠(.slice (some ad366) x3_1.length co31:Value).ownBlock∧some k_≠(.slice (some ad361) t358.length co6:Value).ownBlock∧some k_≠(v382:Value).ownBlock∧k_≠gb362)) (by (with_reducible repeat (first | apply Kd.V_alloc | apply Kd.V_drewN | apply Kd.V_drew));exact Kd.V_mono HL366_0.out Z20.ay) hg hat)
            replace HL368_0:=A_ (Kd.V_afterv (ok:=(fun k_=>(w.heap.size≤k_)∧some k_≠(.slice (some ad366) x3_1.length co31:Value).ownBlock∧some k_≠(.slice (some ad361) t358.length co6:Value).ownBlock∧some k_≠(v382:Value).ownBlock∧k_≠gb362)) (by (with_reducible repeat (first | apply Kd.V_alloc | apply Kd.V_drewN | apply Kd.V_drew));exact Kd.V_mono HL368_0.out Z20.ay) hg hat)
            replace HO377:=A_ (Kd.V_afterv (ok:=(fun k_=>(w.heap.size≤k_)∧some k_≠(.slice (some ad361) t358.length co6:Value).ownBlock∧some k_≠(v382:Value).ownBlock∧k_≠gb362)) (by (with_reducible repeat (first | apply Kd.V_alloc | apply Kd.V_drewN | apply Kd.V_drew));exact Kd.V_mono HO377.out Z20.ay) hg hat)
            replace HO391:=A_ (Kd.V_afterv (ok:=(fun k_=>(w.heap.size≤k_)∧some k_≠(.slice (some ad361) t358.length co6:Value).ownBlock∧some k_≠(v382:Value).ownBlock∧k_≠gb362)) (by (with_reducible repeat (first | apply Kd.V_alloc | apply Kd.V_drewN | apply Kd.V_drew));exact Kd.V_mono HO391.out Z20.ay) hg hat)
            replace HO383:=A_ (Kd.N_afterv (ok:=(fun k_=>(w.heap.size≤k_)∧some k_≠(.slice (some ad366) x3_1.length co31:Value).ownBlock∧some k_≠(.slice (some ad361) t358.length co6:Value).ownBlock∧k_≠gb362)) (by (with_reducible repeat (first | apply Kd.N_alloc | apply Kd.N_drewN | apply Kd.N_drew));exact Kd.N_mono HO383.out Z20.ay) hg hat)
            replace HB:=A_ hb
            have HO380:=A_ ho
            clear HO372
            clear ho hb hg hat
            refine hK.out _ _ trivial (fun hHeld=>?_)
            clear hK K
            refine no_ (some 48) ?_
            exact norm_ (by simp only [putAll,Act.put,sA_,sB_,sC_]) (hCont (v371,v379,v382) _ ⟨(by (with_reducible repeat (first | apply Kd.V_alloc | apply Kd.V_drewN | apply Kd.V_drew));exact Kd.V_mono HL366_0.out Z20.ay),(by (with_reducible repeat (first | apply Kd.V_alloc | apply Kd.V_drewN | apply Kd.V_drew));exact Kd.V_mono HL368_0.out Z20.ay),(by (with_reducible repeat (first | apply Kd.V_alloc | apply Kd.V_drewN | apply Kd.V_drew));exact Kd.V_mono HO377.out Z20.ay),(by (with_reducible repeat (first | apply Kd.N_alloc | apply Kd.N_drewN | apply Kd.N_drew));exact Kd.N_mono HO380.out Z20.ay),(by (with_reducible repeat (first | apply Kd.N_alloc | apply Kd.N_drewN | apply Kd.N_drew));exact Kd.N_mono HO383.out Z20.ay),(by (with_reducible repeat (first | apply Kd.V_alloc | apply Kd.V_drewN | apply Kd.V_drew));exact Kd.V_mono HO391.out Z20.ay),(by (with_reducible repeat (first | apply Kd.N_alloc | apply Kd.N_drewN | apply Kd.N_drew));exact Kd.N_mono HO_10.out Z20.ay),(by (with_reducible repeat (first | apply Kd.N_alloc | apply Kd.N_drewN | apply Kd.N_drew));exact Kd.N_mono HO_3.out Z20.ay),(by (with_reducible repeat (first | apply Kd.V_alloc | apply Kd.V_drewN | apply Kd.V_drew));exact Kd.V_mono HO_363000.out Z20.ay),(by (with_reducible repeat (first | apply Kd.V_alloc | apply Kd.V_drewN | apply Kd.V_drew));exact Kd.V_mono HO_363001.out Z20.ay),(kk_ BK362),hB_⟩)
          ·skip
           obtain ⟨Ao32,co32,eo32⟩:=Kd.R_slice HO_6.out
           (first | subst eo32 | (injection eo32 with f1_ f2_ f3_;have f4_:=f1_.symm;have f5_:=f3_.symm;clear f1_ f2_ f3_;subst f4_;subst f5_))
           refine Kd.N_lit_step (Kd.slice 3 (Kd.int .i64)) _ 27 ?hg (N':=50) ?hd (xs:=([t363]:List (List Int))) (inner:=[.slice Ao32 t363.length co32]) (ok:=(fun k_=>(w.heap.size≤k_)∧some k_≠(.slice (some ad366) x3_1.length co31:Value).ownBlock∧some k_≠(.slice (some ad361) t358.length co6:Value).ownBlock∧k_≠gb362)) (okp:=(fun k_=>(w.heap.size≤k_)∧some k_≠(.slice (some ad366) x3_1.length co31:Value).ownBlock∧some k_≠(.slice (some ad361) t358.length co6:Value).ownBlock∧k_≠gb362)) ?hr ?hp (fun _ hk=>hk) ((show ∀ k_,w33.heap.size≤k_→(fun k_=>(w.heap.size≤k_)∧some k_≠(.slice (some ad366) x3_1.length co31:Value).ownBlock∧some k_≠(.slice (some ad361) t358.length co6:Value).ownBlock∧k_≠gb362) k_ from fun k_ hk=>⟨(Nat.le_trans (bF_ hB_) hk),Kd.fresh' (Kd.N_lt (by (with_reducible repeat (first | apply Kd.N_alloc | apply Kd.N_drewN | apply Kd.N_drew));exact HO_3.out)) k_ hk,Kd.fresh' (Kd.N_lt (by (with_reducible repeat (first | apply Kd.N_alloc | apply Kd.N_drewN | apply Kd.N_drew));exact HO_10.out)) k_ hk,Kd.freshB (kk_ BK362) k_ hk⟩) _ (nA_ _)) (Below.refl _ _) (nA_ _) (by simp) ?_;(case hd=>rfl);(case hg=>rfl);(case hr=>first | (go_simp;done) | (go_simp;rfl));(case hp=>exact (Reps.one (show Kd.FK (Kd.slice 3 (Kd.int .i64)) _ _ t363 [.slice Ao32 t363.length co32] from (Kd.FK_slice_mk (Kd.R_reads' (Kd.R_mono (ok':=(fun k_=>(w.heap.size≤k_)∧some k_≠(.slice (some ad366) x3_1.length co31:Value).ownBlock∧some k_≠(.slice (some ad361) t358.length co6:Value).ownBlock∧k_≠gb362)) (Kd.R_types (Kd.R_apart' (Kd.R_apart' (HO_6.out) (Kd.N_typed HO_3.out) (by decide)) (Kd.N_typed HO_10.out) (by decide)) BK362.out (by decide)) Z20.ay)).2.1 (Kd.R_F (Kd.R_mono (ok':=(fun k_=>(w.heap.size≤k_)∧some k_≠(.slice (some ad366) x3_1.length co31:Value).ownBlock∧some k_≠(.slice (some ad361) t358.length co6:Value).ownBlock∧k_≠gb362)) (Kd.R_types (Kd.R_apart' (Kd.R_apart' (HO_6.out) (Kd.N_typed HO_3.out) (by decide)) (Kd.N_typed HO_10.out) (by decide)) BK362.out (by decide)) Z20.ay)))) (Reps.none _ _)))
           intro v382 w36 ho37 hb hg_ hnew_
           clear hg_ hnew_
           (first | rw [← Ny381.out] at ho37 | (simp only [Int.reduceToNat] at ho37;rw [← Ny381.out] at ho37))
           replace HO_3:=A_ (Kd.N_elder' (by (with_reducible repeat (first | apply Kd.N_alloc | apply Kd.N_drewN | apply Kd.N_drew));exact HO_3.out) (Kd.N_base ho37) hb)
           replace HO_10:=A_ (Kd.N_elder' (by (with_reducible repeat (first | apply Kd.N_alloc | apply Kd.N_drewN | apply Kd.N_drew));exact HO_10.out) (Kd.N_base ho37) hb)
           replace HO_363000:=A_ (Kd.V_elder' (by (with_reducible repeat (first | apply Kd.V_alloc | apply Kd.V_drewN | apply Kd.V_drew));exact HO_363000.out) (Kd.N_base ho37) hb)
           replace HO_363001:=A_ (Kd.V_elder' (by (with_reducible repeat (first | apply Kd.V_alloc | apply Kd.V_drewN | apply Kd.V_drew));exact HO_363001.out) (Kd.N_base ho37) hb)
           replace HL366_0:=A_ (Kd.V_elder' (by (with_reducible repeat (first | apply Kd.V_alloc | apply Kd.V_drewN | apply Kd.V_drew));exact HL366_0.out) (Kd.N_base ho37) hb)
           replace HL368_0:=A_ (Kd.V_elder' (by (with_reducible repeat (first | apply Kd.V_alloc | apply Kd.V_drewN | apply Kd.V_drew));exact HL368_0.out) (Kd.N_base ho37) hb)
           replace HO377:=A_ (Kd.V_elder' (by (with_reducible repeat (first | apply Kd.V_alloc | apply Kd.V_drewN | apply Kd.V_drew));exact HO377.out) (Kd.N_base ho37) hb)
           replace HO391:=A_ (Kd.V_elder' (by (with_reducible repeat (first | apply Kd.V_alloc | apply Kd.V_drewN | apply Kd.V_drew));exact HO391.out) (Kd.N_base ho37) hb)
           have HO383:=A_ (Kd.N_lower ho37 (bF_ hB_))
           replace BK362:=bb_ BK362 hb
           replace HR361_0:=A_ (cD_ (by repeat (first | (with_reducible exact HR361_0.out) | (with_reducible refine cA_ ?_ _) | (with_reducible refine cB_ ?_ _) | (with_reducible refine cC_ ?_) | exact HR361_0.out)) hb)
           replace HR361_1:=A_ (cD_ (by repeat (first | (with_reducible exact HR361_1.out) | (with_reducible refine cA_ ?_ _) | (with_reducible refine cB_ ?_ _) | (with_reducible refine cC_ ?_) | exact HR361_1.out)) hb)
           replace HR366_0:=A_ (cD_ (by repeat (first | (with_reducible exact HR366_0.out) | (with_reducible refine cA_ ?_ _) | (with_reducible refine cB_ ?_ _) | (with_reducible refine cC_ ?_) | exact HR366_0.out)) hb)
           replace HR368_0:=A_ (cD_ (by repeat (first | (with_reducible exact HR368_0.out) | (with_reducible refine cA_ ?_ _) | (with_reducible refine cB_ ?_ _) | (with_reducible refine cC_ ?_) | exact HR368_0.out)) hb)
           replace HB:=b1_ hb
           clear HO_6
           clear hb ho37
           refine hK.out _ _ trivial (fun hHeld=>?_)
           clear hK K
           refine no_ (some 50) ?_
           refine on_ 0 (some 44) (bl_ 13 1903) HT_ (fun K hK=>?_)
           refine Kd.N_lit_step (Kd.slice 3 (Kd.int .i64)) _ 27 ?hg (N':=44) ?hd (xs:=([]:List (List Int))) (inner:=[]) (ok:=(fun k_=>(w.heap.size≤k_)∧some k_≠(.slice (some ad366) x3_1.length co31:Value).ownBlock∧some k_≠(.slice (some ad361) t358.length co6:Value).ownBlock∧some k_≠(v382:Value).ownBlock∧k_≠gb362)) (okp:=(fun k_=>(w.heap.size≤k_)∧some k_≠(.slice (some ad366) x3_1.length co31:Value).ownBlock∧some k_≠(.slice (some ad361) t358.length co6:Value).ownBlock∧some k_≠(v382:Value).ownBlock∧k_≠gb362)) ?hr ?hp (fun _ hk=>hk) ((show ∀ k_,w36.heap.size≤k_→(fun k_=>(w.heap.size≤k_)∧some k_≠(.slice (some ad366) x3_1.length co31:Value).ownBlock∧some k_≠(.slice (some ad361) t358.length co6:Value).ownBlock∧some k_≠(v382:Value).ownBlock∧k_≠gb362) k_ from fun k_ hk=>⟨(Nat.le_trans (bF_ hB_) hk),Kd.fresh' (Kd.N_lt (by (with_reducible repeat (first | apply Kd.N_alloc | apply Kd.N_drewN | apply Kd.N_drew));exact HO_3.out)) k_ hk,Kd.fresh' (Kd.N_lt (by (with_reducible repeat (first | apply Kd.N_alloc | apply Kd.N_drewN | apply Kd.N_drew));exact HO_10.out)) k_ hk,Kd.fresh' (Kd.N_lt (by (with_reducible repeat (first | apply Kd.N_alloc | apply Kd.N_drewN | apply Kd.N_drew));exact HO383.out)) k_ hk,Kd.freshB (kk_ BK362) k_ hk⟩) _ (nA_ _)) (Below.refl _ _) (nA_ _) (by simp) ?_;(case hd=>rfl);(case hg=>rfl);(case hr=>first | (go_simp;done) | (go_simp;rfl));(case hp=>exact (Reps.none _ _))
           intro v371 w38 ho39 hb hg_ hnew_
           clear hg_ hnew_
           (first | rw [← Ny370.out] at ho39 | (simp only [Int.reduceToNat] at ho39;rw [← Ny370.out] at ho39))
           replace HO_3:=A_ (Kd.N_elder' (by (with_reducible repeat (first | apply Kd.N_alloc | apply Kd.N_drewN | apply Kd.N_drew));exact HO_3.out) (Kd.N_base ho39) hb)
           replace HO_10:=A_ (Kd.N_elder' (by (with_reducible repeat (first | apply Kd.N_alloc | apply Kd.N_drewN | apply Kd.N_drew));exact HO_10.out) (Kd.N_base ho39) hb)
           replace HO_363000:=A_ (Kd.V_elder' (by (with_reducible repeat (first | apply Kd.V_alloc | apply Kd.V_drewN | apply Kd.V_drew));exact HO_363000.out) (Kd.N_base ho39) hb)
           replace HO_363001:=A_ (Kd.V_elder' (by (with_reducible repeat (first | apply Kd.V_alloc | apply Kd.V_drewN | apply Kd.V_drew));exact HO_363001.out) (Kd.N_base ho39) hb)
           replace HL366_0:=A_ (Kd.V_elder' (by (with_reducible repeat (first | apply Kd.V_alloc | apply Kd.V_drewN | apply Kd.V_drew));exact HL366_0.out) (Kd.N_base ho39) hb)
           replace HL368_0:=A_ (Kd.V_elder' (by (with_reducible repeat (first | apply Kd.V_alloc | apply Kd.V_drewN | apply Kd.V_drew));exact HL368_0.out) (Kd.N_base ho39) hb)
           replace HO377:=A_ (Kd.V_elder' (by (with_reducible repeat (first | apply Kd.V_alloc | apply Kd.V_drewN | apply Kd.V_drew));exact HO377.out) (Kd.N_base ho39) hb)
           replace HO391:=A_ (Kd.V_elder' (by (with_reducible repeat (first | apply Kd.V_alloc | apply Kd.V_drewN | apply Kd.V_drew));exact HO391.out) (Kd.N_base ho39) hb)
           replace HO383:=A_ (Kd.N_elder' (by (with_reducible repeat (first | apply Kd.N_alloc | apply Kd.N_drewN | apply Kd.N_drew));exact HO383.out) (Kd.N_base ho39) hb)
           have HO372:=A_ (Kd.N_lower ho39 (bF_ hB_))
           replace BK362:=bb_ BK362 hb
           replace HR361_0:=A_ (cD_ (by repeat (first | (with_reducible exact HR361_0.out) | (with_reducible refine cA_ ?_ _) | (with_reducible refine cB_ ?_ _) | (with_reducible refine cC_ ?_) | exact HR361_0.out)) hb)
           replace HR361_1:=A_ (cD_ (by repeat (first | (with_reducible exact HR361_1.out) | (with_reducible refine cA_ ?_ _) | (with_reducible refine cB_ ?_ _) | (with_reducible refine cC_ ?_) | exact HR361_1.out)) hb)
           replace HR366_0:=A_ (cD_ (by repeat (first | (with_reducible exact HR366_0.out) | (with_reducible refine cA_ ?_ _) | (with_reducible refine cB_ ?_ _) | (with_reducible refine cC_ ?_) | exact HR366_0.out)) hb)
           replace HR368_0:=A_ (cD_ (by repeat (first | (with_reducible exact HR368_0.out) | (with_reducible refine cA_ ?_ _) | (with_reducible refine cB_ ?_ _) | (with_reducible refine cC_ ?_) | exact HR368_0.out)) hb)
           replace HB:=b1_ hb
           clear hb ho39
           refine hK.out _ _ trivial (fun hHeld=>?_)
           clear hK K
           refine no_ (some 44) ?_
           refine on_ 4 (some 48) (bl_ 13 1919) HT_ (fun K hK=>?_)
           refine Kd.N_append_rows_step (Kd.slice 3 (Kd.int .i64)) (w0:=w) w.heap.size (by rfl) (.tmp 44) (.tmp 47) 22 27 (.slice none 0 0) 24 rfl Tryz.underlying22 info27 rfl (by decide) (by omega) v371 y370 y373 _ _ _ (fun k_=>(w.heap.size≤k_)∧some k_≠(.slice (some ad361) t358.length co6:Value).ownBlock∧some k_≠(v382:Value).ownBlock∧k_≠gb362) (fun k_=>((fun k_=>(w.heap.size≤k_)∧some k_≠(.slice (some ad361) t358.length co6:Value).ownBlock∧some k_≠(v382:Value).ownBlock∧k_≠gb362)) k_∧some k_≠(v371:Value).ownBlock) rfl rfl ?aO ?aR (fun _ hk=>hk) ?aF ?aB ?aS ?aL ?_
           (case aR=>exact (by skip;exact Kd.V_F (Kd.V_mono (ok':=(fun k_=>((fun k_=>(w.heap.size≤k_)∧some k_≠(.slice (some ad361) t358.length co6:Value).ownBlock∧some k_≠(v382:Value).ownBlock∧k_≠gb362)) k_∧some k_≠(v371:Value).ownBlock)) (HO377.out) Z20.ay)))
           (case aB=>exact hB_)
           (case aF=>exact (fun k_ hk=>⟨(Nat.le_trans (bF_ hB_) hk),Kd.fresh' (Kd.N_lt (by (with_reducible repeat (first | apply Kd.N_alloc | apply Kd.N_drewN | apply Kd.N_drew));exact HO_10.out)) k_ hk,Kd.fresh' (Kd.N_lt (by (with_reducible repeat (first | apply Kd.N_alloc | apply Kd.N_drewN | apply Kd.N_drew));exact HO383.out)) k_ hk,Kd.freshB (kk_ BK362) k_ hk⟩))
           (case aO=>exact (by (with_reducible repeat (first | apply Kd.N_alloc | apply Kd.N_drewN | apply Kd.N_drew));exact Kd.N_mono HO372.out Z20.ay))
           (case aS=>exact (bF_ hB_))
           (case aL=>have:=LMc26.out;omega)
           intro v379 w40 ho hb hg hat
           rw [← Ny378.out] at ho
           replace HO_3:=A_ (Kd.N_afterv (ok:=(fun k_=>(w.heap.size≤k_)∧some k_≠(.slice (some ad361) t358.length co6:Value).ownBlock∧some k_≠(v382:Value).ownBlock∧k_≠gb362)) (by (with_reducible repeat (first | apply Kd.N_alloc | apply Kd.N_drewN | apply Kd.N_drew));exact Kd.N_mono HO_3.out Z20.ay) hg hat)
           replace HO_10:=A_ (Kd.N_afterv (ok:=(fun k_=>(w.heap.size≤k_)∧some k_≠(.slice (some ad366) x3_1.length co31:Value).ownBlock∧some k_≠(v382:Value).ownBlock∧k_≠gb362)) (by (with_reducible repeat (first | apply Kd.N_alloc | apply Kd.N_drewN | apply Kd.N_drew));exact Kd.N_mono HO_10.out Z20.ay) hg hat)
           replace HO_363000:=A_ (Kd.V_afterv (ok:=(fun k_=>(w.heap.size≤k_)∧some k_≠(.slice (some ad366) x3_1.length co31:Value).ownBlock∧some k_≠(.slice (some ad361) t358.length co6:Value).ownBlock∧some k_≠(v382:Value).ownBlock∧k_≠gb362)) (by (with_reducible repeat (first | apply Kd.V_alloc | apply Kd.V_drewN | apply Kd.V_drew));exact Kd.V_mono HO_363000.out Z20.ay) hg hat)
           replace HO_363001:=A_ (Kd.V_afterv (ok:=(fun k_=>(w.heap.size≤k_)∧some k_≠(.slice (some ad366) x3_1.length co31:Value).ownBlock∧some k_≠(.slice (some ad361) t358.length co6:Value).ownBlock∧some k_≠(v382:Value).ownBlock∧k_≠gb362)) (by (with_reducible repeat (first | apply Kd.V_alloc | apply Kd.V_drewN | apply Kd.V_drew));exact Kd.V_mono HO_363001.out Z20.ay) hg hat)
           replace BK362:=A_ (blk_grown (kk_ BK362) hg (Kd.N_ne HO372.out BK362.out (by decide)))
           replace HL366_0:=A_ (Kd.V_afterv (ok:=(fun k_=>(w.heap.size≤k_)∧some k_≠(.slice (some ad366) x3_1.length co31:Value).ownBlock∧some k_≠(.slice (some ad361) t358.length co6:Value).ownBlock∧some k_≠(v382:Value).ownBlock∧k_≠gb362)) (by (with_reducible repeat (first | apply Kd.V_alloc | apply Kd.V_drewN | apply Kd.V_drew));exact Kd.V_mono HL366_0.out Z20.ay) hg hat)
           replace HL368_0:=A_ (Kd.V_afterv (ok:=(fun k_=>(w.heap.size≤k_)∧some k_≠(.slice (some ad366) x3_1.length co31:Value).ownBlock∧some k_≠(.slice (some ad361) t358.length co6:Value).ownBlock∧some k_≠(v382:Value).ownBlock∧k_≠gb362)) (by (with_reducible repeat (first | apply Kd.V_alloc | apply Kd.V_drewN | apply Kd.V_drew));exact Kd.V_mono HL368_0.out Z20.ay) hg hat)
           replace HO377:=A_ (Kd.V_afterv (ok:=(fun k_=>(w.heap.size≤k_)∧some k_≠(.slice (some ad361) t358.length co6:Value).ownBlock∧some k_≠(v382:Value).ownBlock∧k_≠gb362)) (by (with_reducible repeat (first | apply Kd.V_alloc | apply Kd.V_drewN | apply Kd.V_drew));exact Kd.V_mono HO377.out Z20.ay) hg hat)
           replace HO391:=A_ (Kd.V_afterv (ok:=(fun k_=>(w.heap.size≤k_)∧some k_≠(.slice (some ad361) t358.length co6:Value).ownBlock∧some k_≠(v382:Value).ownBlock∧k_≠gb362)) (by (with_reducible repeat (first | apply Kd.V_alloc | apply Kd.V_drewN | apply Kd.V_drew));exact Kd.V_mono HO391.out Z20.ay) hg hat)
           replace HO383:=A_ (Kd.N_afterv (ok:=(fun k_=>(w.heap.size≤k_)∧some k_≠(.slice (some ad366) x3_1.length co31:Value).ownBlock∧some k_≠(.slice (some ad361) t358.length co6:Value).ownBlock∧k_≠gb362)) (by (with_reducible repeat (first | apply Kd.N_alloc | apply Kd.N_drewN | apply Kd.N_drew));exact Kd.N_mono HO383.out Z20.ay) hg hat)
           replace HB:=A_ hb
           have HO380:=A_ ho
           clear HO372
           clear ho hb hg hat
           refine hK.out _ _ trivial (fun hHeld=>?_)
           clear hK K
           refine no_ (some 48) ?_
           exact norm_ (by simp only [putAll,Act.put,sA_,sB_,sC_]) (hCont (v371,v379,v382) _ ⟨(by (with_reducible repeat (first | apply Kd.V_alloc | apply Kd.V_drewN | apply Kd.V_drew));exact Kd.V_mono HL366_0.out Z20.ay),(by (with_reducible repeat (first | apply Kd.V_alloc | apply Kd.V_drewN | apply Kd.V_drew));exact Kd.V_mono HL368_0.out Z20.ay),(by (with_reducible repeat (first | apply Kd.V_alloc | apply Kd.V_drewN | apply Kd.V_drew));exact Kd.V_mono HO377.out Z20.ay),(by (with_reducible repeat (first | apply Kd.N_alloc | apply Kd.N_drewN | apply Kd.N_drew));exact Kd.N_mono HO380.out Z20.ay),(by (with_reducible repeat (first | apply Kd.N_alloc | apply Kd.N_drewN | apply Kd.N_drew));exact Kd.N_mono HO383.out Z20.ay),(by (with_reducible repeat (first | apply Kd.V_alloc | apply Kd.V_drewN | apply Kd.V_drew));exact Kd.V_mono HO391.out Z20.ay),(by (with_reducible repeat (first | apply Kd.N_alloc | apply Kd.N_drewN | apply Kd.N_drew));exact Kd.N_mono HO_10.out Z20.ay),(by (with_reducible repeat (first | apply Kd.N_alloc | apply Kd.N_drewN | apply Kd.N_drew));exact Kd.N_mono HO_3.out Z20.ay),(by (with_reducible repeat (first | apply Kd.V_alloc | apply Kd.V_drewN | apply Kd.V_drew));exact Kd.V_mono HO_363000.out Z20.ay),(by (with_reducible repeat (first | apply Kd.V_alloc | apply Kd.V_drewN | apply Kd.V_drew));exact Kd.V_mono HO_363001.out Z20.ay),(kk_ BK362),hB_⟩)
         rintro ⟨v371,v379,v382⟩ w41 ⟨h0_,h1_,h2_,h3_,h4_,h5_,h6_,h7_,h8_,h9_,h10_,h11_⟩
         have n0_:Aside0 (Kd.V (Kd.int .i64) 3 w41 w.heap.size (fun k_=>(w.heap.size≤k_)∧some k_≠(v379:Value).ownBlock∧some k_≠(v382:Value).ownBlock∧some k_≠(.slice (some ad361) t358.length co6:Value).ownBlock∧some k_≠(.slice (some ad366) x3_1.length co31:Value).ownBlock∧k_≠gb362) (.slice A366_0 (rd_L1 x3_1 x7_2).length c366_0) (rd_L1 x3_1 x7_2)):=⟨h0_⟩
         have n1_:Aside0 (Kd.V (Kd.int .i64) 3 w41 w.heap.size (fun k_=>(w.heap.size≤k_)∧some k_≠(v379:Value).ownBlock∧some k_≠(v382:Value).ownBlock∧some k_≠(.slice (some ad361) t358.length co6:Value).ownBlock∧some k_≠(.slice (some ad366) x3_1.length co31:Value).ownBlock∧k_≠gb362) (.slice A366_0 (rd_L1 x3_1 x7_2).length c366_0) (rd_L1 x3_1 x7_2)):=⟨h1_⟩
         have n2_:Aside0 (Kd.V (Kd.slice 3 (Kd.int .i64)) 27 w41 w.heap.size (fun k_=>(w.heap.size≤k_)∧some k_≠(v379:Value).ownBlock∧some k_≠(v382:Value).ownBlock∧some k_≠(.slice (some ad361) t358.length co6:Value).ownBlock∧k_≠gb362) (.slice (some ad366) y373.length co31) y373):=⟨h2_⟩
         have n3_:Aside0 (Kd.N (Kd.slice 3 (Kd.int .i64)) 27 w41 w.heap.size (fun k_=>(w.heap.size≤k_)∧some k_≠(v382:Value).ownBlock∧some k_≠(.slice (some ad361) t358.length co6:Value).ownBlock∧k_≠gb362) v379 y378):=⟨h3_⟩
         have n4_:Aside0 (Kd.N (Kd.slice 3 (Kd.int .i64)) 27 w41 w.heap.size (fun k_=>(w.heap.size≤k_)∧some k_≠(v379:Value).ownBlock∧some k_≠(.slice (some ad361) t358.length co6:Value).ownBlock∧some k_≠(.slice (some ad366) x3_1.length co31:Value).ownBlock∧k_≠gb362) v382 y381):=⟨h4_⟩
         have n5_:Aside0 (Kd.V (Kd.slice 3 (Kd.int .i64)) 27 w41 w.heap.size (fun k_=>(w.heap.size≤k_)∧some k_≠(v379:Value).ownBlock∧some k_≠(v382:Value).ownBlock∧some k_≠(.slice (some ad361) t358.length co6:Value).ownBlock∧k_≠gb362) (.slice A35 y387.length c35) y387):=⟨h5_⟩
         have n6_:Aside0 (Kd.N k38 38 w41 w.heap.size (fun k_=>(w.heap.size≤k_)∧some k_≠(v379:Value).ownBlock∧some k_≠(v382:Value).ownBlock∧some k_≠(.slice (some ad366) x3_1.length co31:Value).ownBlock∧k_≠gb362) (.slice (some ad361) t358.length co6) t358):=⟨h6_⟩
         have n7_:Aside0 (Kd.N (Kd.slice 3 (Kd.int .i64)) 27 w41 w.heap.size (fun k_=>(w.heap.size≤k_)∧some k_≠(v379:Value).ownBlock∧some k_≠(v382:Value).ownBlock∧some k_≠(.slice (some ad361) t358.length co6:Value).ownBlock∧k_≠gb362) (.slice (some ad366) x3_1.length co31) x3_1):=⟨h7_⟩
         have n8_:Aside0 (Kd.V (Kd.int .i64) 3 w41 w.heap.size (fun k_=>(w.heap.size≤k_)∧some k_≠(v379:Value).ownBlock∧some k_≠(v382:Value).ownBlock∧some k_≠(.slice (some ad361) t358.length co6:Value).ownBlock∧some k_≠(.slice (some ad366) x3_1.length co31:Value).ownBlock∧k_≠gb362) (.slice A361_0 ((rd_T38 t358 x12_1).f0).length c361_0) ((rd_T38 t358 x12_1).f0)):=⟨h8_⟩
         have n9_:Aside0 (Kd.V (Kd.int .i64) 3 w41 w.heap.size (fun k_=>(w.heap.size≤k_)∧some k_≠(v379:Value).ownBlock∧some k_≠(v382:Value).ownBlock∧some k_≠(.slice (some ad361) t358.length co6:Value).ownBlock∧some k_≠(.slice (some ad366) x3_1.length co31:Value).ownBlock∧k_≠gb362) (.slice A361_1 ((rd_T38 t358 x12_1).f1).length c361_1) ((rd_T38 t358 x12_1).f1)):=⟨h9_⟩
         have n10_:Aside0 (w41.heap[gb362]? = some (.cells #[.slice A361_0 ((rd_T38 t358 x12_1).f0).length c361_0,.slice A361_1 ((rd_T38 t358 x12_1).f1).length c361_1] 38 (0,0))):=⟨h10_⟩
         have n11_:Aside0 (Below w.heap.size w w41):=⟨h11_⟩
         clear HO_3
         clear HO_6
         clear HO_10
         clear HO_363000
         clear HO_363001
         clear HL366_0
         clear HL368_0
         clear BK362
         clear HR361_0
         clear HR361_1
         clear HR366_0
         clear HR368_0
         clear HB
         clear h0_ h1_ h2_ h3_ h4_ h5_ h6_ h7_ h8_ h9_ h10_ h11_
         have HL366_0:=n0_
         have HL368_0:=n1_
         have HO377:=n2_
         have HO380:=n3_
         have HO383:=n4_
         have HO391:=n5_
         have HO_10:=n6_
         have HO_3:=n7_
         have HO_363000:=n8_
         have HO_363001:=n9_
         have BK362:=n10_
         have HB:=n11_
         clear n0_ n1_ n2_ n3_ n4_ n5_ n6_ n7_ n8_ n9_ n10_ n11_
         have hHeld:=trivial
         obtain ⟨Ao43,co43,eo43⟩:=Kd.N_slice HO383.out
         (first | subst eo43 | (injection eo43 with f1_ f2_ f3_;have f4_:=f1_.symm;have f5_:=f3_.symm;clear f1_ f2_ f3_;subst f4_;subst f5_))
         refine norm_ (a':=?_) ?_ ?_
         rotate_left
         ·simp only [putAll,Act.put,sA_,sB_,sC_]
          rfl
         refine on_ 7 (some 51) (bl_ 13 2047) HT_ (fun K hK=>?_)
         refine Kd.N_append_rows_step (Kd.slice 3 (Kd.int .i64)) (w0:=w) w.heap.size (by rfl) (.tmp 48) (.tmp 50) 22 27 (.slice none 0 0) 24 rfl Tryz.underlying22 info27 rfl (by decide) (by omega) v379 y378 y381 _ _ _ (fun k_=>(w.heap.size≤k_)∧some k_≠(.slice (some ad361) t358.length co6:Value).ownBlock∧k_≠gb362) (fun k_=>((fun k_=>(w.heap.size≤k_)∧some k_≠(.slice (some ad361) t358.length co6:Value).ownBlock∧k_≠gb362)) k_∧some k_≠(v379:Value).ownBlock) rfl rfl ?aO ?aR (fun _ hk=>hk) ?aF ?aB ?aS ?aL ?_
         (case aR=>exact (by skip;exact Kd.N_F (Kd.N_mono (ok':=(fun k_=>((fun k_=>(w.heap.size≤k_)∧some k_≠(.slice (some ad361) t358.length co6:Value).ownBlock∧k_≠gb362)) k_∧some k_≠(v379:Value).ownBlock)) (HO383.out) Z20.ay)))
         (case aB=>exact hB_)
         (case aF=>exact (fun k_ hk=>⟨(Nat.le_trans (bF_ hB_) hk),Kd.fresh' (Kd.N_lt (by (with_reducible repeat (first | apply Kd.N_alloc | apply Kd.N_drewN | apply Kd.N_drew));exact HO_10.out)) k_ hk,Kd.freshB (kk_ BK362) k_ hk⟩))
         (case aO=>exact (by (with_reducible repeat (first | apply Kd.N_alloc | apply Kd.N_drewN | apply Kd.N_drew));exact Kd.N_mono HO380.out Z20.ay))
         (case aS=>exact (bF_ hB_))
         (case aL=>have:=LMc27.out;omega)
         intro v385 w42 ho hb hg hat
         rw [← Ny384.out] at ho
         replace HO_3:=A_ (Kd.N_afterv (ok:=(fun k_=>(w.heap.size≤k_)∧some k_≠(.slice (some ad361) t358.length co6:Value).ownBlock∧some k_≠(.slice Ao43 y381.length co43:Value).ownBlock∧k_≠gb362)) (by (with_reducible repeat (first | apply Kd.N_alloc | apply Kd.N_drewN | apply Kd.N_drew));exact Kd.N_mono HO_3.out Z20.ay) hg hat)
         replace HO_10:=A_ (Kd.N_afterv (ok:=(fun k_=>(w.heap.size≤k_)∧some k_≠(.slice (some ad366) x3_1.length co31:Value).ownBlock∧some k_≠(.slice Ao43 y381.length co43:Value).ownBlock∧k_≠gb362)) (by (with_reducible repeat (first | apply Kd.N_alloc | apply Kd.N_drewN | apply Kd.N_drew));exact Kd.N_mono HO_10.out Z20.ay) hg hat)
         replace HO_363000:=A_ (Kd.V_afterv (ok:=(fun k_=>(w.heap.size≤k_)∧some k_≠(.slice (some ad366) x3_1.length co31:Value).ownBlock∧some k_≠(.slice (some ad361) t358.length co6:Value).ownBlock∧some k_≠(.slice Ao43 y381.length co43:Value).ownBlock∧k_≠gb362)) (by (with_reducible repeat (first | apply Kd.V_alloc | apply Kd.V_drewN | apply Kd.V_drew));exact Kd.V_mono HO_363000.out Z20.ay) hg hat)
         replace HO_363001:=A_ (Kd.V_afterv (ok:=(fun k_=>(w.heap.size≤k_)∧some k_≠(.slice (some ad366) x3_1.length co31:Value).ownBlock∧some k_≠(.slice (some ad361) t358.length co6:Value).ownBlock∧some k_≠(.slice Ao43 y381.length co43:Value).ownBlock∧k_≠gb362)) (by (with_reducible repeat (first | apply Kd.V_alloc | apply Kd.V_drewN | apply Kd.V_drew));exact Kd.V_mono HO_363001.out Z20.ay) hg hat)
         replace BK362:=A_ (blk_grown (kk_ BK362) hg (Kd.N_ne HO380.out BK362.out (by decide)))
         replace HL366_0:=A_ (Kd.V_afterv (ok:=(fun k_=>(w.heap.size≤k_)∧some k_≠(.slice (some ad366) x3_1.length co31:Value).ownBlock∧some k_≠(.slice (some ad361) t358.length co6:Value).ownBlock∧some k_≠(.slice Ao43 y381.length co43:Value).ownBlock∧k_≠gb362)) (by (with_reducible repeat (first | apply Kd.V_alloc | apply Kd.V_drewN | apply Kd.V_drew));exact Kd.V_mono HL366_0.out Z20.ay) hg hat)
         replace HL368_0:=A_ (Kd.V_afterv (ok:=(fun k_=>(w.heap.size≤k_)∧some k_≠(.slice (some ad366) x3_1.length co31:Value).ownBlock∧some k_≠(.slice (some ad361) t358.length co6:Value).ownBlock∧some k_≠(.slice Ao43 y381.length co43:Value).ownBlock∧k_≠gb362)) (by (with_reducible repeat (first | apply Kd.V_alloc | apply Kd.V_drewN | apply Kd.V_drew));exact Kd.V_mono HL368_0.out Z20.ay) hg hat)
         replace HO377:=A_ (Kd.V_afterv (ok:=(fun k_=>(w.heap.size≤k_)∧some k_≠(.slice (some ad361) t358.length co6:Value).ownBlock∧some k_≠(.slice Ao43 y381.length co43:Value).ownBlock∧k_≠gb362)) (by (with_reducible repeat (first | apply Kd.V_alloc | apply Kd.V_drewN | apply Kd.V_drew));exact Kd.V_mono HO377.out Z20.ay) hg hat)
         replace HO391:=A_ (Kd.V_afterv (ok:=(fun k_=>(w.heap.size≤k_)∧some k_≠(.slice (some ad361) t358.length co6:Value).ownBlock∧some k_≠(.slice Ao43 y381.length co43:Value).ownBlock∧k_≠gb362)) (by (with_reducible repeat (first | apply Kd.V_alloc | apply Kd.V_drewN | apply Kd.V_drew));exact Kd.V_mono HO391.out Z20.ay) hg hat)
         replace HO383:=A_ (Kd.N_afterv (ok:=(fun k_=>(w.heap.size≤k_)∧some k_≠(.slice (some ad366) x3_1.length co31:Value).ownBlock∧some k_≠(.slice (some ad361) t358.length co6:Value).ownBlock∧k_≠gb362)) (by (with_reducible repeat (first | apply Kd.N_alloc | apply Kd.N_drewN | apply Kd.N_drew));exact Kd.N_mono HO383.out Z20.ay) hg hat)
         replace HB:=A_ hb
         have HO386:=A_ ho
         clear HO380
         clear ho hb hg hat
         refine hK.out _ _ trivial (fun hHeld=>?_)
         clear hK K
         refine no_ (some 51) ?_
         refine on_ 11 (some 55) (bl_ 13 4095) HT_ (fun K hK=>?_)
         refine Kd.N_append_rows_step (Kd.slice 3 (Kd.int .i64)) (w0:=w) w.heap.size (by rfl) (.tmp 51) (.tmp 54) 22 27 (.slice none 0 0) 24 rfl Tryz.underlying22 info27 rfl (by decide) (by omega) v385 y384 y387 _ _ _ (fun k_=>(w.heap.size≤k_)∧some k_≠(.slice (some ad361) t358.length co6:Value).ownBlock∧k_≠gb362) (fun k_=>((fun k_=>(w.heap.size≤k_)∧some k_≠(.slice (some ad361) t358.length co6:Value).ownBlock∧k_≠gb362)) k_∧some k_≠(v385:Value).ownBlock) rfl rfl ?aO ?aR (fun _ hk=>hk) ?aF ?aB ?aS ?aL ?_
         (case aR=>exact (by skip;exact Kd.V_F (Kd.V_mono (ok':=(fun k_=>((fun k_=>(w.heap.size≤k_)∧some k_≠(.slice (some ad361) t358.length co6:Value).ownBlock∧k_≠gb362)) k_∧some k_≠(v385:Value).ownBlock)) (HO391.out) Z20.ay)))
         (case aB=>exact hB_)
         (case aF=>exact (fun k_ hk=>⟨(Nat.le_trans (bF_ hB_) hk),Kd.fresh' (Kd.N_lt (by (with_reducible repeat (first | apply Kd.N_alloc | apply Kd.N_drewN | apply Kd.N_drew));exact HO_10.out)) k_ hk,Kd.freshB (kk_ BK362) k_ hk⟩))
         (case aO=>exact (by (with_reducible repeat (first | apply Kd.N_alloc | apply Kd.N_drewN | apply Kd.N_drew));exact HO386.out))
         (case aS=>exact (bF_ hB_))
         (case aL=>have:=LMc30.out;omega)
         intro v393 w44 ho hb hg hat
         rw [← Ny392.out] at ho
         replace HO_3:=A_ (Kd.N_afterv (ok:=(fun k_=>(w.heap.size≤k_)∧some k_≠(.slice (some ad361) t358.length co6:Value).ownBlock∧some k_≠(.slice Ao43 y381.length co43:Value).ownBlock∧k_≠gb362)) (by (with_reducible repeat (first | apply Kd.N_alloc | apply Kd.N_drewN | apply Kd.N_drew));exact Kd.N_mono HO_3.out Z20.ay) hg hat)
         replace HO_10:=A_ (Kd.N_afterv (ok:=(fun k_=>(w.heap.size≤k_)∧some k_≠(.slice (some ad366) x3_1.length co31:Value).ownBlock∧some k_≠(.slice Ao43 y381.length co43:Value).ownBlock∧k_≠gb362)) (by (with_reducible repeat (first | apply Kd.N_alloc | apply Kd.N_drewN | apply Kd.N_drew));exact Kd.N_mono HO_10.out Z20.ay) hg hat)
         replace HO_363000:=A_ (Kd.V_afterv (ok:=(fun k_=>(w.heap.size≤k_)∧some k_≠(.slice (some ad366) x3_1.length co31:Value).ownBlock∧some k_≠(.slice (some ad361) t358.length co6:Value).ownBlock∧some k_≠(.slice Ao43 y381.length co43:Value).ownBlock∧k_≠gb362)) (by (with_reducible repeat (first | apply Kd.V_alloc | apply Kd.V_drewN | apply Kd.V_drew));exact Kd.V_mono HO_363000.out Z20.ay) hg hat)
         replace HO_363001:=A_ (Kd.V_afterv (ok:=(fun k_=>(w.heap.size≤k_)∧some k_≠(.slice (some ad366) x3_1.length co31:Value).ownBlock∧some k_≠(.slice (some ad361) t358.length co6:Value).ownBlock∧some k_≠(.slice Ao43 y381.length co43:Value).ownBlock∧k_≠gb362)) (by (with_reducible repeat (first | apply Kd.V_alloc | apply Kd.V_drewN | apply Kd.V_drew));exact Kd.V_mono HO_363001.out Z20.ay) hg hat)
         replace BK362:=A_ (blk_grown (kk_ BK362) hg (Kd.N_ne HO386.out BK362.out (by decide)))
         replace HL366_0:=A_ (Kd.V_afterv (ok:=(fun k_=>(w.heap.size≤k_)∧some k_≠(.slice (some ad366) x3_1.length co31:Value).ownBlock∧some k_≠(.slice (some ad361) t358.length co6:Value).ownBlock∧some k_≠(.slice Ao43 y381.length co43:Value).ownBlock∧k_≠gb362)) (by (with_reducible repeat (first | apply Kd.V_alloc | apply Kd.V_drewN | apply Kd.V_drew));exact Kd.V_mono HL366_0.out Z20.ay) hg hat)
         replace HL368_0:=A_ (Kd.V_afterv (ok:=(fun k_=>(w.heap.size≤k_)∧some k_≠(.slice (some ad366) x3_1.length co31:Value).ownBlock∧some k_≠(.slice (some ad361) t358.length co6:Value).ownBlock∧some k_≠(.slice Ao43 y381.length co43:Value).ownBlock∧k_≠gb362)) (by (with_reducible repeat (first | apply Kd.V_alloc | apply Kd.V_drewN | apply Kd.V_drew));exact Kd.V_mono HL368_0.out Z20.ay) hg hat)
         replace HO377:=A_ (Kd.V_afterv (ok:=(fun k_=>(w.heap.size≤k_)∧some k_≠(.slice (some ad361) t358.length co6:Value).ownBlock∧some k_≠(.slice Ao43 y381.length co43:Value).ownBlock∧k_≠gb362)) (by (with_reducible repeat (first | apply Kd.V_alloc | apply Kd.V_drewN | apply Kd.V_drew));exact Kd.V_mono HO377.out Z20.ay) hg hat)
         replace HO391:=A_ (Kd.V_afterv (ok:=(fun k_=>(w.heap.size≤k_)∧some k_≠(.slice (some ad361) t358.length co6:Value).ownBlock∧some k_≠(.slice Ao43 y381.length co43:Value).ownBlock∧k_≠gb362)) (by (with_reducible repeat (first | apply Kd.V_alloc | apply Kd.V_drewN | apply Kd.V_drew));exact Kd.V_mono HO391.out Z20.ay) hg hat)
         replace HO383:=A_ (Kd.N_afterv (ok:=(fun k_=>(w.heap.size≤k_)∧some k_≠(.slice (some ad366) x3_1.length co31:Value).ownBlock∧some k_≠(.slice (some ad361) t358.length co6:Value).ownBlock∧k_≠gb362)) (by (with_reducible repeat (first | apply Kd.N_alloc | apply Kd.N_drewN | apply Kd.N_drew));exact Kd.N_mono HO383.out Z20.ay) hg hat)
         replace HB:=A_ hb
         have HO394:=A_ ho
         clear HO386
         clear ho hb hg hat
         refine hK.out _ _ trivial (fun hHeld=>?_)
         clear hK K
         refine no_ (some 55) ?_
         refine pu_ 12 (some 3) (bl_ 13 8191) HT_ ?_
         refine done_ (done_of HT_.out (by kernel_rfl)) ?_
         try go_wp2
         go_roundg k2
         case measure=>have:=HK1.out;have:=HK2.out;omega
         case rel=>exact ⟨(y392),(wrap64 (x12_1 + 1)),qc_,H',⟨by have:=HK1.out;have:=HK2.out;omega⟩,⟨by (with_reducible repeat (first | apply Kd.N_alloc | apply Kd.N_drewN | apply Kd.N_drew));exact Kd.N_mono HO394.out Z20.ay⟩,⟨by (with_reducible repeat (first | apply Kd.N_alloc | apply Kd.N_drewN | apply Kd.N_drew));exact Kd.N_mono HO_10.out Z20.ay⟩,⟨hB_⟩⟩
      ·rw [if_neg c14] at H
       have c14b0:=oD_ c14
       clear c14
       obtain ⟨y395,hy395⟩:∃ y_:List (List Int),y_ = (([]:List (List Int))):=⟨_,rfl⟩
       replace H:(if 0≤x7_2 then (if x7_2≤(x3_1.length:Int) then ((some (x3_1.take (x7_2:Int).toNat:List (List Int))).bind fun y398=>(if y395.length + y398.length < 5864062014805 then ((some (y395 ++ y398:List (List Int))).bind fun y403=>((some (([t363]:List (List Int)):List (List Int))).bind fun y406=>(if y403.length + y406.length < 5864062014805 then ((some (y403 ++ y406:List (List Int))).bind fun y409=>((some (x3_1.drop (x7_2:Int).toNat:List (List Int))).bind fun y412=>(if y409.length + y412.length < 5864062014805 then (Z20.l0 k2 (y409 ++ y412) t358 (t358.length:Int) (wrap64 (x12_1 + 1))) else (none)))) else (none)))) else (none))) else (none)) else (none)) = some r:=by first | (rw [hy395];exact H) | exact H
       have Ny395:=A_ hy395
       clear hy395
       have c45:=cp_ H
       replace H:=ca_ H
       have c45b0:=eq_true c45
       have c45b1:=oC_ c45
       clear c45
       have c46:=cp_ H
       replace H:=ca_ H
       have c46b0:=eq_true c46
       have c46b1:=oC_ c46
       clear c46
       obtain ⟨y398,hy398⟩:∃ y_:List (List Int),y_ = (x3_1.take (x7_2:Int).toNat):=⟨_,rfl⟩
       replace H:(if y395.length + y398.length < 5864062014805 then ((some (y395 ++ y398:List (List Int))).bind fun y403=>((some (([t363]:List (List Int)):List (List Int))).bind fun y406=>(if y403.length + y406.length < 5864062014805 then ((some (y403 ++ y406:List (List Int))).bind fun y409=>((some (x3_1.drop (x7_2:Int).toNat:List (List Int))).bind fun y412=>(if y409.length + y412.length < 5864062014805 then (Z20.l0 k2 (y409 ++ y412) t358 (t358.length:Int) (wrap64 (x12_1 + 1))) else (none)))) else (none)))) else (none)) = some r:=by first | (rw [hy398];exact H) | exact H
       have Ny398:=A_ hy398
       clear hy398
       have c47:=cp_ H
       replace H:=ca_ H
       have LMc47:=A_ c47
       clear c47
       obtain ⟨y403,hy403⟩:∃ y_:List (List Int),y_ = (y395 ++ y398):=⟨_,rfl⟩
       replace H:((some (([t363]:List (List Int)):List (List Int))).bind fun y406=>(if y403.length + y406.length < 5864062014805 then ((some (y403 ++ y406:List (List Int))).bind fun y409=>((some (x3_1.drop (x7_2:Int).toNat:List (List Int))).bind fun y412=>(if y409.length + y412.length < 5864062014805 then (Z20.l0 k2 (y409 ++ y412) t358 (t358.length:Int) (wrap64 (x12_1 + 1))) else (none)))) else (none))) = some r:=by first | (rw [hy403];exact H) | exact H
       have Ny403:=A_ hy403
       clear hy403
       obtain ⟨y406,hy406⟩:∃ y_:List (List Int),y_ = (([t363]:List (List Int))):=⟨_,rfl⟩
       replace H:(if y403.length + y406.length < 5864062014805 then ((some (y403 ++ y406:List (List Int))).bind fun y409=>((some (x3_1.drop (x7_2:Int).toNat:List (List Int))).bind fun y412=>(if y409.length + y412.length < 5864062014805 then (Z20.l0 k2 (y409 ++ y412) t358 (t358.length:Int) (wrap64 (x12_1 + 1))) else (none)))) else (none)) = some r:=by first | (rw [hy406];exact H) | exact H
       have Ny406:=A_ hy406
       clear hy406
       have c48:=cp_ H
       replace H:=ca_ H
       have LMc48:=A_ c48
       clear c48
       obtain ⟨y409,hy409⟩:∃ y_:List (List Int),y_ = (y403 ++ y406):=⟨_,rfl⟩
       replace H:((some (x3_1.drop (x7_2:Int).toNat:List (List Int))).bind fun y412=>(if y409.length + y412.length < 5864062014805 then (Z20.l0 k2 (y409 ++ y412) t358 (t358.length:Int) (wrap64 (x12_1 + 1))) else (none))) = some r:=by first | (rw [hy409];exact H) | exact H
       have Ny409:=A_ hy409
       clear hy409
       have c49b0:=eq_true (oB_ qe_:0≤x7_2)
       have c50b0:=eq_true (oB_ qe_:x7_2≤(x3_1.length:Int))
       obtain ⟨y412,hy412⟩:∃ y_:List (List Int),y_ = (x3_1.drop (x7_2:Int).toNat):=⟨_,rfl⟩
       replace H:(if y409.length + y412.length < 5864062014805 then (Z20.l0 k2 (y409 ++ y412) t358 (t358.length:Int) (wrap64 (x12_1 + 1))) else (none)) = some r:=by first | (rw [hy412];exact H) | exact H
       have Ny412:=A_ hy412
       clear hy412
       have c51:=cp_ H
       replace H:=ca_ H
       have LMc51:=A_ c51
       clear c51
       obtain ⟨y417,hy417⟩:∃ y_:List (List Int),y_ = (y409 ++ y412):=⟨_,rfl⟩
       replace H:(Z20.l0 k2 y417 t358 (t358.length:Int) (wrap64 (x12_1 + 1))) = some r:=by first | (rw [hy417];exact H) | exact H
       have Ny417:=A_ hy417
       clear hy417
       have H':=A_ H
       clear H
       obtain ⟨Ao52,co52,eo52⟩:=Kd.N_slice HO_3.out
       subst eo52
       try go_wp2
       replace HO_3:=A_ (Kd.N_drew HO_3.out)
       replace HO_6:=A_ (rC_ HO_6.out)
       replace HO_10:=A_ (Kd.N_drew HO_10.out)
       replace HO_363000:=A_ (Kd.V_drew HO_363000.out)
       replace HO_363001:=A_ (Kd.V_drew HO_363001.out)
       replace BK362:=A_ (kB_ BK362.out)
       replace HR361_0:=A_ (cC_ HR361_0.out)
       replace HR361_1:=A_ (cC_ HR361_1.out)
       replace HB:=A_ (bC_ HB.out)
       have q54:(x7_2:Int)≤((x3_1.length:Int):Int):=oB_ qe_
       obtain ⟨i054,hi054,_,hsz54,_⟩:=info_parts info27
       have hroom54:x3_1.length≤co52:=(Kd.N_reads' HO_3.out).2.1
       have hC54:Kd.F (Kd.slice 3 (Kd.int .i64)) _ _ Ao52 x3_1.length x3_1:=(Kd.V_at (base:=w.heap.size) (Kd.N_V HO_3.out)).2.2
       have hcut54:=cut_to (P:=Tryz.prog) 22 27 .i64 Tryz.underlying22 hi054 Ao52 x3_1.length co52 x7_2 (oB_ qe_) q54 hroom54
       have hr54:=Kd.F_take (m:=(x7_2:Int).toNat) hC54 (by omega)
       have hy54:y398.length = (x7_2:Int).toNat:=(by rw [Ny398.out,lB_];omega)
       rw [← Ny398.out] at hr54
       rw [← hy54] at hcut54
       have HO402:=A_ (show Kd.V (Kd.slice 3 (Kd.int .i64)) 27 _ w.heap.size _ (.slice Ao52 y398.length co52) y398 from Kd.V_mk (by omega) hr54)
       have HC402:=A_ (show y398.length≤co52 from by omega)
       clear hr54 hC54 hroom54 hi054 hsz54
       have KY54:=A_ hy54
       clear hy54
       replace q54:=eq_true q54
       have q55:(x7_2:Int)≤((x3_1.length:Int):Int):=oB_ qe_
       obtain ⟨i055,hi055,_,hsz55,_⟩:=info_parts info27
       have hroom55:x3_1.length≤co52:=(Kd.N_reads' HO_3.out).2.1
       have hC55:Kd.F (Kd.slice 3 (Kd.int .i64)) _ _ Ao52 x3_1.length x3_1:=(Kd.V_at (base:=w.heap.size) (Kd.N_V HO_3.out)).2.2
       have q055:(0:Int)≤(x7_2:Int):=oB_ qe_
       have hcut55:=cut_from (P:=Tryz.prog) 22 27 .i64 Tryz.underlying22 hi055 1 hsz55 Ao52 x3_1.length co52 x7_2 q055 q55
       have hr55:=Kd.F_cut (m:=(x7_2:Int).toNat) (c:=co52) hC55 (by omega) hroom55
       obtain ⟨A55,hA55⟩:∃ A1,A1 = (if co52 = (x7_2:Int).toNat then Ao52 else (Ao52:Option Addr).map (·.add ((x7_2:Int).toNat * 1))):=⟨_,rfl⟩
       obtain ⟨c55,hc55⟩:∃ c1,c1 = co52 - (x7_2:Int).toNat:=⟨_,rfl⟩
       have hy55:y412.length = x3_1.length - (x7_2:Int).toNat:=(by rw [Ny412.out,lA_] <;> omega)
       rw [show (x3_1).drop (x7_2:Int).toNat = y412 from Ny412.out.symm] at hr55
       replace hr55:Kd.F (Kd.slice 3 (Kd.int .i64)) _ _ A55 y412.length y412:=(by rw [hA55];exact hr55)
       rw [← hy55,← hA55,← hc55] at hcut55
       have HO416:=A_ (show Kd.V (Kd.slice 3 (Kd.int .i64)) 27 _ w.heap.size _ (.slice A55 y412.length c55) y412 from Kd.V_mk (by rw [hy55,hc55];exact Nat.sub_le_sub_right hroom55 _) hr55)
       have HC416:=A_ (show y412.length≤c55 from by rw [hy55,hc55];exact Nat.sub_le_sub_right hroom55 _)
       clear hr55 hC55 hroom55 hi055 hsz55 hc55
       have KY55:=A_ hy55
       have KA55:=A_ hA55
       clear hy55 hA55
       replace q55:=eq_true q55
       refine start_ (n:=13) (S:=fun w'=>True) (ds:=[]) (bl_ 13 0) (by kernel_rfl) rfl (by kernel_rfl) trivial (fun hHeld=>?_);refine with_tabW Z20.tab10 Z20.bits10 (fun HT_ HW_=>?_)
       generalize wr.drew = w53 at HO_3 HO_6 HO_10 HO_363000 HO_363001 BK362 HR361_0 HR361_1 HB HO402 HO416 hHeld ⊢
       refine pu_ 1 (some 45) (bl_ 13 2) HT_ ?_
       refine pu_ 2 (some 46) (bl_ 13 6) HT_ ?_
       refine pu_ 3 (some 47) (bl_ 13 14) HT_ ?_
       refine pu_ 5 (some 49) (bl_ 13 46) HT_ ?_
       refine pu_ 8 (some 52) (bl_ 13 302) HT_ ?_
       refine pu_ 9 (some 53) (bl_ 13 814) HT_ ?_
       refine pu_ 10 (some 54) (bl_ 13 1838) HT_ ?_
       refine join_ (σ:=Value × Value × Value) 3 (bl_ 13 1919) (fun s_=>[(44,s_.1),(48,s_.2.1),(50,s_.2.2)]) (fun s_ w'=>(Kd.V (Kd.slice 3 (Kd.int .i64)) 27 w' w.heap.size (fun k_=>(w.heap.size≤k_)∧some k_≠(s_.2.1:Value).ownBlock∧some k_≠(s_.2.2:Value).ownBlock∧some k_≠(.slice (some ad361) t358.length co6:Value).ownBlock∧k_≠gb362) (.slice Ao52 y398.length co52) y398)∧(Kd.N (Kd.slice 3 (Kd.int .i64)) 27 w' w.heap.size (fun k_=>(w.heap.size≤k_)∧some k_≠(s_.2.2:Value).ownBlock∧some k_≠(.slice (some ad361) t358.length co6:Value).ownBlock∧k_≠gb362) s_.2.1 y403)∧(Kd.N (Kd.slice 3 (Kd.int .i64)) 27 w' w.heap.size (fun k_=>(w.heap.size≤k_)∧some k_≠(s_.2.1:Value).ownBlock∧some k_≠(.slice (some ad361) t358.length co6:Value).ownBlock∧some k_≠(.slice Ao52 x3_1.length co52:Value).ownBlock∧k_≠gb362) s_.2.2 y406)∧(Kd.V (Kd.slice 3 (Kd.int .i64)) 27 w' w.heap.size (fun k_=>(w.heap.size≤k_)∧some k_≠(s_.2.1:Value).ownBlock∧some k_≠(s_.2.2:Value).ownBlock∧some k_≠(.slice (some ad361) t358.length co6:Value).ownBlock∧k_≠gb362) (.slice A55 y412.length c55) y412)∧(Kd.N k38 38 w' w.heap.size (fun k_=>(w.heap.size≤k_)∧some k_≠(s_.2.1:Value).ownBlock∧some k_≠(s_.2.2:Value).ownBlock∧some k_≠(.slice Ao52 x3_1.length co52:Value).ownBlock∧k_≠gb362) (.slice (some ad361) t358.length co6) t358)∧(Kd.N (Kd.slice 3 (Kd.int .i64)) 27 w' w.heap.size (fun k_=>(w.heap.size≤k_)∧some k_≠(s_.2.1:Value).ownBlock∧some k_≠(s_.2.2:Value).ownBlock∧some k_≠(.slice (some ad361) t358.length co6:Value).ownBlock∧k_≠gb362) (.slice Ao52 x3_1.length co52) x3_1)∧(Kd.V (Kd.int .i64) 3 w' w.heap.size (fun k_=>(w.heap.size≤k_)∧some k_≠(s_.2.1:Value).ownBlock∧some k_≠(s_.2.2:Value).ownBlock∧some k_≠(.slice (some ad361) t358.length co6:Value).ownBlock∧some k_≠(.slice Ao52 x3_1.length co52:Value).ownBlock∧k_≠gb362) (.slice A361_0 ((rd_T38 t358 x12_1).f0).length c361_0) ((rd_T38 t358 x12_1).f0))∧(Kd.V (Kd.int .i64) 3 w' w.heap.size (fun k_=>(w.heap.size≤k_)∧some k_≠(s_.2.1:Value).ownBlock∧some k_≠(s_.2.2:Value).ownBlock∧some k_≠(.slice (some ad361) t358.length co6:Value).ownBlock∧some k_≠(.slice Ao52 x3_1.length co52:Value).ownBlock∧k_≠gb362) (.slice A361_1 ((rd_T38 t358 x12_1).f1).length c361_1) ((rd_T38 t358 x12_1).f1))∧(w'.heap[gb362]? = some (.cells #[.slice A361_0 ((rd_T38 t358 x12_1).f0).length c361_0,.slice A361_1 ((rd_T38 t358 x12_1).f1).length c361_1] 38 (0,0)))∧(Below w.heap.size w w')) ?_ ?_
       rotate_left
       ·intro hCont
        refine two_ (i:=0) (j:=6) (Ni:=some 44) (Nj:=some 50) (bl_ 13 1839) (bl_ 13 1902) rfl rfl rfl rfl (two_of HT_.out (by kernel_rfl)) (by decide) (by decide) (fun K hK=>?_) (fun K hK=>?_)
        ·skip
         refine Kd.N_lit_step (Kd.slice 3 (Kd.int .i64)) _ 27 ?hg (N':=44) ?hd (xs:=([]:List (List Int))) (inner:=[]) (ok:=(fun k_=>(w.heap.size≤k_)∧some k_≠(.slice Ao52 x3_1.length co52:Value).ownBlock∧some k_≠(v364:Value).ownBlock∧some k_≠(.slice (some ad361) t358.length co6:Value).ownBlock∧k_≠gb362)) (okp:=(fun k_=>(w.heap.size≤k_)∧some k_≠(.slice Ao52 x3_1.length co52:Value).ownBlock∧some k_≠(v364:Value).ownBlock∧some k_≠(.slice (some ad361) t358.length co6:Value).ownBlock∧k_≠gb362)) ?hr ?hp (fun _ hk=>hk) ((show ∀ k_,w53.heap.size≤k_→(fun k_=>(w.heap.size≤k_)∧some k_≠(.slice Ao52 x3_1.length co52:Value).ownBlock∧some k_≠(v364:Value).ownBlock∧some k_≠(.slice (some ad361) t358.length co6:Value).ownBlock∧k_≠gb362) k_ from fun k_ hk=>⟨(Nat.le_trans (bF_ hB_) hk),Kd.fresh' (Kd.N_lt (by (with_reducible repeat (first | apply Kd.N_alloc | apply Kd.N_drewN | apply Kd.N_drew));exact HO_3.out)) k_ hk,Kd.fresh' (Kd.R_lt (rr_ HO_6)) k_ hk,Kd.fresh' (Kd.N_lt (by (with_reducible repeat (first | apply Kd.N_alloc | apply Kd.N_drewN | apply Kd.N_drew));exact HO_10.out)) k_ hk,Kd.freshB (kk_ BK362) k_ hk⟩) _ (nA_ _)) (Below.refl _ _) (nA_ _) (by simp) ?_;(case hd=>rfl);(case hg=>rfl);(case hr=>first | (go_simp;done) | (go_simp;rfl));(case hp=>exact (Reps.none _ _))
         intro v396 w56 ho57 hb hg_ hnew_
         clear hg_ hnew_
         (first | rw [← Ny395.out] at ho57 | (simp only [Int.reduceToNat] at ho57;rw [← Ny395.out] at ho57))
         replace HO_3:=A_ (Kd.N_elder' (by (with_reducible repeat (first | apply Kd.N_alloc | apply Kd.N_drewN | apply Kd.N_drew));exact HO_3.out) (Kd.N_base ho57) hb)
         replace HO_6:=rb_ HO_6 hb
         replace HO_10:=A_ (Kd.N_elder' (by (with_reducible repeat (first | apply Kd.N_alloc | apply Kd.N_drewN | apply Kd.N_drew));exact HO_10.out) (Kd.N_base ho57) hb)
         replace HO_363000:=A_ (Kd.V_elder' (by (with_reducible repeat (first | apply Kd.V_alloc | apply Kd.V_drewN | apply Kd.V_drew));exact HO_363000.out) (Kd.N_base ho57) hb)
         replace HO_363001:=A_ (Kd.V_elder' (by (with_reducible repeat (first | apply Kd.V_alloc | apply Kd.V_drewN | apply Kd.V_drew));exact HO_363001.out) (Kd.N_base ho57) hb)
         replace HO402:=A_ (Kd.V_elder' (by (with_reducible repeat (first | apply Kd.V_alloc | apply Kd.V_drewN | apply Kd.V_drew));exact HO402.out) (Kd.N_base ho57) hb)
         replace HO416:=A_ (Kd.V_elder' (by (with_reducible repeat (first | apply Kd.V_alloc | apply Kd.V_drewN | apply Kd.V_drew));exact HO416.out) (Kd.N_base ho57) hb)
         have HO397:=A_ (Kd.N_lower ho57 (bF_ hB_))
         replace BK362:=bb_ BK362 hb
         replace HR361_0:=A_ (cD_ (by repeat (first | (with_reducible exact HR361_0.out) | (with_reducible refine cA_ ?_ _) | (with_reducible refine cB_ ?_ _) | (with_reducible refine cC_ ?_) | exact HR361_0.out)) hb)
         replace HR361_1:=A_ (cD_ (by repeat (first | (with_reducible exact HR361_1.out) | (with_reducible refine cA_ ?_ _) | (with_reducible refine cB_ ?_ _) | (with_reducible refine cC_ ?_) | exact HR361_1.out)) hb)
         replace HB:=b1_ hb
         clear hb ho57
         refine hK.out _ _ trivial (fun hHeld=>?_)
         clear hK K
         refine no_ (some 44) ?_
         refine two_ (i:=4) (j:=6) (Ni:=some 48) (Nj:=some 50) (bl_ 13 1855) (bl_ 13 1903) rfl rfl rfl rfl (two_of HT_.out (by kernel_rfl)) (by decide) (by decide) (fun K hK=>?_) (fun K hK=>?_)
         ·skip
          refine Kd.N_append_rows_step (Kd.slice 3 (Kd.int .i64)) (w0:=w) w.heap.size (by rfl) (.tmp 44) (.tmp 47) 22 27 (.slice none 0 0) 24 rfl Tryz.underlying22 info27 rfl (by decide) (by omega) v396 y395 y398 _ _ _ (fun k_=>(w.heap.size≤k_)∧some k_≠(v364:Value).ownBlock∧some k_≠(.slice (some ad361) t358.length co6:Value).ownBlock∧k_≠gb362) (fun k_=>((fun k_=>(w.heap.size≤k_)∧some k_≠(v364:Value).ownBlock∧some k_≠(.slice (some ad361) t358.length co6:Value).ownBlock∧k_≠gb362)) k_∧some k_≠(v396:Value).ownBlock) rfl rfl ?aO ?aR (fun _ hk=>hk) ?aF ?aB ?aS ?aL ?_
          (case aR=>exact (by skip;exact Kd.V_F (Kd.V_mono (ok':=(fun k_=>((fun k_=>(w.heap.size≤k_)∧some k_≠(v364:Value).ownBlock∧some k_≠(.slice (some ad361) t358.length co6:Value).ownBlock∧k_≠gb362)) k_∧some k_≠(v396:Value).ownBlock)) (HO402.out) Z20.ay)))
          (case aB=>exact hB_)
          (case aF=>exact (fun k_ hk=>⟨(Nat.le_trans (bF_ hB_) hk),Kd.fresh' (Kd.R_lt (rr_ HO_6)) k_ hk,Kd.fresh' (Kd.N_lt (by (with_reducible repeat (first | apply Kd.N_alloc | apply Kd.N_drewN | apply Kd.N_drew));exact HO_10.out)) k_ hk,Kd.freshB (kk_ BK362) k_ hk⟩))
          (case aO=>exact (by (with_reducible repeat (first | apply Kd.N_alloc | apply Kd.N_drewN | apply Kd.N_drew));exact Kd.N_mono HO397.out Z20.ay))
          (case aS=>exact (bF_ hB_))
          (case aL=>have:=LMc47.out;omega)
          intro v404 w58 ho hb hg hat
          rw [← Ny403.out] at ho
          replace HO_3:=A_ (Kd.N_afterv (ok:=(fun k_=>(w.heap.size≤k_)∧some k_≠(v364:Value).ownBlock∧some k_≠(.slice (some ad361) t358.length co6:Value).ownBlock∧k_≠gb362)) (by (with_reducible repeat (first | apply Kd.N_alloc | apply Kd.N_drewN | apply Kd.N_drew));exact Kd.N_mono HO_3.out Z20.ay) hg hat)
          replace HO_6:=A_ (Kd.R_over' (rr_ HO_6) (Kd.N_typed (by (with_reducible repeat (first | apply Kd.N_alloc | apply Kd.N_drewN | apply Kd.N_drew));exact HO397.out)) (by decide) hg)
          replace HO_10:=A_ (Kd.N_afterv (ok:=(fun k_=>(w.heap.size≤k_)∧some k_≠(.slice Ao52 x3_1.length co52:Value).ownBlock∧some k_≠(v364:Value).ownBlock∧k_≠gb362)) (by (with_reducible repeat (first | apply Kd.N_alloc | apply Kd.N_drewN | apply Kd.N_drew));exact Kd.N_mono HO_10.out Z20.ay) hg hat)
          replace HO_363000:=A_ (Kd.V_afterv (ok:=(fun k_=>(w.heap.size≤k_)∧some k_≠(.slice Ao52 x3_1.length co52:Value).ownBlock∧some k_≠(v364:Value).ownBlock∧some k_≠(.slice (some ad361) t358.length co6:Value).ownBlock∧k_≠gb362)) (by (with_reducible repeat (first | apply Kd.V_alloc | apply Kd.V_drewN | apply Kd.V_drew));exact Kd.V_mono HO_363000.out Z20.ay) hg hat)
          replace HO_363001:=A_ (Kd.V_afterv (ok:=(fun k_=>(w.heap.size≤k_)∧some k_≠(.slice Ao52 x3_1.length co52:Value).ownBlock∧some k_≠(v364:Value).ownBlock∧some k_≠(.slice (some ad361) t358.length co6:Value).ownBlock∧k_≠gb362)) (by (with_reducible repeat (first | apply Kd.V_alloc | apply Kd.V_drewN | apply Kd.V_drew));exact Kd.V_mono HO_363001.out Z20.ay) hg hat)
          replace BK362:=A_ (blk_grown (kk_ BK362) hg (Kd.N_ne HO397.out BK362.out (by decide)))
          replace HO402:=A_ (Kd.V_afterv (ok:=(fun k_=>(w.heap.size≤k_)∧some k_≠(v364:Value).ownBlock∧some k_≠(.slice (some ad361) t358.length co6:Value).ownBlock∧k_≠gb362)) (by (with_reducible repeat (first | apply Kd.V_alloc | apply Kd.V_drewN | apply Kd.V_drew));exact Kd.V_mono HO402.out Z20.ay) hg hat)
          replace HO416:=A_ (Kd.V_afterv (ok:=(fun k_=>(w.heap.size≤k_)∧some k_≠(v364:Value).ownBlock∧some k_≠(.slice (some ad361) t358.length co6:Value).ownBlock∧k_≠gb362)) (by (with_reducible repeat (first | apply Kd.V_alloc | apply Kd.V_drewN | apply Kd.V_drew));exact Kd.V_mono HO416.out Z20.ay) hg hat)
          replace HB:=A_ hb
          have HO405:=A_ ho
          clear HO397
          clear ho hb hg hat
          obtain ⟨Ao59,co59,eo59⟩:=Kd.R_slice HO_6.out
          (first | subst eo59 | (injection eo59 with f1_ f2_ f3_;have f4_:=f1_.symm;have f5_:=f3_.symm;clear f1_ f2_ f3_;subst f4_;subst f5_))
          refine hK.out _ _ trivial (fun hHeld=>?_)
          clear hK K
          refine no_ (some 48) ?_
          refine on_ 6 (some 50) (bl_ 13 1919) HT_ (fun K hK=>?_)
          refine Kd.N_lit_step (Kd.slice 3 (Kd.int .i64)) _ 27 ?hg (N':=50) ?hd (xs:=([t363]:List (List Int))) (inner:=[.slice Ao59 t363.length co59]) (ok:=(fun k_=>(w.heap.size≤k_)∧some k_≠(.slice Ao52 x3_1.length co52:Value).ownBlock∧some k_≠(.slice (some ad361) t358.length co6:Value).ownBlock∧some k_≠(v404:Value).ownBlock∧k_≠gb362)) (okp:=(fun k_=>(w.heap.size≤k_)∧some k_≠(.slice Ao52 x3_1.length co52:Value).ownBlock∧some k_≠(.slice (some ad361) t358.length co6:Value).ownBlock∧some k_≠(v404:Value).ownBlock∧k_≠gb362)) ?hr ?hp (fun _ hk=>hk) ((show ∀ k_,w58.heap.size≤k_→(fun k_=>(w.heap.size≤k_)∧some k_≠(.slice Ao52 x3_1.length co52:Value).ownBlock∧some k_≠(.slice (some ad361) t358.length co6:Value).ownBlock∧some k_≠(v404:Value).ownBlock∧k_≠gb362) k_ from fun k_ hk=>⟨(Nat.le_trans (bF_ hB_) hk),Kd.fresh' (Kd.N_lt (by (with_reducible repeat (first | apply Kd.N_alloc | apply Kd.N_drewN | apply Kd.N_drew));exact HO_3.out)) k_ hk,Kd.fresh' (Kd.N_lt (by (with_reducible repeat (first | apply Kd.N_alloc | apply Kd.N_drewN | apply Kd.N_drew));exact HO_10.out)) k_ hk,Kd.fresh' (Kd.N_lt (by (with_reducible repeat (first | apply Kd.N_alloc | apply Kd.N_drewN | apply Kd.N_drew));exact HO405.out)) k_ hk,Kd.freshB (kk_ BK362) k_ hk⟩) _ (nA_ _)) (Below.refl _ _) (nA_ _) (by simp) ?_;(case hd=>rfl);(case hg=>rfl);(case hr=>first | (go_simp;done) | (go_simp;rfl));(case hp=>exact (Reps.one (show Kd.FK (Kd.slice 3 (Kd.int .i64)) _ _ t363 [.slice Ao59 t363.length co59] from (Kd.FK_slice_mk (Kd.R_reads' (Kd.R_mono (ok':=(fun k_=>(w.heap.size≤k_)∧some k_≠(.slice Ao52 x3_1.length co52:Value).ownBlock∧some k_≠(.slice (some ad361) t358.length co6:Value).ownBlock∧some k_≠(v404:Value).ownBlock∧k_≠gb362)) (Kd.R_types (Kd.R_apart' (Kd.R_apart' (Kd.R_apart' (HO_6.out) (Kd.N_typed HO_3.out) (by decide)) (Kd.N_typed HO_10.out) (by decide)) (Kd.N_typed HO405.out) (by decide)) BK362.out (by decide)) Z20.ay)).2.1 (Kd.R_F (Kd.R_mono (ok':=(fun k_=>(w.heap.size≤k_)∧some k_≠(.slice Ao52 x3_1.length co52:Value).ownBlock∧some k_≠(.slice (some ad361) t358.length co6:Value).ownBlock∧some k_≠(v404:Value).ownBlock∧k_≠gb362)) (Kd.R_types (Kd.R_apart' (Kd.R_apart' (Kd.R_apart' (HO_6.out) (Kd.N_typed HO_3.out) (by decide)) (Kd.N_typed HO_10.out) (by decide)) (Kd.N_typed HO405.out) (by decide)) BK362.out (by decide)) Z20.ay)))) (Reps.none _ _)))
          intro v407 w60 ho61 hb hg_ hnew_
          clear hg_ hnew_
          (first | rw [← Ny406.out] at ho61 | (simp only [Int.reduceToNat] at ho61;rw [← Ny406.out] at ho61))
          replace HO_3:=A_ (Kd.N_elder' (by (with_reducible repeat (first | apply Kd.N_alloc | apply Kd.N_drewN | apply Kd.N_drew));exact HO_3.out) (Kd.N_base ho61) hb)
          replace HO_10:=A_ (Kd.N_elder' (by (with_reducible repeat (first | apply Kd.N_alloc | apply Kd.N_drewN | apply Kd.N_drew));exact HO_10.out) (Kd.N_base ho61) hb)
          replace HO_363000:=A_ (Kd.V_elder' (by (with_reducible repeat (first | apply Kd.V_alloc | apply Kd.V_drewN | apply Kd.V_drew));exact HO_363000.out) (Kd.N_base ho61) hb)
          replace HO_363001:=A_ (Kd.V_elder' (by (with_reducible repeat (first | apply Kd.V_alloc | apply Kd.V_drewN | apply Kd.V_drew));exact HO_363001.out) (Kd.N_base ho61) hb)
          replace HO402:=A_ (Kd.V_elder' (by (with_reducible repeat (first | apply Kd.V_alloc | apply Kd.V_drewN | apply Kd.V_drew));exact HO402.out) (Kd.N_base ho61) hb)
          replace HO416:=A_ (Kd.V_elder' (by (with_reducible repeat (first | apply Kd.V_alloc | apply Kd.V_drewN | apply Kd.V_drew));exact HO416.out) (Kd.N_base ho61) hb)
          replace HO405:=A_ (Kd.N_elder' (by (with_reducible repeat (first | apply Kd.N_alloc | apply Kd.N_drewN | apply Kd.N_drew));exact HO405.out) (Kd.N_base ho61) hb)
          have HO408:=A_ (Kd.N_lower ho61 (bF_ hB_))
          replace BK362:=bb_ BK362 hb
          replace HB:=b1_ hb
          clear HO_6
          clear hb ho61
          refine hK.out _ _ trivial (fun hHeld=>?_)
          clear hK K
          refine no_ (some 50) ?_
          exact norm_ (by simp only [putAll,Act.put,sA_,sB_,sC_]) (hCont (v396,v404,v407) _ ⟨(by (with_reducible repeat (first | apply Kd.V_alloc | apply Kd.V_drewN | apply Kd.V_drew));exact Kd.V_mono HO402.out Z20.ay),(by (with_reducible repeat (first | apply Kd.N_alloc | apply Kd.N_drewN | apply Kd.N_drew));exact Kd.N_mono HO405.out Z20.ay),(by (with_reducible repeat (first | apply Kd.N_alloc | apply Kd.N_drewN | apply Kd.N_drew));exact Kd.N_mono HO408.out Z20.ay),(by (with_reducible repeat (first | apply Kd.V_alloc | apply Kd.V_drewN | apply Kd.V_drew));exact Kd.V_mono HO416.out Z20.ay),(by (with_reducible repeat (first | apply Kd.N_alloc | apply Kd.N_drewN | apply Kd.N_drew));exact Kd.N_mono HO_10.out Z20.ay),(by (with_reducible repeat (first | apply Kd.N_alloc | apply Kd.N_drewN | apply Kd.N_drew));exact Kd.N_mono HO_3.out Z20.ay),(by (with_reducible repeat (first | apply Kd.V_alloc | apply Kd.V_drewN | apply Kd.V_drew));exact Kd.V_mono HO_363000.out Z20.ay),(by (with_reducible repeat (first | apply Kd.V_alloc | apply Kd.V_drewN | apply Kd.V_drew));exact Kd.V_mono HO_363001.out Z20.ay),(kk_ BK362),hB_⟩)
         ·skip
          obtain ⟨Ao58,co58,eo58⟩:=Kd.R_slice HO_6.out
          (first | subst eo58 | (injection eo58 with f1_ f2_ f3_;have f4_:=f1_.symm;have f5_:=f3_.symm;clear f1_ f2_ f3_;subst f4_;subst f5_))
          refine Kd.N_lit_step (Kd.slice 3 (Kd.int .i64)) _ 27 ?hg (N':=50) ?hd (xs:=([t363]:List (List Int))) (inner:=[.slice Ao58 t363.length co58]) (ok:=(fun k_=>(w.heap.size≤k_)∧some k_≠(.slice Ao52 x3_1.length co52:Value).ownBlock∧some k_≠(.slice (some ad361) t358.length co6:Value).ownBlock∧some k_≠(v396:Value).ownBlock∧k_≠gb362)) (okp:=(fun k_=>(w.heap.size≤k_)∧some k_≠(.slice Ao52 x3_1.length co52:Value).ownBlock∧some k_≠(.slice (some ad361) t358.length co6:Value).ownBlock∧some k_≠(v396:Value).ownBlock∧k_≠gb362)) ?hr ?hp (fun _ hk=>hk) ((show ∀ k_,w56.heap.size≤k_→(fun k_=>(w.heap.size≤k_)∧some k_≠(.slice Ao52 x3_1.length co52:Value).ownBlock∧some k_≠(.slice (some ad361) t358.length co6:Value).ownBlock∧some k_≠(v396:Value).ownBlock∧k_≠gb362) k_ from fun k_ hk=>⟨(Nat.le_trans (bF_ hB_) hk),Kd.fresh' (Kd.N_lt (by (with_reducible repeat (first | apply Kd.N_alloc | apply Kd.N_drewN | apply Kd.N_drew));exact HO_3.out)) k_ hk,Kd.fresh' (Kd.N_lt (by (with_reducible repeat (first | apply Kd.N_alloc | apply Kd.N_drewN | apply Kd.N_drew));exact HO_10.out)) k_ hk,Kd.fresh' (Kd.N_lt (by (with_reducible repeat (first | apply Kd.N_alloc | apply Kd.N_drewN | apply Kd.N_drew));exact HO397.out)) k_ hk,Kd.freshB (kk_ BK362) k_ hk⟩) _ (nA_ _)) (Below.refl _ _) (nA_ _) (by simp) ?_;(case hd=>rfl);(case hg=>rfl);(case hr=>first | (go_simp;done) | (go_simp;rfl));(case hp=>exact (Reps.one (show Kd.FK (Kd.slice 3 (Kd.int .i64)) _ _ t363 [.slice Ao58 t363.length co58] from (Kd.FK_slice_mk (Kd.R_reads' (Kd.R_mono (ok':=(fun k_=>(w.heap.size≤k_)∧some k_≠(.slice Ao52 x3_1.length co52:Value).ownBlock∧some k_≠(.slice (some ad361) t358.length co6:Value).ownBlock∧some k_≠(v396:Value).ownBlock∧k_≠gb362)) (Kd.R_types (Kd.R_apart' (Kd.R_apart' (Kd.R_apart' (HO_6.out) (Kd.N_typed HO_3.out) (by decide)) (Kd.N_typed HO_10.out) (by decide)) (Kd.N_typed HO397.out) (by decide)) BK362.out (by decide)) Z20.ay)).2.1 (Kd.R_F (Kd.R_mono (ok':=(fun k_=>(w.heap.size≤k_)∧some k_≠(.slice Ao52 x3_1.length co52:Value).ownBlock∧some k_≠(.slice (some ad361) t358.length co6:Value).ownBlock∧some k_≠(v396:Value).ownBlock∧k_≠gb362)) (Kd.R_types (Kd.R_apart' (Kd.R_apart' (Kd.R_apart' (HO_6.out) (Kd.N_typed HO_3.out) (by decide)) (Kd.N_typed HO_10.out) (by decide)) (Kd.N_typed HO397.out) (by decide)) BK362.out (by decide)) Z20.ay)))) (Reps.none _ _)))
          intro v407 w59 ho60 hb hg_ hnew_
          clear hg_ hnew_
          (first | rw [← Ny406.out] at ho60 | (simp only [Int.reduceToNat] at ho60;rw [← Ny406.out] at ho60))
          replace HO_3:=A_ (Kd.N_elder' (by (with_reducible repeat (first | apply Kd.N_alloc | apply Kd.N_drewN | apply Kd.N_drew));exact HO_3.out) (Kd.N_base ho60) hb)
          replace HO_10:=A_ (Kd.N_elder' (by (with_reducible repeat (first | apply Kd.N_alloc | apply Kd.N_drewN | apply Kd.N_drew));exact HO_10.out) (Kd.N_base ho60) hb)
          replace HO_363000:=A_ (Kd.V_elder' (by (with_reducible repeat (first | apply Kd.V_alloc | apply Kd.V_drewN | apply Kd.V_drew));exact HO_363000.out) (Kd.N_base ho60) hb)
          replace HO_363001:=A_ (Kd.V_elder' (by (with_reducible repeat (first | apply Kd.V_alloc | apply Kd.V_drewN | apply Kd.V_drew));exact HO_363001.out) (Kd.N_base ho60) hb)
          replace HO402:=A_ (Kd.V_elder' (by (with_reducible repeat (first | apply Kd.V_alloc | apply Kd.V_drewN | apply Kd.V_drew));exact HO402.out) (Kd.N_base ho60) hb)
          replace HO416:=A_ (Kd.V_elder' (by (with_reducible repeat (first | apply Kd.V_alloc | apply Kd.V_drewN | apply Kd.V_drew));exact HO416.out) (Kd.N_base ho60) hb)
          replace HO397:=A_ (Kd.N_elder' (by (with_reducible repeat (first | apply Kd.N_alloc | apply Kd.N_drewN | apply Kd.N_drew));exact HO397.out) (Kd.N_base ho60) hb)
          have HO408:=A_ (Kd.N_lower ho60 (bF_ hB_))
          replace BK362:=bb_ BK362 hb
          replace HR361_0:=A_ (cD_ (by repeat (first | (with_reducible exact HR361_0.out) | (with_reducible refine cA_ ?_ _) | (with_reducible refine cB_ ?_ _) | (with_reducible refine cC_ ?_) | exact HR361_0.out)) hb)
          replace HR361_1:=A_ (cD_ (by repeat (first | (with_reducible exact HR361_1.out) | (with_reducible refine cA_ ?_ _) | (with_reducible refine cB_ ?_ _) | (with_reducible refine cC_ ?_) | exact HR361_1.out)) hb)
          replace HB:=b1_ hb
          clear HO_6
          clear hb ho60
          refine hK.out _ _ trivial (fun hHeld=>?_)
          clear hK K
          refine no_ (some 50) ?_
          refine on_ 4 (some 48) (bl_ 13 1919) HT_ (fun K hK=>?_)
          refine Kd.N_append_rows_step (Kd.slice 3 (Kd.int .i64)) (w0:=w) w.heap.size (by rfl) (.tmp 44) (.tmp 47) 22 27 (.slice none 0 0) 24 rfl Tryz.underlying22 info27 rfl (by decide) (by omega) v396 y395 y398 _ _ _ (fun k_=>(w.heap.size≤k_)∧some k_≠(.slice (some ad361) t358.length co6:Value).ownBlock∧some k_≠(v407:Value).ownBlock∧k_≠gb362) (fun k_=>((fun k_=>(w.heap.size≤k_)∧some k_≠(.slice (some ad361) t358.length co6:Value).ownBlock∧some k_≠(v407:Value).ownBlock∧k_≠gb362)) k_∧some k_≠(v396:Value).ownBlock) rfl rfl ?aO ?aR (fun _ hk=>hk) ?aF ?aB ?aS ?aL ?_
          (case aR=>exact (by skip;exact Kd.V_F (Kd.V_mono (ok':=(fun k_=>((fun k_=>(w.heap.size≤k_)∧some k_≠(.slice (some ad361) t358.length co6:Value).ownBlock∧some k_≠(v407:Value).ownBlock∧k_≠gb362)) k_∧some k_≠(v396:Value).ownBlock)) (HO402.out) Z20.ay)))
          (case aB=>exact hB_)
          (case aF=>exact (fun k_ hk=>⟨(Nat.le_trans (bF_ hB_) hk),Kd.fresh' (Kd.N_lt (by (with_reducible repeat (first | apply Kd.N_alloc | apply Kd.N_drewN | apply Kd.N_drew));exact HO_10.out)) k_ hk,Kd.fresh' (Kd.N_lt (by (with_reducible repeat (first | apply Kd.N_alloc | apply Kd.N_drewN | apply Kd.N_drew));exact HO408.out)) k_ hk,Kd.freshB (kk_ BK362) k_ hk⟩))
          (case aO=>exact (by (with_reducible repeat (first | apply Kd.N_alloc | apply Kd.N_drewN | apply Kd.N_drew));exact Kd.N_mono HO397.out Z20.ay))
          (case aS=>exact (bF_ hB_))
          (case aL=>have:=LMc47.out;omega)
          intro v404 w61 ho hb hg hat
          rw [← Ny403.out] at ho
          replace HO_3:=A_ (Kd.N_afterv (ok:=(fun k_=>(w.heap.size≤k_)∧some k_≠(.slice (some ad361) t358.length co6:Value).ownBlock∧some k_≠(v407:Value).ownBlock∧k_≠gb362)) (by (with_reducible repeat (first | apply Kd.N_alloc | apply Kd.N_drewN | apply Kd.N_drew));exact Kd.N_mono HO_3.out Z20.ay) hg hat)
          replace HO_10:=A_ (Kd.N_afterv (ok:=(fun k_=>(w.heap.size≤k_)∧some k_≠(.slice Ao52 x3_1.length co52:Value).ownBlock∧some k_≠(v407:Value).ownBlock∧k_≠gb362)) (by (with_reducible repeat (first | apply Kd.N_alloc | apply Kd.N_drewN | apply Kd.N_drew));exact Kd.N_mono HO_10.out Z20.ay) hg hat)
          replace HO_363000:=A_ (Kd.V_afterv (ok:=(fun k_=>(w.heap.size≤k_)∧some k_≠(.slice Ao52 x3_1.length co52:Value).ownBlock∧some k_≠(.slice (some ad361) t358.length co6:Value).ownBlock∧some k_≠(v407:Value).ownBlock∧k_≠gb362)) (by (with_reducible repeat (first | apply Kd.V_alloc | apply Kd.V_drewN | apply Kd.V_drew));exact Kd.V_mono HO_363000.out Z20.ay) hg hat)
          replace HO_363001:=A_ (Kd.V_afterv (ok:=(fun k_=>(w.heap.size≤k_)∧some k_≠(.slice Ao52 x3_1.length co52:Value).ownBlock∧some k_≠(.slice (some ad361) t358.length co6:Value).ownBlock∧some k_≠(v407:Value).ownBlock∧k_≠gb362)) (by (with_reducible repeat (first | apply Kd.V_alloc | apply Kd.V_drewN | apply Kd.V_drew));exact Kd.V_mono HO_363001.out Z20.ay) hg hat)
          replace BK362:=A_ (blk_grown (kk_ BK362) hg (Kd.N_ne HO397.out BK362.out (by decide)))
          replace HO402:=A_ (Kd.V_afterv (ok:=(fun k_=>(w.heap.size≤k_)∧some k_≠(.slice (some ad361) t358.length co6:Value).ownBlock∧some k_≠(v407:Value).ownBlock∧k_≠gb362)) (by (with_reducible repeat (first | apply Kd.V_alloc | apply Kd.V_drewN | apply Kd.V_drew));exact Kd.V_mono HO402.out Z20.ay) hg hat)
          replace HO416:=A_ (Kd.V_afterv (ok:=(fun k_=>(w.heap.size≤k_)∧some k_≠(.slice (some ad361) t358.length co6:Value).ownBlock∧some k_≠(v407:Value).ownBlock∧k_≠gb362)) (by (with_reducible repeat (first | apply Kd.V_alloc | apply Kd.V_drewN | apply Kd.V_drew));exact Kd.V_mono HO416.out Z20.ay) hg hat)
          replace HO408:=A_ (Kd.N_afterv (ok:=(fun k_=>(w.heap.size≤k_)∧some k_≠(.slice Ao52 x3_1.length co52:Value).ownBlock∧some k_≠(.slice (some ad361) t358.length co6:Value).ownBlock∧k_≠gb362)) (by (with_reducible repeat (first | apply Kd.N_alloc | apply Kd.N_drewN | apply Kd.N_drew));exact Kd.N_mono HO408.out Z20.ay) hg hat)
          replace HB:=A_ hb
          have HO405:=A_ ho
          clear HO397
          clear ho hb hg hat
          refine hK.out _ _ trivial (fun hHeld=>?_)
          clear hK K
          refine no_ (some 48) ?_
          exact norm_ (by simp only [putAll,Act.put,sA_,sB_,sC_]) (hCont (v396,v404,v407) _ ⟨(by (with_reducible repeat (first | apply Kd.V_alloc | apply Kd.V_drewN | apply Kd.V_drew));exact Kd.V_mono HO402.out Z20.ay),(by (with_reducible repeat (first | apply Kd.N_alloc | apply Kd.N_drewN | apply Kd.N_drew));exact Kd.N_mono HO405.out Z20.ay),(by (with_reducible repeat (first | apply Kd.N_alloc | apply Kd.N_drewN | apply Kd.N_drew));exact Kd.N_mono HO408.out Z20.ay),(by (with_reducible repeat (first | apply Kd.V_alloc | apply Kd.V_drewN | apply Kd.V_drew));exact Kd.V_mono HO416.out Z20.ay),(by (with_reducible repeat (first | apply Kd.N_alloc | apply Kd.N_drewN | apply Kd.N_drew));exact Kd.N_mono HO_10.out Z20.ay),(by (with_reducible repeat (first | apply Kd.N_alloc | apply Kd.N_drewN | apply Kd.N_drew));exact Kd.N_mono HO_3.out Z20.ay),(by (with_reducible repeat (first | apply Kd.V_alloc | apply Kd.V_drewN | apply Kd.V_drew));exact Kd.V_mono HO_363000.out Z20.ay),(by (with_reducible repeat (first | apply Kd.V_alloc | apply Kd.V_drewN | apply Kd.V_drew));exact Kd.V_mono HO_363001.out Z20.ay),(kk_ BK362),hB_⟩)
        ·skip
         obtain ⟨Ao56,co56,eo56⟩:=Kd.R_slice HO_6.out
         (first | subst eo56 | (injection eo56 with f1_ f2_ f3_;have f4_:=f1_.symm;have f5_:=f3_.symm;clear f1_ f2_ f3_;subst f4_;subst f5_))
         refine Kd.N_lit_step (Kd.slice 3 (Kd.int .i64)) _ 27 ?hg (N':=50) ?hd (xs:=([t363]:List (List Int))) (inner:=[.slice Ao56 t363.length co56]) (ok:=(fun k_=>(w.heap.size≤k_)∧some k_≠(.slice Ao52 x3_1.length co52:Value).ownBlock∧some k_≠(.slice (some ad361) t358.length co6:Value).ownBlock∧k_≠gb362)) (okp:=(fun k_=>(w.heap.size≤k_)∧some k_≠(.slice Ao52 x3_1.length co52:Value).ownBlock∧some k_≠(.slice (some ad361) t358.length co6:Value).ownBlock∧k_≠gb362)) ?hr ?hp (fun _ hk=>hk) ((show ∀ k_,w53.heap.size≤k_→(fun k_=>(w.heap.size≤k_)∧some k_≠(.slice Ao52 x3_1.length co52:Value).ownBlock∧some k_≠(.slice (some ad361) t358.length co6:Value).ownBlock∧k_≠gb362) k_ from fun k_ hk=>⟨(Nat.le_trans (bF_ hB_) hk),Kd.fresh' (Kd.N_lt (by (with_reducible repeat (first | apply Kd.N_alloc | apply Kd.N_drewN | apply Kd.N_drew));exact HO_3.out)) k_ hk,Kd.fresh' (Kd.N_lt (by (with_reducible repeat (first | apply Kd.N_alloc | apply Kd.N_drewN | apply Kd.N_drew));exact HO_10.out)) k_ hk,Kd.freshB (kk_ BK362) k_ hk⟩) _ (nA_ _)) (Below.refl _ _) (nA_ _) (by simp) ?_;(case hd=>rfl);(case hg=>rfl);(case hr=>first | (go_simp;done) | (go_simp;rfl));(case hp=>exact (Reps.one (show Kd.FK (Kd.slice 3 (Kd.int .i64)) _ _ t363 [.slice Ao56 t363.length co56] from (Kd.FK_slice_mk (Kd.R_reads' (Kd.R_mono (ok':=(fun k_=>(w.heap.size≤k_)∧some k_≠(.slice Ao52 x3_1.length co52:Value).ownBlock∧some k_≠(.slice (some ad361) t358.length co6:Value).ownBlock∧k_≠gb362)) (Kd.R_types (Kd.R_apart' (Kd.R_apart' (HO_6.out) (Kd.N_typed HO_3.out) (by decide)) (Kd.N_typed HO_10.out) (by decide)) BK362.out (by decide)) Z20.ay)).2.1 (Kd.R_F (Kd.R_mono (ok':=(fun k_=>(w.heap.size≤k_)∧some k_≠(.slice Ao52 x3_1.length co52:Value).ownBlock∧some k_≠(.slice (some ad361) t358.length co6:Value).ownBlock∧k_≠gb362)) (Kd.R_types (Kd.R_apart' (Kd.R_apart' (HO_6.out) (Kd.N_typed HO_3.out) (by decide)) (Kd.N_typed HO_10.out) (by decide)) BK362.out (by decide)) Z20.ay)))) (Reps.none _ _)))
         intro v407 w57 ho58 hb hg_ hnew_
         clear hg_ hnew_
         (first | rw [← Ny406.out] at ho58 | (simp only [Int.reduceToNat] at ho58;rw [← Ny406.out] at ho58))
         replace HO_3:=A_ (Kd.N_elder' (by (with_reducible repeat (first | apply Kd.N_alloc | apply Kd.N_drewN | apply Kd.N_drew));exact HO_3.out) (Kd.N_base ho58) hb)
         replace HO_10:=A_ (Kd.N_elder' (by (with_reducible repeat (first | apply Kd.N_alloc | apply Kd.N_drewN | apply Kd.N_drew));exact HO_10.out) (Kd.N_base ho58) hb)
         replace HO_363000:=A_ (Kd.V_elder' (by (with_reducible repeat (first | apply Kd.V_alloc | apply Kd.V_drewN | apply Kd.V_drew));exact HO_363000.out) (Kd.N_base ho58) hb)
         replace HO_363001:=A_ (Kd.V_elder' (by (with_reducible repeat (first | apply Kd.V_alloc | apply Kd.V_drewN | apply Kd.V_drew));exact HO_363001.out) (Kd.N_base ho58) hb)
         replace HO402:=A_ (Kd.V_elder' (by (with_reducible repeat (first | apply Kd.V_alloc | apply Kd.V_drewN | apply Kd.V_drew));exact HO402.out) (Kd.N_base ho58) hb)
         replace HO416:=A_ (Kd.V_elder' (by (with_reducible repeat (first | apply Kd.V_alloc | apply Kd.V_drewN | apply Kd.V_drew));exact HO416.out) (Kd.N_base ho58) hb)
         have HO408:=A_ (Kd.N_lower ho58 (bF_ hB_))
         replace BK362:=bb_ BK362 hb
         replace HR361_0:=A_ (cD_ (by repeat (first | (with_reducible exact HR361_0.out) | (with_reducible refine cA_ ?_ _) | (with_reducible refine cB_ ?_ _) | (with_reducible refine cC_ ?_) | exact HR361_0.out)) hb)
         replace HR361_1:=A_ (cD_ (by repeat (first | (with_reducible exact HR361_1.out) | (with_reducible refine cA_ ?_ _) | (with_reducible refine cB_ ?_ _) | (with_reducible refine cC_ ?_) | exact HR361_1.out)) hb)
         replace HB:=b1_ hb
         clear HO_6
         clear hb ho58
         refine hK.out _ _ trivial (fun hHeld=>?_)
         clear hK K
         refine no_ (some 50) ?_
         refine on_ 0 (some 44) (bl_ 13 1903) HT_ (fun K hK=>?_)
         refine Kd.N_lit_step (Kd.slice 3 (Kd.int .i64)) _ 27 ?hg (N':=44) ?hd (xs:=([]:List (List Int))) (inner:=[]) (ok:=(fun k_=>(w.heap.size≤k_)∧some k_≠(.slice Ao52 x3_1.length co52:Value).ownBlock∧some k_≠(.slice (some ad361) t358.length co6:Value).ownBlock∧some k_≠(v407:Value).ownBlock∧k_≠gb362)) (okp:=(fun k_=>(w.heap.size≤k_)∧some k_≠(.slice Ao52 x3_1.length co52:Value).ownBlock∧some k_≠(.slice (some ad361) t358.length co6:Value).ownBlock∧some k_≠(v407:Value).ownBlock∧k_≠gb362)) ?hr ?hp (fun _ hk=>hk) ((show ∀ k_,w57.heap.size≤k_→(fun k_=>(w.heap.size≤k_)∧some k_≠(.slice Ao52 x3_1.length co52:Value).ownBlock∧some k_≠(.slice (some ad361) t358.length co6:Value).ownBlock∧some k_≠(v407:Value).ownBlock∧k_≠gb362) k_ from fun k_ hk=>⟨(Nat.le_trans (bF_ hB_) hk),Kd.fresh' (Kd.N_lt (by (with_reducible repeat (first | apply Kd.N_alloc | apply Kd.N_drewN | apply Kd.N_drew));exact HO_3.out)) k_ hk,Kd.fresh' (Kd.N_lt (by (with_reducible repeat (first | apply Kd.N_alloc | apply Kd.N_drewN | apply Kd.N_drew));exact HO_10.out)) k_ hk,Kd.fresh' (Kd.N_lt (by (with_reducible repeat (first | apply Kd.N_alloc | apply Kd.N_drewN | apply Kd.N_drew));exact HO408.out)) k_ hk,Kd.freshB (kk_ BK362) k_ hk⟩) _ (nA_ _)) (Below.refl _ _) (nA_ _) (by simp) ?_;(case hd=>rfl);(case hg=>rfl);(case hr=>first | (go_simp;done) | (go_simp;rfl));(case hp=>exact (Reps.none _ _))
         intro v396 w59 ho60 hb hg_ hnew_
         clear hg_ hnew_
         (first | rw [← Ny395.out] at ho60 | (simp only [Int.reduceToNat] at ho60;rw [← Ny395.out] at ho60))
         replace HO_3:=A_ (Kd.N_elder' (by (with_reducible repeat (first | apply Kd.N_alloc | apply Kd.N_drewN | apply Kd.N_drew));exact HO_3.out) (Kd.N_base ho60) hb)
         replace HO_10:=A_ (Kd.N_elder' (by (with_reducible repeat (first | apply Kd.N_alloc | apply Kd.N_drewN | apply Kd.N_drew));exact HO_10.out) (Kd.N_base ho60) hb)
         replace HO_363000:=A_ (Kd.V_elder' (by (with_reducible repeat (first | apply Kd.V_alloc | apply Kd.V_drewN | apply Kd.V_drew));exact HO_363000.out) (Kd.N_base ho60) hb)
         replace HO_363001:=A_ (Kd.V_elder' (by (with_reducible repeat (first | apply Kd.V_alloc | apply Kd.V_drewN | apply Kd.V_drew));exact HO_363001.out) (Kd.N_base ho60) hb)
         replace HO402:=A_ (Kd.V_elder' (by (with_reducible repeat (first | apply Kd.V_alloc | apply Kd.V_drewN | apply Kd.V_drew));exact HO402.out) (Kd.N_base ho60) hb)
         replace HO416:=A_ (Kd.V_elder' (by (with_reducible repeat (first | apply Kd.V_alloc | apply Kd.V_drewN | apply Kd.V_drew));exact HO416.out) (Kd.N_base ho60) hb)
         replace HO408:=A_ (Kd.N_elder' (by (with_reducible repeat (first | apply Kd.N_alloc | apply Kd.N_drewN | apply Kd.N_drew));exact HO408.out) (Kd.N_base ho60) hb)
         have HO397:=A_ (Kd.N_lower ho60 (bF_ hB_))
         replace BK362:=bb_ BK362 hb
         replace HR361_0:=A_ (cD_ (by repeat (first | (with_reducible exact HR361_0.out) | (with_reducible refine cA_ ?_ _) | (with_reducible refine cB_ ?_ _) | (with_reducible refine cC_ ?_) | exact HR361_0.out)) hb)
         replace HR361_1:=A_ (cD_ (by repeat (first | (with_reducible exact HR361_1.out) | (with_reducible refine cA_ ?_ _) | (with_reducible refine cB_ ?_ _) | (with_reducible refine cC_ ?_) | exact HR361_1.out)) hb)
         replace HB:=b1_ hb
         clear hb ho60
         refine hK.out _ _ trivial (fun hHeld=>?_)
         clear hK K
         refine no_ (some 44) ?_
         refine on_ 4 (some 48) (bl_ 13 1919) HT_ (fun K hK=>?_)
         refine Kd.N_append_rows_step (Kd.slice 3 (Kd.int .i64)) (w0:=w) w.heap.size (by rfl) (.tmp 44) (.tmp 47) 22 27 (.slice none 0 0) 24 rfl Tryz.underlying22 info27 rfl (by decide) (by omega) v396 y395 y398 _ _ _ (fun k_=>(w.heap.size≤k_)∧some k_≠(.slice (some ad361) t358.length co6:Value).ownBlock∧some k_≠(v407:Value).ownBlock∧k_≠gb362) (fun k_=>((fun k_=>(w.heap.size≤k_)∧some k_≠(.slice (some ad361) t358.length co6:Value).ownBlock∧some k_≠(v407:Value).ownBlock∧k_≠gb362)) k_∧some k_≠(v396:Value).ownBlock) rfl rfl ?aO ?aR (fun _ hk=>hk) ?aF ?aB ?aS ?aL ?_
         (case aR=>exact (by skip;exact Kd.V_F (Kd.V_mono (ok':=(fun k_=>((fun k_=>(w.heap.size≤k_)∧some k_≠(.slice (some ad361) t358.length co6:Value).ownBlock∧some k_≠(v407:Value).ownBlock∧k_≠gb362)) k_∧some k_≠(v396:Value).ownBlock)) (HO402.out) Z20.ay)))
         (case aB=>exact hB_)
         (case aF=>exact (fun k_ hk=>⟨(Nat.le_trans (bF_ hB_) hk),Kd.fresh' (Kd.N_lt (by (with_reducible repeat (first | apply Kd.N_alloc | apply Kd.N_drewN | apply Kd.N_drew));exact HO_10.out)) k_ hk,Kd.fresh' (Kd.N_lt (by (with_reducible repeat (first | apply Kd.N_alloc | apply Kd.N_drewN | apply Kd.N_drew));exact HO408.out)) k_ hk,Kd.freshB (kk_ BK362) k_ hk⟩))
         (case aO=>exact (by (with_reducible repeat (first | apply Kd.N_alloc | apply Kd.N_drewN | apply Kd.N_drew));exact Kd.N_mono HO397.out Z20.ay))
         (case aS=>exact (bF_ hB_))
         (case aL=>have:=LMc47.out;omega)
         intro v404 w61 ho hb hg hat
         rw [← Ny403.out] at ho
         replace HO_3:=A_ (Kd.N_afterv (ok:=(fun k_=>(w.heap.size≤k_)∧some k_≠(.slice (some ad361) t358.length co6:Value).ownBlock∧some k_≠(v407:Value).ownBlock∧k_≠gb362)) (by (with_reducible repeat (first | apply Kd.N_alloc | apply Kd.N_drewN | apply Kd.N_drew));exact Kd.N_mono HO_3.out Z20.ay) hg hat)
         replace HO_10:=A_ (Kd.N_afterv (ok:=(fun k_=>(w.heap.size≤k_)∧some k_≠(.slice Ao52 x3_1.length co52:Value).ownBlock∧some k_≠(v407:Value).ownBlock∧k_≠gb362)) (by (with_reducible repeat (first | apply Kd.N_alloc | apply Kd.N_drewN | apply Kd.N_drew));exact Kd.N_mono HO_10.out Z20.ay) hg hat)
         replace HO_363000:=A_ (Kd.V_afterv (ok:=(fun k_=>(w.heap.size≤k_)∧some k_≠(.slice Ao52 x3_1.length co52:Value).ownBlock∧some k_≠(.slice (some ad361) t358.length co6:Value).ownBlock∧some k_≠(v407:Value).ownBlock∧k_≠gb362)) (by (with_reducible repeat (first | apply Kd.V_alloc | apply Kd.V_drewN | apply Kd.V_drew));exact Kd.V_mono HO_363000.out Z20.ay) hg hat)
         replace HO_363001:=A_ (Kd.V_afterv (ok:=(fun k_=>(w.heap.size≤k_)∧some k_≠(.slice Ao52 x3_1.length co52:Value).ownBlock∧some k_≠(.slice (some ad361) t358.length co6:Value).ownBlock∧some k_≠(v407:Value).ownBlock∧k_≠gb362)) (by (with_reducible repeat (first | apply Kd.V_alloc | apply Kd.V_drewN | apply Kd.V_drew));exact Kd.V_mono HO_363001.out Z20.ay) hg hat)
         replace BK362:=A_ (blk_grown (kk_ BK362) hg (Kd.N_ne HO397.out BK362.out (by decide)))
         replace HO402:=A_ (Kd.V_afterv (ok:=(fun k_=>(w.heap.size≤k_)∧some k_≠(.slice (some ad361) t358.length co6:Value).ownBlock∧some k_≠(v407:Value).ownBlock∧k_≠gb362)) (by (with_reducible repeat (first | apply Kd.V_alloc | apply Kd.V_drewN | apply Kd.V_drew));exact Kd.V_mono HO402.out Z20.ay) hg hat)
         replace HO416:=A_ (Kd.V_afterv (ok:=(fun k_=>(w.heap.size≤k_)∧some k_≠(.slice (some ad361) t358.length co6:Value).ownBlock∧some k_≠(v407:Value).ownBlock∧k_≠gb362)) (by (with_reducible repeat (first | apply Kd.V_alloc | apply Kd.V_drewN | apply Kd.V_drew));exact Kd.V_mono HO416.out Z20.ay) hg hat)
         replace HO408:=A_ (Kd.N_afterv (ok:=(fun k_=>(w.heap.size≤k_)∧some k_≠(.slice Ao52 x3_1.length co52:Value).ownBlock∧some k_≠(.slice (some ad361) t358.length co6:Value).ownBlock∧k_≠gb362)) (by (with_reducible repeat (first | apply Kd.N_alloc | apply Kd.N_drewN | apply Kd.N_drew));exact Kd.N_mono HO408.out Z20.ay) hg hat)
         replace HB:=A_ hb
         have HO405:=A_ ho
         clear HO397
         clear ho hb hg hat
         refine hK.out _ _ trivial (fun hHeld=>?_)
         clear hK K
         refine no_ (some 48) ?_
         exact norm_ (by simp only [putAll,Act.put,sA_,sB_,sC_]) (hCont (v396,v404,v407) _ ⟨(by (with_reducible repeat (first | apply Kd.V_alloc | apply Kd.V_drewN | apply Kd.V_drew));exact Kd.V_mono HO402.out Z20.ay),(by (with_reducible repeat (first | apply Kd.N_alloc | apply Kd.N_drewN | apply Kd.N_drew));exact Kd.N_mono HO405.out Z20.ay),(by (with_reducible repeat (first | apply Kd.N_alloc | apply Kd.N_drewN | apply Kd.N_drew));exact Kd.N_mono HO408.out Z20.ay),(by (with_reducible repeat (first | apply Kd.V_alloc | apply Kd.V_drewN | apply Kd.V_drew));exact Kd.V_mono HO416.out Z20.ay),(by (with_reducible repeat (first | apply Kd.N_alloc | apply Kd.N_drewN | apply Kd.N_drew));exact Kd.N_mono HO_10.out Z20.ay),(by (with_reducible repeat (first | apply Kd.N_alloc | apply Kd.N_drewN | apply Kd.N_drew));exact Kd.N_mono HO_3.out Z20.ay),(by (with_reducible repeat (first | apply Kd.V_alloc | apply Kd.V_drewN | apply Kd.V_drew));exact Kd.V_mono HO_363000.out Z20.ay),(by (with_reducible repeat (first | apply Kd.V_alloc | apply Kd.V_drewN | apply Kd.V_drew));exact Kd.V_mono HO_363001.out Z20.ay),(kk_ BK362),hB_⟩)
       rintro ⟨v396,v404,v407⟩ w62 ⟨h0_,h1_,h2_,h3_,h4_,h5_,h6_,h7_,h8_,h9_⟩
       have n0_:Aside0 (Kd.V (Kd.slice 3 (Kd.int .i64)) 27 w62 w.heap.size (fun k_=>(w.heap.size≤k_)∧some k_≠(v404:Value).ownBlock∧some k_≠(v407:Value).ownBlock∧some k_≠(.slice (some ad361) t358.length co6:Value).ownBlock∧k_≠gb362) (.slice Ao52 y398.length co52) y398):=⟨h0_⟩
       have n1_:Aside0 (Kd.N (Kd.slice 3 (Kd.int .i64)) 27 w62 w.heap.size (fun k_=>(w.heap.size≤k_)∧some k_≠(v407:Value).ownBlock∧some k_≠(.slice (some ad361) t358.length co6:Value).ownBlock∧k_≠gb362) v404 y403):=⟨h1_⟩
       have n2_:Aside0 (Kd.N (Kd.slice 3 (Kd.int .i64)) 27 w62 w.heap.size (fun k_=>(w.heap.size≤k_)∧some k_≠(v404:Value).ownBlock∧some k_≠(.slice (some ad361) t358.length co6:Value).ownBlock∧some k_≠(.slice Ao52 x3_1.length co52:Value).ownBlock∧k_≠gb362) v407 y406):=⟨h2_⟩
       have n3_:Aside0 (Kd.V (Kd.slice 3 (Kd.int .i64)) 27 w62 w.heap.size (fun k_=>(w.heap.size≤k_)∧some k_≠(v404:Value).ownBlock∧some k_≠(v407:Value).ownBlock∧some k_≠(.slice (some ad361) t358.length co6:Value).ownBlock∧k_≠gb362) (.slice A55 y412.length c55) y412):=⟨h3_⟩
       have n4_:Aside0 (Kd.N k38 38 w62 w.heap.size (fun k_=>(w.heap.size≤k_)∧some k_≠(v404:Value).ownBlock∧some k_≠(v407:Value).ownBlock∧some k_≠(.slice Ao52 x3_1.length co52:Value).ownBlock∧k_≠gb362) (.slice (some ad361) t358.length co6) t358):=⟨h4_⟩
       have n5_:Aside0 (Kd.N (Kd.slice 3 (Kd.int .i64)) 27 w62 w.heap.size (fun k_=>(w.heap.size≤k_)∧some k_≠(v404:Value).ownBlock∧some k_≠(v407:Value).ownBlock∧some k_≠(.slice (some ad361) t358.length co6:Value).ownBlock∧k_≠gb362) (.slice Ao52 x3_1.length co52) x3_1):=⟨h5_⟩
       have n6_:Aside0 (Kd.V (Kd.int .i64) 3 w62 w.heap.size (fun k_=>(w.heap.size≤k_)∧some k_≠(v404:Value).ownBlock∧some k_≠(v407:Value).ownBlock∧some k_≠(.slice (some ad361) t358.length co6:Value).ownBlock∧some k_≠(.slice Ao52 x3_1.length co52:Value).ownBlock∧k_≠gb362) (.slice A361_0 ((rd_T38 t358 x12_1).f0).length c361_0) ((rd_T38 t358 x12_1).f0)):=⟨h6_⟩
       have n7_:Aside0 (Kd.V (Kd.int .i64) 3 w62 w.heap.size (fun k_=>(w.heap.size≤k_)∧some k_≠(v404:Value).ownBlock∧some k_≠(v407:Value).ownBlock∧some k_≠(.slice (some ad361) t358.length co6:Value).ownBlock∧some k_≠(.slice Ao52 x3_1.length co52:Value).ownBlock∧k_≠gb362) (.slice A361_1 ((rd_T38 t358 x12_1).f1).length c361_1) ((rd_T38 t358 x12_1).f1)):=⟨h7_⟩
       have n8_:Aside0 (w62.heap[gb362]? = some (.cells #[.slice A361_0 ((rd_T38 t358 x12_1).f0).length c361_0,.slice A361_1 ((rd_T38 t358 x12_1).f1).length c361_1] 38 (0,0))):=⟨h8_⟩
       have n9_:Aside0 (Below w.heap.size w w62):=⟨h9_⟩
       clear HO_3
       clear HO_6
       clear HO_10
       clear HO_363000
       clear HO_363001
       clear BK362
       clear HR361_0
       clear HR361_1
       clear HB
       clear h0_ h1_ h2_ h3_ h4_ h5_ h6_ h7_ h8_ h9_
       have HO402:=n0_
       have HO405:=n1_
       have HO408:=n2_
       have HO416:=n3_
       have HO_10:=n4_
       have HO_3:=n5_
       have HO_363000:=n6_
       have HO_363001:=n7_
       have BK362:=n8_
       have HB:=n9_
       clear n0_ n1_ n2_ n3_ n4_ n5_ n6_ n7_ n8_ n9_
       have hHeld:=trivial
       obtain ⟨Ao64,co64,eo64⟩:=Kd.N_slice HO408.out
       (first | subst eo64 | (injection eo64 with f1_ f2_ f3_;have f4_:=f1_.symm;have f5_:=f3_.symm;clear f1_ f2_ f3_;subst f4_;subst f5_))
       refine norm_ (a':=?_) ?_ ?_
       rotate_left
       ·simp only [putAll,Act.put,sA_,sB_,sC_]
        rfl
       refine on_ 7 (some 51) (bl_ 13 2047) HT_ (fun K hK=>?_)
       refine Kd.N_append_rows_step (Kd.slice 3 (Kd.int .i64)) (w0:=w) w.heap.size (by rfl) (.tmp 48) (.tmp 50) 22 27 (.slice none 0 0) 24 rfl Tryz.underlying22 info27 rfl (by decide) (by omega) v404 y403 y406 _ _ _ (fun k_=>(w.heap.size≤k_)∧some k_≠(.slice (some ad361) t358.length co6:Value).ownBlock∧k_≠gb362) (fun k_=>((fun k_=>(w.heap.size≤k_)∧some k_≠(.slice (some ad361) t358.length co6:Value).ownBlock∧k_≠gb362)) k_∧some k_≠(v404:Value).ownBlock) rfl rfl ?aO ?aR (fun _ hk=>hk) ?aF ?aB ?aS ?aL ?_
       (case aR=>exact (by skip;exact Kd.N_F (Kd.N_mono (ok':=(fun k_=>((fun k_=>(w.heap.size≤k_)∧some k_≠(.slice (some ad361) t358.length co6:Value).ownBlock∧k_≠gb362)) k_∧some k_≠(v404:Value).ownBlock)) (HO408.out) Z20.ay)))
       (case aB=>exact hB_)
       (case aF=>exact (fun k_ hk=>⟨(Nat.le_trans (bF_ hB_) hk),Kd.fresh' (Kd.N_lt (by (with_reducible repeat (first | apply Kd.N_alloc | apply Kd.N_drewN | apply Kd.N_drew));exact HO_10.out)) k_ hk,Kd.freshB (kk_ BK362) k_ hk⟩))
       (case aO=>exact (by (with_reducible repeat (first | apply Kd.N_alloc | apply Kd.N_drewN | apply Kd.N_drew));exact Kd.N_mono HO405.out Z20.ay))
       (case aS=>exact (bF_ hB_))
       (case aL=>have:=LMc48.out;omega)
       intro v410 w63 ho hb hg hat
       rw [← Ny409.out] at ho
       replace HO_3:=A_ (Kd.N_afterv (ok:=(fun k_=>(w.heap.size≤k_)∧some k_≠(.slice (some ad361) t358.length co6:Value).ownBlock∧some k_≠(.slice Ao64 y406.length co64:Value).ownBlock∧k_≠gb362)) (by (with_reducible repeat (first | apply Kd.N_alloc | apply Kd.N_drewN | apply Kd.N_drew));exact Kd.N_mono HO_3.out Z20.ay) hg hat)
       replace HO_10:=A_ (Kd.N_afterv (ok:=(fun k_=>(w.heap.size≤k_)∧some k_≠(.slice Ao52 x3_1.length co52:Value).ownBlock∧some k_≠(.slice Ao64 y406.length co64:Value).ownBlock∧k_≠gb362)) (by (with_reducible repeat (first | apply Kd.N_alloc | apply Kd.N_drewN | apply Kd.N_drew));exact Kd.N_mono HO_10.out Z20.ay) hg hat)
       replace HO_363000:=A_ (Kd.V_afterv (ok:=(fun k_=>(w.heap.size≤k_)∧some k_≠(.slice Ao52 x3_1.length co52:Value).ownBlock∧some k_≠(.slice (some ad361) t358.length co6:Value).ownBlock∧some k_≠(.slice Ao64 y406.length co64:Value).ownBlock∧k_≠gb362)) (by (with_reducible repeat (first | apply Kd.V_alloc | apply Kd.V_drewN | apply Kd.V_drew));exact Kd.V_mono HO_363000.out Z20.ay) hg hat)
       replace HO_363001:=A_ (Kd.V_afterv (ok:=(fun k_=>(w.heap.size≤k_)∧some k_≠(.slice Ao52 x3_1.length co52:Value).ownBlock∧some k_≠(.slice (some ad361) t358.length co6:Value).ownBlock∧some k_≠(.slice Ao64 y406.length co64:Value).ownBlock∧k_≠gb362)) (by (with_reducible repeat (first | apply Kd.V_alloc | apply Kd.V_drewN | apply Kd.V_drew));exact Kd.V_mono HO_363001.out Z20.ay) hg hat)
       replace BK362:=A_ (blk_grown (kk_ BK362) hg (Kd.N_ne HO405.out BK362.out (by decide)))
       replace HO402:=A_ (Kd.V_afterv (ok:=(fun k_=>(w.heap.size≤k_)∧some k_≠(.slice (some ad361) t358.length co6:Value).ownBlock∧some k_≠(.slice Ao64 y406.length co64:Value).ownBlock∧k_≠gb362)) (by (with_reducible repeat (first | apply Kd.V_alloc | apply Kd.V_drewN | apply Kd.V_drew));exact Kd.V_mono HO402.out Z20.ay) hg hat)
       replace HO416:=A_ (Kd.V_afterv (ok:=(fun k_=>(w.heap.size≤k_)∧some k_≠(.slice (some ad361) t358.length co6:Value).ownBlock∧some k_≠(.slice Ao64 y406.length co64:Value).ownBlock∧k_≠gb362)) (by (with_reducible repeat (first | apply Kd.V_alloc | apply Kd.V_drewN | apply Kd.V_drew));exact Kd.V_mono HO416.out Z20.ay) hg hat)
       replace HO408:=A_ (Kd.N_afterv (ok:=(fun k_=>(w.heap.size≤k_)∧some k_≠(.slice Ao52 x3_1.length co52:Value).ownBlock∧some k_≠(.slice (some ad361) t358.length co6:Value).ownBlock∧k_≠gb362)) (by (with_reducible repeat (first | apply Kd.N_alloc | apply Kd.N_drewN | apply Kd.N_drew));exact Kd.N_mono HO408.out Z20.ay) hg hat)
       replace HB:=A_ hb
       have HO411:=A_ ho
       clear HO405
       clear ho hb hg hat
       refine hK.out _ _ trivial (fun hHeld=>?_)
       clear hK K
       refine no_ (some 51) ?_
       refine on_ 11 (some 55) (bl_ 13 4095) HT_ (fun K hK=>?_)
       refine Kd.N_append_rows_step (Kd.slice 3 (Kd.int .i64)) (w0:=w) w.heap.size (by rfl) (.tmp 51) (.tmp 54) 22 27 (.slice none 0 0) 24 rfl Tryz.underlying22 info27 rfl (by decide) (by omega) v410 y409 y412 _ _ _ (fun k_=>(w.heap.size≤k_)∧some k_≠(.slice (some ad361) t358.length co6:Value).ownBlock∧k_≠gb362) (fun k_=>((fun k_=>(w.heap.size≤k_)∧some k_≠(.slice (some ad361) t358.length co6:Value).ownBlock∧k_≠gb362)) k_∧some k_≠(v410:Value).ownBlock) rfl rfl ?aO ?aR (fun _ hk=>hk) ?aF ?aB ?aS ?aL ?_
       (case aR=>exact (by skip;exact Kd.V_F (Kd.V_mono (ok':=(fun k_=>((fun k_=>(w.heap.size≤k_)∧some k_≠(.slice (some ad361) t358.length co6:Value).ownBlock∧k_≠gb362)) k_∧some k_≠(v410:Value).ownBlock)) (HO416.out) Z20.ay)))
       (case aB=>exact hB_)
       (case aF=>exact (fun k_ hk=>⟨(Nat.le_trans (bF_ hB_) hk),Kd.fresh' (Kd.N_lt (by (with_reducible repeat (first | apply Kd.N_alloc | apply Kd.N_drewN | apply Kd.N_drew));exact HO_10.out)) k_ hk,Kd.freshB (kk_ BK362) k_ hk⟩))
       (case aO=>exact (by (with_reducible repeat (first | apply Kd.N_alloc | apply Kd.N_drewN | apply Kd.N_drew));exact HO411.out))
       (case aS=>exact (bF_ hB_))
       (case aL=>have:=LMc51.out;omega)
       intro v418 w65 ho hb hg hat
       rw [← Ny417.out] at ho
       replace HO_3:=A_ (Kd.N_afterv (ok:=(fun k_=>(w.heap.size≤k_)∧some k_≠(.slice (some ad361) t358.length co6:Value).ownBlock∧some k_≠(.slice Ao64 y406.length co64:Value).ownBlock∧k_≠gb362)) (by (with_reducible repeat (first | apply Kd.N_alloc | apply Kd.N_drewN | apply Kd.N_drew));exact Kd.N_mono HO_3.out Z20.ay) hg hat)
       replace HO_10:=A_ (Kd.N_afterv (ok:=(fun k_=>(w.heap.size≤k_)∧some k_≠(.slice Ao52 x3_1.length co52:Value).ownBlock∧some k_≠(.slice Ao64 y406.length co64:Value).ownBlock∧k_≠gb362)) (by (with_reducible repeat (first | apply Kd.N_alloc | apply Kd.N_drewN | apply Kd.N_drew));exact Kd.N_mono HO_10.out Z20.ay) hg hat)
       replace HO_363000:=A_ (Kd.V_afterv (ok:=(fun k_=>(w.heap.size≤k_)∧some k_≠(.slice Ao52 x3_1.length co52:Value).ownBlock∧some k_≠(.slice (some ad361) t358.length co6:Value).ownBlock∧some k_≠(.slice Ao64 y406.length co64:Value).ownBlock∧k_≠gb362)) (by (with_reducible repeat (first | apply Kd.V_alloc | apply Kd.V_drewN | apply Kd.V_drew));exact Kd.V_mono HO_363000.out Z20.ay) hg hat)
       replace HO_363001:=A_ (Kd.V_afterv (ok:=(fun k_=>(w.heap.size≤k_)∧some k_≠(.slice Ao52 x3_1.length co52:Value).ownBlock∧some k_≠(.slice (some ad361) t358.length co6:Value).ownBlock∧some k_≠(.slice Ao64 y406.length co64:Value).ownBlock∧k_≠gb362)) (by (with_reducible repeat (first | apply Kd.V_alloc | apply Kd.V_drewN | apply Kd.V_drew));exact Kd.V_mono HO_363001.out Z20.ay) hg hat)
       replace BK362:=A_ (blk_grown (kk_ BK362) hg (Kd.N_ne HO411.out BK362.out (by decide)))
       replace HO402:=A_ (Kd.V_afterv (ok:=(fun k_=>(w.heap.size≤k_)∧some k_≠(.slice (some ad361) t358.length co6:Value).ownBlock∧some k_≠(.slice Ao64 y406.length co64:Value).ownBlock∧k_≠gb362)) (by (with_reducible repeat (first | apply Kd.V_alloc | apply Kd.V_drewN | apply Kd.V_drew));exact Kd.V_mono HO402.out Z20.ay) hg hat)
       replace HO416:=A_ (Kd.V_afterv (ok:=(fun k_=>(w.heap.size≤k_)∧some k_≠(.slice (some ad361) t358.length co6:Value).ownBlock∧some k_≠(.slice Ao64 y406.length co64:Value).ownBlock∧k_≠gb362)) (by (with_reducible repeat (first | apply Kd.V_alloc | apply Kd.V_drewN | apply Kd.V_drew));exact Kd.V_mono HO416.out Z20.ay) hg hat)
       replace HO408:=A_ (Kd.N_afterv (ok:=(fun k_=>(w.heap.size≤k_)∧some k_≠(.slice Ao52 x3_1.length co52:Value).ownBlock∧some k_≠(.slice (some ad361) t358.length co6:Value).ownBlock∧k_≠gb362)) (by (with_reducible repeat (first | apply Kd.N_alloc | apply Kd.N_drewN | apply Kd.N_drew));exact Kd.N_mono HO408.out Z20.ay) hg hat)
       replace HB:=A_ hb
       have HO419:=A_ ho
       clear HO411
       clear ho hb hg hat
       refine hK.out _ _ trivial (fun hHeld=>?_)
       clear hK K
       refine no_ (some 55) ?_
       refine pu_ 12 (some 3) (bl_ 13 8191) HT_ ?_
       refine done_ (done_of HT_.out (by kernel_rfl)) ?_
       try go_wp2
       go_roundg k2
       case measure=>have:=HK1.out;have:=HK2.out;omega
       case rel=>exact ⟨(y417),(wrap64 (x12_1 + 1)),qc_,H',⟨by have:=HK1.out;have:=HK2.out;omega⟩,⟨by (with_reducible repeat (first | apply Kd.N_alloc | apply Kd.N_drewN | apply Kd.N_drew));exact Kd.N_mono HO419.out Z20.ay⟩,⟨by (with_reducible repeat (first | apply Kd.N_alloc | apply Kd.N_drewN | apply Kd.N_drew));exact Kd.N_mono HO_10.out Z20.ay⟩,⟨hB_⟩⟩
   ·rw [if_neg c7] at H
    have c7b0:=oD_ c7
    clear c7
    obtain rfl:=Option.some.inj H
    go_wp2
    go_ret
    exact ⟨_,qb_,by (with_reducible repeat (first | apply Kd.N_alloc | apply Kd.N_drewN | apply Kd.N_drew));exact Kd.N_mono HO_3.out (fun _ hk=>hk.1),hB_⟩
end Go.Proofs.YtoijcallajegfaaGreat.A
end
section
namespace Go.Proofs.YtoijcallajegfaaGreat.A
open Go.RowKit Go.Proofs.YtoijcallajegfaaGreatW.PrintWords Go.Proofs.YtoijcallajegfaaGreatW.PrintLast Go.Proofs.YtoijcallajegfaaGreatW.PrintMore
attribute [local go_sem] max2_int min2_int max_two min_two max_three min_three max_four min_four
set_option linter.unusedVariables false
set_option linter.unusedSimpArgs false
def Z6.l0:Nat→List Int→Int→Int→Int→Option (Int)
 | 0,_,_,_,_=>none
 | k + 1,x0,x1,x7,x8=>if x8 < x7 then (if 0≤x8 then (if x8 < (x0.length:Int) then (if x1 = (rd x0 x8) then (some x8) else (Z6.l0 k x0 x1 x7 (wrap64 (x8 + 1)))) else (none)) else (none)) else (some (-1))
def Z6.f (k:Nat) (l0:List Int) (a1:Int):Option (Int):=Z6.l0 k l0 a1 (l0.length:Int) 0
theorem Z6.mono_l:∀ k,(∀ y0 y1 y2 y3,LeO (Z6.l0 k y0 y1 y2 y3) (Z6.l0 (k + 1) y0 y1 y2 y3))
 | 0=>fun _ _ _ _ r h=>by simp [Z6.l0] at h
 | k + 1=>by
  have ih0:=Z6.mono_l k
  ·intro y0 y1 y2 y3
   unfold Z6.l0
   repeat' first|exact ih0 _ _ _ _|exact lo_|refine LeO.ite ?_ ?_|refine LeO.bind ?_ (fun _=>?_)
theorem Z6.mono:∀ a0 a1 k,LeO (Z6.f k a0 a1) (Z6.f (k + 1) a0 a1):=by
 intro a0 a1 k
 have ih0:=Z6.mono_l k
 unfold Z6.f
 repeat' first|exact ih0 _ _ _ _|exact lo_|refine LeO.ite ?_ ?_|refine LeO.bind ?_ (fun _=>?_)
set_option maxHeartbeats 8000000 in
set_option maxRecDepth 100000 in
theorem Z6.calls (k:Nat) (A0:Option Addr) (c0:Nat) (l0:List Int) (a1:Int) (r:Int) (w:World) (hr0:Kd.C (Kd.int .i64) w A0 l0.length l0) (hc0:l0.length≤c0) (h:Z6.f k l0 a1 = some r) :
  Calls Tryz.prog 83 #[.slice A0 l0.length c0,.int .i64 a1] w fun e w'=>e = .returned (.int .i64 r)∧Drawn0 w w':=by
 have HR0:=A_ hr0
 have HC0:=A_ hc0
 clear hr0 hc0
 have H:=h
 unfold Z6.f at H
 clear h
 have H':=A_ H
 clear H
 go_enter Tryz.func83,Tryz.ntmps83
 go_wp2
 go_loopg [8] k (fun kq v8 w'=>∃ (x8_1:Int),v8 = .int .i64 x8_1∧Aside0 (Z6.l0 kq l0 a1 (l0.length:Int) x8_1 = some r)∧Aside0 (kq≤k)∧Drawn0 w w')
 case atStart=>exact ⟨(0),qc_,H',⟨nA_ _⟩,by repeat (first | exact Drawn0.refl _ | apply Drawn0.step)⟩
 case round =>
  clear H'
  obtain ⟨x8_1,rfl,HA,HK1,⟨m1,rfl⟩⟩:=hrel
  cases gk with
  | zero=>exact absurd HA.out (by simp [Z6.l0])
  | succ k1 =>
   have H:=HA.out
   clear HA
   simp only [Z6.l0] at H
   by_cases c3:x8_1 < (l0.length:Int)
   ·rw [if_pos c3] at H
    have c3b0:=oC_ c3
    clear c3
    have c4:=cp_ H
    replace H:=ca_ H
    have c4b0:=oC_ c4
    clear c4
    have c5:=cp_ H
    replace H:=ca_ H
    have c5b0:=oC_ c5
    clear c5
    by_cases c6:a1 = (rd l0 x8_1)
    ·rw [if_pos c6] at H
     have c6b0:(a1 == (rd l0 x8_1)) = true:=beq_iff_eq.mpr c6
     have c6b1:(a1 != (rd l0 x8_1)) = false:=bne_eq_false_iff_eq.mpr c6
     clear c6
     obtain rfl:=Option.some.inj H
     have p420:0≤(x8_1:Int):=oB_ qe_
     have q420:x8_1 < (l0.length:Int):=oB_ qe_
     obtain ⟨ad420,e420,hx420_0⟩:=Kd.at_int HR0.out x8_1 p420 q420
     cases e420
     replace p420:=eq_true p420
     replace q420:=eq_true q420
     go_wp2
     go_ret
     exact ⟨qc_,by repeat (first | exact Drawn0.refl _ | apply Drawn0.step)⟩
    ·rw [if_neg c6] at H
     have c6b0:(a1 == (rd l0 x8_1)) = false:=beq_eq_false_iff_ne.mpr c6
     have c6b1:(a1 != (rd l0 x8_1)) = true:=bne_iff_ne.mpr c6
     have H':=A_ H
     clear H
     have p420:0≤(x8_1:Int):=oB_ qe_
     have q420:x8_1 < (l0.length:Int):=oB_ qe_
     obtain ⟨ad420,e420,hx420_0⟩:=Kd.at_int HR0.out x8_1 p420 q420
     cases e420
     replace p420:=eq_true p420
     replace q420:=eq_true q420
     go_wp2
     go_roundg k1
     case measure=>have:=HK1.out;omega
     case rel=>exact ⟨(wrap64 (x8_1 + 1)),qc_,H',⟨by have:=HK1.out;omega⟩,by repeat (first | exact Drawn0.refl _ | apply Drawn0.step)⟩
   ·rw [if_neg c3] at H
    have c3b0:=oD_ c3
    clear c3
    obtain rfl:=Option.some.inj H
    go_wp2
    go_ret
    exact ⟨qc_,by repeat (first | exact Drawn0.refl _ | apply Drawn0.step)⟩
def Z1.f (k:Nat) (l0:List Int) (a1:Int):Option (Bool):=(Z6.f k l0 a1).bind fun t421=>(some (decide (t421 ≥ 0)))
theorem Z1.mono:∀ a0 a1 k,LeO (Z1.f k a0 a1) (Z1.f (k + 1) a0 a1):=by
 intro a0 a1 k
 unfold Z1.f
 repeat' first|exact Z6.mono _ _ _|exact lo_|refine LeO.ite ?_ ?_|refine LeO.bind ?_ (fun _=>?_)
set_option maxHeartbeats 8000000 in
set_option maxRecDepth 100000 in
theorem Z1.calls (k:Nat) (A0:Option Addr) (c0:Nat) (l0:List Int) (a1:Int) (r:Bool) (w:World) (hr0:Kd.C (Kd.int .i64) w A0 l0.length l0) (hc0:l0.length≤c0) (h:Z1.f k l0 a1 = some r) :
  Calls Tryz.prog 53 #[.slice A0 l0.length c0,.int .i64 a1] w fun e w'=>e = .returned (.bool r)∧Drawn0 w w':=by
 have HR0:=A_ hr0
 have HC0:=A_ hc0
 clear hr0 hc0
 have H:=h
 unfold Z1.f at H
 clear h
 obtain ⟨t421,A3,H⟩:=bi_ H
 obtain rfl:=Option.some.inj H
 go_enter Tryz.func53,Tryz.ntmps53
 go_wp2_with (first | ((with_reducible refine gA_ (f:=83) rfl ?_);refine gL_ (some 7) Tryz.func83 #[.slice A0 l0.length c0,.int .i64 a1] rfl qa_ ?_;(with_reducible refine (Z6.calls k _ _ l0 a1 t421 _ (cc_ HR0) HC0.out A3.out).mono ?_);rintro e w' ⟨rfl,⟨nd,rfl⟩⟩;refine ⟨_,rfl,?_⟩))
 go_ret
 exact ⟨qc_,by repeat (first | exact Drawn0.refl _ | apply Drawn0.step)⟩
def Z45.f (l0:List Int):Option (List Int):=(some (([]:List Int):List Int)).bind fun y422=>(if y422.length + l0.length < 17592186044416 then (some (y422 ++ l0)) else (none))
set_option maxHeartbeats 8000000 in
set_option maxRecDepth 100000 in
theorem Z45.calls (A0:Option Addr) (c0:Nat) (l0:List Int) (r:List Int) (w:World) (hr0:Kd.C (Kd.int .i64) w A0 l0.length l0) (hc0:l0.length≤c0) (h:Z45.f l0 = some r) :
  Calls Tryz.prog 54 #[.slice A0 l0.length c0] w fun e w'=>∃ v0_:Value,e = .returned (v0_)∧Kd.R (Kd.int .i64) 3 w' w.heap.size (fun _=>True) v0_ r∧Below w.heap.size w w':=by
 have HR0:=A_ hr0
 have HC0:=A_ hc0
 clear hr0 hc0
 have HB:=A_ (Below.refl w.heap.size w)
 have H:=h
 unfold Z45.f at H
 clear h
 obtain ⟨y422,hy422⟩:∃ y_:List Int,y_ = (([]:List Int)):=⟨_,rfl⟩
 replace H:(if y422.length + l0.length < 17592186044416 then (some (y422 ++ l0)) else (none)) = some r:=by first | (rw [hy422];exact H) | exact H
 have Ny422:=A_ hy422
 clear hy422
 have c2:=cp_ H
 replace H:=ca_ H
 have LMc2:=A_ c2
 clear c2
 obtain ⟨y425,hy425⟩:∃ y_:List Int,y_ = (y422 ++ l0):=⟨_,rfl⟩
 replace H:(some y425) = some r:=by first | (rw [hy425];exact H) | exact H
 have Ny425:=A_ hy425
 clear hy425
 obtain rfl:=Option.some.inj H
 go_enter Tryz.func54,Tryz.ntmps54
 go_wp2_with (first | ((with_reducible refine gB_ (N:=3) rfl ?_);refine Kd.R_lit (Kd.int .i64) _ 3 ?hg (N:=3) ?hd (xs:=([]:List Int)) (inner:=[]) (ok:=fun _=>True) (okp:=fun _=>True) ?hr ?hp (fun _ hk=>hk) trivial (Below.refl _ _) (nA_ _) (by simp) ?_;(case hd=>rfl);(case hg=>rfl);(case hr=>first | (go_simp;done) | (go_simp;rfl));(case hp=>exact (Reps.none _ _));intro v423 w3 ho4 hb hg_ hnew_;clear hg_ hnew_;(first | rw [← Ny422.out] at ho4 | (simp only [Int.reduceToNat] at ho4;rw [← Ny422.out] at ho4));have HO424:=rl_ w ho4;replace HB:=b1_ hb;clear hb ho4) | ((with_reducible refine gate_builtin (b:=.append) (xs:=#[.tmp 3,.tmp 4]) rfl ?_);at_builtin;refine Kd.R_append_rows (Kd.int .i64) (w0:=w) w.heap.size rfl (.tmp 3) (.tmp 4) 27 3 (.int .i64 0) 8 rfl Tryz.underlying27 info3 rfl (by decide) (by omega) v423 y422 l0 _ _ _ (fun _=>True) (fun _=>False) rfl rfl ?aO ?aR (fun _ _ h=>h) (fun _ h=>h.elim) ?aF ?aB ?aS ?aL ?_;(case aR=>exact cb_ HR0);(case aB=>exact hB_);(case aF=>exact (fun _ _=>trivial));(case aO=>exact (rr_ HO424));(case aS=>exact (bF_ hB_));(case aL=>have:=LMc2.out;omega);intro v426 w5 ho hb hg hat;rw [← Ny425.out] at ho;replace HB:=A_ hb;have HO427:=A_ ho;clear HO424;clear ho hb hg hat))
 go_ret
 exact ⟨_,qb_,(rr_ HO427),hB_⟩
end Go.Proofs.YtoijcallajegfaaGreat.A
end
section
namespace Go.Proofs.YtoijcallajegfaaGreat.A
open Go.RowKit Go.Proofs.YtoijcallajegfaaGreatW.PrintWords Go.Proofs.YtoijcallajegfaaGreatW.PrintLast Go.Proofs.YtoijcallajegfaaGreatW.PrintMore
attribute [local go_sem] max2_int min2_int max_two min_two max_three min_three max_four min_four
set_option linter.unusedVariables false
set_option linter.unusedSimpArgs false
mutual
def Z44.l0:Nat→Int→List (List Int)→Int→Option ((List (List Int)))
 | 0,_,_,_=>none
 | k + 1,x0,x3,x4=>if x4 < x0 then (Z44.l1 k x0 x4 (([]:List (List Int))) x3 (x3.length:Int) 0) else (some x3)
def Z44.l1:Nat→Int→Int→List (List Int)→List (List Int)→Int→Int→Option ((List (List Int)))
 | 0,_,_,_,_,_,_=>none
 | k + 1,x0,x4,x5,x17,x18,x19=>if x19 < x18 then (if 0≤x19 then (if x19 < (x17.length:Int) then (Z44.l2 k x0 x4 x5 (rd_L1 x17 x19) 0 x17 x18 x19) else (none)) else (none)) else (Z44.l0 k x0 x5 (wrap64 (x4 + 1)))
def Z44.l2:Nat→Int→Int→List (List Int)→List Int→Int→List (List Int)→Int→Int→Option ((List (List Int)))
 | 0,_,_,_,_,_,_,_,_=>none
 | k + 1,x0,x4,x5,x7,x8,x17,x18,x19=>if x8 < x0 then ((Z1.f k x7 x8).bind fun t438=>(if t438 = true then (Z44.l2 k x0 x4 x5 x7 (wrap64 (x8 + 1)) x17 x18 x19) else ((Z45.f x7).bind fun t439=>(if t439.length < 17592186044416 then (if x5.length < 5864062014805 then (Z44.l2 k x0 x4 (x5 ++ [(t439 ++ [x8])]) x7 (wrap64 (x8 + 1)) x17 x18 x19) else (none)) else (none))))) else (Z44.l1 k x0 x4 x5 x17 x18 (wrap64 (x19 + 1)))
end
def Z44.f (k:Nat) (a0:Int):Option ((List (List Int))):=Z44.l0 k a0 (([(([]:List Int))]:List (List Int))) 0
theorem Z44.mono_l:∀ k,(∀ y0 y1 y2,LeO (Z44.l0 k y0 y1 y2) (Z44.l0 (k + 1) y0 y1 y2))∧(∀ y0 y1 y2 y3 y4 y5,LeO (Z44.l1 k y0 y1 y2 y3 y4 y5) (Z44.l1 (k + 1) y0 y1 y2 y3 y4 y5))∧(∀ y0 y1 y2 y3 y4 y5 y6 y7,LeO (Z44.l2 k y0 y1 y2 y3 y4 y5 y6 y7) (Z44.l2 (k + 1) y0 y1 y2 y3 y4 y5 y6 y7))
 | 0=>⟨fun _ _ _ r h=>by simp [Z44.l0] at h,fun _ _ _ _ _ _ r h=>by simp [Z44.l1] at h,fun _ _ _ _ _ _ _ _ r h=>by simp [Z44.l2] at h⟩
 | k + 1=>by
  obtain ⟨ih0,ih1,ih2⟩:=Z44.mono_l k
  refine ⟨?_,?_,?_⟩
  ·intro y0 y1 y2
   unfold Z44.l0
   repeat' first|exact ih0 _ _ _|exact ih1 _ _ _ _ _ _|exact ih2 _ _ _ _ _ _ _ _|exact Z1.mono _ _ _|exact lo_|refine LeO.ite ?_ ?_|refine LeO.bind ?_ (fun _=>?_)
  ·intro y0 y1 y2 y3 y4 y5
   unfold Z44.l1
   repeat' first|exact ih0 _ _ _|exact ih1 _ _ _ _ _ _|exact ih2 _ _ _ _ _ _ _ _|exact Z1.mono _ _ _|exact lo_|refine LeO.ite ?_ ?_|refine LeO.bind ?_ (fun _=>?_)
  ·intro y0 y1 y2 y3 y4 y5 y6 y7
   unfold Z44.l2
   repeat' first|exact ih0 _ _ _|exact ih1 _ _ _ _ _ _|exact ih2 _ _ _ _ _ _ _ _|exact Z1.mono _ _ _|exact lo_|refine LeO.ite ?_ ?_|refine LeO.bind ?_ (fun _=>?_)
theorem Z44.mono:∀ a0 k,LeO (Z44.f k a0) (Z44.f (k + 1) a0):=by
 intro a0 k
 obtain ⟨ih0,ih1,ih2⟩:=Z44.mono_l k
 unfold Z44.f
 repeat' first|exact ih0 _ _ _|exact ih1 _ _ _ _ _ _|exact ih2 _ _ _ _ _ _ _ _|exact Z1.mono _ _ _|exact lo_|refine LeO.ite ?_ ?_|refine LeO.bind ?_ (fun _=>?_)
set_option maxHeartbeats 8000000 in
set_option maxRecDepth 100000 in
theorem Z44.calls (k:Nat) (a0:Int) (r:List (List Int)) (w:World) (h:Z44.f k a0 = some r) :
  Calls Tryz.prog 37 #[.int .i64 a0] w fun e w'=>∃ v0_:Value,e = .returned (v0_)∧Kd.N (Kd.slice 3 (Kd.int .i64)) 27 w' w.heap.size (fun k_=>(w.heap.size≤k_)) v0_ r∧Below w.heap.size w w':=by
 have HB:=A_ (Below.refl w.heap.size w)
 have H:=h
 unfold Z44.f at H
 clear h
 obtain ⟨y428,hy428⟩:∃ y_:List Int,y_ = (([]:List Int)):=⟨_,rfl⟩
 replace H:(Z44.l0 k a0 (([y428]:List (List Int))) 0) = some r:=by first | (rw [hy428];exact H) | exact H
 have Ny428:=A_ hy428
 clear hy428
 obtain ⟨y431,hy431⟩:∃ y_:List (List Int),y_ = (([y428]:List (List Int))):=⟨_,rfl⟩
 replace H:(Z44.l0 k a0 y431 0) = some r:=by first | (rw [hy431];exact H) | exact H
 have Ny431:=A_ hy431
 clear hy431
 have H':=A_ H
 clear H
 go_enter Tryz.func37,Tryz.ntmps37
 go_wp2_with (first | ((with_reducible refine gB_ (N:=9) rfl ?_);refine Kd.R_lit (Kd.int .i64) _ 3 ?hg (N:=9) ?hd (xs:=([]:List Int)) (inner:=[]) (ok:=fun _=>True) (okp:=fun _=>True) ?hr ?hp (fun _ hk=>hk) trivial (Below.refl _ _) (nA_ _) (by simp) ?_;(case hd=>rfl);(case hg=>rfl);(case hr=>first | (go_simp;done) | (go_simp;rfl));(case hp=>exact (Reps.none _ _));intro v429 w2 ho3 hb hg_ hnew_;clear hg_ hnew_;(first | rw [← Ny428.out] at ho3 | (simp only [Int.reduceToNat] at ho3;rw [← Ny428.out] at ho3));have HO430:=A_ (rE_ (Kd.R_newM (M:=fun k_=>(w.heap.size≤k_)) ho3 (bF_ hB_) (fun k_ h_=>h_)) (bF_ hB_));replace HB:=b1_ hb;clear hb ho3;obtain ⟨Ao4,co4,eo4⟩:=Kd.R_slice HO430.out;subst eo4) | ((with_reducible refine gB_ (N:=10) rfl ?_);refine Kd.N_lit (Kd.slice 3 (Kd.int .i64)) _ 27 ?hg (N':=10) ?hd (xs:=([y428]:List (List Int))) (inner:=[.slice Ao4 y428.length co4]) (ok:=(fun k_=>(w.heap.size≤k_))) (okp:=(fun k_=>(w.heap.size≤k_))) ?hr ?hp (fun _ hk=>hk) ((show ∀ k_,w2.heap.size≤k_→(fun k_=>(w.heap.size≤k_)) k_ from fun k_ hk=>(Nat.le_trans (bF_ hB_) hk)) _ (nA_ _)) (Below.refl _ _) (nA_ _) (by simp) ?_;(case hd=>rfl);(case hg=>rfl);(case hr=>first | (go_simp;done) | (go_simp;rfl));(case hp=>exact (Reps.one (show Kd.FK (Kd.slice 3 (Kd.int .i64)) _ _ y428 [.slice Ao4 y428.length co4] from (Kd.FK_slice_mk (Kd.R_reads' (Kd.R_mono (ok':=(fun k_=>(w.heap.size≤k_))) (HO430.out) (fun k_ hk=>hk.1))).2.1 (Kd.R_F (Kd.R_mono (ok':=(fun k_=>(w.heap.size≤k_))) (HO430.out) (fun k_ hk=>hk.1))))) (Reps.none _ _)));intro v432 w5 ho6 hb hg_ hnew_;clear hg_ hnew_;(first | rw [← Ny431.out] at ho6 | (simp only [Int.reduceToNat] at ho6;rw [← Ny431.out] at ho6));have HO433:=A_ (Kd.N_lower ho6 (bF_ hB_));replace HB:=b1_ hb;clear HO430;clear hb ho6))
 go_loopg [3,4] k (fun kq v3 v4 w'=>∃ (x3_1:List (List Int)) (x4_1:Int),v4 = .int .i64 x4_1∧Aside0 (Z44.l0 kq a0 x3_1 x4_1 = some r)∧Aside0 (kq≤k)∧Aside0 (Kd.N (Kd.slice 3 (Kd.int .i64)) 27 w' w.heap.size (fun k_=>(w.heap.size≤k_)) v3 x3_1)∧Aside0 (Below w.heap.size w w'))
 case atStart=>exact ⟨(y431),(0),qc_,H',⟨nA_ _⟩,⟨by (with_reducible repeat (first | apply Kd.N_alloc | apply Kd.N_drewN | apply Kd.N_drew));exact HO433.out⟩,⟨hB_⟩⟩
 case round =>
  clear H'
  obtain ⟨x3_1,x4_1,rfl,HA,HK1,HO_3,HB⟩:=hrel
  cases gk with
  | zero=>exact absurd HA.out (by simp [Z44.l0])
  | succ k1 =>
   have H:=HA.out
   clear HA
   simp only [Z44.l0] at H
   by_cases c7:x4_1 < a0
   ·rw [if_pos c7] at H
    have c7b0:=oC_ c7
    clear c7
    obtain ⟨y434,hy434⟩:∃ y_:List (List Int),y_ = (([]:List (List Int))):=⟨_,rfl⟩
    replace H:(Z44.l1 k1 a0 x4_1 y434 x3_1 (x3_1.length:Int) 0) = some r:=by first | (rw [hy434];exact H) | exact H
    have Ny434:=A_ hy434
    clear hy434
    have H':=A_ H
    clear H
    go_wp2_with (first | ((with_reducible refine gB_ (N:=16) rfl ?_);refine Kd.N_lit (Kd.slice 3 (Kd.int .i64)) _ 27 ?hg (N':=16) ?hd (xs:=([]:List (List Int))) (inner:=[]) (ok:=(fun k_=>(w.heap.size≤k_)∧some k_≠(u3:Value).ownBlock)) (okp:=(fun k_=>(w.heap.size≤k_)∧some k_≠(u3:Value).ownBlock)) ?hr ?hp (fun _ hk=>hk) ((show ∀ k_,wr.heap.size≤k_→(fun k_=>(w.heap.size≤k_)∧some k_≠(u3:Value).ownBlock) k_ from fun k_ hk=>⟨(Nat.le_trans (bF_ hB_) hk),Kd.fresh' (Kd.N_lt (by (with_reducible repeat (first | apply Kd.N_alloc | apply Kd.N_drewN | apply Kd.N_drew));exact HO_3.out)) k_ hk⟩) _ (nA_ _)) (Below.refl _ _) (nA_ _) (by simp) ?_;(case hd=>rfl);(case hg=>rfl);(case hr=>first | (go_simp;done) | (go_simp;rfl));(case hp=>exact (Reps.none _ _));intro v435 w8 ho9 hb hg_ hnew_;clear hg_ hnew_;(first | rw [← Ny434.out] at ho9 | (simp only [Int.reduceToNat] at ho9;rw [← Ny434.out] at ho9));replace HO_3:=A_ (Kd.N_elder' (by (with_reducible repeat (first | apply Kd.N_alloc | apply Kd.N_drewN | apply Kd.N_drew));exact HO_3.out) (Kd.N_base ho9) hb);have HO436:=A_ (Kd.N_lower ho9 (bF_ hB_));replace HB:=b1_ hb;clear hb ho9;obtain ⟨Ao10,co10,eo10⟩:=Kd.N_slice HO_3.out;subst eo10))
    go_loopg [5,19] k1 (fun kq v5 v19 w'=>∃ (x5_2:List (List Int)) (x19_2:Int),v19 = .int .i64 x19_2∧Aside0 (Z44.l1 kq a0 x4_1 x5_2 x3_1 (x3_1.length:Int) x19_2 = some r)∧Aside0 (kq≤k1)∧Aside0 (Kd.N (Kd.slice 3 (Kd.int .i64)) 27 w' w.heap.size (fun k_=>(w.heap.size≤k_)∧some k_≠((.slice Ao10 x3_1.length co10):Value).ownBlock) v5 x5_2)∧Aside0 (Kd.N (Kd.slice 3 (Kd.int .i64)) 27 w' w.heap.size (fun k_=>(w.heap.size≤k_)∧some k_≠(v5:Value).ownBlock) (.slice Ao10 x3_1.length co10) x3_1)∧Aside0 (Below w.heap.size w w'))
    case atStart=>exact ⟨(y434),(0),qc_,H',⟨nA_ _⟩,⟨by (with_reducible repeat (first | apply Kd.N_alloc | apply Kd.N_drewN | apply Kd.N_drew));exact HO436.out⟩,⟨by (with_reducible repeat (first | apply Kd.N_alloc | apply Kd.N_drewN | apply Kd.N_drew));exact HO_3.out⟩,⟨hB_⟩⟩
    case round =>
     clear H'
     obtain ⟨x5_2,x19_2,rfl,HA,HK2,HO_5,HO_17,HB⟩:=hrel
     cases gk with
     | zero=>exact absurd HA.out (by simp [Z44.l1])
     | succ k2 =>
      have H:=HA.out
      clear HA
      simp only [Z44.l1] at H
      by_cases c11:x19_2 < (x3_1.length:Int)
      ·rw [if_pos c11] at H
       have c11b0:=oC_ c11
       clear c11
       have c12:=cp_ H
       replace H:=ca_ H
       have c12b0:=oC_ c12
       clear c12
       have c13:=cp_ H
       replace H:=ca_ H
       have c13b0:=oC_ c13
       clear c13
       have H':=A_ H
       clear H
       have p437:0≤(x19_2:Int):=oB_ qe_
       have q437:x19_2 < (x3_1.length:Int):=oB_ qe_
       obtain ⟨ad437,A437_0,c437_0,e437,hx437_0,hl437_0,hi437_0⟩:=at_L1 (Kd.N_reads' HO_17.out).2.2 x19_2 p437 q437
       cases e437
       obtain ⟨ce437,hce437,hMe437,hcc437⟩:=Kd.N_get HO_17.out [] x19_2 p437 (by first | exact q437 | exact oB_ qe_ | (have e_:=(Kd.N_reads' HO_17.out).1;omega))
       obtain ⟨ua437_0,uc437_0,rfl,ul437_0,ge437_0⟩:=Kd.FK_slice_open hMe437
       have hv437_0:=hcc437 0 _ rfl
       rw [Nat.add_zero,show ((Kd.slice 3 (Kd.int .i64))).sz = 1 from rfl,Nat.mul_one] at hv437_0
       replace hv437_0:=Option.some.inj (hv437_0.symm.trans hx437_0)
       injection hv437_0 with hva_ hvn_ hvc_
       rw [hva_] at ge437_0
       rw [hvc_] at ul437_0
       have HL437_0:=A_ (show Kd.V (Kd.int .i64) 3 _ w.heap.size _ _ (rd_L1 x3_1 x19_2) from Kd.V_mk ul437_0 ge437_0)
       clear hva_ hvn_ hvc_ ge437_0 ul437_0
       clear hcc437 hce437
       have HR437_0:=A_ hi437_0
       have HC437_0:=A_ hl437_0
       clear hi437_0 hl437_0
       replace p437:=eq_true p437
       replace q437:=eq_true q437
       go_wp2
       go_loopg [5,8] k2 (fun kq v5 v8 w'=>∃ (x5_3:List (List Int)) (x8_3:Int),v8 = .int .i64 x8_3∧Aside0 (Z44.l2 kq a0 x4_1 x5_3 (rd_L1 x3_1 x19_2) x8_3 x3_1 (x3_1.length:Int) x19_2 = some r)∧Aside0 (kq≤k2)∧Aside0 (Kd.N (Kd.slice 3 (Kd.int .i64)) 27 w' w.heap.size (fun k_=>(w.heap.size≤k_)∧some k_≠((.slice (some ad437) x3_1.length co10):Value).ownBlock) v5 x5_3)∧Aside0 (Kd.V (Kd.int .i64) 3 w' w.heap.size (fun k_=>(w.heap.size≤k_)∧some k_≠(v5:Value).ownBlock∧some k_≠((.slice (some ad437) x3_1.length co10):Value).ownBlock) (.slice A437_0 (rd_L1 x3_1 x19_2).length c437_0) (rd_L1 x3_1 x19_2))∧Aside0 (Kd.N (Kd.slice 3 (Kd.int .i64)) 27 w' w.heap.size (fun k_=>(w.heap.size≤k_)∧some k_≠(v5:Value).ownBlock) (.slice (some ad437) x3_1.length co10) x3_1)∧Aside0 (Below w.heap.size w w'))
       case atStart=>exact ⟨(x5_2),(0),qc_,H',⟨nA_ _⟩,⟨by (with_reducible repeat (first | apply Kd.N_alloc | apply Kd.N_drewN | apply Kd.N_drew));exact HO_5.out⟩,⟨by (with_reducible repeat (first | apply Kd.V_alloc | apply Kd.V_drewN | apply Kd.V_drew));exact Kd.V_mono HL437_0.out (fun _ hk=>⟨hk.1.1,⟨hk.1.2,hk.2⟩⟩)⟩,⟨by (with_reducible repeat (first | apply Kd.N_alloc | apply Kd.N_drewN | apply Kd.N_drew));exact HO_17.out⟩,⟨hB_⟩⟩
       case round =>
        clear H'
        obtain ⟨x5_3,x8_3,rfl,HA,HK3,HO_5,HO_7,HO_17,HB⟩:=hrel
        cases gk with
        | zero=>exact absurd HA.out (by simp [Z44.l2])
        | succ k3 =>
         have H:=HA.out
         clear HA
         simp only [Z44.l2] at H
         by_cases c14:x8_3 < a0
         ·rw [if_pos c14] at H
          have c14b0:=oC_ c14
          clear c14
          obtain ⟨t438,A15,H⟩:=bi_ H
          by_cases c16:t438 = true
          ·subst c16
           rw [if_pos rfl] at H
           have H':=A_ H
           clear H
           go_wp2_with (first | ((with_reducible refine gA_ (f:=53) rfl ?_);refine gL_ (some 30) Tryz.func53 #[.slice A437_0 (rd_L1 x3_1 x19_2).length c437_0,.int .i64 x8_3] rfl qa_ ?_;(with_reducible refine (Z1.calls k3 _ _ (rd_L1 x3_1 x19_2) x8_3 true _ (cw_ ((Kd.V_reads' HO_7.out).2.2)) ((Kd.V_reads' HO_7.out).2.1) A15.out).mono ?_);rintro e w' ⟨rfl,⟨nd,rfl⟩⟩;refine ⟨_,rfl,?_⟩))
           go_roundg k3
           case measure=>have:=HK1.out;have:=HK2.out;have:=HK3.out;omega
           case rel=>exact ⟨(x5_3),(wrap64 (x8_3 + 1)),qc_,H',⟨by have:=HK1.out;have:=HK2.out;have:=HK3.out;omega⟩,⟨by (with_reducible repeat (first | apply Kd.N_alloc | apply Kd.N_drewN | apply Kd.N_drew));exact HO_5.out⟩,⟨by (with_reducible repeat (first | apply Kd.V_alloc | apply Kd.V_drewN | apply Kd.V_drew));exact HO_7.out⟩,⟨by (with_reducible repeat (first | apply Kd.N_alloc | apply Kd.N_drewN | apply Kd.N_drew));exact HO_17.out⟩,⟨hB_⟩⟩
          ·replace c16:=Bool.eq_false_iff.mpr c16
           subst c16
           have H1:((Z45.f (rd_L1 x3_1 x19_2)).bind fun t439=>(if t439.length < 17592186044416 then (if x5_3.length < 5864062014805 then (Z44.l2 k3 a0 x4_1 (x5_3 ++ [(t439 ++ [x8_3])]) (rd_L1 x3_1 x19_2) (wrap64 (x8_3 + 1)) x3_1 (x3_1.length:Int) x19_2) else (none)) else (none))) = some r:=by rw [if_neg (show ¬ (false = true) by decide)] at H;exact H
           clear H
           have H:=H1
           clear H1
           obtain ⟨t439,A17,H⟩:=bi_ H
           have c18:=cp_ H
           replace H:=ca_ H
           have LMc18:=A_ c18
           clear c18
           obtain ⟨y442,hy442⟩:∃ y_:List Int,y_ = (t439 ++ [x8_3]):=⟨_,rfl⟩
           replace H:(if x5_3.length < 5864062014805 then (Z44.l2 k3 a0 x4_1 (x5_3 ++ [y442]) (rd_L1 x3_1 x19_2) (wrap64 (x8_3 + 1)) x3_1 (x3_1.length:Int) x19_2) else (none)) = some r:=by first | (rw [hy442];exact H) | exact H
           have Ny442:=A_ hy442
           clear hy442
           have c19:=cp_ H
           replace H:=ca_ H
           have LMc19:=A_ c19
           clear c19
           obtain ⟨y445,hy445⟩:∃ y_:List (List Int),y_ = (x5_3 ++ [y442]):=⟨_,rfl⟩
           replace H:(Z44.l2 k3 a0 x4_1 y445 (rd_L1 x3_1 x19_2) (wrap64 (x8_3 + 1)) x3_1 (x3_1.length:Int) x19_2) = some r:=by first | (rw [hy445];exact H) | exact H
           have Ny445:=A_ hy445
           clear hy445
           have H':=A_ H
           clear H
           go_wp2_with (first | ((with_reducible refine gA_ (f:=53) rfl ?_);refine gL_ (some 30) Tryz.func53 #[.slice A437_0 (rd_L1 x3_1 x19_2).length c437_0,.int .i64 x8_3] rfl qa_ ?_;(with_reducible refine (Z1.calls k3 _ _ (rd_L1 x3_1 x19_2) x8_3 false _ (cw_ ((Kd.V_reads' HO_7.out).2.2)) ((Kd.V_reads' HO_7.out).2.1) A15.out).mono ?_);rintro e w' ⟨rfl,⟨nd,rfl⟩⟩;refine ⟨_,rfl,?_⟩) | ((with_reducible refine gA_ (f:=54) rfl ?_);refine gL_ (some 34) Tryz.func54 #[.slice A437_0 (rd_L1 x3_1 x19_2).length c437_0] rfl qa_ ?_;(with_reducible refine (Z45.calls _ _ (rd_L1 x3_1 x19_2) t439 _ (cw_ ((Kd.V_reads' HO_7.out).2.2)) ((Kd.V_reads' HO_7.out).2.1) A17.out).mono ?_);rintro e w20 ⟨v440,rfl,ho0,hb⟩;refine ⟨_,rfl,?_⟩;replace HO_5:=A_ (Kd.N_elder' (by (with_reducible repeat (first | apply Kd.N_alloc | apply Kd.N_drewN | apply Kd.N_drew));exact HO_5.out) (Kd.R_base ho0) hb);replace HO_7:=A_ (Kd.V_elder' (by (with_reducible repeat (first | apply Kd.V_alloc | apply Kd.V_drewN | apply Kd.V_drew));exact HO_7.out) (Kd.R_base ho0) hb);replace HO_17:=A_ (Kd.N_elder' (by (with_reducible repeat (first | apply Kd.N_alloc | apply Kd.N_drewN | apply Kd.N_drew));exact HO_17.out) (Kd.R_base ho0) hb);have HO441:=A_ (rE_ (Kd.R_newM (M:=fun k_=>(w.heap.size≤k_)) ho0 (bF_ hB_) (fun k_ h_=>h_)) (bF_ hB_));replace HB:=b1_ hb;clear hb ho0) | ((with_reducible refine gate_builtin (b:=.append) (xs:=#[.tmp 34,.tmp 36]) rfl ?_);at_builtin;refine Kd.R_append (Kd.int .i64) (w0:=w) w.heap.size rfl (.tmp 34) (.tmp 36) 27 3 (.int .i64 0) 8 rfl Tryz.underlying27 info3 rfl (by decide) (by omega) v440 t439 x8_3 [.int .i64 x8_3] (fun k_=>(w.heap.size≤k_)) (fun _=>False) rfl rfl ?aP (fun _ hk=>hk.elim) ?aF ?aO ?aB ?aS ?aL ?_;(case aP=>exact rfl);(case aB=>exact hB_);(case aF=>exact (fun k_ hk=>(Nat.le_trans (bF_ hB_) hk)));(case aO=>exact (rw_ (Kd.R_mono HO441.out (fun _ hk=>hk.1))));(case aS=>exact (bF_ hB_));(case aL=>have:=LMc18.out;omega);intro v443 w21 ho hb hg hat;rw [← Ny442.out] at ho;replace HO_5:=A_ (Kd.N_afterv (ok:=(fun k_=>(w.heap.size≤k_)∧some k_≠(.slice (some ad437) x3_1.length co10:Value).ownBlock)) (by (with_reducible repeat (first | apply Kd.N_alloc | apply Kd.N_drewN | apply Kd.N_drew));exact HO_5.out) hg hat);replace HO_7:=A_ (Kd.V_afterv (ok:=(fun k_=>(w.heap.size≤k_)∧some k_≠(u5:Value).ownBlock∧some k_≠(.slice (some ad437) x3_1.length co10:Value).ownBlock)) (by (with_reducible repeat (first | apply Kd.V_alloc | apply Kd.V_drewN | apply Kd.V_drew));exact HO_7.out) hg hat);replace HO_17:=A_ (Kd.N_afterv (ok:=(fun k_=>(w.heap.size≤k_)∧some k_≠(u5:Value).ownBlock)) (by (with_reducible repeat (first | apply Kd.N_alloc | apply Kd.N_drewN | apply Kd.N_drew));exact HO_17.out) hg hat);replace HB:=A_ hb;have HO444:=A_ ho;clear HO441;clear ho hb hg hat;obtain ⟨Ao23,co23,eo23⟩:=Kd.R_slice HO444.out;subst eo23) | ((with_reducible refine gate_builtin (b:=.append) (xs:=#[.tmp 32,.tmp 38]) rfl ?_);at_builtin;refine Kd.N_append (Kd.slice 3 (Kd.int .i64)) (w0:=w) w.heap.size rfl (.tmp 32) (.tmp 38) 22 27 (.slice none 0 0) 24 rfl Tryz.underlying22 info27 rfl (by decide) (by omega) u5 x5_3 y442 [.slice Ao23 y442.length co23] (fun k_=>(w.heap.size≤k_)∧some k_≠(.slice (some ad437) x3_1.length co10:Value).ownBlock) (fun k_=>((fun k_=>(w.heap.size≤k_)∧some k_≠(.slice (some ad437) x3_1.length co10:Value).ownBlock)) k_∧some k_≠(u5:Value).ownBlock) rfl rfl ?aP (fun _ hk=>hk) ?aF ?aO ?aB ?aS ?aL ?_;(case aP=>exact (Kd.FK_slice_mk (Kd.R_reads' (Kd.R_mono (ok':=(fun k_=>((fun k_=>(w.heap.size≤k_)∧some k_≠(.slice (some ad437) x3_1.length co10:Value).ownBlock)) k_∧some k_≠(u5:Value).ownBlock)) (Kd.R_apart' (Kd.R_apart' (HO444.out) (Kd.N_typed HO_17.out) (by decide)) (Kd.N_typed HO_5.out) (by decide)) (fun k_ hk=>⟨⟨hk.1.1,hk.1.2⟩,hk.2⟩))).2.1 (Kd.R_F (Kd.R_mono (ok':=(fun k_=>((fun k_=>(w.heap.size≤k_)∧some k_≠(.slice (some ad437) x3_1.length co10:Value).ownBlock)) k_∧some k_≠(u5:Value).ownBlock)) (Kd.R_apart' (Kd.R_apart' (HO444.out) (Kd.N_typed HO_17.out) (by decide)) (Kd.N_typed HO_5.out) (by decide)) (fun k_ hk=>⟨⟨hk.1.1,hk.1.2⟩,hk.2⟩)))));(case aB=>exact hB_);(case aF=>exact (fun k_ hk=>⟨(Nat.le_trans (bF_ hB_) hk),Kd.fresh' (Kd.N_lt (by (with_reducible repeat (first | apply Kd.N_alloc | apply Kd.N_drewN | apply Kd.N_drew));exact HO_17.out)) k_ hk⟩));(case aO=>exact (by (with_reducible repeat (first | apply Kd.N_alloc | apply Kd.N_drewN | apply Kd.N_drew));exact Kd.N_mono HO_5.out (fun _ hk=>⟨hk.1.1,hk.1.2⟩)));(case aS=>exact (bF_ hB_));(case aL=>have:=LMc19.out;omega);intro v446 w22 ho hb hg hat;rw [← Ny445.out] at ho;replace HO_7:=A_ (Kd.V_afterv (ok:=(fun k_=>(w.heap.size≤k_)∧some k_≠(.slice (some ad437) x3_1.length co10:Value).ownBlock∧some k_≠(.slice Ao23 y442.length co23:Value).ownBlock)) (by (with_reducible repeat (first | apply Kd.V_alloc | apply Kd.V_drewN | apply Kd.V_drew));exact Kd.V_mono HO_7.out (fun _ hk=>⟨⟨hk.1.1,⟨hk.1.2.2,hk.2⟩⟩,hk.1.2.1⟩)) hg hat);replace HO_17:=A_ (Kd.N_afterv (ok:=(fun k_=>(w.heap.size≤k_)∧some k_≠(.slice Ao23 y442.length co23:Value).ownBlock)) (by (with_reducible repeat (first | apply Kd.N_alloc | apply Kd.N_drewN | apply Kd.N_drew));exact Kd.N_mono HO_17.out (fun _ hk=>⟨⟨hk.1.1,hk.2⟩,hk.1.2⟩)) hg hat);replace HB:=A_ hb;have HO447:=A_ ho;clear HO_5 HO444;clear ho hb hg hat))
           go_roundg k3
           case measure=>have:=HK1.out;have:=HK2.out;have:=HK3.out;omega
           case rel=>exact ⟨(y445),(wrap64 (x8_3 + 1)),qc_,H',⟨by have:=HK1.out;have:=HK2.out;have:=HK3.out;omega⟩,⟨by (with_reducible repeat (first | apply Kd.N_alloc | apply Kd.N_drewN | apply Kd.N_drew));exact HO447.out⟩,⟨by (with_reducible repeat (first | apply Kd.V_alloc | apply Kd.V_drewN | apply Kd.V_drew));exact Kd.V_mono HO_7.out (fun _ hk=>⟨hk.1.1,⟨hk.2,hk.1.2.1⟩⟩)⟩,⟨by (with_reducible repeat (first | apply Kd.N_alloc | apply Kd.N_drewN | apply Kd.N_drew));exact Kd.N_mono HO_17.out (fun _ hk=>⟨hk.1.1,hk.2⟩)⟩,⟨hB_⟩⟩
         ·rw [if_neg c14] at H
          have c14b0:=oD_ c14
          clear c14
          have H':=A_ H
          clear H
          go_wp2
          go_roundg k3
          case measure=>have:=HK1.out;have:=HK2.out;have:=HK3.out;omega
          case rel=>exact ⟨(x5_3),(wrap64 (x19_2 + 1)),qc_,H',⟨by have:=HK1.out;have:=HK2.out;have:=HK3.out;omega⟩,⟨by (with_reducible repeat (first | apply Kd.N_alloc | apply Kd.N_drewN | apply Kd.N_drew));exact HO_5.out⟩,⟨by (with_reducible repeat (first | apply Kd.N_alloc | apply Kd.N_drewN | apply Kd.N_drew));exact HO_17.out⟩,⟨hB_⟩⟩
      ·rw [if_neg c11] at H
       have c11b0:=oD_ c11
       clear c11
       have H':=A_ H
       clear H
       go_wp2
       go_roundg k2
       case measure=>have:=HK1.out;have:=HK2.out;omega
       case rel=>exact ⟨(x5_2),(wrap64 (x4_1 + 1)),qc_,H',⟨by have:=HK1.out;have:=HK2.out;omega⟩,⟨by (with_reducible repeat (first | apply Kd.N_alloc | apply Kd.N_drewN | apply Kd.N_drew));exact Kd.N_mono HO_5.out (fun _ hk=>hk.1)⟩,⟨hB_⟩⟩
   ·rw [if_neg c7] at H
    have c7b0:=oD_ c7
    clear c7
    obtain rfl:=Option.some.inj H
    go_wp2
    go_ret
    exact ⟨_,qb_,by (with_reducible repeat (first | apply Kd.N_alloc | apply Kd.N_drewN | apply Kd.N_drew));exact HO_3.out,hB_⟩
end Go.Proofs.YtoijcallajegfaaGreat.A
end
section
namespace Go.Proofs.YtoijcallajegfaaGreat.A
open Go.RowKit Go.Proofs.YtoijcallajegfaaGreatW.PrintWords Go.Proofs.YtoijcallajegfaaGreatW.PrintLast Go.Proofs.YtoijcallajegfaaGreatW.PrintMore
attribute [local go_sem] max2_int min2_int max_two min_two max_three min_three max_four min_four
set_option linter.unusedVariables false
set_option linter.unusedSimpArgs false
def Z61.l0:Nat→List Int→List Bool→Int→Option Bool
 | 0,_,_,_=>none
 | k + 1,l,s,i=>if i < (l.length:Int) then (if 0≤i then (if rd l i < 0 then some false else (if rd l i ≥ (l.length:Int) then some false else (if rdOf false s (rd l i) = true then some false else Z61.l0 k l (s.set (rd l i).toNat true) (wrap64 (i + 1))))) else none) else some true
def Z61.f (k:Nat) (l0:List Int):Option Bool:=if (l0.length:Int) > 24 then some false else Z61.l0 k l0 (List.replicate 24 false) 0
theorem Z61.mono_l:∀ k,(∀ y0 y1 y2,LeO (Z61.l0 k y0 y1 y2) (Z61.l0 (k + 1) y0 y1 y2))
 | 0=>fun _ _ _ r h=>by simp [Z61.l0] at h
 | k + 1=>by
  have ih0:=Z61.mono_l k
  ·intro y0 y1 y2
   unfold Z61.l0
   repeat' first|exact ih0 _ _ _|exact lo_|refine LeO.ite ?_ ?_|refine LeO.bind ?_ (fun _=>?_)
theorem Z61.mono:∀ a0 k,LeO (Z61.f k a0) (Z61.f (k + 1) a0):=by
 intro a0 k
 unfold Z61.f
 exact LeO.ite (LeO.refl _) (Z61.mono_l k _ _ _)
def Z24:Array Value:=#[Value.bool false,Value.bool false,Value.bool false,Value.bool false,Value.bool false,Value.bool false,Value.bool false,Value.bool false,Value.bool false,Value.bool false,Value.bool false,Value.bool false,Value.bool false,Value.bool false,Value.bool false,Value.bool false,Value.bool false,Value.bool false,Value.bool false,Value.bool false,Value.bool false,Value.bool false,Value.bool false,Value.bool false]
theorem row_same (w:World) (g:Nat) (t:TypeId) (cur:Array Value) (hg:w.heap[g]? = some (.cells cur t (0,0))):w.setRow g cur = w:=by
 have hv:∀ h,w.heap[g]'h = .cells cur t (0,0):=fun h=>(Array.getElem?_eq_some_iff.1 hg).2
 unfold World.setRow
 cases w with
 | mk heap tape drawn os output =>
  congr 1
  apply Array.ext
  ·simp
  ·intro k h1 h2
   simp only [Array.getElem_modify]
   split
   ·rename_i hk;subst hk;simp at hv;simp [hv h2]
   ·rfl
theorem wpList_val {P:Program} {ops:Array Oper} {rest:List Oper} {o:Oper} {a:Act} {Q:Exit→Act→World→Prop} {w:World} (hg:o.guard = none) (v:Value) (w1:World) (hrun:(execOp a.eval o).run P w = .ok (.value v) w1) (h:wpList P ops Q rest (a.put o.dst v) w1):wpList P ops Q (o :: rest) a w :=
 wpList_plain hg fun K hK=>by unfold Oper.wp;rw [hrun];exact hK _ _ h
theorem perm_start (w:World):Kd.R Kd.bool 106 (w.alloc (.cells Z24 106)) w.heap.size (fun _=>True) (.slice (some ⟨w.heap.size,0,none⟩) 24 24) (List.replicate 24 false):=by
 have h:=World.ownsRow_lit (base:=w.heap.size) (e:=106) (size:=1) w Z24 24 (nA_ _) (by unfold maxLen;omega) rfl
 exact Kd.R_of_own (xs:=List.replicate 24 false) h (fun _ _=>trivial)
set_option maxHeartbeats 8000000 in
set_option maxRecDepth 100000 in
theorem Z61.calls (k:Nat) (A0:Option Addr) (c0:Nat) (l0:List Int) (r:Bool) (w:World) (hr0:Kd.C (Kd.int .i64) w A0 l0.length l0) (hc0:l0.length≤c0) (h:Z61.f k l0 = some r) :
  Calls Tryz.prog 98 #[.slice A0 l0.length c0] w fun e w'=>e = .returned (.bool r)∧Below w.heap.size w w':=by
 have HR0:=A_ hr0
 have HC0:=A_ hc0
 clear hr0 hc0
 have hst:=perm_start w
 have HST:=A_ hst
 clear hst
 have hb0:Below w.heap.size w (w.alloc (.cells Z24 106)):=(Below.refl _ _).alloc (nA_ _) _
 have HB0:=A_ hb0
 clear hb0
 unfold Z61.f at h
 by_cases c2:(l0.length:Int) > 24
 ·rw [if_pos c2] at h
  have c2b0:decide (24 < (l0.length:Int)) = true:=oC_ c2
  have c2b1:decide (24 < l0.length) = true:=oC_ (by omega)
  clear c2
  obtain rfl:=Option.some.inj h
  go_enter Tryz.func98,Tryz.ntmps98
  go_upto_region 1 with (fail)
  refine wp_region_lit ?_
  refine wpList_val rfl (.agg Z24) w (by as_aux_lemma=>kernel_rfl) ?_
  refine wpList_val rfl (.pointer (some ⟨w.heap.size,0,none⟩)) (w.alloc (.cells Z24 106)) (by as_aux_lemma=>kernel_rfl) ?_
  refine wpList_store_row rfl 106 (.tmp 3) (.tmp 6) rfl w.heap.size Z24 rfl rfl 106 Z24 (heap_alloc_new _ _) (by as_aux_lemma=>kernel_rfl) rfl (by as_aux_lemma=>kernel_rfl) ?_
  rw [row_same _ _ _ _ (heap_alloc_new _ _)]
  generalize w.alloc (.cells Z24 106) = wq at HB0 ⊢
  generalize Value.agg Z24 = ag
  go_wp2
  go_ret
  exact ⟨rfl,HB0.out⟩
 ·rw [if_neg c2] at h
  have hn:l0.length≤24:=by omega
  have HN:=A_ hn
  clear hn
  have c2b0:decide (24 < (l0.length:Int)) = false:=oD_ c2
  have c2b1:decide (24 < l0.length) = false:=oD_ (by omega)
  clear c2
  have H':=A_ h
  clear h
  go_enter Tryz.func98,Tryz.ntmps98
  go_upto_region 1 with (fail)
  refine wp_region_lit ?_
  refine wpList_val rfl (.agg Z24) w (by as_aux_lemma=>kernel_rfl) ?_
  refine wpList_val rfl (.pointer (some ⟨w.heap.size,0,none⟩)) (w.alloc (.cells Z24 106)) (by as_aux_lemma=>kernel_rfl) ?_
  refine wpList_store_row rfl 106 (.tmp 3) (.tmp 6) rfl w.heap.size Z24 rfl rfl 106 Z24 (heap_alloc_new _ _) (by as_aux_lemma=>kernel_rfl) rfl (by as_aux_lemma=>kernel_rfl) ?_
  rw [row_same _ _ _ _ (heap_alloc_new _ _)]
  generalize w.alloc (.cells Z24 106) = wq at HB0 HST ⊢
  generalize Value.agg Z24 = ag
  go_wp2
  go_loopg [12] k (fun kq v12 w'=>∃ (s:List Bool) (i:Int),v12 = .int .i64 i∧Aside0 (Z61.l0 kq l0 s i = some r)∧Aside0 (kq≤k)∧Aside0 (s.length = 24)∧Aside0 (Kd.R Kd.bool 106 w' w.heap.size (fun _=>True) (.slice (some ⟨w.heap.size,0,none⟩) 24 24) s)∧Aside0 (Below w.heap.size w w'))
  case atStart=>exact ⟨List.replicate 24 false,0,rfl,H',⟨nA_ _⟩,⟨rfl⟩,HST,HB0⟩
  case round =>
   clear H' HST HB0
   obtain ⟨s,i,rfl,HA,HK1,HS,HO,HB⟩:=hrel
   cases gk with
   | zero=>exact absurd HA.out (by simp [Z61.l0])
   | succ k1 =>
    have H:=HA.out
    clear HA
    simp only [Z61.l0] at H
    by_cases c3:i < (l0.length:Int)
    ·rw [if_pos c3] at H
     have c4:=cp_ H
     replace H:=ca_ H
     have c3b0:=oC_ c3
     have c4b0:=oC_ c4
     obtain ⟨ad,e0,hx⟩:=Kd.at_int HR0.out i c4 c3
     cases e0
     replace hx:=(HB.out.cell (World.block_lt_of_cell? w _ hx)).trans hx
     replace c3:=eq_true c3
     replace c4:=eq_true c4
     by_cases c5:rd l0 i < 0
     ·rw [if_pos c5] at H
      have c5b0:=oC_ c5
      clear c5
      obtain rfl:=Option.some.inj H
      go_wp2
      go_ret
      exact ⟨rfl,HB.out⟩
     ·rw [if_neg c5] at H
      have c5b0:=oD_ c5
      by_cases c6:rd l0 i ≥ (l0.length:Int)
      ·rw [if_pos c6] at H
       have c6b0:decide ((l0.length:Int)≤rd l0 i) = true:=oC_ c6
       clear c5 c6
       obtain rfl:=Option.some.inj H
       go_wp2
       go_ret
       exact ⟨rfl,HB.out⟩
      ·rw [if_neg c6] at H
       have c6b0:decide ((l0.length:Int)≤rd l0 i) = false:=oD_ c6
       have p1:0≤rd l0 i:=by omega
       have p2:rd l0 i < ((24:Nat):Int):=by have:=HN.out;omega
       have p2':rd l0 i < 24:=p2
       obtain ⟨hy,hz⟩:=Kd.R_celln false HO.out (rd l0 i) p1 p2
       have p1b:decide (0≤rd l0 i) = true:=oC_ p1
       have p2b:decide (rd l0 i < 24) = true:=oC_ p2'
       clear c5 c6
       by_cases c7:rdOf false s (rd l0 i) = true
       ·rw [if_pos c7] at H
        rw [c7] at hy
        clear c7
        obtain rfl:=Option.some.inj H
        go_wp2
        go_ret
        exact ⟨rfl,HB.out⟩
       ·rw [if_neg c7] at H
        replace c7:=Bool.eq_false_iff.mpr c7
        rw [c7] at hy
        clear c7
        have H':=A_ H
        clear H
        have HP:=Kd.R_putg HO.out (rd l0 i) true
        have HP':=A_ HP
        clear HP
        go_wp2
        go_roundg k1
        case measure=>have:=HK1.out;omega
        case rel=>exact ⟨s.set (rd l0 i).toNat true,wrap64 (i + 1),rfl,H',⟨by have:=HK1.out;omega⟩,⟨by rw [List.length_set];exact HS.out⟩,⟨HP'.out.1⟩,⟨bD_ HB.out (nA_ _)⟩⟩
    ·rw [if_neg c3] at H
     have c3b0:=oD_ c3
     clear c3
     obtain rfl:=Option.some.inj H
     go_wp2
     go_ret
     exact ⟨rfl,HB.out⟩
end Go.Proofs.YtoijcallajegfaaGreat.A
end
section
namespace Go.Proofs.YtoijcallajegfaaGreat.A
open Go.RowKit Go.Proofs.YtoijcallajegfaaGreatW.PrintWords Go.Proofs.YtoijcallajegfaaGreatW.PrintLast Go.Proofs.YtoijcallajegfaaGreatW.PrintMore
attribute [local go_sem] max2_int min2_int max_two min_two max_three min_three max_four min_four
set_option linter.unusedVariables false
set_option linter.unusedSimpArgs false
mutual
def Z9.j0:Nat→List Int→List Int→Bool→Option (Bool)
 | 0,_,_,_=>none
 | k + 1,x0,x1,x29=>if x29 = true then (some false) else (if 0≤(x0.length:Int) then (if ((x0.length:Int):Int).toNat≤281474976710656 then ((some (List.replicate ((x0.length:Int):Int).toNat false:List Bool)).bind fun y450=>(if 0 < (y450.length:Int) then (Z9.l0 k x0 x1 (y450.set (0:Int).toNat true) (([0]:List Int)) 0) else (none))) else (none)) else (none))
def Z9.l0:Nat→List Int→List Int→List Bool→List Int→Int→Option (Bool)
 | 0,_,_,_,_,_=>none
 | k + 1,x0,x1,x5,x6,x7=>if x7 < (x6.length:Int) then (if 0≤x7 then (if 0≤(rd x6 x7) then (if (rd x6 x7) < (x0.length:Int) then (if (rd x6 x7) < (x1.length:Int) then ((some (([rd x0 (rd x6 x7),rd x1 (rd x6 x7)]:List Int):List Int)).bind fun y461=>(Z9.l1 k x0 x1 x5 x6 x7 y461 (y461.length:Int) 0)) else (none)) else (none)) else (none)) else (none)) else (some ((x6.length:Int) == (x0.length:Int)))
def Z9.l1:Nat→List Int→List Int→List Bool→List Int→Int→List Int→Int→Int→Option (Bool)
 | 0,_,_,_,_,_,_,_,_=>none
 | k + 1,x0,x1,x5,x6,x7,x56,x57,x58=>if x58 < x57 then (if 0≤x58 then (if x58 < (x56.length:Int) then (if 0≤(rd x56 x58) then (if (rd x56 x58) < (x5.length:Int) then (if (rdOf false x5 (rd x56 x58) = true) then (Z9.l1 k x0 x1 x5 x6 x7 x56 x57 (wrap64 (x58 + 1))) else (if x6.length < 17592186044416 then (Z9.l1 k x0 x1 (x5.set ((rd x56 x58):Int).toNat true) (x6 ++ [rd x56 x58]) x7 x56 x57 (wrap64 (x58 + 1))) else (none))) else (none)) else (none)) else (none)) else (none)) else (Z9.l0 k x0 x1 x5 x6 (wrap64 (x7 + 1)))
end
def Z9.f (k:Nat) (l0:List Int) (l1:List Int):Option (Bool):=(Z61.f k l0).bind fun t448=>(if t448 = true then ((Z61.f k l1).bind fun t449=>(if t449 = true then (if (l0.length:Int) = (l1.length:Int) then (Z9.j0 k l0 l1 ((l0.length:Int) == 0)) else (Z9.j0 k l0 l1 true)) else (Z9.j0 k l0 l1 true))) else (Z9.j0 k l0 l1 true))
theorem Z9.mono_l:∀ k,(∀ y0 y1 y2,LeO (Z9.j0 k y0 y1 y2) (Z9.j0 (k + 1) y0 y1 y2))∧(∀ y0 y1 y2 y3 y4,LeO (Z9.l0 k y0 y1 y2 y3 y4) (Z9.l0 (k + 1) y0 y1 y2 y3 y4))∧(∀ y0 y1 y2 y3 y4 y5 y6 y7,LeO (Z9.l1 k y0 y1 y2 y3 y4 y5 y6 y7) (Z9.l1 (k + 1) y0 y1 y2 y3 y4 y5 y6 y7))
 | 0=>⟨fun _ _ _ r h=>by simp [Z9.j0] at h,fun _ _ _ _ _ r h=>by simp [Z9.l0] at h,fun _ _ _ _ _ _ _ _ r h=>by simp [Z9.l1] at h⟩
 | k + 1=>by
  obtain ⟨ih0,ih1,ih2⟩:=Z9.mono_l k
  refine ⟨?_,?_,?_⟩
  ·intro y0 y1 y2
   unfold Z9.j0
   repeat' first|exact ih0 _ _ _|exact ih1 _ _ _ _ _|exact ih2 _ _ _ _ _ _ _ _|exact Z61.mono _ _|exact lo_|refine LeO.ite ?_ ?_|refine LeO.bind ?_ (fun _=>?_)
  ·intro y0 y1 y2 y3 y4
   unfold Z9.l0
   repeat' first|exact ih0 _ _ _|exact ih1 _ _ _ _ _|exact ih2 _ _ _ _ _ _ _ _|exact Z61.mono _ _|exact lo_|refine LeO.ite ?_ ?_|refine LeO.bind ?_ (fun _=>?_)
  ·intro y0 y1 y2 y3 y4 y5 y6 y7
   unfold Z9.l1
   repeat' first|exact ih0 _ _ _|exact ih1 _ _ _ _ _|exact ih2 _ _ _ _ _ _ _ _|exact Z61.mono _ _|exact lo_|refine LeO.ite ?_ ?_|refine LeO.bind ?_ (fun _=>?_)
theorem Z9.mono:∀ a0 a1 k,LeO (Z9.f k a0 a1) (Z9.f (k + 1) a0 a1):=by
 intro a0 a1 k
 obtain ⟨ih0,ih1,ih2⟩:=Z9.mono_l k
 unfold Z9.f
 repeat' first|exact ih0 _ _ _|exact ih1 _ _ _ _ _|exact ih2 _ _ _ _ _ _ _ _|exact Z61.mono _ _|exact lo_|refine LeO.ite ?_ ?_|refine LeO.bind ?_ (fun _=>?_)
def Z9.T9:Bool × List (List Nat × List Nat):=(true,[([],[]),([],[]),([],[]),([1,2],[1,2]),([3],[3]),([0,4],[0,4]),([5],[5]),([],[]),([],[]),([],[]),([8,9],[8,9]),([10],[10]),([7,11],[7,11]),([12],[12]),([6,13],[6,13]),([14],[14]),([],[])])
def Z9.B9:List Nat:=[0,0,0,6,14,31,63,0,0,0,768,1792,3968,8064,16383,32767,0]
theorem Z9.tab9:rtab .any (opsOf Tryz.f108 9) = Z9.T9:=by kernel_rfl
theorem Z9.bits9:waitsOk Z9.T9.2 Z9.B9 = true:=by kernel_rfl
set_option maxHeartbeats 8000000 in
set_option maxRecDepth 100000 in
theorem Z9.calls (k:Nat) (A0:Option Addr) (c0:Nat) (l0:List Int) (A1:Option Addr) (c1:Nat) (l1:List Int) (r:Bool) (w:World) (hr0:Kd.C (Kd.int .i64) w A0 l0.length l0) (hc0:l0.length≤c0) (hr1:Kd.C (Kd.int .i64) w A1 l1.length l1) (hc1:l1.length≤c1) (h:Z9.f k l0 l1 = some r) :
  Calls Tryz.prog 108 #[.slice A0 l0.length c0,.slice A1 l1.length c1] w fun e w'=>e = .returned (.bool r)∧Below w.heap.size w w':=by
 have HR0:=A_ hr0
 have HC0:=A_ hc0
 clear hr0 hc0
 have HR1:=A_ hr1
 have HC1:=A_ hc1
 clear hr1 hc1
 have HB:=A_ (Below.refl w.heap.size w)
 have H:=h
 unfold Z9.f at H
 clear h
 have HC3:=A_ H
 clear H
 go_enter Tryz.func108,Tryz.ntmps108
 go_upto_region 1 with (fail)
 go_cut [29] (fun v29 wc=>∃ (kq:Nat) (x29_2:Bool),v29 = .bool x29_2∧Aside0 (Z9.j0 kq l0 l1 x29_2 = some r)∧Aside0 (kq≤k)∧Aside0 (Below w.heap.size w wc))
 case first =>
  have H:=HC3.out
  clear HC3
  obtain ⟨t448,A4,H⟩:=bi_ H
  by_cases c5:t448 = true
  ·subst c5
   rw [if_pos rfl] at H
   obtain ⟨t449,A6,H⟩:=bi_ H
   by_cases c7:t449 = true
   ·subst c7
    rw [if_pos rfl] at H
    by_cases c8:(l0.length:Int) = (l1.length:Int)
    ·rw [if_pos c8] at H
     have c8b0:((l0.length:Int) == (l1.length:Int)) = true:=beq_iff_eq.mpr c8
     have c8b1:((l0.length:Int) != (l1.length:Int)) = false:=bne_eq_false_iff_eq.mpr c8
     have c8b2:(l0.length == l1.length) = true:=by first | simpa using c8 | (simp at c8 ⊢;omega)
     clear c8
     (first | rw [c8b0] | (simp only [i64_w,i32_w];rw [c8b0]) | skip)
     have H':=A_ H
     clear H
     go_wp2_with (first | ((with_reducible refine gA_ (f:=98) rfl ?_);refine gL_ (some 11) Tryz.func98 #[.slice A0 l0.length c0] rfl qa_ ?_;(with_reducible refine (Z61.calls k _ _ l0 true _ (cb_ HR0) HC0.out A4.out).mono ?_);rintro e w9 ⟨rfl,hb⟩;refine ⟨_,rfl,?_⟩;replace HB:=b1_ hb;clear hb) | (go_at_call 98;(with_reducible refine (Z61.calls k _ _ l1 true _ (cb_ HR1) HC1.out A6.out).mono ?_);rintro e w10 ⟨rfl,hb⟩;replace HB:=b1_ hb;clear hb))
     go_meet
     case rel=>exact ⟨_,(((l0.length:Int) == 0)),qc_,H',⟨qd_⟩,⟨hB_⟩⟩
    ·rw [if_neg c8] at H
     have c8b0:((l0.length:Int) == (l1.length:Int)) = false:=beq_eq_false_iff_ne.mpr c8
     have c8b1:((l0.length:Int) != (l1.length:Int)) = true:=bne_iff_ne.mpr c8
     have c8b2:(l0.length == l1.length) = false:=by first | simpa using c8 | (simp at c8 ⊢;omega)
     (first | rw [c8b0] | (simp only [i64_w,i32_w];rw [c8b0]) | skip)
     have H':=A_ H
     clear H
     go_wp2_with (first | ((with_reducible refine gA_ (f:=98) rfl ?_);refine gL_ (some 11) Tryz.func98 #[.slice A0 l0.length c0] rfl qa_ ?_;(with_reducible refine (Z61.calls k _ _ l0 true _ (cb_ HR0) HC0.out A4.out).mono ?_);rintro e w11 ⟨rfl,hb⟩;refine ⟨_,rfl,?_⟩;replace HB:=b1_ hb;clear hb) | (go_at_call 98;(with_reducible refine (Z61.calls k _ _ l1 true _ (cb_ HR1) HC1.out A6.out).mono ?_);rintro e w12 ⟨rfl,hb⟩;replace HB:=b1_ hb;clear hb))
     go_meet
     case rel=>exact ⟨_,(true),qc_,H',⟨qd_⟩,⟨hB_⟩⟩
   ·replace c7:=Bool.eq_false_iff.mpr c7
    subst c7
    have H1:(Z9.j0 k l0 l1 true) = some r:=by rw [if_neg (show ¬ (false = true) by decide)] at H;exact H
    clear H
    have H:=H1
    clear H1
    have H':=A_ H
    clear H
    go_wp2_with (first | ((with_reducible refine gA_ (f:=98) rfl ?_);refine gL_ (some 11) Tryz.func98 #[.slice A0 l0.length c0] rfl qa_ ?_;(with_reducible refine (Z61.calls k _ _ l0 true _ (cb_ HR0) HC0.out A4.out).mono ?_);rintro e w13 ⟨rfl,hb⟩;refine ⟨_,rfl,?_⟩;replace HB:=b1_ hb;clear hb) | (go_at_call 98;(with_reducible refine (Z61.calls k _ _ l1 false _ (cb_ HR1) HC1.out A6.out).mono ?_);rintro e w14 ⟨rfl,hb⟩;replace HB:=b1_ hb;clear hb))
    go_meet
    case rel=>exact ⟨_,(true),qc_,H',⟨qd_⟩,⟨hB_⟩⟩
  ·replace c5:=Bool.eq_false_iff.mpr c5
   subst c5
   have H1:(Z9.j0 k l0 l1 true) = some r:=by rw [if_neg (show ¬ (false = true) by decide)] at H;exact H
   clear H
   have H:=H1
   clear H1
   have H':=A_ H
   clear H
   go_wp2_with (first | ((with_reducible refine gA_ (f:=98) rfl ?_);refine gL_ (some 11) Tryz.func98 #[.slice A0 l0.length c0] rfl qa_ ?_;(with_reducible refine (Z61.calls k _ _ l0 false _ (cb_ HR0) HC0.out A4.out).mono ?_);rintro e w15 ⟨rfl,hb⟩;refine ⟨_,rfl,?_⟩;replace HB:=b1_ hb;clear hb))
   go_meet
   case rel=>exact ⟨_,(true),qc_,H',⟨qd_⟩,⟨hB_⟩⟩
 case rest =>
  clear HC3
  obtain ⟨kq,x29_2,rfl,HA,HJ2,HB⟩:=hcut
  cases kq with
  | zero=>exact absurd HA.out (by simp [Z9.j0])
  | succ kj2 =>
   have H:=HA.out
   clear HA
   simp only [Z9.j0] at H
   by_cases c16:x29_2 = true
   ·subst c16
    rw [if_pos rfl] at H
    obtain rfl:=Option.some.inj H
    go_wp2
    go_ret
    exact ⟨qb_,hB_⟩
   ·replace c16:=Bool.eq_false_iff.mpr c16
    subst c16
    have H1:(if 0≤(l0.length:Int) then (if ((l0.length:Int):Int).toNat≤281474976710656 then ((some (List.replicate ((l0.length:Int):Int).toNat false:List Bool)).bind fun y450=>(if 0 < (y450.length:Int) then (Z9.l0 kj2 l0 l1 (y450.set (0:Int).toNat true) (([0]:List Int)) 0) else (none))) else (none)) else (none)) = some r:=by rw [if_neg (show ¬ (false = true) by decide)] at H;exact H
    clear H
    have H:=H1
    clear H1
    have c17:=cp_ H
    replace H:=ca_ H
    have c17b0:=eq_true c17
    have c17b1:=oC_ c17
    clear c17
    have c18:=cp_ H
    replace H:=ca_ H
    have c18b0:=eq_true c18
    have c18b1:=oC_ c18
    clear c18
    obtain ⟨y450,hy450⟩:∃ y_:List Bool,y_ = (List.replicate ((l0.length:Int):Int).toNat false):=⟨_,rfl⟩
    replace H:(if 0 < (y450.length:Int) then (Z9.l0 kj2 l0 l1 (y450.set (0:Int).toNat true) (([0]:List Int)) 0) else (none)) = some r:=by first | (rw [hy450];exact H) | exact H
    have Ny450:=A_ hy450
    clear hy450
    have c19:=cp_ H
    replace H:=ca_ H
    have c19b0:=oC_ c19
    have c19b1:decide (0 < y450.length) = true:=oC_ (by omega)
    clear c19
    obtain ⟨y453,hy453⟩:∃ y_:List Bool,y_ = (y450.set (0:Int).toNat true):=⟨_,rfl⟩
    replace H:(Z9.l0 kj2 l0 l1 y453 (([0]:List Int)) 0) = some r:=by first | (rw [hy453];exact H) | exact H
    have Ny453:=A_ hy453
    clear hy453
    obtain ⟨y454,hy454⟩:∃ y_:List Int,y_ = (([0]:List Int)):=⟨_,rfl⟩
    replace H:(Z9.l0 kj2 l0 l1 y453 y454 0) = some r:=by first | (rw [hy454];exact H) | exact H
    have Ny454:=A_ hy454
    clear hy454
    have H':=A_ H
    clear H
    go_wp2_with (first | ((with_reducible refine gB_ (N:=32) rfl ?_);(try (refine gate_guard (by rfl) ?_;dsimp only));refine Kd.R_make Kd.bool _ 4 rfl (N:=32) rfl 92 _ _ rfl (l0.length:Int) rfl rfl Tryz.underlying92 (.bool false) 1 info4 rfl (by decide) (by omega) false (ok:=fun _=>True) (okp:=fun _=>True) rfl (fun _ hk=>hk) trivial (oB_ qe_) (Nat.le_trans (Nat.mul_le_mul_right _ (oB_ qe_:(l0.length:Int).toNat≤281474976710656)) (by omega)) (Below.refl _ _) (nA_ _) ?_;intro v451 w21 ho22 hb hg_ hnew_;clear hg_ hnew_;(first | rw [← Ny450.out] at ho22 | (simp only [Int.reduceToNat] at ho22;rw [← Ny450.out] at ho22));have HO452:=rl_ w ho22;replace HB:=b1_ hb;clear hb ho22;have p20:0≤(0:Int):=(by omega);have q20:(0:Int) < ((y450.length:Int):Int):=oB_ qe_;have qi20:(0 < y450.length) = True:=eq_true (by omega);obtain ⟨go20,co20,eo20,gb20,gl20,cl20,HG20⟩:=Kd.R_form HO452.out (by omega);(first | cases eo20 | (injection eo20 with ea_ en_ ec_;(first | subst ea_ | (injection ea_ with ea_;subst ea_));subst ec_;clear en_));have GB20:=A_ gb20;have GG20:=A_ HG20;clear gb20 gl20 HG20;obtain ⟨hx20_0,hf20_0⟩:=Kd.R_celln false HO452.out (0:Int) p20 q20;(try rw [show ((0:Int)).toNat = 0 from rfl] at hx20_0);(try simp only [Nat.reduceMul,Nat.zero_mul,Nat.zero_add,Nat.reduceAdd] at hx20_0);(try rw [show ((0:Int)).toNat = 0 from rfl] at hf20_0);(try simp only [Nat.reduceMul,Nat.zero_mul,Nat.zero_add,Nat.reduceAdd] at hf20_0);replace p20:=eq_true p20;replace q20:=eq_true q20;obtain ⟨hy23_,hz23_⟩:=Kd.R_celln false HO452.out (0:Int) (by omega) (oB_ qe_);(try simp only [Int.reduceToNat,Int.toNat_zero,Int.toNat_ofNat,Nat.reduceMul,Nat.zero_mul,Nat.zero_add] at hy23_ hz23_);(try rw [show ((0:Int)).toNat = 0 from rfl] at hy23_);(try rw [show ((0:Int)).toNat = 0 from rfl] at hz23_);have HP23:=Kd.R_putg HO452.out (0:Int) true) | ((with_reducible refine gate_store (t:=4) (p:=34) rfl ?_);refine store_event (t:=4) (p:=34) (v:=?vo_w24) (w1:=(w21.setCell ⟨go20,(0:Int).toNat,none⟩ (.bool true))) ?hg ?ho ?hn ?hr ?_;(case ho=>rfl);(case hg=>rfl);(case hn=>rfl);(case hr=>first | (go_simp;done) | (go_simp;rfl));intro w24 hw;have hg:w21.grownBy w24 (some go20):=(by rw [hw];exact HP23.2);have hp_:Kd.R Kd.bool 4 w24 w.heap.size (fun _=>True) (.slice (some ⟨go20,0,none⟩) y450.length co20) y453:=(by rw [hw,Ny453.out];exact HP23.1);clear HP23;replace HO452:=A_ (hp_);replace HB:=A_ ((by rw [hw];exact bD_ (HB.out) GB20.out:Below w.heap.size w w24));clear hg hw hp_) | ((with_reducible refine gB_ (N:=35) rfl ?_);(try (refine gate_guard (by rfl) ?_;dsimp only));refine Kd.R_lit (Kd.int .i64) _ 3 ?hg (N:=35) ?hd (xs:=([0]:List Int)) (inner:=[.int .i64 0]) (ok:=fun _=>True) (okp:=fun _=>True) ?hr ?hp (fun _ hk=>hk) trivial (Below.refl _ _) (nA_ _) (by simp) ?_;(case hd=>rfl);(case hg=>rfl);(case hr=>first | (go_simp;done) | (go_simp;rfl));(case hp=>exact (Reps.one (show Kd.M (Kd.int .i64) _ _ _ 0 [.int .i64 0] from rfl) (Reps.none _ _)));intro v455 w25 ho26 hb hg_ hnew_;clear hg_ hnew_;(first | rw [← Ny454.out] at ho26 | (simp only [Int.reduceToNat] at ho26;rw [← Ny454.out] at ho26));replace HO452:=rb_ HO452 hb;have HO456:=rl_ w ho26;replace HB:=b1_ hb;clear hb ho26))
    go_loopg [6,7] kj2 (fun kq v6 v7 w'=>∃ (x5_2:List Bool) (x6_2:List Int) (x7_2:Int),v7 = .int .i64 x7_2∧Aside0 (Z9.l0 kq l0 l1 x5_2 x6_2 x7_2 = some r)∧Aside0 (kq≤kj2)∧Aside0 (Kd.R Kd.bool 4 w' w.heap.size (fun _=>True) (.slice (some ⟨go20,0,none⟩) y450.length co20) x5_2)∧Aside0 (Kd.R (Kd.int .i64) 3 w' w.heap.size (fun _=>True) v6 x6_2)∧Aside0 (Below w.heap.size w w'))
    case atStart=>exact ⟨(y453),(y454),(0),qc_,H',⟨nA_ _⟩,⟨(rr_ HO452)⟩,⟨(rr_ HO456)⟩,⟨hB_⟩⟩
    case round =>
     clear H'
     obtain ⟨x5_2,x6_2,x7_2,rfl,HA,HK2,HO_5,HO_6,HB⟩:=hrel
     have hl5_2:=(Kd.R_reads' HO_5.out).1
     rw [hl5_2] at HO_5
     (try simp only [hl5_2])
     (try simp only [hl5_2] at HO_6)
     cases gk with
     | zero=>exact absurd HA.out (by simp [Z9.l0])
     | succ k2 =>
      have H:=HA.out
      clear HA
      simp only [Z9.l0] at H
      by_cases c27:x7_2 < (x6_2.length:Int)
      ·rw [if_pos c27] at H
       have c27b0:=oC_ c27
       clear c27
       have c28:=cp_ H
       replace H:=ca_ H
       have c28b0:=oC_ c28
       clear c28
       have c29:=cp_ H
       replace H:=ca_ H
       have c29b0:=oC_ c29
       clear c29
       have c30:=cp_ H
       replace H:=ca_ H
       have c30b0:=oC_ c30
       clear c30
       have c31:=cp_ H
       replace H:=ca_ H
       have c31b0:=oC_ c31
       clear c31
       obtain ⟨y461,hy461⟩:∃ y_:List Int,y_ = (([rd l0 (rd x6_2 x7_2),rd l1 (rd x6_2 x7_2)]:List Int)):=⟨_,rfl⟩
       replace H:(Z9.l1 k2 l0 l1 x5_2 x6_2 x7_2 y461 (y461.length:Int) 0) = some r:=by first | (rw [hy461];exact H) | exact H
       have Ny461:=A_ hy461
       clear hy461
       have H':=A_ H
       clear H
       obtain ⟨Ao32,co32,eo32⟩:=Kd.R_slice HO_6.out
       subst eo32
       try go_wp2
       replace HO_5:=A_ (rC_ HO_5.out)
       replace HO_6:=A_ (rC_ HO_6.out)
       replace HB:=A_ (bC_ HB.out)
       have p457:0≤(x7_2:Int):=oB_ qe_
       have q457:x7_2 < (x6_2.length:Int):=oB_ qe_
       obtain ⟨ad457,e457,hx457_0⟩:=Kd.at_int (Kd.R_reads' HO_6.out).2.2 x7_2 p457 q457
       cases e457
       replace p457:=eq_true p457
       replace q457:=eq_true q457
       have p458:0≤((rd x6_2 x7_2):Int):=oB_ qe_
       have q458:(rd x6_2 x7_2) < (l0.length:Int):=oB_ qe_
       obtain ⟨ad458,e458,hx458_0⟩:=Kd.at_int HR0.out (rd x6_2 x7_2) p458 q458
       have hw458_0:=hx458_0
       cases e458
       replace hx458_0:=(HB.out.cell (World.block_lt_of_cell? w _ hx458_0)).trans hx458_0
       replace p458:=eq_true p458
       replace q458:=eq_true q458
       have p459:0≤(x7_2:Int):=oB_ qe_
       have q459:x7_2 < (x6_2.length:Int):=oB_ qe_
       obtain ⟨ad459,e459,hx459_0⟩:=Kd.at_int (Kd.R_reads' HO_6.out).2.2 x7_2 p459 q459
       obtain rfl:ad457 = ad459:=(by injection e459)
       replace p459:=eq_true p459
       replace q459:=eq_true q459
       have p460:0≤((rd x6_2 x7_2):Int):=oB_ qe_
       have q460:(rd x6_2 x7_2) < (l1.length:Int):=oB_ qe_
       obtain ⟨ad460,e460,hx460_0⟩:=Kd.at_int HR1.out (rd x6_2 x7_2) p460 q460
       have hw460_0:=hx460_0
       cases e460
       replace hx460_0:=(HB.out.cell (World.block_lt_of_cell? w _ hx460_0)).trans hx460_0
       replace p460:=eq_true p460
       replace q460:=eq_true q460
       refine start_ (n:=17) (S:=fun w'=>w'.cell? (ad457.add (x7_2).toNat) = some (.int .i64 (rd x6_2 x7_2))∧w'.cell? (ad458.add ((rd x6_2 x7_2)).toNat) = some (.int .i64 (rd l0 (rd x6_2 x7_2)))∧w'.cell? (ad457.add (x7_2).toNat) = some (.int .i64 (rd x6_2 x7_2))∧w'.cell? (ad460.add ((rd x6_2 x7_2)).toNat) = some (.int .i64 (rd l1 (rd x6_2 x7_2)))) (ds:=[]) (bl_ 17 0) (by kernel_rfl) rfl (by kernel_rfl) ⟨hx457_0,((HB.out.cell (World.block_lt_of_cell? w _ hw458_0)).trans hw458_0),hx459_0,((HB.out.cell (World.block_lt_of_cell? w _ hw460_0)).trans hw460_0)⟩ (fun hHeld=>?_);refine with_tabW Z9.tab9 Z9.bits9 (fun HT_ HW_=>?_)
       generalize wr.drew = w33 at HO_5 HO_6 HB hx457_0 hx458_0 hx459_0 hx460_0 hHeld ⊢
       refine pu_ 0 (some 42) (bl_ 17 1) HT_ ?_
       refine pu_ 1 (some 43) (bl_ 17 3) HT_ ?_
       refine pu_ 2 (some 44) (bl_ 17 7) HT_ ?_
       refine pu_ 3 (some 45) (bl_ 17 15) HT_ ?_
       refine pu_ 7 (some 49) (bl_ 17 143) HT_ ?_
       refine pu_ 8 (some 50) (bl_ 17 399) HT_ ?_
       refine pu_ 9 (some 51) (bl_ 17 911) HT_ ?_
       refine pu_ 10 (some 52) (bl_ 17 1935) HT_ ?_
       refine pu_ 16 (some 58) (bl_ 17 67471) HT_ ?_
       refine ta_ 4 (some 46) (bl_ 17 67487) HT_ HW_ hHeld ?_
       refine pu_ 5 (some 47) (bl_ 17 67519) HT_ ?_
       refine ta_ 6 (some 48) (bl_ 17 67583) HT_ HW_ hHeld ?_
       refine ta_ 11 (some 53) (bl_ 17 69631) HT_ HW_ hHeld ?_
       refine pu_ 12 (some 54) (bl_ 17 73727) HT_ ?_
       refine ta_ 13 (some 55) (bl_ 17 81919) HT_ HW_ hHeld ?_
       refine on_ 14 (some 56) (bl_ 17 98303) HT_ (fun K hK=>?_)
       refine Kd.R_lit_step (Kd.int .i64) _ 3 ?hg (N:=56) ?hd (xs:=([rd l0 (rd x6_2 x7_2),rd l1 (rd x6_2 x7_2)]:List Int)) (inner:=[.int .i64 (rd l0 (rd x6_2 x7_2)),.int .i64 (rd l1 (rd x6_2 x7_2))]) (ok:=fun _=>True) (okp:=fun _=>True) ?hr ?hp (fun _ hk=>hk) trivial (Below.refl _ _) (nA_ _) (by simp) ?_;(case hd=>rfl);(case hg=>rfl);(case hr=>first | (go_simp;done) | (go_simp;rfl));(case hp=>exact (Reps.one (show Kd.M (Kd.int .i64) _ _ _ (rd l0 (rd x6_2 x7_2)) [.int .i64 (rd l0 (rd x6_2 x7_2))] from rfl) (Reps.one (show Kd.M (Kd.int .i64) _ _ _ (rd l1 (rd x6_2 x7_2)) [.int .i64 (rd l1 (rd x6_2 x7_2))] from rfl) (Reps.none _ _))))
       intro v462 w34 ho35 hb hg_ hnew_
       have HS0_:=(hb.cell (World.block_lt_of_cell? _ _ (hHeld.1))).trans (hHeld.1)
       have HS2_:=(hb.cell (World.block_lt_of_cell? _ _ (hHeld.2.2.1))).trans (hHeld.2.2.1)
       clear hg_ hnew_
       (first | rw [← Ny461.out] at ho35 | (simp only [Int.reduceToNat] at ho35;rw [← Ny461.out] at ho35))
       replace HO_5:=rb_ HO_5 hb
       have HO463:=A_ (rE_ (Kd.R_new' ho35 (Kd.R_lt (rr_ HO_6))) (bF_ hB_))
       replace HO_6:=A_ (Kd.R_elder' (rr_ HO_6) (Kd.R_base ho35) hb)
       replace HB:=b1_ hb
       clear hb ho35
       obtain ⟨Ao36,co36,eo36⟩:=Kd.R_slice HO463.out
       (first | subst eo36 | (injection eo36 with f1_ f2_ f3_;have f4_:=f1_.symm;have f5_:=f3_.symm;clear f1_ f2_ f3_;subst f4_;subst f5_))
       refine hK.out _ _ ⟨HS0_,((HB.out.cell (World.block_lt_of_cell? w _ hw458_0)).trans hw458_0),HS2_,((HB.out.cell (World.block_lt_of_cell? w _ hw460_0)).trans hw460_0)⟩ (fun hHeld=>?_)
       clear hK K
       refine no_ (some 56) ?_
       refine pu_ 15 (some 57) (bl_ 17 131071) HT_ ?_
       refine done_ (done_of HT_.out (by kernel_rfl)) ?_
       try go_wp2
       go_loopg [6,58] k2 (fun kq v6 v58 w'=>∃ (x5_3:List Bool) (x6_3:List Int) (x58_3:Int),v58 = .int .i64 x58_3∧Aside0 (Z9.l1 kq l0 l1 x5_3 x6_3 x7_2 y461 (y461.length:Int) x58_3 = some r)∧Aside0 (kq≤k2)∧Aside0 (Kd.R Kd.bool 4 w' w.heap.size (fun _=>True) (.slice (some ⟨go20,0,none⟩) x5_2.length co20) x5_3)∧Aside0 (Kd.R (Kd.int .i64) 3 w' w.heap.size (fun k_=>some k_≠((.slice Ao36 y461.length co36):Value).ownBlock) v6 x6_3)∧Aside0 (Kd.R (Kd.int .i64) 3 w' w.heap.size (fun k_=>some k_≠(v6:Value).ownBlock) (.slice Ao36 y461.length co36) y461)∧Aside0 (Below w.heap.size w w'))
       case atStart=>exact ⟨(x5_2),(x6_2),(0),qc_,H',⟨nA_ _⟩,⟨by (try simp only [hl5_2]);(with_reducible repeat (first | apply rA_ | apply rB_ | apply rC_));exact HO_5.out⟩,⟨by (try simp only [hl5_2]);(with_reducible repeat (first | apply rA_ | apply rB_ | apply rC_));exact Kd.R_mono HO_6.out (fun _ hk=>hk.2)⟩,⟨by (try simp only [hl5_2]);(with_reducible repeat (first | apply rA_ | apply rB_ | apply rC_));exact Kd.R_mono HO463.out (fun _ hk=>hk.2)⟩,⟨hB_⟩⟩
       case round =>
        clear H'
        obtain ⟨x5_3,x6_3,x58_3,rfl,HA,HK3,HO_5,HO_6,HO_56,HB⟩:=hrel
        have hl5_3:=(Kd.R_reads' HO_5.out).1
        rw [hl5_3] at HO_5
        (try simp only [hl5_3])
        (try simp only [hl5_3] at HO_6)
        (try simp only [hl5_3] at HO_56)
        cases gk with
        | zero=>exact absurd HA.out (by simp [Z9.l1])
        | succ k3 =>
         have H:=HA.out
         clear HA
         simp only [Z9.l1] at H
         by_cases c37:x58_3 < (y461.length:Int)
         ·rw [if_pos c37] at H
          have c37b0:=oC_ c37
          clear c37
          have c38:=cp_ H
          replace H:=ca_ H
          have c38b0:=oC_ c38
          clear c38
          have c39:=cp_ H
          replace H:=ca_ H
          have c39b0:=oC_ c39
          clear c39
          have c40:=cp_ H
          replace H:=ca_ H
          have c40b0:=oC_ c40
          clear c40
          have c41:=cp_ H
          replace H:=ca_ H
          have c41b0:=oC_ c41
          clear c41
          obtain ⟨bq42,hbq42⟩:∃ b_:Bool,b_ = (rdOf false x5_3 (rd y461 x58_3)):=⟨_,rfl⟩
          replace H:(if (bq42 = true) then (Z9.l1 k3 l0 l1 x5_3 x6_3 x7_2 y461 (y461.length:Int) (wrap64 (x58_3 + 1))) else (if x6_3.length < 17592186044416 then (Z9.l1 k3 l0 l1 (x5_3.set ((rd y461 x58_3):Int).toNat true) (x6_3 ++ [rd y461 x58_3]) x7_2 y461 (y461.length:Int) (wrap64 (x58_3 + 1))) else (none))) = some r:=by rw [← hbq42] at H;exact H
          have Nbq42:=A_ hbq42
          clear hbq42
          by_cases c43:(bq42 = true)
          ·subst c43
           rw [if_pos rfl] at H
           have H':=A_ H
           clear H
           have p464:0≤(x58_3:Int):=oB_ qe_
           have q464:x58_3 < (y461.length:Int):=oB_ qe_
           obtain ⟨ad464,e464,hx464_0⟩:=Kd.at_int (Kd.R_reads' HO_56.out).2.2 x58_3 p464 q464
           cases e464
           replace p464:=eq_true p464
           replace q464:=eq_true q464
           have p465:0≤((rd y461 x58_3):Int):=oB_ qe_
           have q465:(rd y461 x58_3) < (x5_3.length:Int):=oB_ qe_
           obtain ⟨ad465,e465,hx465_0⟩:=Kd.at_bool (Kd.R_reads' HO_5.out).2.2 (rd y461 x58_3) p465 q465
           (try rw [← Nbq42.out] at hx465_0)
           obtain rfl:(⟨go20,0,none⟩:Addr) = ad465:=(by injection e465)
           (first | simp only [add_plain] at hx465_0 | simp only [add_at] at hx465_0 | simp only [Addr.add,Nat.zero_add] at hx465_0 | skip)
           replace p465:=eq_true p465
           replace q465:=eq_true q465
           go_wp2
           (try simp only [← hl5_3])
           go_roundg k3
           case measure=>have:=HJ2.out;have:=HK2.out;have:=HK3.out;omega
           case rel=>exact ⟨(x5_3),(x6_3),(wrap64 (x58_3 + 1)),qc_,H',⟨by have:=HJ2.out;have:=HK2.out;have:=HK3.out;omega⟩,⟨by (try simp only [hl5_2]);(try simp only [hl5_3]);(with_reducible repeat (first | apply rA_ | apply rB_ | apply rC_));exact HO_5.out⟩,⟨by (try simp only [hl5_2]);(try simp only [hl5_3]);(with_reducible repeat (first | apply rA_ | apply rB_ | apply rC_));exact HO_6.out⟩,⟨by (try simp only [hl5_2]);(try simp only [hl5_3]);(with_reducible repeat (first | apply rA_ | apply rB_ | apply rC_));exact HO_56.out⟩,⟨hB_⟩⟩
          ·replace c43:=Bool.eq_false_iff.mpr c43
           subst c43
           have H1:(if x6_3.length < 17592186044416 then (Z9.l1 k3 l0 l1 (x5_3.set ((rd y461 x58_3):Int).toNat true) (x6_3 ++ [rd y461 x58_3]) x7_2 y461 (y461.length:Int) (wrap64 (x58_3 + 1))) else (none)) = some r:=by rw [if_neg (show ¬ (false = true) by decide)] at H;exact H
           clear H
           have H:=H1
           clear H1
           obtain ⟨y466,hy466⟩:∃ y_:List Bool,y_ = (x5_3.set ((rd y461 x58_3):Int).toNat true):=⟨_,rfl⟩
           replace H:(if x6_3.length < 17592186044416 then (Z9.l1 k3 l0 l1 y466 (x6_3 ++ [rd y461 x58_3]) x7_2 y461 (y461.length:Int) (wrap64 (x58_3 + 1))) else (none)) = some r:=by first | (rw [hy466];exact H) | exact H
           have Ny466:=A_ hy466
           clear hy466
           have c45:=cp_ H
           replace H:=ca_ H
           have LMc45:=A_ c45
           clear c45
           obtain ⟨y467,hy467⟩:∃ y_:List Int,y_ = (x6_3 ++ [rd y461 x58_3]):=⟨_,rfl⟩
           replace H:(Z9.l1 k3 l0 l1 y466 y467 x7_2 y461 (y461.length:Int) (wrap64 (x58_3 + 1))) = some r:=by first | (rw [hy467];exact H) | exact H
           have Ny467:=A_ hy467
           clear hy467
           have H':=A_ H
           clear H
           have p464:0≤(x58_3:Int):=oB_ qe_
           have q464:x58_3 < (y461.length:Int):=oB_ qe_
           obtain ⟨ad464,e464,hx464_0⟩:=Kd.at_int (Kd.R_reads' HO_56.out).2.2 x58_3 p464 q464
           cases e464
           replace p464:=eq_true p464
           replace q464:=eq_true q464
           have p465:0≤((rd y461 x58_3):Int):=oB_ qe_
           have q465:(rd y461 x58_3) < (x5_3.length:Int):=oB_ qe_
           obtain ⟨ad465,e465,hx465_0⟩:=Kd.at_bool (Kd.R_reads' HO_5.out).2.2 (rd y461 x58_3) p465 q465
           (try rw [← Nbq42.out] at hx465_0)
           obtain rfl:(⟨go20,0,none⟩:Addr) = ad465:=(by injection e465)
           (first | simp only [add_plain] at hx465_0 | simp only [add_at] at hx465_0 | simp only [Addr.add,Nat.zero_add] at hx465_0 | skip)
           replace p465:=eq_true p465
           replace q465:=eq_true q465
           have p44:0≤((rd y461 x58_3):Int):=oB_ qe_
           have q44:((rd y461 x58_3):Int) < ((x5_3.length:Int):Int):=oB_ qe_
           obtain ⟨hx44_0,hf44_0⟩:=Kd.R_celln false HO_5.out ((rd y461 x58_3):Int) p44 q44
           replace p44:=eq_true p44
           replace q44:=eq_true q44
           have HP46:=Kd.R_putg HO_5.out ((rd y461 x58_3):Int) true
           go_wp2_with (first | ((with_reducible refine gate_store (t:=4) (p:=69) rfl ?_);refine store_event (t:=4) (p:=69) (v:=?vo_w47) (w1:=(wr.setCell ⟨go20,((rd y461 x58_3):Int).toNat,none⟩ (.bool true))) ?hg ?ho ?hn ?hr ?_;(case ho=>rfl);(case hg=>rfl);(case hn=>rfl);(case hr=>first | (go_simp;done) | (go_simp;rfl));intro w47 hw;have hg:wr.grownBy w47 (some go20):=(by rw [hw];exact HP46.2);have hp_:Kd.R Kd.bool 4 w47 w.heap.size (fun _=>True) (.slice (some ⟨go20,0,none⟩) x5_3.length co20) y466:=(by rw [hw,Ny466.out];exact HP46.1);clear HP46;replace HO_6:=A_ (Kd.R_over' (v:=(.slice (some ⟨go20,0,none⟩) x5_3.length co20)) (rr_ HO_6) (Kd.R_typed HO_5.out) (by decide) hg);replace HO_56:=A_ (Kd.R_over' (v:=(.slice (some ⟨go20,0,none⟩) x5_3.length co20)) (rr_ HO_56) (Kd.R_typed HO_5.out) (by decide) hg);replace HO_5:=A_ (hp_);replace HB:=A_ ((by rw [hw];exact bD_ (HB.out) GB20.out:Below w.heap.size w w47));clear hg hw hp_) | ((with_reducible refine gate_builtin (b:=.append) (xs:=#[.tmp 70,.tmp 72]) rfl ?_);(try (refine gate_guard (by rfl) ?_;dsimp only));at_builtin;refine Kd.R_append (Kd.int .i64) (w0:=w) w.heap.size rfl (.tmp 70) (.tmp 72) 27 3 (.int .i64 0) 8 rfl Tryz.underlying27 info3 rfl (by decide) (by omega) u6 x6_3 (rd y461 x58_3) [.int .i64 (rd y461 x58_3)] (fun k_=>some k_≠(.slice (some ad464) y461.length co36:Value).ownBlock) (fun _=>False) rfl rfl ?aP (fun _ hk=>hk.elim) ?aF ?aO ?aB ?aS ?aL ?_;(case aP=>exact rfl);(case aB=>exact hB_);(case aF=>exact (fun k_ hk=>Kd.fresh' (Kd.R_lt (rr_ HO_56)) k_ hk));(case aO=>exact (rr_ HO_6));(case aS=>exact (bF_ hB_));(case aL=>have:=LMc45.out;omega);intro v468 w48 ho hb hg hat;rw [← Ny467.out] at ho;replace HO_5:=A_ (Kd.R_over' (rr_ HO_5) (Kd.R_typed (rr_ HO_6)) (by decide) hg);replace HO_56:=A_ (Kd.R_after (ok:=(fun _=>True)) (rw_ (Kd.R_mono HO_56.out (fun _ hk=>⟨trivial,hk⟩))) hg hat);replace HB:=A_ hb;have HO469:=A_ ho;clear HO_6;clear ho hb hg hat))
           (try simp only [← hl5_3])
           go_roundg k3
           case measure=>have:=HJ2.out;have:=HK2.out;have:=HK3.out;omega
           case rel=>exact ⟨(y466),(y467),(wrap64 (x58_3 + 1)),qc_,H',⟨by have:=HJ2.out;have:=HK2.out;have:=HK3.out;omega⟩,⟨by (try simp only [hl5_2]);(try simp only [hl5_3]);(with_reducible repeat (first | apply rA_ | apply rB_ | apply rC_));exact HO_5.out⟩,⟨by (try simp only [hl5_2]);(try simp only [hl5_3]);(with_reducible repeat (first | apply rA_ | apply rB_ | apply rC_));exact HO469.out⟩,⟨by (try simp only [hl5_2]);(try simp only [hl5_3]);(with_reducible repeat (first | apply rA_ | apply rB_ | apply rC_));exact Kd.R_mono HO_56.out (fun _ hk=>hk.2)⟩,⟨hB_⟩⟩
         ·rw [if_neg c37] at H
          have c37b0:=oD_ c37
          clear c37
          have H':=A_ H
          clear H
          go_wp2
          (try simp only [← hl5_2,← hl5_3])
          go_roundg k3
          case measure=>have:=HJ2.out;have:=HK2.out;have:=HK3.out;omega
          case rel=>exact ⟨(x5_3),(x6_3),(wrap64 (x7_2 + 1)),qc_,H',⟨by have:=HJ2.out;have:=HK2.out;have:=HK3.out;omega⟩,⟨by (try simp only [hl5_2]);(try simp only [hl5_3]);(with_reducible repeat (first | apply rA_ | apply rB_ | apply rC_));exact HO_5.out⟩,⟨by (try simp only [hl5_2]);(try simp only [hl5_3]);(with_reducible repeat (first | apply rA_ | apply rB_ | apply rC_));exact Kd.R_mono HO_6.out (fun _ hk=>trivial)⟩,⟨hB_⟩⟩
      ·rw [if_neg c27] at H
       have c27b0:=oD_ c27
       clear c27
       obtain rfl:=Option.some.inj H
       obtain ⟨Ao49,co49,eo49⟩:=Kd.R_slice HO_6.out
       subst eo49
       go_wp2
       go_ret
       exact ⟨qb_,hB_⟩
end Go.Proofs.YtoijcallajegfaaGreat.A
end
section
namespace Go.Proofs.YtoijcallajegfaaGreat.A
open Go.RowKit Go.Proofs.YtoijcallajegfaaGreatW.PrintWords Go.Proofs.YtoijcallajegfaaGreatW.PrintLast Go.Proofs.YtoijcallajegfaaGreatW.PrintMore
attribute [local go_sem] max2_int min2_int max_two min_two max_three min_three max_four min_four
set_option linter.unusedVariables false
set_option linter.unusedSimpArgs false
def Z26.f (k:Nat) (l0_0:List Int) (l0_1:List Int):Option (Bool):=(Z9.f k l0_0 l0_1).bind fun t471=>(some t471)
theorem Z26.mono:∀ a0 a1 k,LeO (Z26.f k a0 a1) (Z26.f (k + 1) a0 a1):=by
 intro a0 a1 k
 unfold Z26.f
 repeat' first|exact Z9.mono _ _ _|exact lo_|refine LeO.ite ?_ ?_|refine LeO.bind ?_ (fun _=>?_)
set_option maxHeartbeats 8000000 in
set_option maxRecDepth 100000 in
theorem Z26.calls (k:Nat) (A0_0:Option Addr) (c0_0:Nat) (l0_0:List Int) (A0_1:Option Addr) (c0_1:Nat) (l0_1:List Int) (r:Bool) (w:World) (hr0_0:Kd.C (Kd.int .i64) w A0_0 l0_0.length l0_0) (hc0_0:l0_0.length≤c0_0) (hr0_1:Kd.C (Kd.int .i64) w A0_1 l0_1.length l0_1) (hc0_1:l0_1.length≤c0_1) (h:Z26.f k l0_0 l0_1 = some r) :
  Calls Tryz.prog 88 #[.agg #[.slice A0_0 l0_0.length c0_0,.slice A0_1 l0_1.length c0_1]] w fun e w'=>e = .returned (.bool r)∧Below w.heap.size w w':=by
 have hu38:=Tryz.underlying38
 have HR0_0:=A_ hr0_0
 have HC0_0:=A_ hc0_0
 clear hr0_0 hc0_0
 have HR0_1:=A_ hr0_1
 have HC0_1:=A_ hc0_1
 clear hr0_1 hc0_1
 have HB:=A_ (Below.refl w.heap.size w)
 have H:=h
 unfold Z26.f at H
 clear h
 obtain ⟨t471,A2,H⟩:=bi_ H
 obtain rfl:=Option.some.inj H
 go_enter Tryz.func88,Tryz.ntmps88
 go_wp2_with (first | ((with_reducible refine gB_ (N:=1) rfl ?_);refine bx_ 1 #[.slice A0_0 l0_0.length c0_0,.slice A0_1 l0_1.length c0_1] 38 ?_;intro gb470 hg w3 hbox hb;have BK470:=A_ hbox;have GW470:=gw_ w hg;have GE470:=GW470;replace HB:=b1_ hb;clear hb hbox hg;obtain ⟨hcz4_0,hcz4_1,hfz4_0,hfz4_1⟩:=c2_ BK470) | ((with_reducible refine gA_ (f:=108) rfl ?_);refine gL_ (some 7) Tryz.func108 #[.slice A0_0 l0_0.length c0_0,.slice A0_1 l0_1.length c0_1] rfl qa_ ?_;(with_reducible refine (Z9.calls k _ _ l0_0 _ _ l0_1 t471 _ (cb_ HR0_0) HC0_0.out (cb_ HR0_1) HC0_1.out A2.out).mono ?_);rintro e w5 ⟨rfl,hb⟩;refine ⟨_,rfl,?_⟩;replace BK470:=bb_ BK470 hb;replace HB:=b1_ hb;clear hb))
 go_ret
 exact ⟨qb_,hB_⟩
def Z8.f (k:Nat) (l0_0:List Int) (l0_1:List Int):Option (Int):=(Z26.f k l0_0 l0_1).bind fun t473=>(if t473 = true then (some (l0_0.length:Int)) else (some 0))
theorem Z8.mono:∀ a0 a1 k,LeO (Z8.f k a0 a1) (Z8.f (k + 1) a0 a1):=by
 intro a0 a1 k
 unfold Z8.f
 repeat' first|exact Z26.mono _ _ _|exact lo_|refine LeO.ite ?_ ?_|refine LeO.bind ?_ (fun _=>?_)
set_option maxHeartbeats 8000000 in
set_option maxRecDepth 100000 in
theorem Z8.calls (k:Nat) (A0_0:Option Addr) (c0_0:Nat) (l0_0:List Int) (A0_1:Option Addr) (c0_1:Nat) (l0_1:List Int) (r:Int) (w:World) (hr0_0:Kd.C (Kd.int .i64) w A0_0 l0_0.length l0_0) (hc0_0:l0_0.length≤c0_0) (hr0_1:Kd.C (Kd.int .i64) w A0_1 l0_1.length l0_1) (hc0_1:l0_1.length≤c0_1) (h:Z8.f k l0_0 l0_1 = some r) :
  Calls Tryz.prog 84 #[.agg #[.slice A0_0 l0_0.length c0_0,.slice A0_1 l0_1.length c0_1]] w fun e w'=>e = .returned (.int .i64 r)∧Below w.heap.size w w':=by
 have hu38:=Tryz.underlying38
 have HR0_0:=A_ hr0_0
 have HC0_0:=A_ hc0_0
 clear hr0_0 hc0_0
 have HR0_1:=A_ hr0_1
 have HC0_1:=A_ hc0_1
 clear hr0_1 hc0_1
 have HB:=A_ (Below.refl w.heap.size w)
 have H:=h
 unfold Z8.f at H
 clear h
 obtain ⟨t473,A2,H⟩:=bi_ H
 by_cases c3:t473 = true
 ·subst c3
  rw [if_pos rfl] at H
  obtain rfl:=Option.some.inj H
  go_enter Tryz.func84,Tryz.ntmps84
  go_wp2_with (first | ((with_reducible refine gB_ (N:=1) rfl ?_);refine bx_ 1 #[.slice A0_0 l0_0.length c0_0,.slice A0_1 l0_1.length c0_1] 38 ?_;intro gb472 hg w4 hbox hb;have BK472:=A_ hbox;have GW472:=gw_ w hg;have GE472:=GW472;replace HB:=b1_ hb;clear hb hbox hg;obtain ⟨hcz5_0,hcz5_1,hfz5_0,hfz5_1⟩:=c2_ BK472) | ((with_reducible refine gA_ (f:=88) rfl ?_);refine gL_ (some 4) Tryz.func88 #[.agg #[.slice A0_0 l0_0.length c0_0,.slice A0_1 l0_1.length c0_1]] rfl qa_ ?_;(with_reducible refine (Z26.calls k _ _ l0_0 _ _ l0_1 true _ (cb_ HR0_0) HC0_0.out (cb_ HR0_1) HC0_1.out A2.out).mono ?_);rintro e w6 ⟨rfl,hb⟩;refine ⟨_,rfl,?_⟩;replace BK472:=bb_ BK472 hb;replace HB:=b1_ hb;clear hb;obtain ⟨hcz7_0,hcz7_1,hfz7_0,hfz7_1⟩:=c2_ BK472))
  go_ret
  exact ⟨qb_,hB_⟩
 ·replace c3:=Bool.eq_false_iff.mpr c3
  subst c3
  have H1:(some 0) = some r:=by rw [if_neg (show ¬ (false = true) by decide)] at H;exact H
  clear H
  have H:=H1
  clear H1
  obtain rfl:=Option.some.inj H
  go_enter Tryz.func84,Tryz.ntmps84
  go_wp2_with (first | ((with_reducible refine gB_ (N:=1) rfl ?_);refine bx_ 1 #[.slice A0_0 l0_0.length c0_0,.slice A0_1 l0_1.length c0_1] 38 ?_;intro gb472 hg w8 hbox hb;have BK472:=A_ hbox;have GW472:=gw_ w hg;have GE472:=GW472;replace HB:=b1_ hb;clear hb hbox hg;obtain ⟨hcz9_0,hcz9_1,hfz9_0,hfz9_1⟩:=c2_ BK472) | ((with_reducible refine gA_ (f:=88) rfl ?_);refine gL_ (some 4) Tryz.func88 #[.agg #[.slice A0_0 l0_0.length c0_0,.slice A0_1 l0_1.length c0_1]] rfl qa_ ?_;(with_reducible refine (Z26.calls k _ _ l0_0 _ _ l0_1 false _ (cb_ HR0_0) HC0_0.out (cb_ HR0_1) HC0_1.out A2.out).mono ?_);rintro e w10 ⟨rfl,hb⟩;refine ⟨_,rfl,?_⟩;replace BK472:=bb_ BK472 hb;replace HB:=b1_ hb;clear hb))
  go_ret
  exact ⟨qb_,hB_⟩
end Go.Proofs.YtoijcallajegfaaGreat.A
end
section
namespace Go.Proofs.YtoijcallajegfaaGreat.A
open Go.RowKit Go.Proofs.YtoijcallajegfaaGreatW.PrintWords Go.Proofs.YtoijcallajegfaaGreatW.PrintLast Go.Proofs.YtoijcallajegfaaGreatW.PrintMore
attribute [local go_sem] max2_int min2_int max_two min_two max_three min_three max_four min_four
set_option linter.unusedVariables false
set_option linter.unusedSimpArgs false
mutual
def Z17.j0:Nat→List Int→List Int→Bool→Option (List Int)
 | 0,_,_,_=>none
 | k + 1,x0,x1,x22=>if x22 = true then (some ([]:List Int)) else (if 0≤(x0.length:Int) then (if ((x0.length:Int):Int).toNat≤35184372088832 then (Z17.l0 k x1 (List.replicate ((x0.length:Int):Int).toNat 0) x0 (x0.length:Int) 0) else (none)) else (none))
def Z17.l0:Nat→List Int→List Int→List Int→Int→Int→Option (List Int)
 | 0,_,_,_,_,_=>none
 | k + 1,x1,x5,x26,x27,x28=>if x28 < x27 then (if 0≤x28 then (if x28 < (x26.length:Int) then (if x28 < (x1.length:Int) then (if 0≤(rd x26 x28) then (if (rd x26 x28) < (x1.length:Int) then (if 0≤(rd x1 x28) then (if (rd x1 x28) < (x5.length:Int) then (Z17.l0 k x1 (x5.set ((rd x1 x28):Int).toNat (rd x1 (rd x26 x28))) x26 x27 (wrap64 (x28 + 1))) else (none)) else (none)) else (none)) else (none)) else (none)) else (none)) else (none)) else (some x5)
end
def Z17.f (k:Nat) (l0:List Int) (l1:List Int):Option (List Int):=(Z61.f k l0).bind fun t474=>(if t474 = true then ((Z61.f k l1).bind fun t475=>(if t475 = true then (Z17.j0 k l0 l1 ((l0.length:Int) != (l1.length:Int))) else (Z17.j0 k l0 l1 true))) else (Z17.j0 k l0 l1 true))
theorem Z17.mono_l:∀ k,(∀ y0 y1 y2,LeO (Z17.j0 k y0 y1 y2) (Z17.j0 (k + 1) y0 y1 y2))∧(∀ y0 y1 y2 y3 y4,LeO (Z17.l0 k y0 y1 y2 y3 y4) (Z17.l0 (k + 1) y0 y1 y2 y3 y4))
 | 0=>⟨fun _ _ _ r h=>by simp [Z17.j0] at h,fun _ _ _ _ _ r h=>by simp [Z17.l0] at h⟩
 | k + 1=>by
  obtain ⟨ih0,ih1⟩:=Z17.mono_l k
  refine ⟨?_,?_⟩
  ·intro y0 y1 y2
   unfold Z17.j0
   repeat' first|exact ih0 _ _ _|exact ih1 _ _ _ _ _|exact Z61.mono _ _|exact lo_|refine LeO.ite ?_ ?_|refine LeO.bind ?_ (fun _=>?_)
  ·intro y0 y1 y2 y3 y4
   unfold Z17.l0
   repeat' first|exact ih0 _ _ _|exact ih1 _ _ _ _ _|exact Z61.mono _ _|exact lo_|refine LeO.ite ?_ ?_|refine LeO.bind ?_ (fun _=>?_)
theorem Z17.mono:∀ a0 a1 k,LeO (Z17.f k a0 a1) (Z17.f (k + 1) a0 a1):=by
 intro a0 a1 k
 obtain ⟨ih0,ih1⟩:=Z17.mono_l k
 unfold Z17.f
 repeat' first|exact ih0 _ _ _|exact ih1 _ _ _ _ _|exact Z61.mono _ _|exact lo_|refine LeO.ite ?_ ?_|refine LeO.bind ?_ (fun _=>?_)
def Z17.T7:Bool × List (List Nat × List Nat):=(true,[([],[]),([],[]),([],[]),([1,2],[1,2]),([3],[3]),([],[]),([],[]),([5,6],[5,6]),([7],[7]),([0,4,0,1,2,3,4,5,6,7,8],[0,4]),([9,8,0,1,2,3,4,5,6,7,8],[8,9])])
def Z17.B7:List Nat:=[0,0,0,6,14,0,0,96,224,511,1023]
theorem Z17.tab7:rtab .any (opsOf Tryz.f99 7) = Z17.T7:=by kernel_rfl
theorem Z17.bits7:waitsOk Z17.T7.2 Z17.B7 = true:=by kernel_rfl
set_option maxHeartbeats 8000000 in
set_option maxRecDepth 100000 in
theorem Z17.calls (k:Nat) (A0:Option Addr) (c0:Nat) (l0:List Int) (A1:Option Addr) (c1:Nat) (l1:List Int) (r:List Int) (w:World) (hr0:Kd.C (Kd.int .i64) w A0 l0.length l0) (hc0:l0.length≤c0) (hr1:Kd.C (Kd.int .i64) w A1 l1.length l1) (hc1:l1.length≤c1) (h:Z17.f k l0 l1 = some r) :
  Calls Tryz.prog 99 #[.slice A0 l0.length c0,.slice A1 l1.length c1] w fun e w'=>∃ v0_:Value,e = .returned (v0_)∧Kd.R (Kd.int .i64) 3 w' w.heap.size (fun _=>True) v0_ r∧Below w.heap.size w w':=by
 have HR0:=A_ hr0
 have HC0:=A_ hc0
 clear hr0 hc0
 have HR1:=A_ hr1
 have HC1:=A_ hc1
 clear hr1 hc1
 have HB:=A_ (Below.refl w.heap.size w)
 have H:=h
 unfold Z17.f at H
 clear h
 have HC3:=A_ H
 clear H
 go_enter Tryz.func99,Tryz.ntmps99
 go_upto_region 1 with (fail)
 go_cut [22] (fun v22 wc=>∃ (kq:Nat) (x22_2:Bool),v22 = .bool x22_2∧Aside0 (Z17.j0 kq l0 l1 x22_2 = some r)∧Aside0 (kq≤k)∧Aside0 (Below w.heap.size w wc))
 case first =>
  have H:=HC3.out
  clear HC3
  obtain ⟨t474,A4,H⟩:=bi_ H
  by_cases c5:t474 = true
  ·subst c5
   rw [if_pos rfl] at H
   obtain ⟨t475,A6,H⟩:=bi_ H
   by_cases c7:t475 = true
   ·subst c7
    rw [if_pos rfl] at H
    have H':=A_ H
    clear H
    go_wp2_with (first | ((with_reducible refine gA_ (f:=98) rfl ?_);refine gL_ (some 9) Tryz.func98 #[.slice A0 l0.length c0] rfl qa_ ?_;(with_reducible refine (Z61.calls k _ _ l0 true _ (cb_ HR0) HC0.out A4.out).mono ?_);rintro e w8 ⟨rfl,hb⟩;refine ⟨_,rfl,?_⟩;replace HB:=b1_ hb;clear hb) | (go_at_call 98;(with_reducible refine (Z61.calls k _ _ l1 true _ (cb_ HR1) HC1.out A6.out).mono ?_);rintro e w9 ⟨rfl,hb⟩;replace HB:=b1_ hb;clear hb))
    go_meet
    case rel=>exact ⟨_,(((l0.length:Int) != (l1.length:Int))),qc_,H',⟨qd_⟩,⟨hB_⟩⟩
   ·replace c7:=Bool.eq_false_iff.mpr c7
    subst c7
    have H1:(Z17.j0 k l0 l1 true) = some r:=by rw [if_neg (show ¬ (false = true) by decide)] at H;exact H
    clear H
    have H:=H1
    clear H1
    have H':=A_ H
    clear H
    go_wp2_with (first | ((with_reducible refine gA_ (f:=98) rfl ?_);refine gL_ (some 9) Tryz.func98 #[.slice A0 l0.length c0] rfl qa_ ?_;(with_reducible refine (Z61.calls k _ _ l0 true _ (cb_ HR0) HC0.out A4.out).mono ?_);rintro e w10 ⟨rfl,hb⟩;refine ⟨_,rfl,?_⟩;replace HB:=b1_ hb;clear hb) | (go_at_call 98;(with_reducible refine (Z61.calls k _ _ l1 false _ (cb_ HR1) HC1.out A6.out).mono ?_);rintro e w11 ⟨rfl,hb⟩;replace HB:=b1_ hb;clear hb))
    go_meet
    case rel=>exact ⟨_,(true),qc_,H',⟨qd_⟩,⟨hB_⟩⟩
  ·replace c5:=Bool.eq_false_iff.mpr c5
   subst c5
   have H1:(Z17.j0 k l0 l1 true) = some r:=by rw [if_neg (show ¬ (false = true) by decide)] at H;exact H
   clear H
   have H:=H1
   clear H1
   have H':=A_ H
   clear H
   go_wp2_with (first | ((with_reducible refine gA_ (f:=98) rfl ?_);refine gL_ (some 9) Tryz.func98 #[.slice A0 l0.length c0] rfl qa_ ?_;(with_reducible refine (Z61.calls k _ _ l0 false _ (cb_ HR0) HC0.out A4.out).mono ?_);rintro e w12 ⟨rfl,hb⟩;refine ⟨_,rfl,?_⟩;replace HB:=b1_ hb;clear hb))
   go_meet
   case rel=>exact ⟨_,(true),qc_,H',⟨qd_⟩,⟨hB_⟩⟩
 case rest =>
  clear HC3
  obtain ⟨kq,x22_2,rfl,HA,HJ2,HB⟩:=hcut
  cases kq with
  | zero=>exact absurd HA.out (by simp [Z17.j0])
  | succ kj2 =>
   have H:=HA.out
   clear HA
   simp only [Z17.j0] at H
   by_cases c13:x22_2 = true
   ·subst c13
    rw [if_pos rfl] at H
    obtain rfl:=Option.some.inj H
    go_wp2
    go_ret
    exact ⟨_,qb_,by first | exact Kd.R_nil _ _ _ _ _ | exact Kd.N_nil _ _ _ _ _ | exact Kd.V_nil _ _ _ _ _ | exact Kd.Q_nil _ _ _ _ _ | exact Kd.S_nil _ _ _ _ _,hB_⟩
   ·replace c13:=Bool.eq_false_iff.mpr c13
    subst c13
    have H1:(if 0≤(l0.length:Int) then (if ((l0.length:Int):Int).toNat≤35184372088832 then (Z17.l0 kj2 l1 (List.replicate ((l0.length:Int):Int).toNat 0) l0 (l0.length:Int) 0) else (none)) else (none)) = some r:=by rw [if_neg (show ¬ (false = true) by decide)] at H;exact H
    clear H
    have H:=H1
    clear H1
    have c14:=cp_ H
    replace H:=ca_ H
    have c14b0:=eq_true c14
    have c14b1:=oC_ c14
    clear c14
    have c15:=cp_ H
    replace H:=ca_ H
    have c15b0:=eq_true c15
    have c15b1:=oC_ c15
    clear c15
    obtain ⟨y476,hy476⟩:∃ y_:List Int,y_ = (List.replicate ((l0.length:Int):Int).toNat 0):=⟨_,rfl⟩
    replace H:(Z17.l0 kj2 l1 y476 l0 (l0.length:Int) 0) = some r:=by first | (rw [hy476];exact H) | exact H
    have Ny476:=A_ hy476
    clear hy476
    have H':=A_ H
    clear H
    go_wp2_with (first | ((with_reducible refine gB_ (N:=25) rfl ?_);(try (refine gate_guard (by rfl) ?_;dsimp only));refine Kd.R_make (Kd.int .i64) _ 3 rfl (N:=25) rfl 27 _ _ rfl (l0.length:Int) rfl rfl Tryz.underlying27 (.int .i64 0) 8 info3 rfl (by decide) (by omega) 0 (ok:=fun _=>True) (okp:=fun _=>True) rfl (fun _ hk=>hk) trivial (oB_ qe_) (Nat.le_trans (Nat.mul_le_mul_right _ (oB_ qe_:(l0.length:Int).toNat≤35184372088832)) (by omega)) (Below.refl _ _) (nA_ _) ?_;intro v477 w16 ho17 hb hg_ hnew_;clear hg_ hnew_;(first | rw [← Ny476.out] at ho17 | (simp only [Int.reduceToNat] at ho17;rw [← Ny476.out] at ho17));have HO478:=rl_ w ho17;replace HB:=b1_ hb;clear hb ho17))
    go_loopg [28] kj2 (fun kq v28 w'=>∃ (x5_2:List Int) (x28_2:Int),v28 = .int .i64 x28_2∧Aside0 (Z17.l0 kq l1 x5_2 l0 (l0.length:Int) x28_2 = some r)∧Aside0 (kq≤kj2)∧Aside0 (Kd.R (Kd.int .i64) 3 w' w.heap.size (fun _=>True) v477 x5_2)∧Aside0 (Below w.heap.size w w'))
    case atStart=>exact ⟨(y476),(0),qc_,H',⟨nA_ _⟩,⟨(rr_ HO478)⟩,⟨hB_⟩⟩
    case round =>
     clear H'
     obtain ⟨x5_2,x28_2,rfl,HA,HK2,HO_5,HB⟩:=hrel
     cases gk with
     | zero=>exact absurd HA.out (by simp [Z17.l0])
     | succ k2 =>
      have H:=HA.out
      clear HA
      simp only [Z17.l0] at H
      by_cases c18:x28_2 < (l0.length:Int)
      ·rw [if_pos c18] at H
       have c18b0:=oC_ c18
       clear c18
       have c19:=cp_ H
       replace H:=ca_ H
       have c19b0:=oC_ c19
       clear c19
       have c20:=cp_ H
       replace H:=ca_ H
       have c20b0:=oC_ c20
       clear c20
       have c21:=cp_ H
       replace H:=ca_ H
       have c21b0:=oC_ c21
       clear c21
       have c22:=cp_ H
       replace H:=ca_ H
       have c22b0:=oC_ c22
       clear c22
       have c23:=cp_ H
       replace H:=ca_ H
       have c23b0:=oC_ c23
       clear c23
       have c24:=cp_ H
       replace H:=ca_ H
       have c24b0:=oC_ c24
       clear c24
       have c25:=cp_ H
       replace H:=ca_ H
       have c25b0:=oC_ c25
       clear c25
       obtain ⟨y482,hy482⟩:∃ y_:List Int,y_ = (x5_2.set ((rd l1 x28_2):Int).toNat (rd l1 (rd l0 x28_2))):=⟨_,rfl⟩
       replace H:(Z17.l0 k2 l1 y482 l0 (l0.length:Int) (wrap64 (x28_2 + 1))) = some r:=by first | (rw [hy482];exact H) | exact H
       have Ny482:=A_ hy482
       clear hy482
       have H':=A_ H
       clear H
       have p479:0≤(x28_2:Int):=oB_ qe_
       have q479:x28_2 < (l0.length:Int):=oB_ qe_
       obtain ⟨ad479,e479,hx479_0⟩:=Kd.at_int HR0.out x28_2 p479 q479
       cases e479
       replace hx479_0:=(HB.out.cell (World.block_lt_of_cell? w _ hx479_0)).trans hx479_0
       replace p479:=eq_true p479
       replace q479:=eq_true q479
       try go_wp2
       replace HO_5:=A_ (rC_ HO_5.out)
       replace HB:=A_ (bC_ HB.out)
       have p480:0≤(x28_2:Int):=oB_ qe_
       have q480:x28_2 < (l1.length:Int):=oB_ qe_
       obtain ⟨ad480,e480,hx480_0⟩:=Kd.at_int HR1.out x28_2 p480 q480
       have hw480_0:=hx480_0
       cases e480
       replace hx480_0:=(HB.out.cell (World.block_lt_of_cell? w _ hx480_0)).trans hx480_0
       replace p480:=eq_true p480
       replace q480:=eq_true q480
       have p481:0≤((rd l0 x28_2):Int):=oB_ qe_
       have q481:(rd l0 x28_2) < (l1.length:Int):=oB_ qe_
       obtain ⟨ad481,e481,hx481_0⟩:=Kd.at_int HR1.out (rd l0 x28_2) p481 q481
       have hw481_0:=hx481_0
       obtain rfl:ad480 = ad481:=(by injection e481)
       replace hx481_0:=(HB.out.cell (World.block_lt_of_cell? w _ hx481_0)).trans hx481_0
       replace p481:=eq_true p481
       replace q481:=eq_true q481
       have p26:0≤((rd l1 x28_2):Int):=oB_ qe_
       have q26:((rd l1 x28_2):Int) < ((x5_2.length:Int):Int):=oB_ qe_
       obtain ⟨go26,co26,eo26,gb26,gl26,cl26,HG26⟩:=Kd.R_form HO_5.out (by omega)
       (first | cases eo26 | (injection eo26 with ea_ en_ ec_;(first | subst ea_ | (injection ea_ with ea_;subst ea_));subst ec_;clear en_))
       have GB26:=A_ gb26
       have GG26:=A_ HG26
       clear gb26 gl26 HG26
       obtain ⟨hx26_0,hf26_0⟩:=Kd.R_celln 0 HO_5.out ((rd l1 x28_2):Int) p26 q26
       replace p26:=eq_true p26
       replace q26:=eq_true q26
       have HP28:=Kd.R_putn HO_5.out ((rd l1 x28_2):Int) (rd l1 (rd l0 x28_2))
       rw [← Ny482.out] at HP28
       have HQ28:=A_ HP28
       clear HP28
       refine start_ (n:=11) (S:=fun w'=>w'.cell? (ad480.add (x28_2).toNat) = some (.int .i64 (rd l1 x28_2))∧w'.cell? (ad480.add ((rd l0 x28_2)).toNat) = some (.int .i64 (rd l1 (rd l0 x28_2)))) (ds:=[10]) (bl_ 11 0) (by kernel_rfl) rfl (by kernel_rfl) ⟨((HB.out.cell (World.block_lt_of_cell? w _ hw480_0)).trans hw480_0),((HB.out.cell (World.block_lt_of_cell? w _ hw481_0)).trans hw481_0)⟩ (fun hHeld=>?_);refine with_tabW Z17.tab7 Z17.bits7 (fun HT_ HW_=>?_)
       generalize wr.drew = w27 at HO_5 HB GG26 HQ28 hf26_0 hx26_0 hx480_0 hx481_0 hHeld ⊢
       refine pu_ 0 (some 33) (bl_ 11 1) HT_ ?_
       refine pu_ 1 (some 34) (bl_ 11 3) HT_ ?_
       refine pu_ 2 (some 35) (bl_ 11 7) HT_ ?_
       refine pu_ 3 (some 36) (bl_ 11 15) HT_ ?_
       refine pu_ 5 (some 38) (bl_ 11 47) HT_ ?_
       refine pu_ 6 (some 39) (bl_ 11 111) HT_ ?_
       refine pu_ 7 (some 40) (bl_ 11 239) HT_ ?_
       refine ta_ 4 (some 37) (bl_ 11 255) HT_ HW_ hHeld ?_
       refine ta_ 8 (some 41) (bl_ 11 511) HT_ HW_ hHeld ?_
       refine pu_ 9 (some 42) (bl_ 11 1023) HT_ ?_
       refine last_ (i:=10) (N:=none) (bl_ 11 2047) rfl rfl (one_of HT_.out (by kernel_rfl)) (by decide) (fun K hK=>?_)
       refine skip_ (w1:=?_) (by rfl) rfl ?_ ?_
       rotate_left
       ·go_simp
        rfl
       refine hK.out _ _ ?_
       clear hK K
       refine done_ (done_of HT_.out (by kernel_rfl)) ?_
       try go_wp2
       go_roundg k2
       case measure=>have:=HJ2.out;have:=HK2.out;omega
       case rel=>exact ⟨(y482),(wrap64 (x28_2 + 1)),qc_,H',⟨by have:=HJ2.out;have:=HK2.out;omega⟩,⟨(rr_ HQ28)⟩,⟨by repeat (first | (with_reducible first | exact HB.out | apply bA_ | apply bB_ | apply bC_ | refine bD_ ?_ GB26.out) | exact HB.out)⟩⟩
      ·rw [if_neg c18] at H
       have c18b0:=oD_ c18
       clear c18
       obtain rfl:=Option.some.inj H
       go_wp2
       go_ret
       exact ⟨_,qb_,(rr_ HO_5),hB_⟩
end Go.Proofs.YtoijcallajegfaaGreat.A
end
section
namespace Go.Proofs.YtoijcallajegfaaGreat.A
open Go.RowKit Go.Proofs.YtoijcallajegfaaGreatW.PrintWords Go.Proofs.YtoijcallajegfaaGreatW.PrintLast Go.Proofs.YtoijcallajegfaaGreatW.PrintMore
attribute [local go_sem] max2_int min2_int max_two min_two max_three min_three max_four min_four
set_option linter.unusedVariables false
set_option linter.unusedSimpArgs false
def Z7.j0:Nat→List Int→Bool→List Int→List Int→Option (List Int × List Int × Bool)
 | 0,_,_,_,_=>none
 | k + 1,x1,x21,x484000,x484001=>if x21 = true then (some (([]:List Int),([]:List Int),false)) else ((Z17.f k x484000 x1).bind fun t487=>((Z17.f k x484001 x1).bind fun t490=>(some (t487,t490,true))))
def Z7.f (k:Nat) (l0_0:List Int) (l0_1:List Int) (l1:List Int):Option (List Int × List Int × Bool):=(Z26.f k l0_0 l0_1).bind fun t485=>(if t485 = true then ((Z61.f k l1).bind fun t486=>(if t486 = true then (Z7.j0 k l1 ((l1.length:Int) != (l0_0.length:Int)) l0_0 l0_1) else (Z7.j0 k l1 true l0_0 l0_1))) else (Z7.j0 k l1 true l0_0 l0_1))
theorem Z7.mono_l:∀ k,(∀ y0 y1 y2 y3,LeO (Z7.j0 k y0 y1 y2 y3) (Z7.j0 (k + 1) y0 y1 y2 y3))
 | 0=>fun _ _ _ _ r h=>by simp [Z7.j0] at h
 | k + 1=>by
  have ih0:=Z7.mono_l k
  ·intro y0 y1 y2 y3
   unfold Z7.j0
   repeat' first|exact ih0 _ _ _ _|exact Z61.mono _ _|exact Z17.mono _ _ _|exact Z26.mono _ _ _|exact lo_|refine LeO.ite ?_ ?_|refine LeO.bind ?_ (fun _=>?_)
theorem Z7.mono:∀ a0 a1 a2 k,LeO (Z7.f k a0 a1 a2) (Z7.f (k + 1) a0 a1 a2):=by
 intro a0 a1 a2 k
 have ih0:=Z7.mono_l k
 unfold Z7.f
 repeat' first|exact ih0 _ _ _ _|exact Z61.mono _ _|exact Z17.mono _ _ _|exact Z26.mono _ _ _|exact lo_|refine LeO.ite ?_ ?_|refine LeO.bind ?_ (fun _=>?_)
def Z7.T3:Bool × List (List Nat × List Nat):=(true,[([],[]),([0],[0]),([],[]),([1,2],[1,2]),([],[]),([4],[4]),([],[]),([5,6,3],[5,6]),([3,7],[3,7]),([8,7,0,1,2,3,4,5,6,7,8],[8]),([9,0,1,2,3,4,5,6,7,8,9],[])])
def Z7.B3:List Nat:=[0,1,0,7,0,16,0,127,255,511,1023]
theorem Z7.tab3:rtab .any (opsOf Tryz.f85 3) = Z7.T3:=by kernel_rfl
theorem Z7.bits3:waitsOk Z7.T3.2 Z7.B3 = true:=by kernel_rfl
set_option maxHeartbeats 8000000 in
set_option maxRecDepth 100000 in
theorem Z7.calls (k:Nat) (A0_0:Option Addr) (c0_0:Nat) (l0_0:List Int) (A0_1:Option Addr) (c0_1:Nat) (l0_1:List Int) (A1:Option Addr) (c1:Nat) (l1:List Int) (r1:List Int) (r2:List Int) (r3:Bool) (w:World) (hr0_0:Kd.C (Kd.int .i64) w A0_0 l0_0.length l0_0) (hc0_0:l0_0.length≤c0_0) (hr0_1:Kd.C (Kd.int .i64) w A0_1 l0_1.length l0_1) (hc0_1:l0_1.length≤c0_1) (hr1:Kd.C (Kd.int .i64) w A1 l1.length l1) (hc1:l1.length≤c1) (h:Z7.f k l0_0 l0_1 l1 = some (r1,r2,r3)) :
  Calls Tryz.prog 85 #[.agg #[.slice A0_0 l0_0.length c0_0,.slice A0_1 l0_1.length c0_1],.slice A1 l1.length c1] w fun e w'=>∃ v0_ v1_:Value,e = .returned (.tuple #[.agg #[v0_,v1_],.bool r3])∧Kd.R (Kd.int .i64) 3 w' w.heap.size (fun k_=>some k_≠(v1_:Value).ownBlock) v0_ r1∧Kd.R (Kd.int .i64) 3 w' w.heap.size (fun k_=>some k_≠(v0_:Value).ownBlock) v1_ r2∧Below w.heap.size w w':=by
 have hu38:=Tryz.underlying38
 have HR0_0:=A_ hr0_0
 have HC0_0:=A_ hc0_0
 clear hr0_0 hc0_0
 have HR0_1:=A_ hr0_1
 have HC0_1:=A_ hc0_1
 clear hr0_1 hc0_1
 have HR1:=A_ hr1
 have HC1:=A_ hc1
 clear hr1 hc1
 have HB:=A_ (Below.refl w.heap.size w)
 have H:=h
 unfold Z7.f at H
 clear h
 have HC3:=A_ H
 clear H
 go_enter Tryz.func85,Tryz.ntmps85
 go_upto_region 1 with (first | ((with_reducible refine gB_ (N:=2) rfl ?_);(try (refine gate_guard (by rfl) ?_;dsimp only));refine bx_ 2 #[.slice A0_0 l0_0.length c0_0,.slice A0_1 l0_1.length c0_1] 38 ?_;intro gb483 hg w4 hbox hb;have BK483:=A_ hbox;have GW483:=gw_ w hg;have GE483:=GW483;replace HB:=b1_ hb;clear hb hbox hg) | ((with_reducible refine gB_ (N:=4) rfl ?_);(try (refine gate_guard (by rfl) ?_;dsimp only));refine bx_ 4 #[.slice none 0 0,.slice none 0 0] 38 ?_;intro gb484 hg w5 hbox hb;have BK484:=A_ hbox;have GW484:=gw_ w hg;have GE484:=GW484;replace HB:=b1_ hb;have NB483_484:=gN_ BK483 hg;have NB484_483:=gP_ BK483 hg;replace BK483:=bb_ BK483 hb;clear hb hbox hg))
 (try simp only [Act.put,sA_,sB_,sC_])
 go_cut [21] (fun v21 wc=>∃ (kq:Nat) (x21_2:Bool),v21 = .bool x21_2∧Aside0 (Z7.j0 kq l1 x21_2 l0_0 l0_1 = some (r1,r2,r3))∧Aside0 (kq≤k)∧Aside0 (wc.heap[gb483]? = some (.cells #[(.slice A0_0 l0_0.length c0_0),(.slice A0_1 l0_1.length c0_1)] 38 (0,0)))∧Aside0 (wc.heap[gb484]? = some (.cells #[(.slice none 0 0),(.slice none 0 0)] 38 (0,0)))∧Aside0 (Below w.heap.size w wc))
 case first =>
  have H:=HC3.out
  clear HC3
  obtain ⟨t485,A6,H⟩:=bi_ H
  by_cases c7:t485 = true
  ·subst c7
   rw [if_pos rfl] at H
   obtain ⟨t486,A8,H⟩:=bi_ H
   by_cases c9:t486 = true
   ·subst c9
    rw [if_pos rfl] at H
    have H':=A_ H
    clear H
    have hnb10:=NB483_484.out
    have hnc10:=NB484_483.out
    obtain ⟨hcz11_0,hcz11_1,hfz11_0,hfz11_1⟩:=c2_ BK483
    go_wp2_with (first | ((with_reducible refine gA_ (f:=88) rfl ?_);refine gL_ (some 7) Tryz.func88 #[.agg #[.slice A0_0 l0_0.length c0_0,.slice A0_1 l0_1.length c0_1]] rfl qa_ ?_;(with_reducible refine (Z26.calls k _ _ l0_0 _ _ l0_1 true _ (cb_ HR0_0) HC0_0.out (cb_ HR0_1) HC0_1.out A6.out).mono ?_);rintro e w12 ⟨rfl,hb⟩;refine ⟨_,rfl,?_⟩;replace BK483:=bb_ BK483 hb;replace BK484:=bb_ BK484 hb;replace HB:=b1_ hb;clear hb) | (go_at_call 98;(with_reducible refine (Z61.calls k _ _ l1 true _ (cb_ HR1) HC1.out A8.out).mono ?_);rintro e w13 ⟨rfl,hb⟩;replace BK483:=bb_ BK483 hb;replace BK484:=bb_ BK484 hb;replace HB:=b1_ hb;clear hb;obtain ⟨hcz14_0,hcz14_1,hfz14_0,hfz14_1⟩:=c2_ BK483))
    go_meet
    case rel=>exact ⟨_,(((l1.length:Int) != (l0_0.length:Int))),qc_,H',⟨qd_⟩,⟨(kk_ BK483)⟩,⟨(kk_ BK484)⟩,⟨hB_⟩⟩
   ·replace c9:=Bool.eq_false_iff.mpr c9
    subst c9
    have H1:(Z7.j0 k l1 true l0_0 l0_1) = some (r1,r2,r3):=by rw [if_neg (show ¬ (false = true) by decide)] at H;exact H
    clear H
    have H:=H1
    clear H1
    have H':=A_ H
    clear H
    have hnb15:=NB483_484.out
    have hnc15:=NB484_483.out
    obtain ⟨hcz16_0,hcz16_1,hfz16_0,hfz16_1⟩:=c2_ BK483
    go_wp2_with (first | ((with_reducible refine gA_ (f:=88) rfl ?_);refine gL_ (some 7) Tryz.func88 #[.agg #[.slice A0_0 l0_0.length c0_0,.slice A0_1 l0_1.length c0_1]] rfl qa_ ?_;(with_reducible refine (Z26.calls k _ _ l0_0 _ _ l0_1 true _ (cb_ HR0_0) HC0_0.out (cb_ HR0_1) HC0_1.out A6.out).mono ?_);rintro e w17 ⟨rfl,hb⟩;refine ⟨_,rfl,?_⟩;replace BK483:=bb_ BK483 hb;replace BK484:=bb_ BK484 hb;replace HB:=b1_ hb;clear hb) | (go_at_call 98;(with_reducible refine (Z61.calls k _ _ l1 false _ (cb_ HR1) HC1.out A8.out).mono ?_);rintro e w18 ⟨rfl,hb⟩;replace BK483:=bb_ BK483 hb;replace BK484:=bb_ BK484 hb;replace HB:=b1_ hb;clear hb))
    go_meet
    case rel=>exact ⟨_,(true),qc_,H',⟨qd_⟩,⟨(kk_ BK483)⟩,⟨(kk_ BK484)⟩,⟨hB_⟩⟩
  ·replace c7:=Bool.eq_false_iff.mpr c7
   subst c7
   have H1:(Z7.j0 k l1 true l0_0 l0_1) = some (r1,r2,r3):=by rw [if_neg (show ¬ (false = true) by decide)] at H;exact H
   clear H
   have H:=H1
   clear H1
   have H':=A_ H
   clear H
   have hnb19:=NB483_484.out
   have hnc19:=NB484_483.out
   obtain ⟨hcz20_0,hcz20_1,hfz20_0,hfz20_1⟩:=c2_ BK483
   go_wp2_with (first | ((with_reducible refine gA_ (f:=88) rfl ?_);refine gL_ (some 7) Tryz.func88 #[.agg #[.slice A0_0 l0_0.length c0_0,.slice A0_1 l0_1.length c0_1]] rfl qa_ ?_;(with_reducible refine (Z26.calls k _ _ l0_0 _ _ l0_1 false _ (cb_ HR0_0) HC0_0.out (cb_ HR0_1) HC0_1.out A6.out).mono ?_);rintro e w21 ⟨rfl,hb⟩;refine ⟨_,rfl,?_⟩;replace BK483:=bb_ BK483 hb;replace BK484:=bb_ BK484 hb;replace HB:=b1_ hb;clear hb))
   go_meet
   case rel=>exact ⟨_,(true),qc_,H',⟨qd_⟩,⟨(kk_ BK483)⟩,⟨(kk_ BK484)⟩,⟨hB_⟩⟩
 case rest =>
  clear HC3
  obtain ⟨kq,x21_2,rfl,HA,HJ2,BK483,BK484,HB⟩:=hcut
  cases kq with
  | zero=>exact absurd HA.out (by simp [Z7.j0])
  | succ kj2 =>
   have H:=HA.out
   clear HA
   simp only [Z7.j0] at H
   by_cases c22:x21_2 = true
   ·subst c22
    rw [if_pos rfl] at H
    simp only [Option.some.injEq,Prod.mk.injEq] at H
    obtain ⟨rfl,rfl,rfl⟩:=H
    have hnb23:=NB484_483.out
    have hnc23:=NB483_484.out
    obtain ⟨hcz24_0,hcz24_1,hfz24_0,hfz24_1⟩:=c2_ BK484
    go_wp2
    refine bodyPost_ret (results_ct rfl _ _ gb484 38 #[.slice none 0 0,.slice none 0 0] (0,0) _ rfl qp_ Tryz.underlying38 rfl (by kernel_rfl)) rfl ?_
    exact ⟨_,_,qb_,by first | exact Kd.R_nil _ _ _ _ _ | exact Kd.N_nil _ _ _ _ _ | exact Kd.V_nil _ _ _ _ _ | exact Kd.Q_nil _ _ _ _ _ | exact Kd.S_nil _ _ _ _ _,by first | exact Kd.R_nil _ _ _ _ _ | exact Kd.N_nil _ _ _ _ _ | exact Kd.V_nil _ _ _ _ _ | exact Kd.Q_nil _ _ _ _ _ | exact Kd.S_nil _ _ _ _ _,hB_⟩
   ·replace c22:=Bool.eq_false_iff.mpr c22
    subst c22
    have H1:((Z17.f kj2 l0_0 l1).bind fun t487=>((Z17.f kj2 l0_1 l1).bind fun t490=>(some (t487,t490,true)))) = some (r1,r2,r3):=by rw [if_neg (show ¬ (false = true) by decide)] at H;exact H
    clear H
    have H:=H1
    clear H1
    obtain ⟨t487,A25,H⟩:=bi_ H
    obtain ⟨t490,A26,H⟩:=bi_ H
    simp only [Option.some.injEq,Prod.mk.injEq] at H
    obtain ⟨rfl,rfl,rfl⟩:=H
    try go_wp2
    replace BK483:=A_ (kB_ BK483.out)
    replace BK484:=A_ (kB_ BK484.out)
    replace HB:=A_ (bC_ HB.out)
    refine start_ (n:=11) (S:=fun w'=>w'.cell? ⟨gb483,0,none⟩ = some (.slice A0_0 l0_0.length c0_0)∧w'.cell? ⟨gb483,1,none⟩ = some (.slice A0_1 l0_1.length c0_1)) (ds:=[]) (bl_ 11 0) (by kernel_rfl) rfl (by kernel_rfl) ⟨cz0_ BK483,cz1_ BK483⟩ (fun hHeld=>?_);refine with_tabW Z7.tab3 Z7.bits3 (fun HT_ HW_=>?_)
    generalize wc.drew = w27 at BK483 BK484 HB hHeld ⊢
    refine pu_ 0 (some 23) (bl_ 11 1) HT_ ?_
    refine pu_ 2 (some 25) (bl_ 11 5) HT_ ?_
    refine pu_ 4 (some 27) (bl_ 11 21) HT_ ?_
    refine pu_ 6 (some 29) (bl_ 11 85) HT_ ?_
    refine ta_ 1 (some 24) (bl_ 11 87) HT_ HW_ hHeld ?_
    refine ta_ 5 (some 28) (bl_ 11 119) HT_ HW_ hHeld ?_
    refine on_ 3 (some 26) (bl_ 11 127) HT_ (fun K hK=>?_)
    refine gO_ Tryz.func99 #[.slice A0_0 l0_0.length c0_0,.slice A1 l1.length c1] (by rfl) rfl rfl qa_ ?_
    with_reducible refine (Z17.calls kj2 _ _ l0_0 _ _ l1 t487 _ (cb_ HR0_0) HC0_0.out (cb_ HR1) HC1.out A25.out).mono ?_
    rintro e w28 ⟨v488,rfl,ho0,hb⟩
    refine ⟨_,rfl,?_⟩
    have HO489:=rl_ w ho0
    replace BK483:=bb_ BK483 hb
    replace BK484:=bb_ BK484 hb
    replace HB:=b1_ hb
    clear hb ho0
    refine hK.out _ _ ⟨cz0_ BK483,cz1_ BK483⟩ (fun hHeld=>?_)
    clear hK K
    refine no_ (some 26) ?_
    refine on_ 7 (some 30) (bl_ 11 255) HT_ (fun K hK=>?_)
    refine gO_ Tryz.func99 #[.slice A0_1 l0_1.length c0_1,.slice A1 l1.length c1] (by rfl) rfl rfl qa_ ?_
    with_reducible refine (Z17.calls kj2 _ _ l0_1 _ _ l1 t490 _ (cb_ HR0_1) HC0_1.out (cb_ HR1) HC1.out A26.out).mono ?_
    rintro e w29 ⟨v491,rfl,ho0,hb⟩
    refine ⟨_,rfl,?_⟩
    have HO492:=A_ (rE_ (Kd.R_new' ho0 (Kd.R_lt (rr_ HO489))) (bF_ hB_))
    replace HO489:=A_ (Kd.R_elder' (rr_ HO489) (Kd.R_base ho0) hb)
    replace BK483:=bb_ BK483 hb
    replace BK484:=bb_ BK484 hb
    replace HB:=b1_ hb
    clear hb ho0
    obtain ⟨Ao30,co30,eo30⟩:=Kd.R_slice HO492.out
    (first | subst eo30 | (injection eo30 with f1_ f2_ f3_;have f4_:=f1_.symm;have f5_:=f3_.symm;clear f1_ f2_ f3_;subst f4_;subst f5_))
    obtain ⟨Ao31,co31,eo31⟩:=Kd.R_slice HO489.out
    (first | subst eo31 | (injection eo31 with f1_ f2_ f3_;have f4_:=f1_.symm;have f5_:=f3_.symm;clear f1_ f2_ f3_;subst f4_;subst f5_))
    refine hK.out _ _ ⟨cz0_ BK483,cz1_ BK483⟩ (fun hHeld=>?_)
    clear hK K
    refine no_ (some 30) ?_
    refine pu_ 8 (some 31) (bl_ 11 511) HT_ ?_
    refine on_ 9 (none) (bl_ 11 1023) HT_ (fun K hK=>?_)
    have hs32:w29.cell? ⟨gb484,0,none⟩ = some (.slice none 0 0):=cz0_ BK484
    have hfs32:=kD_ BK484.out 0
    have hns32_0:=NB483_484.out
    have hms32_0:=NB484_483.out
    have hs33:w29.cell? ⟨gb484,1,none⟩ = some (.slice none 0 0):=cz1_ BK484
    have hfs33:=kD_ BK484.out 1
    have hns33_0:=NB483_484.out
    have hms33_0:=NB484_483.out
    refine skip_ (w1:=?_) (by rfl) rfl ?_ ?_
    rotate_left
    ·go_simp
     rfl
    refine hK.out _ _ ⟨((cell_far (p:=⟨gb484,_,none⟩) NB483_484.out _).trans (((cell_far (p:=⟨gb484,_,none⟩) NB483_484.out _).trans (hHeld.1)))),((cell_far (p:=⟨gb484,_,none⟩) NB483_484.out _).trans (((cell_far (p:=⟨gb484,_,none⟩) NB483_484.out _).trans (hHeld.2))))⟩ (fun hHeld=>?_)
    clear hK K
    refine pu_ 10 (some 5) (bl_ 11 2047) HT_ ?_
    refine done_ (done_of HT_.out (by kernel_rfl)) ?_
    try go_wp2
    refine bodyPost_ret (results_ct rfl _ _ gb484 38 #[.slice Ao31 t487.length co31,.slice Ao30 t490.length co30] (0,0) _ rfl qp_ Tryz.underlying38 rfl (by kernel_rfl)) rfl ?_
    exact ⟨_,_,qb_,(rw_ (Kd.R_mono (fa_ HO489 BK484) (fun _ hk=>hk.2))),(rw_ (Kd.R_mono (fa_ HO492 BK484) (fun _ hk=>hk.2))),hB_⟩
end Go.Proofs.YtoijcallajegfaaGreat.A
end
