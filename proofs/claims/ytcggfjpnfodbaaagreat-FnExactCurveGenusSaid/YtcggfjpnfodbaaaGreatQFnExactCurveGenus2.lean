/- Lemmas for the row FnExactCurveGenus: the program's functions told as plain functions, and plain mathematics. No conditions. -/
import Derived.Test.YtcggfjpnfodbaaaGreatQFnExactCurveGenus1
section
namespace Go.Proofs.YtcggfjpnfodbaaaGreat.A
open Go.RowKit Go.Proofs.YtcggfjpnfodbaaaGreatW.PrintWords Go.Proofs.YtcggfjpnfodbaaaGreatW.PrintLast Go.Proofs.YtcggfjpnfodbaaaGreatW.PrintMore
attribute [local go_sem] max2_int min2_int max_two min_two max_three min_three max_four min_four
set_option linter.unusedVariables false
set_option linter.unusedSimpArgs false
mutual
def Z60.l0:Nat→List (S27)→List ByteArray→Int→Option ((List (S27)) × List ByteArray × Bool)
 | 0,_,_,_=>none
 | k + 1,x5,x6,x7=>if x7 < (x5.length:Int) then ((some (([84,83]:List Int):List Int)).bind fun y293=>(Z60.l1 k x5 x6 x7 y293 (y293.length:Int) 0)) else (some (x5,x6,true))
def Z60.l1:Nat→List (S27)→List ByteArray→Int→List Int→Int→Int→Option ((List (S27)) × List ByteArray × Bool)
 | 0,_,_,_,_,_,_=>none
 | k + 1,x5,x6,x7,x21,x22,x23=>if x23 < x22 then (if 0≤x23 then (if x23 < (x21.length:Int) then (if 0≤x7 then (if x7 < (x5.length:Int) then ((Z48.f k ((rd_T27 x5 x7).f0) ((rd_T27 x5 x7).f1) (rd x21 x23)).bind fun bt298=>((Z57.f k bt298.1 bt298.2).bind fun bt304=>((Z74.f k x5 bt304.1 bt304.2).bind fun t311=>(if t311 < 0 then (if x5.length < 2932031007402 then (if x7 < (x6.length:Int) then ((some (([rd x21 x23]:List Int):List Int)).bind fun y316=>(if (rdOf ByteArray.empty x6 x7).size + (strOfNums y316).size≤9223372036854775807 then (if x6.length < 8796093022208 then (Z60.l1 k (x5 ++ [(⟨bt304.1,bt304.2⟩:S27)]) (x6 ++ [(rdOf ByteArray.empty x6 x7) ++ (strOfNums y316)]) x7 x21 x22 (wrap64 (x23 + 1))) else (none)) else (none))) else (none)) else (none)) else (Z60.l1 k x5 x6 x7 x21 x22 (wrap64 (x23 + 1))))))) else (none)) else (none)) else (none)) else (none)) else (if (x5.length:Int) > 120 then (some (([]:List (S27)),([]:List ByteArray),false)) else (Z60.l0 k x5 x6 (wrap64 (x7 + 1))))
end
def Z60.f (k:Nat) (l0_0:List Int) (l0_1:List Int):Option ((List (S27)) × List ByteArray × Bool):=(Z57.f k l0_0 l0_1).bind fun bt281=>(Z60.l0 k (([(⟨bt281.1,bt281.2⟩:S27)]:List (S27))) (([(⟨#[]⟩:ByteArray)]:List ByteArray)) 0)
theorem Z60.mono_l:∀ k,(∀ y0 y1 y2,LeO (Z60.l0 k y0 y1 y2) (Z60.l0 (k + 1) y0 y1 y2))∧(∀ y0 y1 y2 y3 y4 y5,LeO (Z60.l1 k y0 y1 y2 y3 y4 y5) (Z60.l1 (k + 1) y0 y1 y2 y3 y4 y5))
 | 0=>⟨fun _ _ _ r h=>by simp [Z60.l0] at h,fun _ _ _ _ _ _ r h=>by simp [Z60.l1] at h⟩
 | k + 1=>by
  obtain ⟨ih0,ih1⟩:=Z60.mono_l k
  refine ⟨?_,?_⟩
  ·intro y0 y1 y2
   unfold Z60.l0
   repeat' first|exact ih0 _ _ _|exact ih1 _ _ _ _ _ _|exact Z57.mono _ _ _|exact Z48.mono _ _ _ _|exact Z74.mono _ _ _ _|exact lo_|refine LeO.ite ?_ ?_|refine LeO.bind ?_ (fun _=>?_)
  ·intro y0 y1 y2 y3 y4 y5
   unfold Z60.l1
   repeat' first|exact ih0 _ _ _|exact ih1 _ _ _ _ _ _|exact Z57.mono _ _ _|exact Z48.mono _ _ _ _|exact Z74.mono _ _ _ _|exact lo_|refine LeO.ite ?_ ?_|refine LeO.bind ?_ (fun _=>?_)
theorem Z60.mono:∀ a0 a1 k,LeO (Z60.f k a0 a1) (Z60.f (k + 1) a0 a1):=by
 intro a0 a1 k
 obtain ⟨ih0,ih1⟩:=Z60.mono_l k
 unfold Z60.f
 repeat' first|exact ih0 _ _ _|exact ih1 _ _ _ _ _ _|exact Z57.mono _ _ _|exact Z48.mono _ _ _ _|exact Z74.mono _ _ _ _|exact lo_|refine LeO.ite ?_ ?_|refine LeO.bind ?_ (fun _=>?_)
def Z60.T12:Bool × List (List Nat × List Nat):=(true,[([],[]),([],[]),([],[]),([1,2],[1,2]),([3],[3]),([],[]),([5],[5]),([6],[6]),([4,7],[4,7]),([8],[8]),([0,9],[0,9]),([10,10,0,1,2,3,4,5,6,7,8,9,10],[0,1,10])])
def Z60.B12:List Nat:=[0,0,0,6,14,0,32,96,254,510,1023,2047]
theorem Z60.tab12:rtab .any (opsOf Tryz.f33 12) = Z60.T12:=by kernel_rfl
theorem Z60.bits12:waitsOk Z60.T12.2 Z60.B12 = true:=by kernel_rfl
set_option maxHeartbeats 8000000 in
set_option maxRecDepth 100000 in
theorem Z60.calls (k:Nat) (A0_0:Option Addr) (c0_0:Nat) (l0_0:List Int) (A0_1:Option Addr) (c0_1:Nat) (l0_1:List Int) (r1:List (S27)) (r2:List ByteArray) (r3:Bool) (w:World) (hr0_0:Kd.C (Kd.int .i64) w A0_0 l0_0.length l0_0) (hc0_0:l0_0.length≤c0_0) (hr0_1:Kd.C (Kd.int .i64) w A0_1 l0_1.length l0_1) (hc0_1:l0_1.length≤c0_1) (h:Z60.f k l0_0 l0_1 = some (r1,r2,r3)) :
  Calls Tryz.prog 33 #[.agg #[.slice A0_0 l0_0.length c0_0,.slice A0_1 l0_1.length c0_1]] w fun e w'=>∃ v0_ v1_:Value,e = .returned (.tuple #[v0_,v1_,.bool r3])∧Kd.N k27 27 w' w.heap.size (fun k_=>(w.heap.size≤k_)∧some k_≠(v1_:Value).ownBlock) v0_ r1∧Kd.R Kd.string 9 w' w.heap.size (fun k_=>(w.heap.size≤k_)) v1_ r2∧Below w.heap.size w w':=by
 have hu27:=Tryz.underlying27
 have HR0_0:=A_ hr0_0
 have HC0_0:=A_ hc0_0
 clear hr0_0 hc0_0
 have HR0_1:=A_ hr0_1
 have HC0_1:=A_ hc0_1
 clear hr0_1 hc0_1
 have HB:=A_ (Below.refl w.heap.size w)
 have H:=h
 unfold Z60.f at H
 clear h
 obtain ⟨⟨t281,t284⟩,A2,H⟩:=bi_ H
 try dsimp only at H
 obtain ⟨y287,hy287⟩:∃ y_:List (S27),y_ = (([(⟨t281,t284⟩:S27)]:List (S27))):=⟨_,rfl⟩
 replace H:(Z60.l0 k y287 (([(⟨#[]⟩:ByteArray)]:List ByteArray)) 0) = some (r1,r2,r3):=by first | (rw [hy287];exact H) | exact H
 have Ny287:=A_ hy287
 clear hy287
 obtain ⟨y290,hy290⟩:∃ y_:List ByteArray,y_ = (([(⟨#[]⟩:ByteArray)]:List ByteArray)):=⟨_,rfl⟩
 replace H:(Z60.l0 k y287 y290 0) = some (r1,r2,r3):=by first | (rw [hy290];exact H) | exact H
 have Ny290:=A_ hy290
 clear hy290
 have H':=A_ H
 clear H
 go_enter Tryz.func33,Tryz.ntmps33
 go_wp2_with (first | ((with_reducible refine gB_ (N:=1) rfl ?_);refine bx_ 1 #[.slice A0_0 l0_0.length c0_0,.slice A0_1 l0_1.length c0_1] 27 ?_;intro gb280 hg w3 hbox hb;have BK280:=A_ hbox;have GW280:=gw_ w hg;have GE280:=GW280;replace HB:=b1_ hb;clear hb hbox hg;obtain ⟨hcz4_0,hcz4_1,hfz4_0,hfz4_1⟩:=c2_ BK280) | ((with_reducible refine gA_ (f:=35) rfl ?_);refine gL_ (some 12) Tryz.func35 #[.agg #[.slice A0_0 l0_0.length c0_0,.slice A0_1 l0_1.length c0_1]] rfl qa_ ?_;(with_reducible refine (Z57.calls k _ _ l0_0 _ _ l0_1 t281 t284 _ (cb_ HR0_0) HC0_0.out (cb_ HR0_1) HC0_1.out A2.out).mono ?_);rintro e w5 ⟨v282,v285,rfl,ho0,ho1,hb⟩;refine ⟨_,rfl,?_⟩;have HO283:=A_ (rE_ (Kd.R_newM (M:=fun k_=>(w.heap.size≤k_)) ho0 (bF_ hB_) (fun k_ h_=>h_)) (bF_ hB_));have HO286:=A_ (rE_ (Kd.R_newM (M:=fun k_=>(w.heap.size≤k_)) ho1 (bF_ hB_) (fun k_ h_=>h_)) (bF_ hB_));replace BK280:=bb_ BK280 hb;replace HB:=b1_ hb;clear hb ho0 ho1;obtain ⟨Ao6,co6,eo6⟩:=Kd.R_slice HO283.out;subst eo6;obtain ⟨Ao7,co7,eo7⟩:=Kd.R_slice HO286.out;subst eo7) | ((with_reducible refine gB_ (N:=13) rfl ?_);refine Kd.N_lit k27 _ 27 ?hg (N':=13) ?hd (xs:=([(⟨t281,t284⟩:S27)]:List (S27))) (inner:=[.slice Ao6 t281.length co6,.slice Ao7 t284.length co7]) (ok:=(fun k_=>(w.heap.size≤k_)∧k_≠gb280)) (okp:=(fun k_=>(w.heap.size≤k_)∧k_≠gb280)) ?hr ?hp (fun _ hk=>hk) ((show ∀ k_,w5.heap.size≤k_→(fun k_=>(w.heap.size≤k_)∧k_≠gb280) k_ from fun k_ hk=>⟨(Nat.le_trans (bF_ hB_) hk),Kd.freshB (kk_ BK280) k_ hk⟩) _ (nA_ _)) (Below.refl _ _) (nA_ _) (by simp) ?_;(case hd=>rfl);(case hg=>rfl);(case hr=>first | (go_simp;done) | (go_simp;rfl));(case hp=>exact (Reps.c2 (show Kd.FK k27 _ _ (⟨t281,t284⟩:S27) [.slice Ao6 t281.length co6,.slice Ao7 t284.length co7] from (k27_mkF _ _ (⟨t281,t284⟩:S27) (Kd.R_reads' (Kd.R_mono (ok':=(fun k_=>(w.heap.size≤k_)∧k_≠gb280)) (Kd.R_types (HO283.out) BK280.out (by decide)) (fun k_ hk=>⟨hk.1.1,hk.2⟩))).2.1 (Kd.R_F (Kd.R_mono (ok':=(fun k_=>(w.heap.size≤k_)∧k_≠gb280)) (Kd.R_types (HO283.out) BK280.out (by decide)) (fun k_ hk=>⟨hk.1.1,hk.2⟩))) (Kd.R_reads' (Kd.R_mono (ok':=(fun k_=>(w.heap.size≤k_)∧k_≠gb280)) (Kd.R_types (HO286.out) BK280.out (by decide)) (fun k_ hk=>⟨hk.1.1,hk.2⟩))).2.1 (Kd.R_F (Kd.R_mono (ok':=(fun k_=>(w.heap.size≤k_)∧k_≠gb280)) (Kd.R_types (HO286.out) BK280.out (by decide)) (fun k_ hk=>⟨hk.1.1,hk.2⟩))))) (Reps.none _ _)));intro v288 w8 ho9 hb hg_ hnew_;clear hg_ hnew_;(first | rw [← Ny287.out] at ho9 | (simp only [Int.reduceToNat] at ho9;rw [← Ny287.out] at ho9));have HO289:=A_ (Kd.N_lower ho9 (bF_ hB_));replace BK280:=bb_ BK280 hb;replace HB:=b1_ hb;clear HO283 HO286;clear hb ho9) | ((with_reducible refine gB_ (N:=14) rfl ?_);refine Kd.R_lit Kd.string _ 9 ?hg (N:=14) ?hd (xs:=([(⟨#[]⟩:ByteArray)]:List ByteArray)) (inner:=[.string (⟨#[]⟩:ByteArray)]) (ok:=fun _=>True) (okp:=fun _=>True) ?hr ?hp (fun _ hk=>hk) trivial (Below.refl _ _) (nA_ _) (by simp) ?_;(case hd=>rfl);(case hg=>rfl);(case hr=>first | (go_simp;done) | (go_simp;rfl));(case hp=>exact (Reps.one (show Kd.M Kd.string _ _ _ (⟨#[]⟩:ByteArray) [.string (⟨#[]⟩:ByteArray)] from rfl) (Reps.none _ _)));intro v291 w10 ho11 hb hg_ hnew_;clear hg_ hnew_;(first | rw [← Ny290.out] at ho11 | (simp only [Int.reduceToNat] at ho11;rw [← Ny290.out] at ho11));replace HO289:=A_ (Kd.N_elder' (by (with_reducible repeat (first | apply Kd.N_alloc | apply Kd.N_drewN | apply Kd.N_drew));exact HO289.out) (Kd.R_base ho11) hb);have HO292:=A_ (rE_ (Kd.R_newM (M:=fun k_=>(w.heap.size≤k_)) ho11 (bF_ hB_) (fun k_ h_=>h_)) (bF_ hB_));replace BK280:=bb_ BK280 hb;replace HB:=b1_ hb;clear hb ho11))
 go_loopg [5,6,7] k (fun kq v5 v6 v7 w'=>∃ (x5_1:List (S27)) (x6_1:List ByteArray) (x7_1:Int),v7 = .int .i64 x7_1∧Aside0 (Z60.l0 kq x5_1 x6_1 x7_1 = some (r1,r2,r3))∧Aside0 (kq≤k)∧Aside0 (Kd.N k27 27 w' w.heap.size (fun k_=>(w.heap.size≤k_)∧some k_≠(v6:Value).ownBlock∧k_≠gb280) v5 x5_1)∧Aside0 (Kd.R Kd.string 9 w' w.heap.size (fun k_=>(w.heap.size≤k_)) v6 x6_1)∧Aside0 (w'.heap[gb280]? = some (.cells #[(.slice A0_0 l0_0.length c0_0),(.slice A0_1 l0_1.length c0_1)] 27 (0,0)))∧Aside0 (Below w.heap.size w w'))
 case atStart=>exact ⟨(y287),(y290),(0),qc_,H',⟨nA_ _⟩,⟨by (with_reducible repeat (first | apply Kd.N_alloc | apply Kd.N_drewN | apply Kd.N_drew));exact Kd.N_mono HO289.out (fun _ hk=>⟨hk.1.1,⟨hk.2,hk.1.2⟩⟩)⟩,⟨(rw_ (Kd.R_mono HO292.out (fun _ hk=>hk.1)))⟩,⟨(kk_ BK280)⟩,⟨hB_⟩⟩
 case round =>
  clear H'
  obtain ⟨x5_1,x6_1,x7_1,rfl,HA,HK1,HO_5,HO_6,BK280,HB⟩:=hrel
  cases gk with
  | zero=>exact absurd HA.out (by simp [Z60.l0])
  | succ k1 =>
   have H:=HA.out
   clear HA
   simp only [Z60.l0] at H
   by_cases c12:x7_1 < (x5_1.length:Int)
   ·rw [if_pos c12] at H
    have c12b0:=oC_ c12
    clear c12
    obtain ⟨y293,hy293⟩:∃ y_:List Int,y_ = (([84,83]:List Int)):=⟨_,rfl⟩
    replace H:(Z60.l1 k1 x5_1 x6_1 x7_1 y293 (y293.length:Int) 0) = some (r1,r2,r3):=by first | (rw [hy293];exact H) | exact H
    have Ny293:=A_ hy293
    clear hy293
    have H':=A_ H
    clear H
    obtain ⟨Ao13,co13,eo13⟩:=Kd.N_slice HO_5.out
    subst eo13
    go_wp2_with (first | ((with_reducible refine gB_ (N:=21) rfl ?_);refine Kd.R_lit (Kd.int .u8) _ 5 ?hg (N:=21) ?hd (xs:=([84,83]:List Int)) (inner:=[.int .u8 84,.int .u8 83]) (ok:=fun _=>True) (okp:=fun _=>True) ?hr ?hp (fun _ hk=>hk) trivial (Below.refl _ _) (nA_ _) (by simp) ?_;(case hd=>rfl);(case hg=>rfl);(case hr=>first | (go_simp;done) | (go_simp;rfl));(case hp=>exact (Reps.one (show Kd.M (Kd.int .u8) _ _ _ 84 [.int .u8 84] from rfl) (Reps.one (show Kd.M (Kd.int .u8) _ _ _ 83 [.int .u8 83] from rfl) (Reps.none _ _))));intro v294 w14 ho15 hb hg_ hnew_;clear hg_ hnew_;(first | rw [← Ny293.out] at ho15 | (simp only [Int.reduceToNat] at ho15;rw [← Ny293.out] at ho15));replace HO_5:=A_ (Kd.N_elder' (by (with_reducible repeat (first | apply Kd.N_alloc | apply Kd.N_drewN | apply Kd.N_drew));exact HO_5.out) (Kd.R_base ho15) hb);replace HO_6:=rb_ HO_6 hb;have HO295:=A_ (rE_ (Kd.R_newM (M:=fun k_=>(w.heap.size≤k_)) ho15 (bF_ hB_) (fun k_ h_=>h_)) (bF_ hB_));replace BK280:=bb_ BK280 hb;replace HB:=b1_ hb;clear hb ho15;obtain ⟨Ao16,co16,eo16⟩:=Kd.R_slice HO295.out;subst eo16))
    go_loopg [5,6,23] k1 (fun kq v5 v6 v23 w'=>∃ (x5_2:List (S27)) (x6_2:List ByteArray) (x23_2:Int),v23 = .int .i64 x23_2∧Aside0 (Z60.l1 kq x5_2 x6_2 x7_1 y293 (y293.length:Int) x23_2 = some (r1,r2,r3))∧Aside0 (kq≤k1)∧Aside0 (Kd.N k27 27 w' w.heap.size (fun k_=>(w.heap.size≤k_)∧some k_≠(v6:Value).ownBlock∧some k_≠((.slice Ao16 y293.length co16):Value).ownBlock∧k_≠gb280) v5 x5_2)∧Aside0 (Kd.R Kd.string 9 w' w.heap.size (fun k_=>(w.heap.size≤k_)) v6 x6_2)∧Aside0 (Kd.R (Kd.int .u8) 5 w' w.heap.size (fun k_=>(w.heap.size≤k_)) (.slice Ao16 y293.length co16) y293)∧Aside0 (w'.heap[gb280]? = some (.cells #[(.slice A0_0 l0_0.length c0_0),(.slice A0_1 l0_1.length c0_1)] 27 (0,0)))∧Aside0 (Below w.heap.size w w'))
    case atStart=>exact ⟨(x5_1),(x6_1),(0),qc_,H',⟨nA_ _⟩,⟨by (with_reducible repeat (first | apply Kd.N_alloc | apply Kd.N_drewN | apply Kd.N_drew));exact Kd.N_mono HO_5.out (fun _ hk=>⟨hk.1.1,⟨hk.1.2.1,⟨hk.2,hk.1.2.2⟩⟩⟩)⟩,⟨(rr_ HO_6)⟩,⟨(rw_ (Kd.R_mono HO295.out (fun _ hk=>hk.1)))⟩,⟨(kk_ BK280)⟩,⟨hB_⟩⟩
    case round =>
     clear H'
     obtain ⟨x5_2,x6_2,x23_2,rfl,HA,HK2,HO_5,HO_6,HO_21,BK280,HB⟩:=hrel
     cases gk with
     | zero=>exact absurd HA.out (by simp [Z60.l1])
     | succ k2 =>
      have H:=HA.out
      clear HA
      simp only [Z60.l1] at H
      by_cases c17:x23_2 < (y293.length:Int)
      ·rw [if_pos c17] at H
       have c17b0:=oC_ c17
       clear c17
       have c18:=cp_ H
       replace H:=ca_ H
       have c18b0:=oC_ c18
       clear c18
       have c19:=cp_ H
       replace H:=ca_ H
       have c19b0:=oC_ c19
       clear c19
       have c20:=cp_ H
       replace H:=ca_ H
       have c20b0:=oC_ c20
       clear c20
       have c21:=cp_ H
       replace H:=ca_ H
       have c21b0:=oC_ c21
       clear c21
       obtain ⟨⟨t298,t301⟩,A22,H⟩:=bi_ H
       try dsimp only at H
       obtain ⟨⟨t304,t307⟩,A23,H⟩:=bi_ H
       try dsimp only at H
       obtain ⟨t311,A24,H⟩:=bi_ H
       by_cases c25:t311 < 0
       ·rw [if_pos c25] at H
        have c25b0:=oC_ c25
        clear c25
        have c26:=cp_ H
        replace H:=ca_ H
        have LMc26:=A_ c26
        clear c26
        obtain ⟨y312,hy312⟩:∃ y_:List (S27),y_ = (x5_2 ++ [(⟨t304,t307⟩:S27)]):=⟨_,rfl⟩
        replace H:(if x7_1 < (x6_2.length:Int) then ((some (([rd y293 x23_2]:List Int):List Int)).bind fun y316=>(if (rdOf ByteArray.empty x6_2 x7_1).size + (strOfNums y316).size≤9223372036854775807 then (if x6_2.length < 8796093022208 then (Z60.l1 k2 y312 (x6_2 ++ [(rdOf ByteArray.empty x6_2 x7_1) ++ (strOfNums y316)]) x7_1 y293 (y293.length:Int) (wrap64 (x23_2 + 1))) else (none)) else (none))) else (none)) = some (r1,r2,r3):=by first | (rw [hy312];exact H) | exact H
        have Ny312:=A_ hy312
        clear hy312
        have c27:=cp_ H
        replace H:=ca_ H
        have c27b0:=oC_ c27
        clear c27
        obtain ⟨y316,hy316⟩:∃ y_:List Int,y_ = (([rd y293 x23_2]:List Int)):=⟨_,rfl⟩
        replace H:(if (rdOf ByteArray.empty x6_2 x7_1).size + (strOfNums y316).size≤9223372036854775807 then (if x6_2.length < 8796093022208 then (Z60.l1 k2 y312 (x6_2 ++ [(rdOf ByteArray.empty x6_2 x7_1) ++ (strOfNums y316)]) x7_1 y293 (y293.length:Int) (wrap64 (x23_2 + 1))) else (none)) else (none)) = some (r1,r2,r3):=by first | (rw [hy316];exact H) | exact H
        have Ny316:=A_ hy316
        clear hy316
        have c28:=cp_ H
        replace H:=ca_ H
        have c28b0:=eq_true c28
        have c28b1:=oC_ c28
        try have c28b2:(9223372036854775807 < (rdOf ByteArray.empty x6_2 x7_1).size + (strOfNums y316).size) = False:=eq_false (Nat.not_lt.2 c28)
        have c29:=cp_ H
        replace H:=ca_ H
        have LMc29:=A_ c29
        clear c29
        obtain ⟨y319,hy319⟩:∃ y_:List ByteArray,y_ = (x6_2 ++ [(rdOf ByteArray.empty x6_2 x7_1) ++ (strOfNums y316)]):=⟨_,rfl⟩
        replace H:(Z60.l1 k2 y312 y319 x7_1 y293 (y293.length:Int) (wrap64 (x23_2 + 1))) = some (r1,r2,r3):=by first | (rw [hy319];exact H) | exact H
        have Ny319:=A_ hy319
        clear hy319
        have H':=A_ H
        clear H
        have p296:0≤(x23_2:Int):=oB_ qe_
        have q296:x23_2 < (y293.length:Int):=oB_ qe_
        obtain ⟨ad296,e296,hx296_0⟩:=Kd.at_int (Kd.R_reads' HO_21.out).2.2 x23_2 p296 q296
        cases e296
        replace p296:=eq_true p296
        replace q296:=eq_true q296
        obtain ⟨Ao30,co30,eo30⟩:=Kd.N_slice HO_5.out
        subst eo30
        have p297:0≤(x7_1:Int):=oB_ qe_
        have q297:x7_1 < (x5_2.length:Int):=oB_ qe_
        obtain ⟨ad297,A297_0,c297_0,A297_1,c297_1,e297,hx297_0,hx297_1,hl297_0,hi297_0,hl297_1,hi297_1⟩:=at_T27 (Kd.N_reads' HO_5.out).2.2 x7_1 p297 q297
        cases e297
        obtain ⟨ce297,hce297,hMe297,hcc297⟩:=Kd.N_get HO_5.out z27 x7_1 p297 (by first | exact q297 | exact oB_ qe_ | (have e_:=(Kd.N_reads' HO_5.out).1;omega))
        obtain ⟨ua297_0,uc297_0,ua297_1,uc297_1,rfl,ul297_0,ge297_0,ul297_1,ge297_1⟩:=k27_openF hMe297
        have hv297_0:=hcc297 0 _ rfl
        rw [Nat.add_zero] at hv297_0
        replace hv297_0:=Option.some.inj (hv297_0.symm.trans hx297_0)
        injection hv297_0 with hva_ hvn_ hvc_
        rw [hva_] at ge297_0
        rw [hvc_] at ul297_0
        have HL297_0:=A_ (show Kd.V (Kd.int .i64) 3 _ w.heap.size _ _ ((rd_T27 x5_2 x7_1).f0) from Kd.V_mk ul297_0 ge297_0)
        clear hva_ hvn_ hvc_ ge297_0 ul297_0
        have hv297_1:=hcc297 1 _ rfl
        rw [add_field _ _ 1 (by omega)] at hv297_1
        replace hv297_1:=Option.some.inj (hv297_1.symm.trans hx297_1)
        injection hv297_1 with hva_ hvn_ hvc_
        rw [hva_] at ge297_1
        rw [hvc_] at ul297_1
        have HL297_1:=A_ (show Kd.V (Kd.int .i64) 3 _ w.heap.size _ _ ((rd_T27 x5_2 x7_1).f1) from Kd.V_mk ul297_1 ge297_1)
        clear hva_ hvn_ hvc_ ge297_1 ul297_1
        clear hcc297 hce297
        have HR297_0:=A_ hi297_0
        have HC297_0:=A_ hl297_0
        clear hi297_0 hl297_0
        have HR297_1:=A_ hi297_1
        have HC297_1:=A_ hl297_1
        clear hi297_1 hl297_1
        replace p297:=eq_true p297
        replace q297:=eq_true q297
        try go_wp2_with (first | ((with_reducible refine gA_ (f:=47) rfl ?_);refine gL_ (some 32) Tryz.func47 #[.agg #[.slice A297_0 ((rd_T27 x5_2 x7_1).f0).length c297_0,.slice A297_1 ((rd_T27 x5_2 x7_1).f1).length c297_1],.int .u8 (rd y293 x23_2)] rfl qa_ ?_;(with_reducible refine (Z48.calls k2 _ _ ((rd_T27 x5_2 x7_1).f0) _ _ ((rd_T27 x5_2 x7_1).f1) (rd y293 x23_2) t298 t301 _ ?side1 ?side2 ?side3 ?side4 A22.out).mono ?_);(case side1=>repeat (first | exact (by repeat (first | (with_reducible exact HR297_0.out) | (with_reducible refine cA_ ?_ _) | (with_reducible refine cB_ ?_ _) | (with_reducible refine cC_ ?_) | exact HR297_0.out)) | (with_reducible first | refine cA_ ?_ _ | refine cB_ ?_ _ | refine cC_ ?_)));(case side2=>exact HC297_0.out);(case side3=>repeat (first | exact (by repeat (first | (with_reducible exact HR297_1.out) | (with_reducible refine cA_ ?_ _) | (with_reducible refine cB_ ?_ _) | (with_reducible refine cC_ ?_) | exact HR297_1.out)) | (with_reducible first | refine cA_ ?_ _ | refine cB_ ?_ _ | refine cC_ ?_)));(case side4=>exact HC297_1.out);rintro e w31 ⟨v299,v302,rfl,ho0,ho1,hb⟩;refine ⟨_,rfl,?_⟩;replace HO_5:=A_ (Kd.N_mono (Kd.N_told (Kd.N_told (Kd.N_old (by (with_reducible repeat (first | apply Kd.N_alloc | apply Kd.N_drewN | apply Kd.N_drew));exact HO_5.out) hb) (Kd.R_base ho0)) (Kd.R_base ho1)) (fun _ h_=>h_.1));replace HO_6:=rb_ HO_6 hb;replace HO_21:=rb_ HO_21 hb;replace HL297_0:=A_ (Kd.V_mono (Kd.V_told (Kd.V_told (Kd.V_old (by (with_reducible repeat (first | apply Kd.V_alloc | apply Kd.V_drewN | apply Kd.V_drew));exact HL297_0.out) hb) (Kd.R_base ho0)) (Kd.R_base ho1)) (fun _ h_=>h_.1));replace HL297_1:=A_ (Kd.V_mono (Kd.V_told (Kd.V_told (Kd.V_old (by (with_reducible repeat (first | apply Kd.V_alloc | apply Kd.V_drewN | apply Kd.V_drew));exact HL297_1.out) hb) (Kd.R_base ho0)) (Kd.R_base ho1)) (fun _ h_=>h_.1));have HO300:=A_ (rE_ (Kd.R_newM (M:=fun k_=>(w.heap.size≤k_)) ho0 (bF_ hB_) (fun k_ h_=>h_)) (bF_ hB_));have HO303:=A_ (rE_ (Kd.R_newM (M:=fun k_=>(w.heap.size≤k_)) ho1 (bF_ hB_) (fun k_ h_=>h_)) (bF_ hB_));replace BK280:=bb_ BK280 hb;replace HR297_0:=A_ (cD_ (by repeat (first | (with_reducible exact HR297_0.out) | (with_reducible refine cA_ ?_ _) | (with_reducible refine cB_ ?_ _) | (with_reducible refine cC_ ?_) | exact HR297_0.out)) hb);replace HR297_1:=A_ (cD_ (by repeat (first | (with_reducible exact HR297_1.out) | (with_reducible refine cA_ ?_ _) | (with_reducible refine cB_ ?_ _) | (with_reducible refine cC_ ?_) | exact HR297_1.out)) hb);replace HB:=b1_ hb;clear hb ho0 ho1;obtain ⟨Ao32,co32,eo32⟩:=Kd.R_slice HO300.out;subst eo32;obtain ⟨Ao33,co33,eo33⟩:=Kd.R_slice HO303.out;subst eo33) | ((with_reducible refine gA_ (f:=35) rfl ?_);refine gL_ (some 33) Tryz.func35 #[.agg #[.slice Ao32 t298.length co32,.slice Ao33 t301.length co33]] rfl qa_ ?_;(with_reducible refine (Z57.calls k2 _ _ t298 _ _ t301 t304 t307 _ (cr_ HO300) ((Kd.R_reads' HO300.out).2.1) (cr_ HO303) ((Kd.R_reads' HO303.out).2.1) A23.out).mono ?_);rintro e w34 ⟨v305,v308,rfl,ho0,ho1,hb⟩;refine ⟨_,rfl,?_⟩;replace HO_5:=A_ (Kd.N_mono (Kd.N_told (Kd.N_told (Kd.N_old (by (with_reducible repeat (first | apply Kd.N_alloc | apply Kd.N_drewN | apply Kd.N_drew));exact HO_5.out) hb) (Kd.R_base ho0)) (Kd.R_base ho1)) (fun _ h_=>h_.1));replace HO_6:=rb_ HO_6 hb;replace HO_21:=rb_ HO_21 hb;replace HL297_0:=A_ (Kd.V_mono (Kd.V_told (Kd.V_told (Kd.V_old (by (with_reducible repeat (first | apply Kd.V_alloc | apply Kd.V_drewN | apply Kd.V_drew));exact HL297_0.out) hb) (Kd.R_base ho0)) (Kd.R_base ho1)) (fun _ h_=>h_.1));replace HL297_1:=A_ (Kd.V_mono (Kd.V_told (Kd.V_told (Kd.V_old (by (with_reducible repeat (first | apply Kd.V_alloc | apply Kd.V_drewN | apply Kd.V_drew));exact HL297_1.out) hb) (Kd.R_base ho0)) (Kd.R_base ho1)) (fun _ h_=>h_.1));have HO306:=A_ (rE_ (Kd.R_new' (Kd.R_new' (Kd.R_newM (M:=fun k_=>(w.heap.size≤k_)) ho0 (bF_ hB_) (fun k_ h_=>h_)) (Kd.R_lt (rr_ HO300))) (Kd.R_lt (rr_ HO303))) (bF_ hB_));have HO309:=A_ (rE_ (Kd.R_new' (Kd.R_new' (Kd.R_newM (M:=fun k_=>(w.heap.size≤k_)) ho1 (bF_ hB_) (fun k_ h_=>h_)) (Kd.R_lt (rr_ HO300))) (Kd.R_lt (rr_ HO303))) (bF_ hB_));replace HO300:=A_ (Kd.R_mono (Kd.R_told (Kd.R_told (Kd.R_old (rr_ HO300) hb) (Kd.R_base ho0)) (Kd.R_base ho1)) (fun _ h_=>h_.1));replace HO303:=A_ (Kd.R_mono (Kd.R_told (Kd.R_told (Kd.R_old (rr_ HO303) hb) (Kd.R_base ho0)) (Kd.R_base ho1)) (fun _ h_=>h_.1));replace BK280:=bb_ BK280 hb;replace HR297_0:=A_ (cD_ (by repeat (first | (with_reducible exact HR297_0.out) | (with_reducible refine cA_ ?_ _) | (with_reducible refine cB_ ?_ _) | (with_reducible refine cC_ ?_) | exact HR297_0.out)) hb);replace HR297_1:=A_ (cD_ (by repeat (first | (with_reducible exact HR297_1.out) | (with_reducible refine cA_ ?_ _) | (with_reducible refine cB_ ?_ _) | (with_reducible refine cC_ ?_) | exact HR297_1.out)) hb);replace HB:=b1_ hb;clear hb ho0 ho1) | ((with_reducible refine gB_ (N:=10) rfl ?_);refine bx_ 10 #[.slice none 0 0,.slice none 0 0] 27 ?_;intro gb310 hg w35 hbox hb;replace HO_5:=A_ (Kd.N_below (Kd.N_elderB (by (with_reducible repeat (first | apply Kd.N_alloc | apply Kd.N_drewN | apply Kd.N_drew));exact HO_5.out) gb310 (Nat.le_of_eq hg.symm)) hb);replace HO_6:=rb_ HO_6 hb;replace HO_21:=rb_ HO_21 hb;replace HL297_0:=A_ (Kd.V_below (Kd.V_elderB (by (with_reducible repeat (first | apply Kd.V_alloc | apply Kd.V_drewN | apply Kd.V_drew));exact HL297_0.out) gb310 (Nat.le_of_eq hg.symm)) hb);replace HL297_1:=A_ (Kd.V_below (Kd.V_elderB (by (with_reducible repeat (first | apply Kd.V_alloc | apply Kd.V_drewN | apply Kd.V_drew));exact HL297_1.out) gb310 (Nat.le_of_eq hg.symm)) hb);replace HO300:=rb_ HO300 hb;replace HO303:=rb_ HO303 hb;replace HO306:=rb_ HO306 hb;replace HO309:=rb_ HO309 hb;replace HR297_0:=A_ (cD_ (by repeat (first | (with_reducible exact HR297_0.out) | (with_reducible refine cA_ ?_ _) | (with_reducible refine cB_ ?_ _) | (with_reducible refine cC_ ?_) | exact HR297_0.out)) hb);replace HR297_1:=A_ (cD_ (by repeat (first | (with_reducible exact HR297_1.out) | (with_reducible refine cA_ ?_ _) | (with_reducible refine cB_ ?_ _) | (with_reducible refine cC_ ?_) | exact HR297_1.out)) hb);have BK310:=A_ hbox;have GW310:=gw_ w hg;have GE310:=GW310;replace HB:=b1_ hb;have NB280_310:=gN_ BK280 hg;have NB310_280:=gP_ BK280 hg;replace BK280:=bb_ BK280 hb;clear hb hbox hg;obtain ⟨Ao36,co36,eo36⟩:=Kd.R_slice HO306.out;subst eo36;have hnb37:=NB310_280.out;have hnc37:=NB280_310.out;obtain ⟨hcz38_0,hcz38_1,hfz38_0,hfz38_1⟩:=c2_ BK310;obtain ⟨Ao39,co39,eo39⟩:=Kd.R_slice HO309.out;subst eo39) | ((with_reducible refine gA_ (f:=34) rfl ?_);refine gL_ (some 36) Tryz.func34 #[.slice (some ad297) x5_2.length co30,.agg #[.slice Ao36 t304.length co36,.slice Ao39 t307.length co39]] rfl qa_ ?_;(with_reducible refine (Z74.calls k2 _ _ x5_2 _ _ t304 _ _ t307 t311 _ ?side1 ?side2 ?side3 ?side4 ?side5 ?side6 A24.out).mono ?_);(case side1=>refine (Kd.N_reads' (e:=27) (base:=w.heap.size) (ok:=fun k_=>(((((((w.heap.size≤k_)∧(some k_≠(u6:Value).ownBlock∧(some k_≠(.slice (some ad296) y293.length co16:Value).ownBlock∧k_≠gb280)))∧some k_≠(.slice Ao32 t298.length co32:Value).ownBlock)∧some k_≠(.slice Ao33 t301.length co33:Value).ownBlock)∧some k_≠(.slice Ao36 t304.length co36:Value).ownBlock)∧some k_≠(.slice Ao39 t307.length co39:Value).ownBlock)∧k_≠gb310)) (n:=x5_2.length) (c:=co30) ?_).2.2;exact (by (with_reducible repeat (first | apply Kd.N_alloc | apply Kd.N_drewN | apply Kd.N_drew));exact (Kd.N_mono (Kd.N_far (p:=⟨gb310,1,none⟩) (Kd.N_far (p:=⟨gb310,0,none⟩) (Kd.N_mono HO_5.out (fun k_ hk=>(⟨hk,hk.2⟩:_∧k_≠gb310))) (fun _ hk=>hk.2) (.slice Ao36 t304.length co36)) (fun _ hk=>hk.2) (.slice Ao39 t307.length co39)) (fun _ h_=>h_.1))));(case side2=>exact (Kd.N_reads' HO_5.out).2.1);(case side3=>refine (Kd.R_reads' (e:=3) (base:=w.heap.size) (ok:=fun k_=>((((w.heap.size≤k_)∧some k_≠(.slice Ao39 t307.length co39:Value).ownBlock)∧some k_≠(.slice Ao32 t298.length co32:Value).ownBlock)∧some k_≠(.slice Ao33 t301.length co33:Value).ownBlock)) (n:=t304.length) (c:=co36) ?_).2.2;exact (rw_ (fa_ HO306 BK310)));(case side4=>exact (Kd.R_reads' HO306.out).2.1);(case side5=>refine (Kd.R_reads' (e:=3) (base:=w.heap.size) (ok:=fun k_=>((((w.heap.size≤k_)∧some k_≠(.slice Ao36 t304.length co36:Value).ownBlock)∧some k_≠(.slice Ao32 t298.length co32:Value).ownBlock)∧some k_≠(.slice Ao33 t301.length co33:Value).ownBlock)) (n:=t307.length) (c:=co39) ?_).2.2;exact (rw_ (fa_ HO309 BK310)));(case side6=>exact (Kd.R_reads' HO309.out).2.1);rintro e w40 ⟨rfl,hb⟩;refine ⟨_,rfl,?_⟩;replace HO_5:=A_ (Kd.N_below (by (with_reducible repeat (first | apply Kd.N_alloc | apply Kd.N_drewN | apply Kd.N_drew));exact (Kd.N_mono (Kd.N_far (p:=⟨gb310,1,none⟩) (Kd.N_far (p:=⟨gb310,0,none⟩) (Kd.N_mono HO_5.out (fun k_ hk=>(⟨hk,hk.2⟩:_∧k_≠gb310))) (fun _ hk=>hk.2) (.slice Ao36 t304.length co36)) (fun _ hk=>hk.2) (.slice Ao39 t307.length co39)) (fun _ h_=>h_.1))) hb);replace HO_6:=A_ (rD_ (rw_ (fa_ HO_6 BK310)) hb);replace HO_21:=A_ (rD_ (rw_ (fa_ HO_21 BK310)) hb);replace HO300:=A_ (rD_ (rw_ (fa_ HO300 BK310)) hb);replace HO303:=A_ (rD_ (rw_ (fa_ HO303 BK310)) hb);replace HO306:=A_ (rD_ (rw_ (fa_ HO306 BK310)) hb);replace HO309:=A_ (rD_ (rw_ (fa_ HO309 BK310)) hb);replace BK280:=A_ (kE_ (g:=gb280) (o:=.cells #[.slice A0_0 l0_0.length c0_0,.slice A0_1 l0_1.length c0_1] 27 (0,0)) (by (with_reducible repeat (first | refine kA_ ?_ _ | refine kB_ ?_ | refine kC_ ?_ _));refine blk_far ?_ NB280_310.out _;(with_reducible repeat (first | refine kA_ ?_ _ | refine kB_ ?_ | refine kC_ ?_ _));refine blk_far ?_ NB280_310.out _;(with_reducible repeat (first | refine kA_ ?_ _ | refine kB_ ?_ | refine kC_ ?_ _));exact BK280.out) hb);replace HR297_0:=A_ (cD_ ((Kd.V_reads' (by (with_reducible repeat (first | apply Kd.V_alloc | apply Kd.V_drewN | apply Kd.V_drew));exact (Kd.V_mono (Kd.V_far (p:=⟨gb310,1,none⟩) (Kd.V_far (p:=⟨gb310,0,none⟩) (Kd.V_mono HL297_0.out (fun k_ hk=>(⟨hk,hk.2⟩:_∧k_≠gb310))) (fun _ hk=>hk.2) (.slice Ao36 t304.length co36)) (fun _ hk=>hk.2) (.slice Ao39 t307.length co39)) (fun _ h_=>h_.1)))).2.2) hb);replace HL297_0:=A_ (Kd.V_below (by (with_reducible repeat (first | apply Kd.V_alloc | apply Kd.V_drewN | apply Kd.V_drew));exact (Kd.V_mono (Kd.V_far (p:=⟨gb310,1,none⟩) (Kd.V_far (p:=⟨gb310,0,none⟩) (Kd.V_mono HL297_0.out (fun k_ hk=>(⟨hk,hk.2⟩:_∧k_≠gb310))) (fun _ hk=>hk.2) (.slice Ao36 t304.length co36)) (fun _ hk=>hk.2) (.slice Ao39 t307.length co39)) (fun _ h_=>h_.1))) hb);replace HR297_1:=A_ (cD_ ((Kd.V_reads' (by (with_reducible repeat (first | apply Kd.V_alloc | apply Kd.V_drewN | apply Kd.V_drew));exact (Kd.V_mono (Kd.V_far (p:=⟨gb310,1,none⟩) (Kd.V_far (p:=⟨gb310,0,none⟩) (Kd.V_mono HL297_1.out (fun k_ hk=>(⟨hk,hk.2⟩:_∧k_≠gb310))) (fun _ hk=>hk.2) (.slice Ao36 t304.length co36)) (fun _ hk=>hk.2) (.slice Ao39 t307.length co39)) (fun _ h_=>h_.1)))).2.2) hb);replace HL297_1:=A_ (Kd.V_below (by (with_reducible repeat (first | apply Kd.V_alloc | apply Kd.V_drewN | apply Kd.V_drew));exact (Kd.V_mono (Kd.V_far (p:=⟨gb310,1,none⟩) (Kd.V_far (p:=⟨gb310,0,none⟩) (Kd.V_mono HL297_1.out (fun k_ hk=>(⟨hk,hk.2⟩:_∧k_≠gb310))) (fun _ hk=>hk.2) (.slice Ao36 t304.length co36)) (fun _ hk=>hk.2) (.slice Ao39 t307.length co39)) (fun _ h_=>h_.1))) hb);replace BK310:=A_ (kE_ (g:=gb310) (o:=.cells #[.slice Ao36 t304.length co36,.slice Ao39 t307.length co39] 27 (0,0)) qp_ hb);replace HB:=b1_ hb;clear hb;obtain ⟨hcz41_0,hcz41_1,hfz41_0,hfz41_1⟩:=c2_ BK310) | ((with_reducible refine gate_builtin (b:=.append) (xs:=#[.tmp 38,.tmp 40]) rfl ?_);at_builtin;refine Kd.N_append k27 (w0:=w) w.heap.size rfl (.tmp 38) (.tmp 40) 37 27 (.agg #[(.slice none 0 0),(.slice none 0 0)]) 48 rfl Tryz.underlying37 info27 rfl (by decide) (by omega) (.slice (some ad297) x5_2.length co30) x5_2 (⟨t304,t307⟩:S27) [.slice Ao36 t304.length co36,.slice Ao39 t307.length co39] (fun k_=>(w.heap.size≤k_)∧some k_≠(u6:Value).ownBlock∧some k_≠(.slice (some ad296) y293.length co16:Value).ownBlock∧some k_≠(.slice Ao32 t298.length co32:Value).ownBlock∧some k_≠(.slice Ao33 t301.length co33:Value).ownBlock∧k_≠gb280∧k_≠gb310) (fun k_=>((fun k_=>(w.heap.size≤k_)∧some k_≠(u6:Value).ownBlock∧some k_≠(.slice (some ad296) y293.length co16:Value).ownBlock∧some k_≠(.slice Ao32 t298.length co32:Value).ownBlock∧some k_≠(.slice Ao33 t301.length co33:Value).ownBlock∧k_≠gb280∧k_≠gb310)) k_∧some k_≠(.slice (some ad297) x5_2.length co30:Value).ownBlock) rfl rfl ?aP (fun _ hk=>hk) ?aF ?aO ?aB ?aS ?aL ?_;(case aP=>exact (k27_mkF _ _ (⟨t304,t307⟩:S27) (Kd.R_reads' (Kd.R_mono (ok':=(fun k_=>((fun k_=>(w.heap.size≤k_)∧some k_≠(u6:Value).ownBlock∧some k_≠(.slice (some ad296) y293.length co16:Value).ownBlock∧some k_≠(.slice Ao32 t298.length co32:Value).ownBlock∧some k_≠(.slice Ao33 t301.length co33:Value).ownBlock∧k_≠gb280∧k_≠gb310)) k_∧some k_≠(.slice (some ad297) x5_2.length co30:Value).ownBlock)) (Kd.R_types (Kd.R_types (Kd.R_apart' (Kd.R_apart' (Kd.R_apart' (HO306.out) (Kd.R_typed HO_6.out) (by decide)) (Kd.R_typed HO_21.out) (by decide)) (Kd.N_typed HO_5.out) (by decide)) BK280.out (by decide)) BK310.out (by decide)) (fun k_ hk=>⟨⟨hk.1.1.1.1.1.1.1.1,⟨hk.1.1.1.1.2,⟨hk.1.1.1.2,⟨hk.1.1.1.1.1.1.2,⟨hk.1.1.1.1.1.2,⟨hk.1.2,hk.2⟩⟩⟩⟩⟩⟩,hk.1.1.2⟩))).2.1 (Kd.R_F (Kd.R_mono (ok':=(fun k_=>((fun k_=>(w.heap.size≤k_)∧some k_≠(u6:Value).ownBlock∧some k_≠(.slice (some ad296) y293.length co16:Value).ownBlock∧some k_≠(.slice Ao32 t298.length co32:Value).ownBlock∧some k_≠(.slice Ao33 t301.length co33:Value).ownBlock∧k_≠gb280∧k_≠gb310)) k_∧some k_≠(.slice (some ad297) x5_2.length co30:Value).ownBlock)) (Kd.R_types (Kd.R_types (Kd.R_apart' (Kd.R_apart' (Kd.R_apart' (HO306.out) (Kd.R_typed HO_6.out) (by decide)) (Kd.R_typed HO_21.out) (by decide)) (Kd.N_typed HO_5.out) (by decide)) BK280.out (by decide)) BK310.out (by decide)) (fun k_ hk=>⟨⟨hk.1.1.1.1.1.1.1.1,⟨hk.1.1.1.1.2,⟨hk.1.1.1.2,⟨hk.1.1.1.1.1.1.2,⟨hk.1.1.1.1.1.2,⟨hk.1.2,hk.2⟩⟩⟩⟩⟩⟩,hk.1.1.2⟩))) (Kd.R_reads' (Kd.R_mono (ok':=(fun k_=>((fun k_=>(w.heap.size≤k_)∧some k_≠(u6:Value).ownBlock∧some k_≠(.slice (some ad296) y293.length co16:Value).ownBlock∧some k_≠(.slice Ao32 t298.length co32:Value).ownBlock∧some k_≠(.slice Ao33 t301.length co33:Value).ownBlock∧k_≠gb280∧k_≠gb310)) k_∧some k_≠(.slice (some ad297) x5_2.length co30:Value).ownBlock)) (Kd.R_types (Kd.R_types (Kd.R_apart' (Kd.R_apart' (Kd.R_apart' (HO309.out) (Kd.R_typed HO_6.out) (by decide)) (Kd.R_typed HO_21.out) (by decide)) (Kd.N_typed HO_5.out) (by decide)) BK280.out (by decide)) BK310.out (by decide)) (fun k_ hk=>⟨⟨hk.1.1.1.1.1.1.1.1,⟨hk.1.1.1.1.2,⟨hk.1.1.1.2,⟨hk.1.1.1.1.1.1.2,⟨hk.1.1.1.1.1.2,⟨hk.1.2,hk.2⟩⟩⟩⟩⟩⟩,hk.1.1.2⟩))).2.1 (Kd.R_F (Kd.R_mono (ok':=(fun k_=>((fun k_=>(w.heap.size≤k_)∧some k_≠(u6:Value).ownBlock∧some k_≠(.slice (some ad296) y293.length co16:Value).ownBlock∧some k_≠(.slice Ao32 t298.length co32:Value).ownBlock∧some k_≠(.slice Ao33 t301.length co33:Value).ownBlock∧k_≠gb280∧k_≠gb310)) k_∧some k_≠(.slice (some ad297) x5_2.length co30:Value).ownBlock)) (Kd.R_types (Kd.R_types (Kd.R_apart' (Kd.R_apart' (Kd.R_apart' (HO309.out) (Kd.R_typed HO_6.out) (by decide)) (Kd.R_typed HO_21.out) (by decide)) (Kd.N_typed HO_5.out) (by decide)) BK280.out (by decide)) BK310.out (by decide)) (fun k_ hk=>⟨⟨hk.1.1.1.1.1.1.1.1,⟨hk.1.1.1.1.2,⟨hk.1.1.1.2,⟨hk.1.1.1.1.1.1.2,⟨hk.1.1.1.1.1.2,⟨hk.1.2,hk.2⟩⟩⟩⟩⟩⟩,hk.1.1.2⟩)))));(case aB=>exact hB_);(case aF=>exact (fun k_ hk=>⟨(Nat.le_trans (bF_ hB_) hk),Kd.fresh' (Kd.R_lt (rr_ HO_6)) k_ hk,Kd.fresh' (Kd.R_lt (rr_ HO_21)) k_ hk,Kd.fresh' (Kd.R_lt (rr_ HO300)) k_ hk,Kd.fresh' (Kd.R_lt (rr_ HO303)) k_ hk,Kd.freshB (kk_ BK280) k_ hk,Kd.freshB (kk_ BK310) k_ hk⟩));(case aO=>exact (by (with_reducible repeat (first | apply Kd.N_alloc | apply Kd.N_drewN | apply Kd.N_drew));exact Kd.N_mono HO_5.out (fun _ hk=>⟨hk.1.1.1.1.1.1,⟨hk.1.1.1.1.1.2.1,⟨hk.1.1.1.1.1.2.2.1,⟨hk.1.1.1.1.2,⟨hk.1.1.1.2,⟨hk.1.1.1.1.1.2.2.2,hk.2⟩⟩⟩⟩⟩⟩)));(case aS=>exact (bF_ hB_));(case aL=>have:=LMc26.out;omega);intro v313 w42 ho hb hg hat;rw [← Ny312.out] at ho;replace HO_6:=A_ (Kd.R_over' (rr_ HO_6) (Kd.N_typed (by (with_reducible repeat (first | apply Kd.N_alloc | apply Kd.N_drewN | apply Kd.N_drew));exact HO_5.out)) (by decide) hg);replace HO_21:=A_ (Kd.R_over' (rr_ HO_21) (Kd.N_typed (by (with_reducible repeat (first | apply Kd.N_alloc | apply Kd.N_drewN | apply Kd.N_drew));exact HO_5.out)) (by decide) hg);replace BK280:=A_ (blk_grown (kk_ BK280) hg (Kd.N_away HO_5.out (fun _ hk=>hk.1.1.1.1.1.2.2.2)));replace HL297_0:=A_ (Kd.V_afterv (ok:=(fun k_=>(w.heap.size≤k_)∧some k_≠(u6:Value).ownBlock∧some k_≠(.slice (some ad296) y293.length co16:Value).ownBlock∧some k_≠(.slice Ao32 t298.length co32:Value).ownBlock∧some k_≠(.slice Ao33 t301.length co33:Value).ownBlock∧some k_≠(.slice Ao36 t304.length co36:Value).ownBlock∧some k_≠(.slice Ao39 t307.length co39:Value).ownBlock∧k_≠gb280∧k_≠gb310)) (by (with_reducible repeat (first | apply Kd.V_alloc | apply Kd.V_drewN | apply Kd.V_drew));exact Kd.V_mono HL297_0.out (fun _ hk=>⟨⟨hk.1.1.1.1.1.1.1,⟨hk.1.1.1.1.1.1.2.1,⟨hk.1.1.1.1.1.1.2.2.1,⟨hk.1.1.1.1.2,⟨hk.1.1.1.2,⟨hk.1.1.2,⟨hk.1.2,⟨hk.1.1.1.1.1.1.2.2.2,hk.2⟩⟩⟩⟩⟩⟩⟩⟩,hk.1.1.1.1.1.2⟩)) hg hat);replace HL297_1:=A_ (Kd.V_afterv (ok:=(fun k_=>(w.heap.size≤k_)∧some k_≠(u6:Value).ownBlock∧some k_≠(.slice (some ad296) y293.length co16:Value).ownBlock∧some k_≠(.slice Ao32 t298.length co32:Value).ownBlock∧some k_≠(.slice Ao33 t301.length co33:Value).ownBlock∧some k_≠(.slice Ao36 t304.length co36:Value).ownBlock∧some k_≠(.slice Ao39 t307.length co39:Value).ownBlock∧k_≠gb280∧k_≠gb310)) (by (with_reducible repeat (first | apply Kd.V_alloc | apply Kd.V_drewN | apply Kd.V_drew));exact Kd.V_mono HL297_1.out (fun _ hk=>⟨⟨hk.1.1.1.1.1.1.1,⟨hk.1.1.1.1.1.1.2.1,⟨hk.1.1.1.1.1.1.2.2.1,⟨hk.1.1.1.1.2,⟨hk.1.1.1.2,⟨hk.1.1.2,⟨hk.1.2,⟨hk.1.1.1.1.1.1.2.2.2,hk.2⟩⟩⟩⟩⟩⟩⟩⟩,hk.1.1.1.1.1.2⟩)) hg hat);replace HO300:=A_ (Kd.R_over' (rr_ HO300) (Kd.N_typed (by (with_reducible repeat (first | apply Kd.N_alloc | apply Kd.N_drewN | apply Kd.N_drew));exact HO_5.out)) (by decide) hg);replace HO303:=A_ (Kd.R_over' (rr_ HO303) (Kd.N_typed (by (with_reducible repeat (first | apply Kd.N_alloc | apply Kd.N_drewN | apply Kd.N_drew));exact HO_5.out)) (by decide) hg);replace BK310:=A_ (blk_grown (kk_ BK310) hg (Kd.N_away HO_5.out (fun _ hk=>hk.2)));replace HB:=A_ hb;have HO314:=A_ ho;clear HO_5 HO306 HO309;clear ho hb hg hat;obtain ⟨Ao43,co43,eo43⟩:=Kd.R_slice HO_6.out;subst eo43;have p315:0≤(x7_1:Int):=oB_ qe_;have q315:x7_1 < (x6_2.length:Int):=oB_ qe_;obtain ⟨ad315,e315,hx315_0⟩:=Kd.at_string (Kd.R_reads' HO_6.out).2.2 x7_1 p315 q315;cases e315;replace p315:=eq_true p315;replace q315:=eq_true q315))
        replace HO_6:=A_ (rC_ HO_6.out)
        replace HO_21:=A_ (rC_ HO_21.out)
        replace HL297_0:=A_ (Kd.V_drew HL297_0.out)
        replace HL297_1:=A_ (Kd.V_drew HL297_1.out)
        replace HO300:=A_ (rC_ HO300.out)
        replace HO303:=A_ (rC_ HO303.out)
        replace HO314:=A_ (Kd.N_drew HO314.out)
        replace BK280:=A_ (kB_ BK280.out)
        replace BK310:=A_ (kB_ BK310.out)
        replace HB:=A_ (bC_ HB.out)
        have hx_:w42.drew.cell? (ad315.add (x7_1).toNat) = some (.string (rdOf ByteArray.empty x6_2 x7_1)):=hx315_0
        refine start_ (n:=12) (S:=fun w'=>w'.cell? (ad315.add (x7_1).toNat) = some (.string (rdOf ByteArray.empty x6_2 x7_1))) (ds:=[10]) (bl_ 12 0) (by kernel_rfl) rfl (by kernel_rfl) hx_ (fun hHeld=>?_);refine with_tabW Z60.tab12 Z60.bits12 (fun HT_ HW_=>?_)
        generalize w42.drew = w44 at HO_6 HO_21 HL297_0 HL297_1 HO300 HO303 HO314 BK280 BK310 HB hHeld ⊢
        refine pu_ 0 (some 42) (bl_ 12 1) HT_ ?_
        refine pu_ 1 (some 43) (bl_ 12 3) HT_ ?_
        refine pu_ 2 (some 44) (bl_ 12 7) HT_ ?_
        refine pu_ 3 (some 45) (bl_ 12 15) HT_ ?_
        refine ta_ 4 (some 46) (bl_ 12 31) HT_ HW_ hHeld ?_
        refine pu_ 5 (some 47) (bl_ 12 63) HT_ ?_
        refine on_ 6 (some 48) (bl_ 12 127) HT_ (fun K hK=>?_)
        refine Kd.R_lit_step (Kd.int .u8) _ 5 ?hg (N:=48) ?hd (xs:=([rd y293 x23_2]:List Int)) (inner:=[.int .u8 (rd y293 x23_2)]) (ok:=fun _=>True) (okp:=fun _=>True) ?hr ?hp (fun _ hk=>hk) trivial (Below.refl _ _) (nA_ _) (by simp) ?_;(case hd=>rfl);(case hg=>rfl);(case hr=>first | (go_simp;done) | (go_simp;rfl));(case hp=>exact (Reps.one (show Kd.M (Kd.int .u8) _ _ _ (rd y293 x23_2) [.int .u8 (rd y293 x23_2)] from rfl) (Reps.none _ _)))
        intro v317 w45 ho46 hb hg_ hnew_
        have hS1_:=(hb.cell (World.block_lt_of_cell? _ _ hHeld)).trans hHeld
        clear hg_ hnew_
        (first | rw [← Ny316.out] at ho46 | (simp only [Int.reduceToNat] at ho46;rw [← Ny316.out] at ho46))
        replace HO_6:=rb_ HO_6 hb
        replace HL297_0:=A_ (Kd.V_elder' (by (with_reducible repeat (first | apply Kd.V_alloc | apply Kd.V_drewN | apply Kd.V_drew));exact HL297_0.out) (Kd.R_base ho46) hb)
        replace HL297_1:=A_ (Kd.V_elder' (by (with_reducible repeat (first | apply Kd.V_alloc | apply Kd.V_drewN | apply Kd.V_drew));exact HL297_1.out) (Kd.R_base ho46) hb)
        replace HO300:=rb_ HO300 hb
        replace HO303:=rb_ HO303 hb
        replace HO314:=A_ (Kd.N_elder' (by (with_reducible repeat (first | apply Kd.N_alloc | apply Kd.N_drewN | apply Kd.N_drew));exact HO314.out) (Kd.R_base ho46) hb)
        have HO318:=A_ (rE_ (Kd.R_new' (Kd.R_newM (M:=fun k_=>(w.heap.size≤k_)) ho46 (bF_ hB_) (fun k_ h_=>h_)) (Kd.R_lt (rr_ HO_21))) (bF_ hB_))
        replace HO_21:=A_ (Kd.R_elder' (rr_ HO_21) (Kd.R_base ho46) hb)
        replace BK280:=bb_ BK280 hb
        replace BK310:=bb_ BK310 hb
        replace HB:=b1_ hb
        clear hb ho46
        refine hK.out _ _ hS1_ (fun hHeld=>?_)
        clear hK K
        refine no_ (some 48) ?_
        refine on_ 7 (some 49) (bl_ 12 255) HT_ (fun K hK=>?_)
        have hcv47:=own_string (P:=Tryz.prog) Tryz.underlying48 Tryz.underlying5 Tryz.underlying9 (Kd.own_of_R HO318.out)
        refine value_ (w1:=?_) (v:=?_) (by rfl) rfl ?_ ?_
        rotate_left 2
        ·go_simp
         constructor
         ·rfl
         ·rfl
        clear hcv47
        refine hK.out _ _ hHeld (fun hHeld=>?_)
        clear hK K
        refine no_ (some 49) ?_
        refine pu_ 8 (some 50) (bl_ 12 511) HT_ ?_
        refine on_ 9 (some 51) (bl_ 12 1023) HT_ (fun K hK=>?_)
        refine value_ (w1:=?_) (v:=?_) (by rfl) rfl ?_ ?_
        rotate_left 2
        ·go_simp
         constructor
         ·rfl
         ·rfl
        refine hK.out _ _ (by first | exact hHeld | exact ((bA_ (Below.refl _ _) _).cell (World.block_lt_of_cell? _ _ hHeld)).trans hHeld) (fun hHeld=>?_)
        clear hK K
        refine no_ (some 51) ?_
        refine last_ (i:=10) (N:=some 52) (bl_ 12 2047) rfl rfl (one_of HT_.out (by kernel_rfl)) (by decide) (fun K hK=>?_)
        refine Kd.R_append_step Kd.string (w0:=w) w.heap.size (by rfl) (.tmp 42) (.tmp 51) 47 9 (.string ⟨#[]⟩) 16 rfl Tryz.underlying47 info9 rfl (by decide) (by omega) (.slice (some ad315) x6_2.length co43) x6_2 ((rdOf ByteArray.empty x6_2 x7_1) ++ (strOfNums y316)) [.string ((rdOf ByteArray.empty x6_2 x7_1) ++ (strOfNums y316))] (fun k_=>(w.heap.size≤k_)) (fun _=>False) rfl rfl ?aP (fun _ hk=>hk.elim) ?aF ?aO ?aB ?aS ?aL ?_
        (case aP=>exact rfl)
        (case aB=>exact hB_)
        (case aF=>exact (fun k_ hk=>(Nat.le_trans (bF_ hB_) hk)))
        (case aO=>exact (rr_ HO_6))
        (case aS=>exact (bF_ hB_))
        (case aL=>have:=LMc29.out;omega)
        intro v320 w48 ho hb hg hat
        rw [← Ny319.out] at ho
        replace HO_21:=A_ (Kd.R_over' (rr_ HO_21) (Kd.R_typed (rr_ HO_6)) (by decide) hg)
        replace BK280:=A_ (blk_grown (kk_ BK280) hg (Kd.R_ne HO_6.out BK280.out (by decide)))
        replace HL297_0:=A_ (Kd.V_afterv (ok:=(fun k_=>(w.heap.size≤k_)∧some k_≠(.slice (some ad296) y293.length co16:Value).ownBlock∧some k_≠(.slice Ao32 t298.length co32:Value).ownBlock∧some k_≠(.slice Ao33 t301.length co33:Value).ownBlock∧some k_≠(v313:Value).ownBlock∧some k_≠(v317:Value).ownBlock∧k_≠gb280∧k_≠gb310)) (by (with_reducible repeat (first | apply Kd.V_alloc | apply Kd.V_drewN | apply Kd.V_drew));exact Kd.V_mono HL297_0.out (fun _ hk=>⟨⟨hk.1.1.1,⟨hk.1.1.2.2.1,⟨hk.1.1.2.2.2.1,⟨hk.1.1.2.2.2.2.1,⟨hk.1.2,⟨hk.2,⟨hk.1.1.2.2.2.2.2.2.2.1,hk.1.1.2.2.2.2.2.2.2.2⟩⟩⟩⟩⟩⟩⟩,hk.1.1.2.1⟩)) hg hat)
        replace HL297_1:=A_ (Kd.V_afterv (ok:=(fun k_=>(w.heap.size≤k_)∧some k_≠(.slice (some ad296) y293.length co16:Value).ownBlock∧some k_≠(.slice Ao32 t298.length co32:Value).ownBlock∧some k_≠(.slice Ao33 t301.length co33:Value).ownBlock∧some k_≠(v313:Value).ownBlock∧some k_≠(v317:Value).ownBlock∧k_≠gb280∧k_≠gb310)) (by (with_reducible repeat (first | apply Kd.V_alloc | apply Kd.V_drewN | apply Kd.V_drew));exact Kd.V_mono HL297_1.out (fun _ hk=>⟨⟨hk.1.1.1,⟨hk.1.1.2.2.1,⟨hk.1.1.2.2.2.1,⟨hk.1.1.2.2.2.2.1,⟨hk.1.2,⟨hk.2,⟨hk.1.1.2.2.2.2.2.2.2.1,hk.1.1.2.2.2.2.2.2.2.2⟩⟩⟩⟩⟩⟩⟩,hk.1.1.2.1⟩)) hg hat)
        replace HO300:=A_ (Kd.R_over' (rr_ HO300) (Kd.R_typed (rr_ HO_6)) (by decide) hg)
        replace HO303:=A_ (Kd.R_over' (rr_ HO303) (Kd.R_typed (rr_ HO_6)) (by decide) hg)
        replace BK310:=A_ (blk_grown (kk_ BK310) hg (Kd.R_ne HO_6.out BK310.out (by decide)))
        replace HO314:=A_ (Kd.N_afterv (ok:=(fun k_=>(w.heap.size≤k_)∧some k_≠(.slice (some ad296) y293.length co16:Value).ownBlock∧some k_≠(.slice Ao32 t298.length co32:Value).ownBlock∧some k_≠(.slice Ao33 t301.length co33:Value).ownBlock∧some k_≠(v317:Value).ownBlock∧k_≠gb280∧k_≠gb310)) (by (with_reducible repeat (first | apply Kd.N_alloc | apply Kd.N_drewN | apply Kd.N_drew));exact Kd.N_mono HO314.out (fun _ hk=>⟨⟨hk.1.1,⟨hk.1.2.2.1,⟨hk.1.2.2.2.1,⟨hk.1.2.2.2.2.1,⟨hk.2,⟨hk.1.2.2.2.2.2.1,hk.1.2.2.2.2.2.2⟩⟩⟩⟩⟩⟩,hk.1.2.1⟩)) hg hat)
        replace HO318:=A_ (Kd.R_over' (rr_ HO318) (Kd.R_typed (rr_ HO_6)) (by decide) hg)
        replace HB:=A_ hb
        have HO321:=A_ ho
        clear HO_6
        clear ho hb hg hat
        refine hK.out _ _ ?_
        clear hK K
        refine no_ (some 52) ?_
        refine pu_ 11 (some 6) (bl_ 12 4095) HT_ ?_
        refine done_ (done_of HT_.out (by kernel_rfl)) ?_
        try go_wp2
        go_roundg k2
        case measure=>have:=HK1.out;have:=HK2.out;omega
        case rel=>exact ⟨(y312),(y319),(wrap64 (x23_2 + 1)),qc_,H',⟨by have:=HK1.out;have:=HK2.out;omega⟩,⟨by (with_reducible repeat (first | apply Kd.N_alloc | apply Kd.N_drewN | apply Kd.N_drew));exact Kd.N_mono HO314.out (fun _ hk=>⟨hk.1.1,⟨hk.2,⟨hk.1.2.1,hk.1.2.2.2.2.2.1⟩⟩⟩)⟩,⟨(rr_ HO321)⟩,⟨(rw_ (Kd.R_mono HO_21.out (fun _ hk=>hk.1)))⟩,⟨(kk_ BK280)⟩,⟨hB_⟩⟩
       ·rw [if_neg c25] at H
        have c25b0:=oD_ c25
        clear c25
        have H':=A_ H
        clear H
        have p296:0≤(x23_2:Int):=oB_ qe_
        have q296:x23_2 < (y293.length:Int):=oB_ qe_
        obtain ⟨ad296,e296,hx296_0⟩:=Kd.at_int (Kd.R_reads' HO_21.out).2.2 x23_2 p296 q296
        cases e296
        replace p296:=eq_true p296
        replace q296:=eq_true q296
        obtain ⟨Ao49,co49,eo49⟩:=Kd.N_slice HO_5.out
        subst eo49
        have p297:0≤(x7_1:Int):=oB_ qe_
        have q297:x7_1 < (x5_2.length:Int):=oB_ qe_
        obtain ⟨ad297,A297_0,c297_0,A297_1,c297_1,e297,hx297_0,hx297_1,hl297_0,hi297_0,hl297_1,hi297_1⟩:=at_T27 (Kd.N_reads' HO_5.out).2.2 x7_1 p297 q297
        cases e297
        obtain ⟨ce297,hce297,hMe297,hcc297⟩:=Kd.N_get HO_5.out z27 x7_1 p297 (by first | exact q297 | exact oB_ qe_ | (have e_:=(Kd.N_reads' HO_5.out).1;omega))
        obtain ⟨ua297_0,uc297_0,ua297_1,uc297_1,rfl,ul297_0,ge297_0,ul297_1,ge297_1⟩:=k27_openF hMe297
        have hv297_0:=hcc297 0 _ rfl
        rw [Nat.add_zero] at hv297_0
        replace hv297_0:=Option.some.inj (hv297_0.symm.trans hx297_0)
        injection hv297_0 with hva_ hvn_ hvc_
        rw [hva_] at ge297_0
        rw [hvc_] at ul297_0
        have HL297_0:=A_ (show Kd.V (Kd.int .i64) 3 _ w.heap.size _ _ ((rd_T27 x5_2 x7_1).f0) from Kd.V_mk ul297_0 ge297_0)
        clear hva_ hvn_ hvc_ ge297_0 ul297_0
        have hv297_1:=hcc297 1 _ rfl
        rw [add_field _ _ 1 (by omega)] at hv297_1
        replace hv297_1:=Option.some.inj (hv297_1.symm.trans hx297_1)
        injection hv297_1 with hva_ hvn_ hvc_
        rw [hva_] at ge297_1
        rw [hvc_] at ul297_1
        have HL297_1:=A_ (show Kd.V (Kd.int .i64) 3 _ w.heap.size _ _ ((rd_T27 x5_2 x7_1).f1) from Kd.V_mk ul297_1 ge297_1)
        clear hva_ hvn_ hvc_ ge297_1 ul297_1
        clear hcc297 hce297
        have HR297_0:=A_ hi297_0
        have HC297_0:=A_ hl297_0
        clear hi297_0 hl297_0
        have HR297_1:=A_ hi297_1
        have HC297_1:=A_ hl297_1
        clear hi297_1 hl297_1
        replace p297:=eq_true p297
        replace q297:=eq_true q297
        go_wp2_with (first | ((with_reducible refine gA_ (f:=47) rfl ?_);refine gL_ (some 32) Tryz.func47 #[.agg #[.slice A297_0 ((rd_T27 x5_2 x7_1).f0).length c297_0,.slice A297_1 ((rd_T27 x5_2 x7_1).f1).length c297_1],.int .u8 (rd y293 x23_2)] rfl qa_ ?_;(with_reducible refine (Z48.calls k2 _ _ ((rd_T27 x5_2 x7_1).f0) _ _ ((rd_T27 x5_2 x7_1).f1) (rd y293 x23_2) t298 t301 _ ?side1 ?side2 ?side3 ?side4 A22.out).mono ?_);(case side1=>repeat (first | exact (by repeat (first | (with_reducible exact HR297_0.out) | (with_reducible refine cA_ ?_ _) | (with_reducible refine cB_ ?_ _) | (with_reducible refine cC_ ?_) | exact HR297_0.out)) | (with_reducible first | refine cA_ ?_ _ | refine cB_ ?_ _ | refine cC_ ?_)));(case side2=>exact HC297_0.out);(case side3=>repeat (first | exact (by repeat (first | (with_reducible exact HR297_1.out) | (with_reducible refine cA_ ?_ _) | (with_reducible refine cB_ ?_ _) | (with_reducible refine cC_ ?_) | exact HR297_1.out)) | (with_reducible first | refine cA_ ?_ _ | refine cB_ ?_ _ | refine cC_ ?_)));(case side4=>exact HC297_1.out);rintro e w50 ⟨v299,v302,rfl,ho0,ho1,hb⟩;refine ⟨_,rfl,?_⟩;replace HO_5:=A_ (Kd.N_mono (Kd.N_told (Kd.N_told (Kd.N_old (by (with_reducible repeat (first | apply Kd.N_alloc | apply Kd.N_drewN | apply Kd.N_drew));exact HO_5.out) hb) (Kd.R_base ho0)) (Kd.R_base ho1)) (fun _ h_=>h_.1));replace HO_6:=rb_ HO_6 hb;replace HO_21:=rb_ HO_21 hb;replace HL297_0:=A_ (Kd.V_mono (Kd.V_told (Kd.V_told (Kd.V_old (by (with_reducible repeat (first | apply Kd.V_alloc | apply Kd.V_drewN | apply Kd.V_drew));exact HL297_0.out) hb) (Kd.R_base ho0)) (Kd.R_base ho1)) (fun _ h_=>h_.1));replace HL297_1:=A_ (Kd.V_mono (Kd.V_told (Kd.V_told (Kd.V_old (by (with_reducible repeat (first | apply Kd.V_alloc | apply Kd.V_drewN | apply Kd.V_drew));exact HL297_1.out) hb) (Kd.R_base ho0)) (Kd.R_base ho1)) (fun _ h_=>h_.1));have HO300:=A_ (rE_ (Kd.R_newM (M:=fun k_=>(w.heap.size≤k_)) ho0 (bF_ hB_) (fun k_ h_=>h_)) (bF_ hB_));have HO303:=A_ (rE_ (Kd.R_newM (M:=fun k_=>(w.heap.size≤k_)) ho1 (bF_ hB_) (fun k_ h_=>h_)) (bF_ hB_));replace BK280:=bb_ BK280 hb;replace HR297_0:=A_ (cD_ (by repeat (first | (with_reducible exact HR297_0.out) | (with_reducible refine cA_ ?_ _) | (with_reducible refine cB_ ?_ _) | (with_reducible refine cC_ ?_) | exact HR297_0.out)) hb);replace HR297_1:=A_ (cD_ (by repeat (first | (with_reducible exact HR297_1.out) | (with_reducible refine cA_ ?_ _) | (with_reducible refine cB_ ?_ _) | (with_reducible refine cC_ ?_) | exact HR297_1.out)) hb);replace HB:=b1_ hb;clear hb ho0 ho1;obtain ⟨Ao51,co51,eo51⟩:=Kd.R_slice HO300.out;subst eo51;obtain ⟨Ao52,co52,eo52⟩:=Kd.R_slice HO303.out;subst eo52) | ((with_reducible refine gA_ (f:=35) rfl ?_);refine gL_ (some 33) Tryz.func35 #[.agg #[.slice Ao51 t298.length co51,.slice Ao52 t301.length co52]] rfl qa_ ?_;(with_reducible refine (Z57.calls k2 _ _ t298 _ _ t301 t304 t307 _ (cr_ HO300) ((Kd.R_reads' HO300.out).2.1) (cr_ HO303) ((Kd.R_reads' HO303.out).2.1) A23.out).mono ?_);rintro e w53 ⟨v305,v308,rfl,ho0,ho1,hb⟩;refine ⟨_,rfl,?_⟩;replace HO_5:=A_ (Kd.N_mono (Kd.N_told (Kd.N_told (Kd.N_old (by (with_reducible repeat (first | apply Kd.N_alloc | apply Kd.N_drewN | apply Kd.N_drew));exact HO_5.out) hb) (Kd.R_base ho0)) (Kd.R_base ho1)) (fun _ h_=>h_.1));replace HO_6:=rb_ HO_6 hb;replace HO_21:=rb_ HO_21 hb;replace HL297_0:=A_ (Kd.V_mono (Kd.V_told (Kd.V_told (Kd.V_old (by (with_reducible repeat (first | apply Kd.V_alloc | apply Kd.V_drewN | apply Kd.V_drew));exact HL297_0.out) hb) (Kd.R_base ho0)) (Kd.R_base ho1)) (fun _ h_=>h_.1));replace HL297_1:=A_ (Kd.V_mono (Kd.V_told (Kd.V_told (Kd.V_old (by (with_reducible repeat (first | apply Kd.V_alloc | apply Kd.V_drewN | apply Kd.V_drew));exact HL297_1.out) hb) (Kd.R_base ho0)) (Kd.R_base ho1)) (fun _ h_=>h_.1));have HO306:=A_ (rE_ (Kd.R_new' (Kd.R_new' (Kd.R_newM (M:=fun k_=>(w.heap.size≤k_)) ho0 (bF_ hB_) (fun k_ h_=>h_)) (Kd.R_lt (rr_ HO300))) (Kd.R_lt (rr_ HO303))) (bF_ hB_));have HO309:=A_ (rE_ (Kd.R_new' (Kd.R_new' (Kd.R_newM (M:=fun k_=>(w.heap.size≤k_)) ho1 (bF_ hB_) (fun k_ h_=>h_)) (Kd.R_lt (rr_ HO300))) (Kd.R_lt (rr_ HO303))) (bF_ hB_));replace HO300:=A_ (Kd.R_mono (Kd.R_told (Kd.R_told (Kd.R_old (rr_ HO300) hb) (Kd.R_base ho0)) (Kd.R_base ho1)) (fun _ h_=>h_.1));replace HO303:=A_ (Kd.R_mono (Kd.R_told (Kd.R_told (Kd.R_old (rr_ HO303) hb) (Kd.R_base ho0)) (Kd.R_base ho1)) (fun _ h_=>h_.1));replace BK280:=bb_ BK280 hb;replace HR297_0:=A_ (cD_ (by repeat (first | (with_reducible exact HR297_0.out) | (with_reducible refine cA_ ?_ _) | (with_reducible refine cB_ ?_ _) | (with_reducible refine cC_ ?_) | exact HR297_0.out)) hb);replace HR297_1:=A_ (cD_ (by repeat (first | (with_reducible exact HR297_1.out) | (with_reducible refine cA_ ?_ _) | (with_reducible refine cB_ ?_ _) | (with_reducible refine cC_ ?_) | exact HR297_1.out)) hb);replace HB:=b1_ hb;clear hb ho0 ho1) | ((with_reducible refine gB_ (N:=10) rfl ?_);refine bx_ 10 #[.slice none 0 0,.slice none 0 0] 27 ?_;intro gb310 hg w54 hbox hb;replace HO_5:=A_ (Kd.N_below (Kd.N_elderB (by (with_reducible repeat (first | apply Kd.N_alloc | apply Kd.N_drewN | apply Kd.N_drew));exact HO_5.out) gb310 (Nat.le_of_eq hg.symm)) hb);replace HO_6:=rb_ HO_6 hb;replace HO_21:=rb_ HO_21 hb;replace HL297_0:=A_ (Kd.V_below (Kd.V_elderB (by (with_reducible repeat (first | apply Kd.V_alloc | apply Kd.V_drewN | apply Kd.V_drew));exact HL297_0.out) gb310 (Nat.le_of_eq hg.symm)) hb);replace HL297_1:=A_ (Kd.V_below (Kd.V_elderB (by (with_reducible repeat (first | apply Kd.V_alloc | apply Kd.V_drewN | apply Kd.V_drew));exact HL297_1.out) gb310 (Nat.le_of_eq hg.symm)) hb);replace HO300:=rb_ HO300 hb;replace HO303:=rb_ HO303 hb;replace HO306:=rb_ HO306 hb;replace HO309:=rb_ HO309 hb;replace HR297_0:=A_ (cD_ (by repeat (first | (with_reducible exact HR297_0.out) | (with_reducible refine cA_ ?_ _) | (with_reducible refine cB_ ?_ _) | (with_reducible refine cC_ ?_) | exact HR297_0.out)) hb);replace HR297_1:=A_ (cD_ (by repeat (first | (with_reducible exact HR297_1.out) | (with_reducible refine cA_ ?_ _) | (with_reducible refine cB_ ?_ _) | (with_reducible refine cC_ ?_) | exact HR297_1.out)) hb);have BK310:=A_ hbox;have GW310:=gw_ w hg;have GE310:=GW310;replace HB:=b1_ hb;have NB280_310:=gN_ BK280 hg;have NB310_280:=gP_ BK280 hg;replace BK280:=bb_ BK280 hb;clear hb hbox hg;obtain ⟨Ao55,co55,eo55⟩:=Kd.R_slice HO306.out;subst eo55;have hnb56:=NB310_280.out;have hnc56:=NB280_310.out;obtain ⟨hcz57_0,hcz57_1,hfz57_0,hfz57_1⟩:=c2_ BK310;obtain ⟨Ao58,co58,eo58⟩:=Kd.R_slice HO309.out;subst eo58) | ((with_reducible refine gA_ (f:=34) rfl ?_);refine gL_ (some 36) Tryz.func34 #[.slice (some ad297) x5_2.length co49,.agg #[.slice Ao55 t304.length co55,.slice Ao58 t307.length co58]] rfl qa_ ?_;(with_reducible refine (Z74.calls k2 _ _ x5_2 _ _ t304 _ _ t307 t311 _ ?side1 ?side2 ?side3 ?side4 ?side5 ?side6 A24.out).mono ?_);(case side1=>refine (Kd.N_reads' (e:=27) (base:=w.heap.size) (ok:=fun k_=>(((((((w.heap.size≤k_)∧(some k_≠(u6:Value).ownBlock∧(some k_≠(.slice (some ad296) y293.length co16:Value).ownBlock∧k_≠gb280)))∧some k_≠(.slice Ao51 t298.length co51:Value).ownBlock)∧some k_≠(.slice Ao52 t301.length co52:Value).ownBlock)∧some k_≠(.slice Ao55 t304.length co55:Value).ownBlock)∧some k_≠(.slice Ao58 t307.length co58:Value).ownBlock)∧k_≠gb310)) (n:=x5_2.length) (c:=co49) ?_).2.2;exact (by (with_reducible repeat (first | apply Kd.N_alloc | apply Kd.N_drewN | apply Kd.N_drew));exact (Kd.N_mono (Kd.N_far (p:=⟨gb310,1,none⟩) (Kd.N_far (p:=⟨gb310,0,none⟩) (Kd.N_mono HO_5.out (fun k_ hk=>(⟨hk,hk.2⟩:_∧k_≠gb310))) (fun _ hk=>hk.2) (.slice Ao55 t304.length co55)) (fun _ hk=>hk.2) (.slice Ao58 t307.length co58)) (fun _ h_=>h_.1))));(case side2=>exact (Kd.N_reads' HO_5.out).2.1);(case side3=>refine (Kd.R_reads' (e:=3) (base:=w.heap.size) (ok:=fun k_=>((((w.heap.size≤k_)∧some k_≠(.slice Ao58 t307.length co58:Value).ownBlock)∧some k_≠(.slice Ao51 t298.length co51:Value).ownBlock)∧some k_≠(.slice Ao52 t301.length co52:Value).ownBlock)) (n:=t304.length) (c:=co55) ?_).2.2;exact (rw_ (fa_ HO306 BK310)));(case side4=>exact (Kd.R_reads' HO306.out).2.1);(case side5=>refine (Kd.R_reads' (e:=3) (base:=w.heap.size) (ok:=fun k_=>((((w.heap.size≤k_)∧some k_≠(.slice Ao55 t304.length co55:Value).ownBlock)∧some k_≠(.slice Ao51 t298.length co51:Value).ownBlock)∧some k_≠(.slice Ao52 t301.length co52:Value).ownBlock)) (n:=t307.length) (c:=co58) ?_).2.2;exact (rw_ (fa_ HO309 BK310)));(case side6=>exact (Kd.R_reads' HO309.out).2.1);rintro e w59 ⟨rfl,hb⟩;refine ⟨_,rfl,?_⟩;replace HO_5:=A_ (Kd.N_below (by (with_reducible repeat (first | apply Kd.N_alloc | apply Kd.N_drewN | apply Kd.N_drew));exact (Kd.N_mono (Kd.N_far (p:=⟨gb310,1,none⟩) (Kd.N_far (p:=⟨gb310,0,none⟩) (Kd.N_mono HO_5.out (fun k_ hk=>(⟨hk,hk.2⟩:_∧k_≠gb310))) (fun _ hk=>hk.2) (.slice Ao55 t304.length co55)) (fun _ hk=>hk.2) (.slice Ao58 t307.length co58)) (fun _ h_=>h_.1))) hb);replace HO_6:=A_ (rD_ (rw_ (fa_ HO_6 BK310)) hb);replace HO_21:=A_ (rD_ (rw_ (fa_ HO_21 BK310)) hb);replace HO300:=A_ (rD_ (rw_ (fa_ HO300 BK310)) hb);replace HO303:=A_ (rD_ (rw_ (fa_ HO303 BK310)) hb);replace HO306:=A_ (rD_ (rw_ (fa_ HO306 BK310)) hb);replace HO309:=A_ (rD_ (rw_ (fa_ HO309 BK310)) hb);replace BK280:=A_ (kE_ (g:=gb280) (o:=.cells #[.slice A0_0 l0_0.length c0_0,.slice A0_1 l0_1.length c0_1] 27 (0,0)) (by (with_reducible repeat (first | refine kA_ ?_ _ | refine kB_ ?_ | refine kC_ ?_ _));refine blk_far ?_ NB280_310.out _;(with_reducible repeat (first | refine kA_ ?_ _ | refine kB_ ?_ | refine kC_ ?_ _));refine blk_far ?_ NB280_310.out _;(with_reducible repeat (first | refine kA_ ?_ _ | refine kB_ ?_ | refine kC_ ?_ _));exact BK280.out) hb);replace HR297_0:=A_ (cD_ ((Kd.V_reads' (by (with_reducible repeat (first | apply Kd.V_alloc | apply Kd.V_drewN | apply Kd.V_drew));exact (Kd.V_mono (Kd.V_far (p:=⟨gb310,1,none⟩) (Kd.V_far (p:=⟨gb310,0,none⟩) (Kd.V_mono HL297_0.out (fun k_ hk=>(⟨hk,hk.2⟩:_∧k_≠gb310))) (fun _ hk=>hk.2) (.slice Ao55 t304.length co55)) (fun _ hk=>hk.2) (.slice Ao58 t307.length co58)) (fun _ h_=>h_.1)))).2.2) hb);replace HL297_0:=A_ (Kd.V_below (by (with_reducible repeat (first | apply Kd.V_alloc | apply Kd.V_drewN | apply Kd.V_drew));exact (Kd.V_mono (Kd.V_far (p:=⟨gb310,1,none⟩) (Kd.V_far (p:=⟨gb310,0,none⟩) (Kd.V_mono HL297_0.out (fun k_ hk=>(⟨hk,hk.2⟩:_∧k_≠gb310))) (fun _ hk=>hk.2) (.slice Ao55 t304.length co55)) (fun _ hk=>hk.2) (.slice Ao58 t307.length co58)) (fun _ h_=>h_.1))) hb);replace HR297_1:=A_ (cD_ ((Kd.V_reads' (by (with_reducible repeat (first | apply Kd.V_alloc | apply Kd.V_drewN | apply Kd.V_drew));exact (Kd.V_mono (Kd.V_far (p:=⟨gb310,1,none⟩) (Kd.V_far (p:=⟨gb310,0,none⟩) (Kd.V_mono HL297_1.out (fun k_ hk=>(⟨hk,hk.2⟩:_∧k_≠gb310))) (fun _ hk=>hk.2) (.slice Ao55 t304.length co55)) (fun _ hk=>hk.2) (.slice Ao58 t307.length co58)) (fun _ h_=>h_.1)))).2.2) hb);replace HL297_1:=A_ (Kd.V_below (by (with_reducible repeat (first | apply Kd.V_alloc | apply Kd.V_drewN | apply Kd.V_drew));exact (Kd.V_mono (Kd.V_far (p:=⟨gb310,1,none⟩) (Kd.V_far (p:=⟨gb310,0,none⟩) (Kd.V_mono HL297_1.out (fun k_ hk=>(⟨hk,hk.2⟩:_∧k_≠gb310))) (fun _ hk=>hk.2) (.slice Ao55 t304.length co55)) (fun _ hk=>hk.2) (.slice Ao58 t307.length co58)) (fun _ h_=>h_.1))) hb);replace BK310:=A_ (kE_ (g:=gb310) (o:=.cells #[.slice Ao55 t304.length co55,.slice Ao58 t307.length co58] 27 (0,0)) qp_ hb);replace HB:=b1_ hb;clear hb))
        go_roundg k2
        case measure=>have:=HK1.out;have:=HK2.out;omega
        case rel=>exact ⟨(x5_2),(x6_2),(wrap64 (x23_2 + 1)),qc_,H',⟨by have:=HK1.out;have:=HK2.out;omega⟩,⟨by (with_reducible repeat (first | apply Kd.N_alloc | apply Kd.N_drewN | apply Kd.N_drew));exact Kd.N_mono HO_5.out (fun _ hk=>⟨hk.1.1.1.1.1.1,⟨hk.1.1.1.1.1.2.1,⟨hk.1.1.1.1.1.2.2.1,hk.1.1.1.1.1.2.2.2⟩⟩⟩)⟩,⟨(rr_ HO_6)⟩,⟨(rr_ HO_21)⟩,⟨(kk_ BK280)⟩,⟨hB_⟩⟩
      ·rw [if_neg c17] at H
       have c17b0:=oD_ c17
       clear c17
       by_cases c60:(x5_2.length:Int) > 120
       ·rw [if_pos c60] at H
        have c60b0:decide (120 < (x5_2.length:Int)) = true:=oC_ c60
        have c60b1:decide (120 < x5_2.length) = true:=oC_ (by omega)
        clear c60
        simp only [Option.some.injEq,Prod.mk.injEq] at H
        obtain ⟨rfl,rfl,rfl⟩:=H
        obtain ⟨Ao61,co61,eo61⟩:=Kd.N_slice HO_5.out
        subst eo61
        go_wp2
        go_ret3
        exact ⟨_,_,qb_,by first | exact Kd.S_nil _ _ _ _ _ | exact Kd.N_nil _ _ _ _ _ | exact Kd.V_nil _ _ _ _ _ | exact Kd.Q_nil _ _ _ _ _ | exact Kd.R_nil _ _ _ _ _,by first | exact Kd.R_nil _ _ _ _ _ | exact Kd.N_nil _ _ _ _ _ | exact Kd.V_nil _ _ _ _ _ | exact Kd.Q_nil _ _ _ _ _ | exact Kd.S_nil _ _ _ _ _,hB_⟩
       ·rw [if_neg c60] at H
        have c60b0:decide (120 < (x5_2.length:Int)) = false:=oD_ c60
        have c60b1:decide (120 < x5_2.length) = false:=oD_ (by omega)
        clear c60
        have H':=A_ H
        clear H
        obtain ⟨Ao62,co62,eo62⟩:=Kd.N_slice HO_5.out
        subst eo62
        go_wp2
        go_roundg k2
        case measure=>have:=HK1.out;have:=HK2.out;omega
        case rel=>exact ⟨(x5_2),(x6_2),(wrap64 (x7_1 + 1)),qc_,H',⟨by have:=HK1.out;have:=HK2.out;omega⟩,⟨by (with_reducible repeat (first | apply Kd.N_alloc | apply Kd.N_drewN | apply Kd.N_drew));exact Kd.N_mono HO_5.out (fun _ hk=>⟨hk.1,⟨hk.2.1,hk.2.2.2⟩⟩)⟩,⟨(rr_ HO_6)⟩,⟨(kk_ BK280)⟩,⟨hB_⟩⟩
   ·rw [if_neg c12] at H
    have c12b0:=oD_ c12
    clear c12
    simp only [Option.some.injEq,Prod.mk.injEq] at H
    obtain ⟨rfl,rfl,rfl⟩:=H
    obtain ⟨Ao63,co63,eo63⟩:=Kd.N_slice HO_5.out
    subst eo63
    go_wp2
    go_ret3
    exact ⟨_,_,qb_,by (with_reducible repeat (first | apply Kd.N_alloc | apply Kd.N_drewN | apply Kd.N_drew));exact Kd.N_mono HO_5.out (fun _ hk=>⟨hk.1,hk.2.1⟩),(rr_ HO_6),hB_⟩
end Go.Proofs.YtcggfjpnfodbaaaGreat.A
end
section
namespace Go.Proofs.YtcggfjpnfodbaaaGreat.A
open Go.RowKit Go.Proofs.YtcggfjpnfodbaaaGreatW.PrintWords Go.Proofs.YtcggfjpnfodbaaaGreatW.PrintLast Go.Proofs.YtcggfjpnfodbaaaGreatW.PrintMore
attribute [local go_sem] max2_int min2_int max_two min_two max_three min_three max_four min_four
set_option linter.unusedVariables false
set_option linter.unusedSimpArgs false
def Z68.f (k:Nat) (l0_0:List Int) (l0_1:List Int):Option ((List (S27)) × Bool):=(Z44.f k l0_0 l0_1).bind fun t323=>(if t323 = true then ((Z60.f k l0_0 l0_1).bind fun bt324=>(some (bt324.1,bt324.2.2))) else (some (([]:List (S27)),false)))
theorem Z68.mono:∀ a0 a1 k,LeO (Z68.f k a0 a1) (Z68.f (k + 1) a0 a1):=by
 intro a0 a1 k
 unfold Z68.f
 repeat' first|exact Z44.mono _ _ _|exact Z60.mono _ _ _|exact lo_|refine LeO.ite ?_ ?_|refine LeO.bind ?_ (fun _=>?_)
set_option maxHeartbeats 8000000 in
set_option maxRecDepth 100000 in
theorem Z68.calls (k:Nat) (A0_0:Option Addr) (c0_0:Nat) (l0_0:List Int) (A0_1:Option Addr) (c0_1:Nat) (l0_1:List Int) (r1:List (S27)) (r2:Bool) (w:World) (hr0_0:Kd.C (Kd.int .i64) w A0_0 l0_0.length l0_0) (hc0_0:l0_0.length≤c0_0) (hr0_1:Kd.C (Kd.int .i64) w A0_1 l0_1.length l0_1) (hc0_1:l0_1.length≤c0_1) (h:Z68.f k l0_0 l0_1 = some (r1,r2)) :
  Calls Tryz.prog 22 #[.agg #[.slice A0_0 l0_0.length c0_0,.slice A0_1 l0_1.length c0_1]] w fun e w'=>∃ v0_:Value,e = .returned (.tuple #[v0_,.bool r2])∧Kd.N k27 27 w' w.heap.size (fun k_=>(w.heap.size≤k_)) v0_ r1∧Below w.heap.size w w':=by
 have hu27:=Tryz.underlying27
 have HR0_0:=A_ hr0_0
 have HC0_0:=A_ hc0_0
 clear hr0_0 hc0_0
 have HR0_1:=A_ hr0_1
 have HC0_1:=A_ hc0_1
 clear hr0_1 hc0_1
 have HB:=A_ (Below.refl w.heap.size w)
 have H:=h
 unfold Z68.f at H
 clear h
 obtain ⟨t323,A2,H⟩:=bi_ H
 by_cases c3:t323 = true
 ·subst c3
  rw [if_pos rfl] at H
  obtain ⟨⟨t324,t327,t330⟩,A4,H⟩:=bi_ H
  try dsimp only at H
  simp only [Option.some.injEq,Prod.mk.injEq] at H
  obtain ⟨rfl,rfl⟩:=H
  go_enter Tryz.func22,Tryz.ntmps22
  go_wp2_with (first | ((with_reducible refine gB_ (N:=1) rfl ?_);refine bx_ 1 #[.slice A0_0 l0_0.length c0_0,.slice A0_1 l0_1.length c0_1] 27 ?_;intro gb322 hg w5 hbox hb;have BK322:=A_ hbox;have GW322:=gw_ w hg;have GE322:=GW322;replace HB:=b1_ hb;clear hb hbox hg;obtain ⟨hcz6_0,hcz6_1,hfz6_0,hfz6_1⟩:=c2_ BK322) | ((with_reducible refine gA_ (f:=32) rfl ?_);refine gL_ (some 8) Tryz.func32 #[.agg #[.slice A0_0 l0_0.length c0_0,.slice A0_1 l0_1.length c0_1]] rfl qa_ ?_;(with_reducible refine (Z44.calls k _ _ l0_0 _ _ l0_1 true _ (cb_ HR0_0) HC0_0.out (cb_ HR0_1) HC0_1.out A2.out).mono ?_);rintro e w7 ⟨rfl,hb⟩;refine ⟨_,rfl,?_⟩;replace BK322:=bb_ BK322 hb;replace HB:=b1_ hb;clear hb;obtain ⟨hcz8_0,hcz8_1,hfz8_0,hfz8_1⟩:=c2_ BK322) | ((with_reducible refine gA_ (f:=33) rfl ?_);refine gL_ (some 12) Tryz.func33 #[.agg #[.slice A0_0 l0_0.length c0_0,.slice A0_1 l0_1.length c0_1]] rfl qa_ ?_;(with_reducible refine (Z60.calls k _ _ l0_0 _ _ l0_1 t324 t327 t330 _ (cb_ HR0_0) HC0_0.out (cb_ HR0_1) HC0_1.out A4.out).mono ?_);rintro e w9 ⟨v325,v328,rfl,ho0,ho1,hb⟩;refine ⟨_,rfl,?_⟩;have HO326:=A_ (Kd.N_lower (Kd.N_mono (ok':=fun k_=>(w.heap.size≤k_)∧some k_≠(v328:Value).ownBlock∧k_≠gb322) ho0 (fun k_ hk_=>⟨(Nat.le_trans (bF_ hB_) hk_.1),hk_.2,(Kd.freshB (kk_ BK322) k_ hk_.1)⟩)) (bF_ hB_));have HO329:=A_ (rE_ (Kd.R_newM (M:=fun k_=>(w.heap.size≤k_)) (Kd.R_mono (ok':=fun k_=>True) ho1 (fun _ hk_=>trivial)) (bF_ hB_) (fun k_ h_=>h_)) (bF_ hB_));replace BK322:=bb_ BK322 hb;replace HB:=b1_ hb;clear hb ho0 ho1))
  go_ret2
  exact ⟨_,qb_,by (with_reducible repeat (first | apply Kd.N_alloc | apply Kd.N_drewN | apply Kd.N_drew));exact Kd.N_mono HO326.out (fun _ hk=>hk.1),hB_⟩
 ·replace c3:=Bool.eq_false_iff.mpr c3
  subst c3
  have H1:(some (([]:List (S27)),false)) = some (r1,r2):=by rw [if_neg (show ¬ (false = true) by decide)] at H;exact H
  clear H
  have H:=H1
  clear H1
  simp only [Option.some.injEq,Prod.mk.injEq] at H
  obtain ⟨rfl,rfl⟩:=H
  go_enter Tryz.func22,Tryz.ntmps22
  go_wp2_with (first | ((with_reducible refine gB_ (N:=1) rfl ?_);refine bx_ 1 #[.slice A0_0 l0_0.length c0_0,.slice A0_1 l0_1.length c0_1] 27 ?_;intro gb322 hg w10 hbox hb;have BK322:=A_ hbox;have GW322:=gw_ w hg;have GE322:=GW322;replace HB:=b1_ hb;clear hb hbox hg;obtain ⟨hcz11_0,hcz11_1,hfz11_0,hfz11_1⟩:=c2_ BK322) | ((with_reducible refine gA_ (f:=32) rfl ?_);refine gL_ (some 8) Tryz.func32 #[.agg #[.slice A0_0 l0_0.length c0_0,.slice A0_1 l0_1.length c0_1]] rfl qa_ ?_;(with_reducible refine (Z44.calls k _ _ l0_0 _ _ l0_1 false _ (cb_ HR0_0) HC0_0.out (cb_ HR0_1) HC0_1.out A2.out).mono ?_);rintro e w12 ⟨rfl,hb⟩;refine ⟨_,rfl,?_⟩;replace BK322:=bb_ BK322 hb;replace HB:=b1_ hb;clear hb))
  go_ret2
  exact ⟨_,qb_,by first | exact Kd.S_nil _ _ _ _ _ | exact Kd.N_nil _ _ _ _ _ | exact Kd.V_nil _ _ _ _ _ | exact Kd.Q_nil _ _ _ _ _ | exact Kd.R_nil _ _ _ _ _,hB_⟩
def Z50.l0:Nat→List (S27)→List Int→List (S27)→Int→Int→Option (List Int)
 | 0,_,_,_,_,_=>none
 | k + 1,x0,x3,x7,x8,x9=>if x9 < x8 then (if 0≤x9 then (if x9 < (x7.length:Int) then ((Z59.f k ((rd_T27 x7 x9).f0) ((rd_T27 x7 x9).f1)).bind fun bt336=>((Z57.f k bt336.1 bt336.2).bind fun bt342=>((Z74.f k x0 bt342.1 bt342.2).bind fun t348=>(if x3.length < 17592186044416 then (Z50.l0 k x0 (x3 ++ [t348]) x7 x8 (wrap64 (x9 + 1))) else (none))))) else (none)) else (none)) else (some x3)
def Z50.f (k:Nat) (l0:List (S27)):Option (List Int):=Z50.l0 k l0 (([]:List Int)) l0 (l0.length:Int) 0
theorem Z50.mono_l:∀ k,(∀ y0 y1 y2 y3 y4,LeO (Z50.l0 k y0 y1 y2 y3 y4) (Z50.l0 (k + 1) y0 y1 y2 y3 y4))
 | 0=>fun _ _ _ _ _ r h=>by simp [Z50.l0] at h
 | k + 1=>by
  have ih0:=Z50.mono_l k
  ·intro y0 y1 y2 y3 y4
   unfold Z50.l0
   repeat' first|exact ih0 _ _ _ _ _|exact Z57.mono _ _ _|exact Z59.mono _ _ _|exact Z74.mono _ _ _ _|exact lo_|refine LeO.ite ?_ ?_|refine LeO.bind ?_ (fun _=>?_)
theorem Z50.mono:∀ a0 k,LeO (Z50.f k a0) (Z50.f (k + 1) a0):=by
 intro a0 k
 have ih0:=Z50.mono_l k
 unfold Z50.f
 repeat' first|exact ih0 _ _ _ _ _|exact Z57.mono _ _ _|exact Z59.mono _ _ _|exact Z74.mono _ _ _ _|exact lo_|refine LeO.ite ?_ ?_|refine LeO.bind ?_ (fun _=>?_)
set_option maxHeartbeats 8000000 in
set_option maxRecDepth 100000 in
theorem Z50.calls (k:Nat) (A0:Option Addr) (c0:Nat) (l0:List (S27)) (r:List Int) (w:World) (hr0:Kd.C k27 w A0 l0.length l0) (hc0:l0.length≤c0) (h:Z50.f k l0 = some r) :
  Calls Tryz.prog 23 #[.slice A0 l0.length c0] w fun e w'=>∃ v0_:Value,e = .returned (v0_)∧Kd.R (Kd.int .i64) 3 w' w.heap.size (fun _=>True) v0_ r∧Below w.heap.size w w':=by
 have hu27:=Tryz.underlying27
 have HR0:=A_ hr0
 have HC0:=A_ hc0
 clear hr0 hc0
 have HB:=A_ (Below.refl w.heap.size w)
 have H:=h
 unfold Z50.f at H
 clear h
 obtain ⟨y331,hy331⟩:∃ y_:List Int,y_ = (([]:List Int)):=⟨_,rfl⟩
 replace H:(Z50.l0 k l0 y331 l0 (l0.length:Int) 0) = some r:=by first | (rw [hy331];exact H) | exact H
 have Ny331:=A_ hy331
 clear hy331
 have H':=A_ H
 clear H
 go_enter Tryz.func23,Tryz.ntmps23
 go_wp2_with (first | ((with_reducible refine gB_ (N:=6) rfl ?_);refine Kd.R_lit (Kd.int .i64) _ 3 ?hg (N:=6) ?hd (xs:=([]:List Int)) (inner:=[]) (ok:=fun _=>True) (okp:=fun _=>True) ?hr ?hp (fun _ hk=>hk) trivial (Below.refl _ _) (nA_ _) (by simp) ?_;(case hd=>rfl);(case hg=>rfl);(case hr=>first | (go_simp;done) | (go_simp;rfl));(case hp=>exact (Reps.none _ _));intro v332 w2 ho3 hb hg_ hnew_;clear hg_ hnew_;(first | rw [← Ny331.out] at ho3 | (simp only [Int.reduceToNat] at ho3;rw [← Ny331.out] at ho3));have HO333:=rl_ w ho3;replace HB:=b1_ hb;clear hb ho3))
 go_loopg [3,9] k (fun kq v3 v9 w'=>∃ (x3_1:List Int) (x9_1:Int),v9 = .int .i64 x9_1∧Aside0 (Z50.l0 kq l0 x3_1 l0 (l0.length:Int) x9_1 = some r)∧Aside0 (kq≤k)∧Aside0 (Kd.R (Kd.int .i64) 3 w' w.heap.size (fun _=>True) v3 x3_1)∧Aside0 (Below w.heap.size w w'))
 case atStart=>exact ⟨(y331),(0),qc_,H',⟨nA_ _⟩,⟨(rr_ HO333)⟩,⟨hB_⟩⟩
 case round =>
  clear H'
  obtain ⟨x3_1,x9_1,rfl,HA,HK1,HO_3,HB⟩:=hrel
  cases gk with
  | zero=>exact absurd HA.out (by simp [Z50.l0])
  | succ k1 =>
   have H:=HA.out
   clear HA
   simp only [Z50.l0] at H
   by_cases c4:x9_1 < (l0.length:Int)
   ·rw [if_pos c4] at H
    have c4b0:=oC_ c4
    clear c4
    have c5:=cp_ H
    replace H:=ca_ H
    have c5b0:=oC_ c5
    clear c5
    have c6:=cp_ H
    replace H:=ca_ H
    have c6b0:=oC_ c6
    clear c6
    obtain ⟨⟨t336,t339⟩,A7,H⟩:=bi_ H
    try dsimp only at H
    obtain ⟨⟨t342,t345⟩,A8,H⟩:=bi_ H
    try dsimp only at H
    obtain ⟨t348,A9,H⟩:=bi_ H
    have c10:=cp_ H
    replace H:=ca_ H
    have LMc10:=A_ c10
    clear c10
    obtain ⟨y349,hy349⟩:∃ y_:List Int,y_ = (x3_1 ++ [t348]):=⟨_,rfl⟩
    replace H:(Z50.l0 k1 l0 y349 l0 (l0.length:Int) (wrap64 (x9_1 + 1))) = some r:=by first | (rw [hy349];exact H) | exact H
    have Ny349:=A_ hy349
    clear hy349
    have H':=A_ H
    clear H
    have p334:0≤(x9_1:Int):=oB_ qe_
    have q334:x9_1 < (l0.length:Int):=oB_ qe_
    obtain ⟨ad334,A334_0,c334_0,A334_1,c334_1,e334,hx334_0,hx334_1,hl334_0,hi334_0,hl334_1,hi334_1⟩:=at_T27 HR0.out x9_1 p334 q334
    cases e334
    replace hx334_0:=(HB.out.cell (World.block_lt_of_cell? w _ hx334_0)).trans hx334_0
    replace hx334_1:=(HB.out.cell (World.block_lt_of_cell? w _ hx334_1)).trans hx334_1
    have HR334_0:=A_ hi334_0
    have HC334_0:=A_ hl334_0
    clear hi334_0 hl334_0
    have HR334_1:=A_ hi334_1
    have HC334_1:=A_ hl334_1
    clear hi334_1 hl334_1
    replace p334:=eq_true p334
    replace q334:=eq_true q334
    go_wp2_with (first | ((with_reducible refine gB_ (N:=5) rfl ?_);refine bx_ 5 #[.slice none 0 0,.slice none 0 0] 27 ?_;intro gb335 hg w11 hbox hb;replace HO_3:=rb_ HO_3 hb;have BK335:=A_ hbox;have GW335:=gw_ w hg;have GE335:=GW335;replace HB:=b1_ hb;clear hb hbox hg;obtain ⟨hcz12_0,hcz12_1,hfz12_0,hfz12_1⟩:=c2_ BK335) | ((with_reducible refine gA_ (f:=36) rfl ?_);refine gL_ (some 16) Tryz.func36 #[.agg #[.slice A334_0 ((rd_T27 l0 x9_1).f0).length c334_0,.slice A334_1 ((rd_T27 l0 x9_1).f1).length c334_1]] rfl qa_ ?_;(with_reducible refine (Z59.calls k1 _ _ ((rd_T27 l0 x9_1).f0) _ _ ((rd_T27 l0 x9_1).f1) t336 t339 _ (cD_ HR334_0.out hB_) HC334_0.out (cD_ HR334_1.out hB_) HC334_1.out A7.out).mono ?_);rintro e w13 ⟨v337,v340,rfl,ho0,ho1,hb⟩;refine ⟨_,rfl,?_⟩;have HO338:=A_ (rE_ (Kd.R_new' ho0 (Kd.R_lt (rw_ (Kd.R_mono (Kd.R_far (p:=⟨gb335,1,none⟩) (Kd.R_far (p:=⟨gb335,0,none⟩) (Kd.R_types HO_3.out BK335.out (by decide)) (fun _ hk=>hk.2) (.slice A334_0 ((rd_T27 l0 x9_1).f0).length c334_0)) (fun _ hk=>hk.2) (.slice A334_1 ((rd_T27 l0 x9_1).f1).length c334_1)) (fun _ h_=>h_.1))))) (bF_ hB_));have HO341:=A_ (rE_ (Kd.R_new' ho1 (Kd.R_lt (rw_ (Kd.R_mono (Kd.R_far (p:=⟨gb335,1,none⟩) (Kd.R_far (p:=⟨gb335,0,none⟩) (Kd.R_types HO_3.out BK335.out (by decide)) (fun _ hk=>hk.2) (.slice A334_0 ((rd_T27 l0 x9_1).f0).length c334_0)) (fun _ hk=>hk.2) (.slice A334_1 ((rd_T27 l0 x9_1).f1).length c334_1)) (fun _ h_=>h_.1))))) (bF_ hB_));replace HO_3:=A_ (Kd.R_mono (Kd.R_told (Kd.R_told (Kd.R_old (rw_ (Kd.R_mono (Kd.R_far (p:=⟨gb335,1,none⟩) (Kd.R_far (p:=⟨gb335,0,none⟩) (Kd.R_types HO_3.out BK335.out (by decide)) (fun _ hk=>hk.2) (.slice A334_0 ((rd_T27 l0 x9_1).f0).length c334_0)) (fun _ hk=>hk.2) (.slice A334_1 ((rd_T27 l0 x9_1).f1).length c334_1)) (fun _ h_=>h_.1))) hb) (Kd.R_base ho0)) (Kd.R_base ho1)) (fun _ h_=>h_.1));replace BK335:=A_ (kE_ (g:=gb335) (o:=.cells #[.slice A334_0 ((rd_T27 l0 x9_1).f0).length c334_0,.slice A334_1 ((rd_T27 l0 x9_1).f1).length c334_1] 27 (0,0)) qp_ hb);replace HB:=b1_ hb;clear hb ho0 ho1;obtain ⟨Ao14,co14,eo14⟩:=Kd.R_slice HO338.out;subst eo14;obtain ⟨Ao15,co15,eo15⟩:=Kd.R_slice HO341.out;subst eo15) | ((with_reducible refine gA_ (f:=35) rfl ?_);refine gL_ (some 17) Tryz.func35 #[.agg #[.slice Ao14 t336.length co14,.slice Ao15 t339.length co15]] rfl qa_ ?_;(with_reducible refine (Z57.calls k1 _ _ t336 _ _ t339 t342 t345 _ (cr_ HO338) ((Kd.R_reads' HO338.out).2.1) (cr_ HO341) ((Kd.R_reads' HO341.out).2.1) A8.out).mono ?_);rintro e w16 ⟨v343,v346,rfl,ho0,ho1,hb⟩;refine ⟨_,rfl,?_⟩;have HO344:=A_ (rE_ (Kd.R_new' (Kd.R_new' (Kd.R_new' ho0 (Kd.R_lt (rr_ HO_3))) (Kd.R_lt (rr_ HO338))) (Kd.R_lt (rr_ HO341))) (bF_ hB_));have HO347:=A_ (rE_ (Kd.R_new' (Kd.R_new' (Kd.R_new' ho1 (Kd.R_lt (rr_ HO_3))) (Kd.R_lt (rr_ HO338))) (Kd.R_lt (rr_ HO341))) (bF_ hB_));replace HO_3:=A_ (Kd.R_mono (Kd.R_told (Kd.R_told (Kd.R_old (rr_ HO_3) hb) (Kd.R_base ho0)) (Kd.R_base ho1)) (fun _ h_=>h_.1));replace HO338:=A_ (Kd.R_mono (Kd.R_told (Kd.R_told (Kd.R_old (rr_ HO338) hb) (Kd.R_base ho0)) (Kd.R_base ho1)) (fun _ h_=>h_.1));replace HO341:=A_ (Kd.R_mono (Kd.R_told (Kd.R_told (Kd.R_old (rr_ HO341) hb) (Kd.R_base ho0)) (Kd.R_base ho1)) (fun _ h_=>h_.1));replace BK335:=bb_ BK335 hb;replace HB:=b1_ hb;clear hb ho0 ho1;obtain ⟨Ao17,co17,eo17⟩:=Kd.R_slice HO344.out;subst eo17;obtain ⟨Ao18,co18,eo18⟩:=Kd.R_slice HO347.out;subst eo18) | ((with_reducible refine gA_ (f:=34) rfl ?_);refine gL_ (some 18) Tryz.func34 #[.slice (some ad334) l0.length c0,.agg #[.slice Ao17 t342.length co17,.slice Ao18 t345.length co18]] rfl qa_ ?_;(with_reducible refine (Z74.calls k1 _ _ l0 _ _ t342 _ _ t345 t348 _ (cb_ HR0) HC0.out (cr_ HO344) ((Kd.R_reads' HO344.out).2.1) (cr_ HO347) ((Kd.R_reads' HO347.out).2.1) A9.out).mono ?_);rintro e w19 ⟨rfl,hb⟩;refine ⟨_,rfl,?_⟩;replace HO_3:=rb_ HO_3 hb;replace HO338:=rb_ HO338 hb;replace HO341:=rb_ HO341 hb;replace HO344:=rb_ HO344 hb;replace HO347:=rb_ HO347 hb;replace BK335:=bb_ BK335 hb;replace HB:=b1_ hb;clear hb) | ((with_reducible refine gate_builtin (b:=.append) (xs:=#[.tmp 13,.tmp 19]) rfl ?_);at_builtin;refine Kd.R_append (Kd.int .i64) (w0:=w) w.heap.size rfl (.tmp 13) (.tmp 19) 22 3 (.int .i64 0) 8 rfl Tryz.underlying22 info3 rfl (by decide) (by omega) u3 x3_1 t348 [.int .i64 t348] (fun k_=>some k_≠(.slice Ao14 t336.length co14:Value).ownBlock∧some k_≠(.slice Ao15 t339.length co15:Value).ownBlock∧some k_≠(.slice Ao17 t342.length co17:Value).ownBlock∧some k_≠(.slice Ao18 t345.length co18:Value).ownBlock) (fun _=>False) rfl rfl ?aP (fun _ hk=>hk.elim) ?aF ?aO ?aB ?aS ?aL ?_;(case aP=>exact rfl);(case aB=>exact hB_);(case aF=>exact (fun k_ hk=>⟨Kd.fresh' (Kd.R_lt (rr_ HO338)) k_ hk,Kd.fresh' (Kd.R_lt (rr_ HO341)) k_ hk,Kd.fresh' (Kd.R_lt (rr_ HO344)) k_ hk,Kd.fresh' (Kd.R_lt (rr_ HO347)) k_ hk⟩));(case aO=>exact (rw_ (Kd.R_mono HO_3.out (fun _ hk=>⟨hk.1.1.1.2,⟨hk.1.1.2,⟨hk.1.2,hk.2⟩⟩⟩))));(case aS=>exact (bF_ hB_));(case aL=>have:=LMc10.out;omega);intro v350 w20 ho hb hg hat;rw [← Ny349.out] at ho;replace BK335:=A_ (blk_grown (kk_ BK335) hg (Kd.R_ne HO_3.out BK335.out (by decide)));replace HO338:=A_ (Kd.R_after (ok:=(fun k_=>some k_≠(.slice Ao15 t339.length co15:Value).ownBlock∧some k_≠(.slice Ao17 t342.length co17:Value).ownBlock∧some k_≠(.slice Ao18 t345.length co18:Value).ownBlock)) (rw_ (Kd.R_mono HO338.out (fun _ hk=>⟨⟨hk.1.1.1,⟨hk.1.2,hk.2⟩⟩,hk.1.1.2⟩))) hg hat);replace HO341:=A_ (Kd.R_after (ok:=(fun k_=>some k_≠(.slice Ao14 t336.length co14:Value).ownBlock∧some k_≠(.slice Ao17 t342.length co17:Value).ownBlock∧some k_≠(.slice Ao18 t345.length co18:Value).ownBlock)) (rw_ (Kd.R_mono HO341.out (fun _ hk=>⟨⟨hk.1.1.1,⟨hk.1.2,hk.2⟩⟩,hk.1.1.2⟩))) hg hat);replace HO344:=A_ (Kd.R_after (ok:=(fun k_=>some k_≠(.slice Ao14 t336.length co14:Value).ownBlock∧some k_≠(.slice Ao15 t339.length co15:Value).ownBlock∧some k_≠(.slice Ao18 t345.length co18:Value).ownBlock)) (rw_ (Kd.R_mono HO344.out (fun _ hk=>⟨⟨hk.1.2,⟨hk.2,hk.1.1.1⟩⟩,hk.1.1.2⟩))) hg hat);replace HO347:=A_ (Kd.R_after (ok:=(fun k_=>some k_≠(.slice Ao14 t336.length co14:Value).ownBlock∧some k_≠(.slice Ao15 t339.length co15:Value).ownBlock∧some k_≠(.slice Ao17 t342.length co17:Value).ownBlock)) (rw_ (Kd.R_mono HO347.out (fun _ hk=>⟨⟨hk.1.2,⟨hk.2,hk.1.1.1⟩⟩,hk.1.1.2⟩))) hg hat);replace HB:=A_ hb;have HO351:=A_ ho;clear HO_3;clear ho hb hg hat))
    go_roundg k1
    case measure=>have:=HK1.out;omega
    case rel=>exact ⟨(y349),(wrap64 (x9_1 + 1)),qc_,H',⟨by have:=HK1.out;omega⟩,⟨(rw_ (Kd.R_mono HO351.out (fun _ hk=>trivial)))⟩,⟨hB_⟩⟩
   ·rw [if_neg c4] at H
    have c4b0:=oD_ c4
    clear c4
    obtain rfl:=Option.some.inj H
    go_wp2
    go_ret
    exact ⟨_,qb_,(rr_ HO_3),hB_⟩
end Go.Proofs.YtcggfjpnfodbaaaGreat.A
end
section
namespace Go.Proofs.YtcggfjpnfodbaaaGreat.A
open Go.RowKit Go.Proofs.YtcggfjpnfodbaaaGreatW.PrintWords Go.Proofs.YtcggfjpnfodbaaaGreatW.PrintLast Go.Proofs.YtcggfjpnfodbaaaGreatW.PrintMore
attribute [local go_sem] max2_int min2_int max_two min_two max_three min_three max_four min_four
set_option linter.unusedVariables false
set_option linter.unusedSimpArgs false
mutual
def Z72.l0:Nat→List Int→List Int→Int→Int→Option (List Int)
 | 0,_,_,_,_=>none
 | k + 1,x3,x8,x9,x10=>if x10 < x9 then (if 0≤x10 then (if x10 < (x8.length:Int) then (if x3.length < 17592186044416 then ((some (x3 ++ [0]:List Int)).bind fun y356=>(Z72.l1 k y356 (rd x8 x10) (wrap64 ((y356.length:Int) - 1)) x8 x9 x10)) else (none)) else (none)) else (none)) else (some x3)
def Z72.l1:Nat→List Int→Int→Int→List Int→Int→Int→Option (List Int)
 | 0,_,_,_,_,_,_=>none
 | k + 1,x3,x5,x6,x8,x9,x10=>if x6 > 0 then (if 0≤(wrap64 (x6 - 1)) then (if (wrap64 (x6 - 1)) < (x3.length:Int) then (if (rd x3 (wrap64 (x6 - 1))) < x5 then (if 0≤x6 then (if x6 < (x3.length:Int) then (Z72.l1 k (x3.set (x6:Int).toNat (rd x3 (wrap64 (x6 - 1)))) x5 (wrap64 (x6 - 1)) x8 x9 x10) else (none)) else (none)) else (if 0≤x6 then (if x6 < (x3.length:Int) then (Z72.l0 k (x3.set (x6:Int).toNat x5) x8 x9 (wrap64 (x10 + 1))) else (none)) else (none))) else (none)) else (none)) else (if 0≤x6 then (if x6 < (x3.length:Int) then (Z72.l0 k (x3.set (x6:Int).toNat x5) x8 x9 (wrap64 (x10 + 1))) else (none)) else (none))
end
def Z72.f (k:Nat) (l0:List Int):Option (List Int):=Z72.l0 k (([]:List Int)) l0 (l0.length:Int) 0
theorem Z72.mono_l:∀ k,(∀ y0 y1 y2 y3,LeO (Z72.l0 k y0 y1 y2 y3) (Z72.l0 (k + 1) y0 y1 y2 y3))∧(∀ y0 y1 y2 y3 y4 y5,LeO (Z72.l1 k y0 y1 y2 y3 y4 y5) (Z72.l1 (k + 1) y0 y1 y2 y3 y4 y5))
 | 0=>⟨fun _ _ _ _ r h=>by simp [Z72.l0] at h,fun _ _ _ _ _ _ r h=>by simp [Z72.l1] at h⟩
 | k + 1=>by
  obtain ⟨ih0,ih1⟩:=Z72.mono_l k
  refine ⟨?_,?_⟩
  ·intro y0 y1 y2 y3
   unfold Z72.l0
   repeat' first|exact ih0 _ _ _ _|exact ih1 _ _ _ _ _ _|exact lo_|refine LeO.ite ?_ ?_|refine LeO.bind ?_ (fun _=>?_)
  ·intro y0 y1 y2 y3 y4 y5
   unfold Z72.l1
   repeat' first|exact ih0 _ _ _ _|exact ih1 _ _ _ _ _ _|exact lo_|refine LeO.ite ?_ ?_|refine LeO.bind ?_ (fun _=>?_)
theorem Z72.mono:∀ a0 k,LeO (Z72.f k a0) (Z72.f (k + 1) a0):=by
 intro a0 k
 obtain ⟨ih0,ih1⟩:=Z72.mono_l k
 unfold Z72.f
 repeat' first|exact ih0 _ _ _ _|exact ih1 _ _ _ _ _ _|exact lo_|refine LeO.ite ?_ ?_|refine LeO.bind ?_ (fun _=>?_)
set_option maxHeartbeats 8000000 in
set_option maxRecDepth 100000 in
theorem Z72.calls (k:Nat) (A0:Option Addr) (c0:Nat) (l0:List Int) (r:List Int) (w:World) (hr0:Kd.C (Kd.int .i64) w A0 l0.length l0) (hc0:l0.length≤c0) (h:Z72.f k l0 = some r) :
  Calls Tryz.prog 24 #[.slice A0 l0.length c0] w fun e w'=>∃ v0_:Value,e = .returned (v0_)∧Kd.R (Kd.int .i64) 3 w' w.heap.size (fun _=>True) v0_ r∧Below w.heap.size w w':=by
 have HR0:=A_ hr0
 have HC0:=A_ hc0
 clear hr0 hc0
 have HB:=A_ (Below.refl w.heap.size w)
 have H:=h
 unfold Z72.f at H
 clear h
 obtain ⟨y352,hy352⟩:∃ y_:List Int,y_ = (([]:List Int)):=⟨_,rfl⟩
 replace H:(Z72.l0 k y352 l0 (l0.length:Int) 0) = some r:=by first | (rw [hy352];exact H) | exact H
 have Ny352:=A_ hy352
 clear hy352
 have H':=A_ H
 clear H
 go_enter Tryz.func24,Tryz.ntmps24
 go_wp2_with (first | ((with_reducible refine gB_ (N:=7) rfl ?_);refine Kd.R_lit (Kd.int .i64) _ 3 ?hg (N:=7) ?hd (xs:=([]:List Int)) (inner:=[]) (ok:=fun _=>True) (okp:=fun _=>True) ?hr ?hp (fun _ hk=>hk) trivial (Below.refl _ _) (nA_ _) (by simp) ?_;(case hd=>rfl);(case hg=>rfl);(case hr=>first | (go_simp;done) | (go_simp;rfl));(case hp=>exact (Reps.none _ _));intro v353 w2 ho3 hb hg_ hnew_;clear hg_ hnew_;(first | rw [← Ny352.out] at ho3 | (simp only [Int.reduceToNat] at ho3;rw [← Ny352.out] at ho3));have HO354:=rl_ w ho3;replace HB:=b1_ hb;clear hb ho3))
 go_loopg [3,10] k (fun kq v3 v10 w'=>∃ (x3_1:List Int) (x10_1:Int),v10 = .int .i64 x10_1∧Aside0 (Z72.l0 kq x3_1 l0 (l0.length:Int) x10_1 = some r)∧Aside0 (kq≤k)∧Aside0 (Kd.R (Kd.int .i64) 3 w' w.heap.size (fun _=>True) v3 x3_1)∧Aside0 (Below w.heap.size w w'))
 case atStart=>exact ⟨(y352),(0),qc_,H',⟨nA_ _⟩,⟨(rr_ HO354)⟩,⟨hB_⟩⟩
 case round =>
  clear H'
  obtain ⟨x3_1,x10_1,rfl,HA,HK1,HO_3,HB⟩:=hrel
  cases gk with
  | zero=>exact absurd HA.out (by simp [Z72.l0])
  | succ k1 =>
   have H:=HA.out
   clear HA
   simp only [Z72.l0] at H
   by_cases c4:x10_1 < (l0.length:Int)
   ·rw [if_pos c4] at H
    have c4b0:=oC_ c4
    clear c4
    have c5:=cp_ H
    replace H:=ca_ H
    have c5b0:=oC_ c5
    clear c5
    have c6:=cp_ H
    replace H:=ca_ H
    have c6b0:=oC_ c6
    clear c6
    have c7:=cp_ H
    replace H:=ca_ H
    have LMc7:=A_ c7
    clear c7
    obtain ⟨y356,hy356⟩:∃ y_:List Int,y_ = (x3_1 ++ [0]):=⟨_,rfl⟩
    replace H:(Z72.l1 k1 y356 (rd l0 x10_1) (wrap64 ((y356.length:Int) - 1)) l0 (l0.length:Int) x10_1) = some r:=by first | (rw [hy356];exact H) | exact H
    have Ny356:=A_ hy356
    clear hy356
    have H':=A_ H
    clear H
    have p355:0≤(x10_1:Int):=oB_ qe_
    have q355:x10_1 < (l0.length:Int):=oB_ qe_
    obtain ⟨ad355,e355,hx355_0⟩:=Kd.at_int HR0.out x10_1 p355 q355
    cases e355
    replace hx355_0:=(HB.out.cell (World.block_lt_of_cell? w _ hx355_0)).trans hx355_0
    replace p355:=eq_true p355
    replace q355:=eq_true q355
    go_wp2_with (first | ((with_reducible refine gate_builtin (b:=.append) (xs:=#[.tmp 14,.tmp 15]) rfl ?_);at_builtin;refine Kd.R_append (Kd.int .i64) (w0:=w) w.heap.size rfl (.tmp 14) (.tmp 15) 22 3 (.int .i64 0) 8 rfl Tryz.underlying22 info3 rfl (by decide) (by omega) u3 x3_1 0 [.int .i64 0] (fun _=>True) (fun _=>False) rfl rfl ?aP (fun _ hk=>hk.elim) ?aF ?aO ?aB ?aS ?aL ?_;(case aP=>exact rfl);(case aB=>exact hB_);(case aF=>exact (fun _ _=>trivial));(case aO=>exact (rr_ HO_3));(case aS=>exact (bF_ hB_));(case aL=>have:=LMc7.out;omega);intro v357 w8 ho hb hg hat;rw [← Ny356.out] at ho;replace HB:=A_ hb;have HO358:=A_ ho;clear HO_3;clear ho hb hg hat;obtain ⟨Ao9,co9,eo9⟩:=Kd.R_slice HO358.out;subst eo9))
    go_loopg [6] k1 (fun kq v6 w'=>∃ (x3_2:List Int) (x6_2:Int),v6 = .int .i64 x6_2∧Aside0 (Z72.l1 kq x3_2 (rd l0 x10_1) x6_2 l0 (l0.length:Int) x10_1 = some r)∧Aside0 (kq≤k1)∧Aside0 (Kd.R (Kd.int .i64) 3 w' w.heap.size (fun _=>True) (.slice Ao9 y356.length co9) x3_2)∧Aside0 (Below w.heap.size w w'))
    case atStart=>exact ⟨(y356),(wrap64 ((y356.length:Int) - 1)),qc_,H',⟨nA_ _⟩,⟨(rr_ HO358)⟩,⟨hB_⟩⟩
    case round =>
     clear H'
     obtain ⟨x3_2,x6_2,rfl,HA,HK2,HO_3,HB⟩:=hrel
     have hl3_2:=(Kd.R_reads' HO_3.out).1
     rw [hl3_2] at HO_3
     (try simp only [hl3_2])
     cases gk with
     | zero=>exact absurd HA.out (by simp [Z72.l1])
     | succ k2 =>
      have H:=HA.out
      clear HA
      simp only [Z72.l1] at H
      by_cases c10:x6_2 > 0
      ·rw [if_pos c10] at H
       have c10b0:decide (0 < x6_2) = true:=oC_ c10
       clear c10
       obtain ⟨ji11,hji11⟩:∃ j_:Int,(wrap64 (x6_2 - 1)) = j_:=⟨_,rfl⟩
       replace H:(if 0≤(ji11) then (if (ji11) < (x3_2.length:Int) then (if (rd x3_2 (ji11)) < (rd l0 x10_1) then (if 0≤x6_2 then (if x6_2 < (x3_2.length:Int) then (Z72.l1 k2 (x3_2.set (x6_2:Int).toNat (rd x3_2 (ji11))) (rd l0 x10_1) ji11 l0 (l0.length:Int) x10_1) else (none)) else (none)) else (if 0≤x6_2 then (if x6_2 < (x3_2.length:Int) then (Z72.l0 k2 (x3_2.set (x6_2:Int).toNat (rd l0 x10_1)) l0 (l0.length:Int) (wrap64 (x10_1 + 1))) else (none)) else (none))) else (none)) else (none)) = some r:=by first | (rw [hji11] at H;exact H) | (simp only [hji11] at H ⊢;exact H)
       have hji11w:(IntKind.i64.wrap (x6_2 - 1)) = ji11:=(i64_w _).trans hji11
       have c12:=cp_ H
       replace H:=ca_ H
       have c12b0:=oC_ c12
       clear c12
       have c13:=cp_ H
       replace H:=ca_ H
       have c13b0:=oC_ c13
       clear c13
       by_cases c14:(rd x3_2 (ji11)) < (rd l0 x10_1)
       ·rw [if_pos c14] at H
        have c14b0:=oC_ c14
        clear c14
        have c15:=cp_ H
        replace H:=ca_ H
        have c15b0:=oC_ c15
        clear c15
        have c16:=cp_ H
        replace H:=ca_ H
        have c16b0:=oC_ c16
        clear c16
        obtain ⟨y361,hy361⟩:∃ y_:List Int,y_ = (x3_2.set (x6_2:Int).toNat (rd x3_2 (ji11))):=⟨_,rfl⟩
        replace H:(Z72.l1 k2 y361 (rd l0 x10_1) ji11 l0 (l0.length:Int) x10_1) = some r:=by first | (rw [hy361];exact H) | exact H
        have Ny361:=A_ hy361
        clear hy361
        have H':=A_ H
        clear H
        have p359:0≤((ji11):Int):=oB_ qe_
        have q359:(ji11) < (x3_2.length:Int):=oB_ qe_
        obtain ⟨ad359,e359,hx359_0⟩:=Kd.at_int (Kd.R_reads' HO_3.out).2.2 (ji11) p359 q359
        cases e359
        replace p359:=eq_true p359
        replace q359:=eq_true q359
        have p360:0≤((ji11):Int):=oB_ qe_
        have q360:(ji11) < (x3_2.length:Int):=oB_ qe_
        obtain ⟨ad360,e360,hx360_0⟩:=Kd.at_int (Kd.R_reads' HO_3.out).2.2 (ji11) p360 q360
        obtain rfl:ad359 = ad360:=(by injection e360)
        replace p360:=eq_true p360
        replace q360:=eq_true q360
        have p17:0≤(x6_2:Int):=oB_ qe_
        have q17:(x6_2:Int) < ((x3_2.length:Int):Int):=oB_ qe_
        obtain ⟨go17,co17,eo17,gb17,gl17,cl17,HG17⟩:=Kd.R_form HO_3.out (by omega)
        (first | cases eo17 | (injection eo17 with ea_ en_ ec_;(first | subst ea_ | (injection ea_ with ea_;subst ea_));subst ec_;clear en_))
        have GB17:=A_ gb17
        have GG17:=A_ HG17
        clear gb17 gl17 HG17
        (first | simp only [add_plain] at hx359_0 | skip)
        (first | simp only [add_plain] at hx360_0 | skip)
        obtain ⟨hx17_0,hf17_0⟩:=Kd.R_celln 0 HO_3.out (x6_2:Int) p17 q17
        replace p17:=eq_true p17
        replace q17:=eq_true q17
        have HP18:=Kd.R_putg HO_3.out (x6_2:Int) (rd x3_2 (ji11))
        go_wp2_with (first | ((with_reducible refine gate_store (t:=3) (p:=38) rfl ?_);refine store_event (t:=3) (p:=38) (v:=?vo_w19) (w1:=(wr.setCell ⟨go17,(x6_2:Int).toNat,none⟩ (.int .i64 (rd x3_2 (ji11))))) ?hg ?ho ?hn ?hr ?_;(case ho=>rfl);(case hg=>rfl);(case hn=>rfl);(case hr=>first | (go_simp;done) | (go_simp;rfl));intro w19 hw;have hg:wr.grownBy w19 (some go17):=(by rw [hw];exact HP18.2);have hp_:Kd.R (Kd.int .i64) 3 w19 w.heap.size (fun _=>True) (.slice (some ⟨go17,0,none⟩) x3_2.length co9) y361:=(by rw [hw,Ny361.out];exact HP18.1);clear HP18;replace HO_3:=A_ (hp_);replace HB:=A_ ((by rw [hw];exact bD_ (HB.out) GB17.out:Below w.heap.size w w19));clear hg hw hp_))
        (try simp only [← hl3_2])
        go_roundg k2
        case measure=>have:=HK1.out;have:=HK2.out;omega
        case rel=>exact ⟨(y361),(ji11),(by first | rfl | (simp;done) | (simp only [← hji11] <;> (first | rfl | simp)) | (simp [*];done)),H',⟨by have:=HK1.out;have:=HK2.out;omega⟩,⟨by (try simp only [hl3_2]);(with_reducible repeat (first | apply rA_ | apply rB_ | apply rC_));exact HO_3.out⟩,⟨hB_⟩⟩
       ·rw [if_neg c14] at H
        have c14b0:=oD_ c14
        clear c14
        have c20:=cp_ H
        replace H:=ca_ H
        have c20b0:=oC_ c20
        clear c20
        have c21:=cp_ H
        replace H:=ca_ H
        have c21b0:=oC_ c21
        clear c21
        obtain ⟨y362,hy362⟩:∃ y_:List Int,y_ = (x3_2.set (x6_2:Int).toNat (rd l0 x10_1)):=⟨_,rfl⟩
        replace H:(Z72.l0 k2 y362 l0 (l0.length:Int) (wrap64 (x10_1 + 1))) = some r:=by first | (rw [hy362];exact H) | exact H
        have Ny362:=A_ hy362
        clear hy362
        have H':=A_ H
        clear H
        have p359:0≤((ji11):Int):=oB_ qe_
        have q359:(ji11) < (x3_2.length:Int):=oB_ qe_
        obtain ⟨ad359,e359,hx359_0⟩:=Kd.at_int (Kd.R_reads' HO_3.out).2.2 (ji11) p359 q359
        cases e359
        replace p359:=eq_true p359
        replace q359:=eq_true q359
        have p22:0≤(x6_2:Int):=oB_ qe_
        have q22:(x6_2:Int) < ((x3_2.length:Int):Int):=oB_ qe_
        obtain ⟨go22,co22,eo22,gb22,gl22,cl22,HG22⟩:=Kd.R_form HO_3.out (by omega)
        (first | cases eo22 | (injection eo22 with ea_ en_ ec_;(first | subst ea_ | (injection ea_ with ea_;subst ea_));subst ec_;clear en_))
        have GB22:=A_ gb22
        have GG22:=A_ HG22
        clear gb22 gl22 HG22
        (first | simp only [add_plain] at hx359_0 | skip)
        obtain ⟨hx22_0,hf22_0⟩:=Kd.R_celln 0 HO_3.out (x6_2:Int) p22 q22
        replace p22:=eq_true p22
        replace q22:=eq_true q22
        have HP23:=Kd.R_putg HO_3.out (x6_2:Int) (rd l0 x10_1)
        go_wp2_with (first | ((with_reducible refine gate_store (t:=3) (p:=44) rfl ?_);refine store_event (t:=3) (p:=44) (v:=?vo_w24) (w1:=(wr.setCell ⟨go22,(x6_2:Int).toNat,none⟩ (.int .i64 (rd l0 x10_1)))) ?hg ?ho ?hn ?hr ?_;(case ho=>rfl);(case hg=>rfl);(case hn=>rfl);(case hr=>first | (go_simp;done) | (go_simp;rfl));intro w24 hw;have hg:wr.grownBy w24 (some go22):=(by rw [hw];exact HP23.2);have hp_:Kd.R (Kd.int .i64) 3 w24 w.heap.size (fun _=>True) (.slice (some ⟨go22,0,none⟩) x3_2.length co9) y362:=(by rw [hw,Ny362.out];exact HP23.1);clear HP23;replace HO_3:=A_ (hp_);replace HB:=A_ ((by rw [hw];exact bD_ (HB.out) GB22.out:Below w.heap.size w w24));clear hg hw hp_))
        (try simp only [← hl3_2])
        go_roundg k2
        case measure=>have:=HK1.out;have:=HK2.out;omega
        case rel=>exact ⟨(y362),(wrap64 (x10_1 + 1)),qc_,H',⟨by have:=HK1.out;have:=HK2.out;omega⟩,⟨by (try simp only [hl3_2]);(with_reducible repeat (first | apply rA_ | apply rB_ | apply rC_));exact HO_3.out⟩,⟨hB_⟩⟩
      ·rw [if_neg c10] at H
       have c10b0:decide (0 < x6_2) = false:=oD_ c10
       clear c10
       have c25:=cp_ H
       replace H:=ca_ H
       have c25b0:=oC_ c25
       clear c25
       have c26:=cp_ H
       replace H:=ca_ H
       have c26b0:=oC_ c26
       clear c26
       obtain ⟨y363,hy363⟩:∃ y_:List Int,y_ = (x3_2.set (x6_2:Int).toNat (rd l0 x10_1)):=⟨_,rfl⟩
       replace H:(Z72.l0 k2 y363 l0 (l0.length:Int) (wrap64 (x10_1 + 1))) = some r:=by first | (rw [hy363];exact H) | exact H
       have Ny363:=A_ hy363
       clear hy363
       have H':=A_ H
       clear H
       have p27:0≤(x6_2:Int):=oB_ qe_
       have q27:(x6_2:Int) < ((x3_2.length:Int):Int):=oB_ qe_
       obtain ⟨go27,co27,eo27,gb27,gl27,cl27,HG27⟩:=Kd.R_form HO_3.out (by omega)
       (first | cases eo27 | (injection eo27 with ea_ en_ ec_;(first | subst ea_ | (injection ea_ with ea_;subst ea_));subst ec_;clear en_))
       have GB27:=A_ gb27
       have GG27:=A_ HG27
       clear gb27 gl27 HG27
       obtain ⟨hx27_0,hf27_0⟩:=Kd.R_celln 0 HO_3.out (x6_2:Int) p27 q27
       replace p27:=eq_true p27
       replace q27:=eq_true q27
       have HP28:=Kd.R_putg HO_3.out (x6_2:Int) (rd l0 x10_1)
       go_wp2_with (first | ((with_reducible refine gate_store (t:=3) (p:=44) rfl ?_);refine store_event (t:=3) (p:=44) (v:=?vo_w29) (w1:=(wr.setCell ⟨go27,(x6_2:Int).toNat,none⟩ (.int .i64 (rd l0 x10_1)))) ?hg ?ho ?hn ?hr ?_;(case ho=>rfl);(case hg=>rfl);(case hn=>rfl);(case hr=>first | (go_simp;done) | (go_simp;rfl));intro w29 hw;have hg:wr.grownBy w29 (some go27):=(by rw [hw];exact HP28.2);have hp_:Kd.R (Kd.int .i64) 3 w29 w.heap.size (fun _=>True) (.slice (some ⟨go27,0,none⟩) x3_2.length co9) y363:=(by rw [hw,Ny363.out];exact HP28.1);clear HP28;replace HO_3:=A_ (hp_);replace HB:=A_ ((by rw [hw];exact bD_ (HB.out) GB27.out:Below w.heap.size w w29));clear hg hw hp_))
       (try simp only [← hl3_2])
       go_roundg k2
       case measure=>have:=HK1.out;have:=HK2.out;omega
       case rel=>exact ⟨(y363),(wrap64 (x10_1 + 1)),qc_,H',⟨by have:=HK1.out;have:=HK2.out;omega⟩,⟨by (try simp only [hl3_2]);(with_reducible repeat (first | apply rA_ | apply rB_ | apply rC_));exact HO_3.out⟩,⟨hB_⟩⟩
   ·rw [if_neg c4] at H
    have c4b0:=oD_ c4
    clear c4
    obtain rfl:=Option.some.inj H
    go_wp2
    go_ret
    exact ⟨_,qb_,(rr_ HO_3),hB_⟩
end Go.Proofs.YtcggfjpnfodbaaaGreat.A
end
section
namespace Go.Proofs.YtcggfjpnfodbaaaGreat.A
open Go.RowKit Go.Proofs.YtcggfjpnfodbaaaGreatW.PrintWords Go.Proofs.YtcggfjpnfodbaaaGreatW.PrintLast Go.Proofs.YtcggfjpnfodbaaaGreatW.PrintMore
attribute [local go_sem] max2_int min2_int max_two min_two max_three min_three max_four min_four
set_option linter.unusedVariables false
set_option linter.unusedSimpArgs false
mutual
def Z66.l0:Nat→List Int→List Int→List Bool→Int→Int→Option (List Int × Bool)
 | 0,_,_,_,_,_=>none
 | k + 1,x6,x7,x8,x26,x27=>if x27 < x26 then (Z66.l1 k x6 x7 x8 0 x27 x26 x27) else ((Z72.f k x7).bind fun t378=>(some (t378,true)))
def Z66.l1:Nat→List Int→List Int→List Bool→Int→Int→Int→Int→Option (List Int × Bool)
 | 0,_,_,_,_,_,_,_=>none
 | k + 1,x6,x7,x8,x10,x11,x26,x27=>if 0≤x11 then (if x11 < (x8.length:Int) then (if rdOf false x8 x11 = true then (if x10 > 0 then (if x7.length < 17592186044416 then (Z66.l0 k x6 (x7 ++ [x10]) x8 x26 (wrap64 (x27 + 1))) else (none)) else (Z66.l0 k x6 x7 x8 x26 (wrap64 (x27 + 1)))) else (if x11 < (x6.length:Int) then (Z66.l1 k x6 x7 (x8.set (x11:Int).toNat true) (wrap64 (x10 + 1)) (rd x6 x11) x26 x27) else (none))) else (none)) else (none)
end
def Z66.f (k:Nat) (l0_0:List Int) (l0_1:List Int):Option (List Int × Bool):=(Z68.f k l0_0 l0_1).bind fun bt365=>(if bt365.2 = true then ((Z50.f k bt365.1).bind fun t369=>(if 0≤(t369.length:Int) then (if ((t369.length:Int):Int).toNat≤281474976710656 then (Z66.l0 k t369 (([]:List Int)) (List.replicate ((t369.length:Int):Int).toNat false) (t369.length:Int) 0) else (none)) else (none))) else (some (([]:List Int),false)))
theorem Z66.mono_l:∀ k,(∀ y0 y1 y2 y3 y4,LeO (Z66.l0 k y0 y1 y2 y3 y4) (Z66.l0 (k + 1) y0 y1 y2 y3 y4))∧(∀ y0 y1 y2 y3 y4 y5 y6,LeO (Z66.l1 k y0 y1 y2 y3 y4 y5 y6) (Z66.l1 (k + 1) y0 y1 y2 y3 y4 y5 y6))
 | 0=>⟨fun _ _ _ _ _ r h=>by simp [Z66.l0] at h,fun _ _ _ _ _ _ _ r h=>by simp [Z66.l1] at h⟩
 | k + 1=>by
  obtain ⟨ih0,ih1⟩:=Z66.mono_l k
  refine ⟨?_,?_⟩
  ·intro y0 y1 y2 y3 y4
   unfold Z66.l0
   repeat' first|exact ih0 _ _ _ _ _|exact ih1 _ _ _ _ _ _ _|exact Z68.mono _ _ _|exact Z72.mono _ _|exact Z50.mono _ _|exact lo_|refine LeO.ite ?_ ?_|refine LeO.bind ?_ (fun _=>?_)
  ·intro y0 y1 y2 y3 y4 y5 y6
   unfold Z66.l1
   repeat' first|exact ih0 _ _ _ _ _|exact ih1 _ _ _ _ _ _ _|exact Z68.mono _ _ _|exact Z72.mono _ _|exact Z50.mono _ _|exact lo_|refine LeO.ite ?_ ?_|refine LeO.bind ?_ (fun _=>?_)
theorem Z66.mono:∀ a0 a1 k,LeO (Z66.f k a0 a1) (Z66.f (k + 1) a0 a1):=by
 intro a0 a1 k
 obtain ⟨ih0,ih1⟩:=Z66.mono_l k
 unfold Z66.f
 repeat' first|exact ih0 _ _ _ _ _|exact ih1 _ _ _ _ _ _ _|exact Z68.mono _ _ _|exact Z72.mono _ _|exact Z50.mono _ _|exact lo_|refine LeO.ite ?_ ?_|refine LeO.bind ?_ (fun _=>?_)
set_option maxHeartbeats 8000000 in
set_option maxRecDepth 100000 in
theorem Z66.calls (k:Nat) (A0_0:Option Addr) (c0_0:Nat) (l0_0:List Int) (A0_1:Option Addr) (c0_1:Nat) (l0_1:List Int) (r1:List Int) (r2:Bool) (w:World) (hr0_0:Kd.C (Kd.int .i64) w A0_0 l0_0.length l0_0) (hc0_0:l0_0.length≤c0_0) (hr0_1:Kd.C (Kd.int .i64) w A0_1 l0_1.length l0_1) (hc0_1:l0_1.length≤c0_1) (h:Z66.f k l0_0 l0_1 = some (r1,r2)) :
  Calls Tryz.prog 10 #[.agg #[.slice A0_0 l0_0.length c0_0,.slice A0_1 l0_1.length c0_1]] w fun e w'=>∃ v0_:Value,e = .returned (.tuple #[v0_,.bool r2])∧Kd.R (Kd.int .i64) 3 w' w.heap.size (fun _=>True) v0_ r1∧Below w.heap.size w w':=by
 have hu27:=Tryz.underlying27
 have HR0_0:=A_ hr0_0
 have HC0_0:=A_ hc0_0
 clear hr0_0 hc0_0
 have HR0_1:=A_ hr0_1
 have HC0_1:=A_ hc0_1
 clear hr0_1 hc0_1
 have HB:=A_ (Below.refl w.heap.size w)
 have H:=h
 unfold Z66.f at H
 clear h
 obtain ⟨⟨t365,t368⟩,A2,H⟩:=bi_ H
 try dsimp only at H
 by_cases c3:t368 = true
 ·subst c3
  rw [if_pos rfl] at H
  obtain ⟨t369,A4,H⟩:=bi_ H
  obtain ⟨y372,hy372⟩:∃ y_:List Int,y_ = (([]:List Int)):=⟨_,rfl⟩
  replace H:(if 0≤(t369.length:Int) then (if ((t369.length:Int):Int).toNat≤281474976710656 then (Z66.l0 k t369 y372 (List.replicate ((t369.length:Int):Int).toNat false) (t369.length:Int) 0) else (none)) else (none)) = some (r1,r2):=by first | (rw [hy372];exact H) | exact H
  have Ny372:=A_ hy372
  clear hy372
  have c5:=cp_ H
  replace H:=ca_ H
  have c5b0:=eq_true c5
  have c5b1:=oC_ c5
  clear c5
  have c6:=cp_ H
  replace H:=ca_ H
  have c6b0:=eq_true c6
  have c6b1:=oC_ c6
  clear c6
  obtain ⟨y375,hy375⟩:∃ y_:List Bool,y_ = (List.replicate ((t369.length:Int):Int).toNat false):=⟨_,rfl⟩
  replace H:(Z66.l0 k t369 y372 y375 (t369.length:Int) 0) = some (r1,r2):=by first | (rw [hy375];exact H) | exact H
  have Ny375:=A_ hy375
  clear hy375
  have H':=A_ H
  clear H
  go_enter Tryz.func10,Tryz.ntmps10
  go_wp2_with (first | ((with_reducible refine gB_ (N:=1) rfl ?_);refine bx_ 1 #[.slice A0_0 l0_0.length c0_0,.slice A0_1 l0_1.length c0_1] 27 ?_;intro gb364 hg w7 hbox hb;have BK364:=A_ hbox;have GW364:=gw_ w hg;have GE364:=GW364;replace HB:=b1_ hb;clear hb hbox hg;obtain ⟨hcz8_0,hcz8_1,hfz8_0,hfz8_1⟩:=c2_ BK364) | ((with_reducible refine gA_ (f:=22) rfl ?_);refine gL_ (some 14) Tryz.func22 #[.agg #[.slice A0_0 l0_0.length c0_0,.slice A0_1 l0_1.length c0_1]] rfl qa_ ?_;(with_reducible refine (Z68.calls k _ _ l0_0 _ _ l0_1 t365 true _ (cb_ HR0_0) HC0_0.out (cb_ HR0_1) HC0_1.out A2.out).mono ?_);rintro e w9 ⟨v366,rfl,ho0,hb⟩;refine ⟨_,rfl,?_⟩;have HO367:=A_ (Kd.N_lower (Kd.N_mono (ok':=fun k_=>k_≠gb364) ho0 (fun k_ hk_=>(Kd.freshB (kk_ BK364) k_ hk_))) (bF_ hB_));replace BK364:=bb_ BK364 hb;replace HB:=b1_ hb;clear hb ho0;obtain ⟨Ao10,co10,eo10⟩:=Kd.N_slice HO367.out;subst eo10) | ((with_reducible refine gA_ (f:=23) rfl ?_);refine gL_ (some 20) Tryz.func23 #[.slice Ao10 t365.length co10] rfl qa_ ?_;(with_reducible refine (Z50.calls k _ _ t365 t369 _ (cw_ ((Kd.N_reads' HO367.out).2.2)) ((Kd.N_reads' HO367.out).2.1) A4.out).mono ?_);rintro e w11 ⟨v370,rfl,ho0,hb⟩;refine ⟨_,rfl,?_⟩;replace HO367:=A_ (Kd.N_elder' (by (with_reducible repeat (first | apply Kd.N_alloc | apply Kd.N_drewN | apply Kd.N_drew));exact HO367.out) (Kd.R_base ho0) hb);have HO371:=rl_ w ho0;replace BK364:=bb_ BK364 hb;replace HB:=b1_ hb;clear hb ho0) | ((with_reducible refine gB_ (N:=21) rfl ?_);refine Kd.R_lit (Kd.int .i64) _ 3 ?hg (N:=21) ?hd (xs:=([]:List Int)) (inner:=[]) (ok:=fun _=>True) (okp:=fun _=>True) ?hr ?hp (fun _ hk=>hk) trivial (Below.refl _ _) (nA_ _) (by simp) ?_;(case hd=>rfl);(case hg=>rfl);(case hr=>first | (go_simp;done) | (go_simp;rfl));(case hp=>exact (Reps.none _ _));intro v373 w12 ho13 hb hg_ hnew_;clear hg_ hnew_;(first | rw [← Ny372.out] at ho13 | (simp only [Int.reduceToNat] at ho13;rw [← Ny372.out] at ho13));replace HO367:=A_ (Kd.N_elder' (by (with_reducible repeat (first | apply Kd.N_alloc | apply Kd.N_drewN | apply Kd.N_drew));exact HO367.out) (Kd.R_base ho13) hb);have HO374:=A_ (rE_ (Kd.R_new' ho13 (Kd.R_lt (rr_ HO371))) (bF_ hB_));replace HO371:=A_ (Kd.R_elder' (rr_ HO371) (Kd.R_base ho13) hb);replace BK364:=bb_ BK364 hb;replace HB:=b1_ hb;clear hb ho13;obtain ⟨Ao14,co14,eo14⟩:=Kd.R_slice HO371.out;subst eo14) | ((with_reducible refine gB_ (N:=24) rfl ?_);refine Kd.R_make Kd.bool _ 4 rfl (N:=24) rfl 41 _ _ rfl (t369.length:Int) rfl rfl Tryz.underlying41 (.bool false) 1 info4 rfl (by decide) (by omega) false (ok:=fun _=>True) (okp:=fun _=>True) rfl (fun _ hk=>hk) trivial (oB_ qe_) (Nat.le_trans (Nat.mul_le_mul_right _ (oB_ qe_:(t369.length:Int).toNat≤281474976710656)) (by omega)) (Below.refl _ _) (nA_ _) ?_;intro v376 w15 ho16 hb hg_ hnew_;clear hg_ hnew_;(first | rw [← Ny375.out] at ho16 | (simp only [Int.reduceToNat] at ho16;rw [← Ny375.out] at ho16));replace HO367:=A_ (Kd.N_elder' (by (with_reducible repeat (first | apply Kd.N_alloc | apply Kd.N_drewN | apply Kd.N_drew));exact HO367.out) (Kd.R_base ho16) hb);replace HO371:=rb_ HO371 hb;replace HO374:=rb_ HO374 hb;have HO377:=rl_ w ho16;replace BK364:=bb_ BK364 hb;replace HB:=b1_ hb;clear hb ho16))
  go_loopg [7,27] k (fun kq v7 v27 w'=>∃ (x7_1:List Int) (x8_1:List Bool) (x27_1:Int),v27 = .int .i64 x27_1∧Aside0 (Z66.l0 kq t369 x7_1 x8_1 (t369.length:Int) x27_1 = some (r1,r2))∧Aside0 (kq≤k)∧Aside0 (Kd.R (Kd.int .i64) 3 w' w.heap.size (fun k_=>some k_≠(v7:Value).ownBlock) (.slice Ao14 t369.length co14) t369)∧Aside0 (Kd.R (Kd.int .i64) 3 w' w.heap.size (fun k_=>some k_≠((.slice Ao14 t369.length co14):Value).ownBlock) v7 x7_1)∧Aside0 (Kd.R Kd.bool 4 w' w.heap.size (fun _=>True) v376 x8_1)∧Aside0 (w'.heap[gb364]? = some (.cells #[(.slice A0_0 l0_0.length c0_0),(.slice A0_1 l0_1.length c0_1)] 27 (0,0)))∧Aside0 (Below w.heap.size w w'))
  case atStart=>exact ⟨(y372),(y375),(0),qc_,H',⟨nA_ _⟩,⟨(rw_ (Kd.R_mono HO371.out (fun _ hk=>hk.2)))⟩,⟨(rw_ (Kd.R_mono HO374.out (fun _ hk=>hk.2)))⟩,⟨(rr_ HO377)⟩,⟨(kk_ BK364)⟩,⟨hB_⟩⟩
  case round =>
   clear H'
   obtain ⟨x7_1,x8_1,x27_1,rfl,HA,HK1,HO_6,HO_7,HO_8,BK364,HB⟩:=hrel
   cases gk with
   | zero=>exact absurd HA.out (by simp [Z66.l0])
   | succ k1 =>
    have H:=HA.out
    clear HA
    simp only [Z66.l0] at H
    by_cases c17:x27_1 < (t369.length:Int)
    ·rw [if_pos c17] at H
     have c17b0:=oC_ c17
     clear c17
     have H':=A_ H
     clear H
     go_wp2
     go_loopg [10,11] k1 (fun kq v10 v11 w'=>∃ (x8_2:List Bool) (x10_2:Int) (x11_2:Int),v10 = .int .i64 x10_2∧v11 = .int .i64 x11_2∧Aside0 (Z66.l1 kq t369 x7_1 x8_2 x10_2 x11_2 (t369.length:Int) x27_1 = some (r1,r2))∧Aside0 (kq≤k1)∧Aside0 (Kd.R (Kd.int .i64) 3 w' w.heap.size (fun k_=>some k_≠(u7:Value).ownBlock) (.slice Ao14 t369.length co14) t369)∧Aside0 (Kd.R (Kd.int .i64) 3 w' w.heap.size (fun k_=>some k_≠((.slice Ao14 t369.length co14):Value).ownBlock) u7 x7_1)∧Aside0 (Kd.R Kd.bool 4 w' w.heap.size (fun _=>True) v376 x8_2)∧Aside0 (w'.heap[gb364]? = some (.cells #[(.slice A0_0 l0_0.length c0_0),(.slice A0_1 l0_1.length c0_1)] 27 (0,0)))∧Aside0 (Below w.heap.size w w'))
     case atStart=>exact ⟨(x8_1),(0),(x27_1),qc_,qc_,H',⟨nA_ _⟩,⟨(rr_ HO_6)⟩,⟨(rr_ HO_7)⟩,⟨(rr_ HO_8)⟩,⟨(kk_ BK364)⟩,⟨hB_⟩⟩
     case round =>
      clear H'
      obtain ⟨x8_2,x10_2,x11_2,rfl,rfl,HA,HK2,HO_6,HO_7,HO_8,BK364,HB⟩:=hrel
      cases gk with
      | zero=>exact absurd HA.out (by simp [Z66.l1])
      | succ k2 =>
       have H:=HA.out
       clear HA
       simp only [Z66.l1] at H
       have c18:=cp_ H
       replace H:=ca_ H
       have c18b0:=oC_ c18
       clear c18
       have c19:=cp_ H
       replace H:=ca_ H
       have c19b0:=oC_ c19
       clear c19
       obtain ⟨bq20,hbq20⟩:∃ b_:Bool,b_ = (rdOf false x8_2 x11_2):=⟨_,rfl⟩
       replace H:(if bq20 = true then (if x10_2 > 0 then (if x7_1.length < 17592186044416 then (Z66.l0 k2 t369 (x7_1 ++ [x10_2]) x8_2 (t369.length:Int) (wrap64 (x27_1 + 1))) else (none)) else (Z66.l0 k2 t369 x7_1 x8_2 (t369.length:Int) (wrap64 (x27_1 + 1)))) else (if x11_2 < (t369.length:Int) then (Z66.l1 k2 t369 x7_1 (x8_2.set (x11_2:Int).toNat true) (wrap64 (x10_2 + 1)) (rd t369 x11_2) (t369.length:Int) x27_1) else (none))) = some (r1,r2):=by rw [← hbq20] at H;exact H
       have Nbq20:=A_ hbq20
       clear hbq20
       by_cases c21:bq20 = true
       ·subst c21
        rw [if_pos rfl] at H
        by_cases c22:x10_2 > 0
        ·rw [if_pos c22] at H
         have c22b0:decide (0 < x10_2) = true:=oC_ c22
         clear c22
         have c23:=cp_ H
         replace H:=ca_ H
         have LMc23:=A_ c23
         clear c23
         obtain ⟨y382,hy382⟩:∃ y_:List Int,y_ = (x7_1 ++ [x10_2]):=⟨_,rfl⟩
         replace H:(Z66.l0 k2 t369 y382 x8_2 (t369.length:Int) (wrap64 (x27_1 + 1))) = some (r1,r2):=by first | (rw [hy382];exact H) | exact H
         have Ny382:=A_ hy382
         clear hy382
         have H':=A_ H
         clear H
         obtain ⟨Ao24,co24,eo24⟩:=Kd.R_slice HO_8.out
         subst eo24
         have p381:0≤(x11_2:Int):=oB_ qe_
         have q381:x11_2 < (x8_2.length:Int):=oB_ qe_
         obtain ⟨ad381,e381,hx381_0⟩:=Kd.at_bool (Kd.R_reads' HO_8.out).2.2 x11_2 p381 q381
         (try rw [← Nbq20.out] at hx381_0)
         cases e381
         replace p381:=eq_true p381
         replace q381:=eq_true q381
         go_wp2_with (first | ((with_reducible refine gate_builtin (b:=.append) (xs:=#[.tmp 47,.tmp 49]) rfl ?_);at_builtin;refine Kd.R_append (Kd.int .i64) (w0:=w) w.heap.size rfl (.tmp 47) (.tmp 49) 22 3 (.int .i64 0) 8 rfl Tryz.underlying22 info3 rfl (by decide) (by omega) u7 x7_1 x10_2 [.int .i64 x10_2] (fun k_=>some k_≠(.slice Ao14 t369.length co14:Value).ownBlock) (fun _=>False) rfl rfl ?aP (fun _ hk=>hk.elim) ?aF ?aO ?aB ?aS ?aL ?_;(case aP=>exact rfl);(case aB=>exact hB_);(case aF=>exact (fun k_ hk=>Kd.fresh' (Kd.R_lt (rr_ HO_6)) k_ hk));(case aO=>exact (rr_ HO_7));(case aS=>exact (bF_ hB_));(case aL=>have:=LMc23.out;omega);intro v383 w25 ho hb hg hat;rw [← Ny382.out] at ho;replace HO_6:=A_ (Kd.R_after (ok:=(fun _=>True)) (rw_ (Kd.R_mono HO_6.out (fun _ hk=>⟨trivial,hk⟩))) hg hat);replace HO_8:=A_ (Kd.R_over' (rr_ HO_8) (Kd.R_typed (rr_ HO_7)) (by decide) hg);replace BK364:=A_ (blk_grown (kk_ BK364) hg (Kd.R_ne HO_7.out BK364.out (by decide)));replace HB:=A_ hb;have HO384:=A_ ho;clear HO_7;clear ho hb hg hat))
         go_roundg k2
         case measure=>have:=HK1.out;have:=HK2.out;omega
         case rel=>exact ⟨(y382),(x8_2),(wrap64 (x27_1 + 1)),qc_,H',⟨by have:=HK1.out;have:=HK2.out;omega⟩,⟨(rw_ (Kd.R_mono HO_6.out (fun _ hk=>hk.2)))⟩,⟨(rr_ HO384)⟩,⟨(rr_ HO_8)⟩,⟨(kk_ BK364)⟩,⟨hB_⟩⟩
        ·rw [if_neg c22] at H
         have c22b0:decide (0 < x10_2) = false:=oD_ c22
         clear c22
         have H':=A_ H
         clear H
         obtain ⟨Ao26,co26,eo26⟩:=Kd.R_slice HO_8.out
         subst eo26
         have p381:0≤(x11_2:Int):=oB_ qe_
         have q381:x11_2 < (x8_2.length:Int):=oB_ qe_
         obtain ⟨ad381,e381,hx381_0⟩:=Kd.at_bool (Kd.R_reads' HO_8.out).2.2 x11_2 p381 q381
         (try rw [← Nbq20.out] at hx381_0)
         cases e381
         replace p381:=eq_true p381
         replace q381:=eq_true q381
         go_wp2
         go_roundg k2
         case measure=>have:=HK1.out;have:=HK2.out;omega
         case rel=>exact ⟨(x7_1),(x8_2),(wrap64 (x27_1 + 1)),qc_,H',⟨by have:=HK1.out;have:=HK2.out;omega⟩,⟨(rr_ HO_6)⟩,⟨(rr_ HO_7)⟩,⟨(rr_ HO_8)⟩,⟨(kk_ BK364)⟩,⟨hB_⟩⟩
       ·replace c21:=Bool.eq_false_iff.mpr c21
        subst c21
        have H1:(if x11_2 < (t369.length:Int) then (Z66.l1 k2 t369 x7_1 (x8_2.set (x11_2:Int).toNat true) (wrap64 (x10_2 + 1)) (rd t369 x11_2) (t369.length:Int) x27_1) else (none)) = some (r1,r2):=by rw [if_neg (show ¬ (false = true) by decide)] at H;exact H
        clear H
        have H:=H1
        clear H1
        obtain ⟨y385,hy385⟩:∃ y_:List Bool,y_ = (x8_2.set (x11_2:Int).toNat true):=⟨_,rfl⟩
        replace H:(if x11_2 < (t369.length:Int) then (Z66.l1 k2 t369 x7_1 y385 (wrap64 (x10_2 + 1)) (rd t369 x11_2) (t369.length:Int) x27_1) else (none)) = some (r1,r2):=by first | (rw [hy385];exact H) | exact H
        have Ny385:=A_ hy385
        clear hy385
        have c28:=cp_ H
        replace H:=ca_ H
        have c28b0:=oC_ c28
        clear c28
        have H':=A_ H
        clear H
        obtain ⟨Ao29,co29,eo29⟩:=Kd.R_slice HO_8.out
        subst eo29
        have p381:0≤(x11_2:Int):=oB_ qe_
        have q381:x11_2 < (x8_2.length:Int):=oB_ qe_
        obtain ⟨ad381,e381,hx381_0⟩:=Kd.at_bool (Kd.R_reads' HO_8.out).2.2 x11_2 p381 q381
        (try rw [← Nbq20.out] at hx381_0)
        cases e381
        replace p381:=eq_true p381
        replace q381:=eq_true q381
        have p27:0≤(x11_2:Int):=oB_ qe_
        have q27:(x11_2:Int) < ((x8_2.length:Int):Int):=oB_ qe_
        obtain ⟨go27,co27,eo27,gb27,gl27,cl27,HG27⟩:=Kd.R_form HO_8.out (by omega)
        (first | cases eo27 | (injection eo27 with ea_ en_ ec_;(first | subst ea_ | (injection ea_ with ea_;subst ea_));subst ec_;clear en_))
        have GB27:=A_ gb27
        have GG27:=A_ HG27
        clear gb27 gl27 HG27
        (first | simp only [add_plain] at hx381_0 | skip)
        obtain ⟨hx27_0,hf27_0⟩:=Kd.R_celln false HO_8.out (x11_2:Int) p27 q27
        replace p27:=eq_true p27
        replace q27:=eq_true q27
        have HP30:=Kd.R_putg HO_8.out (x11_2:Int) true
        go_wp2_with (first | ((with_reducible refine gate_store (t:=4) (p:=42) rfl ?_);refine store_event (t:=4) (p:=42) (v:=?vo_w31) (w1:=(wr.setCell ⟨go27,(x11_2:Int).toNat,none⟩ (.bool true))) ?hg ?ho ?hn ?hr ?_;(case ho=>rfl);(case hg=>rfl);(case hn=>rfl);(case hr=>first | (go_simp;done) | (go_simp;rfl));intro w31 hw;have hg:wr.grownBy w31 (some go27):=(by rw [hw];exact HP30.2);have hp_:Kd.R Kd.bool 4 w31 w.heap.size (fun _=>True) (.slice (some ⟨go27,0,none⟩) x8_2.length co29) y385:=(by rw [hw,Ny385.out];exact HP30.1);clear HP30;replace HO_6:=A_ (Kd.R_over' (v:=(.slice (some ⟨go27,0,none⟩) x8_2.length co29)) (rr_ HO_6) (Kd.R_typed HO_8.out) (by decide) hg);replace HO_7:=A_ (Kd.R_over' (v:=(.slice (some ⟨go27,0,none⟩) x8_2.length co29)) (rr_ HO_7) (Kd.R_typed HO_8.out) (by decide) hg);replace BK364:=A_ (blk_grown (kk_ BK364) hg (Kd.R_ne HO_8.out BK364.out (by decide)));replace HO_8:=A_ (hp_);replace HB:=A_ ((by rw [hw];exact bD_ (HB.out) GB27.out:Below w.heap.size w w31));clear hg hw hp_;have p386:0≤(x11_2:Int):=oB_ qe_;have q386:x11_2 < (t369.length:Int):=oB_ qe_;obtain ⟨ad386,e386,hx386_0⟩:=Kd.at_int (Kd.R_reads' HO_6.out).2.2 x11_2 p386 q386;cases e386;replace p386:=eq_true p386;replace q386:=eq_true q386))
        go_roundg k2
        case measure=>have:=HK1.out;have:=HK2.out;omega
        case rel=>exact ⟨(y385),(wrap64 (x10_2 + 1)),(rd t369 x11_2),qc_,qc_,H',⟨by have:=HK1.out;have:=HK2.out;omega⟩,⟨(rr_ HO_6)⟩,⟨(rr_ HO_7)⟩,⟨(rr_ HO_8)⟩,⟨(kk_ BK364)⟩,⟨hB_⟩⟩
    ·rw [if_neg c17] at H
     have c17b0:=oD_ c17
     clear c17
     obtain ⟨t378,A32,H⟩:=bi_ H
     simp only [Option.some.injEq,Prod.mk.injEq] at H
     obtain ⟨rfl,rfl⟩:=H
     obtain ⟨Ao33,co33,eo33⟩:=Kd.R_slice HO_7.out
     subst eo33
     go_wp2_with (first | ((with_reducible refine gA_ (f:=24) rfl ?_);refine gL_ (some 53) Tryz.func24 #[.slice Ao33 x7_1.length co33] rfl qa_ ?_;(with_reducible refine (Z72.calls k1 _ _ x7_1 t378 _ (cr_ HO_7) ((Kd.R_reads' HO_7.out).2.1) A32.out).mono ?_);rintro e w34 ⟨v379,rfl,ho0,hb⟩;refine ⟨_,rfl,?_⟩;replace HO_8:=rb_ HO_8 hb;have HO380:=A_ (rE_ (Kd.R_new' (Kd.R_new' ho0 (Kd.R_lt (rr_ HO_6))) (Kd.R_lt (rr_ HO_7))) (bF_ hB_));replace HO_6:=A_ (Kd.R_elder' (rr_ HO_6) (Kd.R_base ho0) hb);replace HO_7:=A_ (Kd.R_elder' (rr_ HO_7) (Kd.R_base ho0) hb);replace BK364:=bb_ BK364 hb;replace HB:=b1_ hb;clear hb ho0))
     go_ret2
     exact ⟨_,qb_,(rw_ (Kd.R_mono HO380.out (fun _ hk=>trivial))),hB_⟩
 ·replace c3:=Bool.eq_false_iff.mpr c3
  subst c3
  have H1:(some (([]:List Int),false)) = some (r1,r2):=by rw [if_neg (show ¬ (false = true) by decide)] at H;exact H
  clear H
  have H:=H1
  clear H1
  simp only [Option.some.injEq,Prod.mk.injEq] at H
  obtain ⟨rfl,rfl⟩:=H
  go_enter Tryz.func10,Tryz.ntmps10
  go_wp2_with (first | ((with_reducible refine gB_ (N:=1) rfl ?_);refine bx_ 1 #[.slice A0_0 l0_0.length c0_0,.slice A0_1 l0_1.length c0_1] 27 ?_;intro gb364 hg w35 hbox hb;have BK364:=A_ hbox;have GW364:=gw_ w hg;have GE364:=GW364;replace HB:=b1_ hb;clear hb hbox hg;obtain ⟨hcz36_0,hcz36_1,hfz36_0,hfz36_1⟩:=c2_ BK364) | ((with_reducible refine gA_ (f:=22) rfl ?_);refine gL_ (some 14) Tryz.func22 #[.agg #[.slice A0_0 l0_0.length c0_0,.slice A0_1 l0_1.length c0_1]] rfl qa_ ?_;(with_reducible refine (Z68.calls k _ _ l0_0 _ _ l0_1 t365 false _ (cb_ HR0_0) HC0_0.out (cb_ HR0_1) HC0_1.out A2.out).mono ?_);rintro e w37 ⟨v366,rfl,ho0,hb⟩;refine ⟨_,rfl,?_⟩;have HO367:=A_ (Kd.N_lower (Kd.N_mono (ok':=fun k_=>k_≠gb364) ho0 (fun k_ hk_=>(Kd.freshB (kk_ BK364) k_ hk_))) (bF_ hB_));replace BK364:=bb_ BK364 hb;replace HB:=b1_ hb;clear hb ho0))
  go_ret2
  exact ⟨_,qb_,by first | exact Kd.R_nil _ _ _ _ _ | exact Kd.N_nil _ _ _ _ _ | exact Kd.V_nil _ _ _ _ _ | exact Kd.Q_nil _ _ _ _ _ | exact Kd.S_nil _ _ _ _ _,hB_⟩
end Go.Proofs.YtcggfjpnfodbaaaGreat.A
end
section
namespace Go.Proofs.YtcggfjpnfodbaaaGreat.A
open Go.RowKit Go.Proofs.YtcggfjpnfodbaaaGreatW.PrintWords Go.Proofs.YtcggfjpnfodbaaaGreatW.PrintLast Go.Proofs.YtcggfjpnfodbaaaGreatW.PrintMore
attribute [local go_sem] max2_int min2_int max_two min_two max_three min_three max_four min_four
set_option linter.unusedVariables false
set_option linter.unusedSimpArgs false
def Z81.l0:Nat→ByteArray→Int→Option (Bool)
 | 0,_,_=>none
 | k + 1,x0,x3=>if x3 < (x0.size:Int) then (if 0≤x3 then (if (bt x0 x3) = 84 then (Z81.l0 k x0 (wrap64 (x3 + 1))) else (if (bt x0 x3) = 116 then (Z81.l0 k x0 (wrap64 (x3 + 1))) else (if (bt x0 x3) = 83 then (Z81.l0 k x0 (wrap64 (x3 + 1))) else (if (bt x0 x3) = 115 then (Z81.l0 k x0 (wrap64 (x3 + 1))) else (some false))))) else (none)) else (some true)
def Z81.f (k:Nat) (a0:ByteArray):Option (Bool):=if (a0.size:Int) > 40 then (some false) else (Z81.l0 k a0 0)
theorem Z81.mono_l:∀ k,(∀ y0 y1,LeO (Z81.l0 k y0 y1) (Z81.l0 (k + 1) y0 y1))
 | 0=>fun _ _ r h=>by simp [Z81.l0] at h
 | k + 1=>by
  have ih0:=Z81.mono_l k
  ·intro y0 y1
   unfold Z81.l0
   repeat' first|exact ih0 _ _|exact lo_|refine LeO.ite ?_ ?_|refine LeO.bind ?_ (fun _=>?_)
theorem Z81.mono:∀ a0 k,LeO (Z81.f k a0) (Z81.f (k + 1) a0):=by
 intro a0 k
 have ih0:=Z81.mono_l k
 unfold Z81.f
 repeat' first|exact ih0 _ _|exact lo_|refine LeO.ite ?_ ?_|refine LeO.bind ?_ (fun _=>?_)
set_option maxHeartbeats 8000000 in
set_option maxRecDepth 100000 in
theorem Z81.calls (k:Nat) (a0:ByteArray) (r:Bool) (w:World) (h:Z81.f k a0 = some r) :
  Calls Tryz.prog 54 #[.string a0] w fun e w'=>e = .returned (.bool r)∧Drawn0 w w':=by
 have H:=h
 unfold Z81.f at H
 clear h
 by_cases c2:(a0.size:Int) > 40
 ·rw [if_pos c2] at H
  have c2b0:decide (40 < (a0.size:Int)) = true:=oC_ c2
  have c2b1:decide (40 < a0.size) = true:=oC_ (by omega)
  clear c2
  obtain rfl:=Option.some.inj H
  go_enter Tryz.func54,Tryz.ntmps54
  go_wp2
  go_ret
  exact ⟨qc_,by repeat (first | exact Drawn0.refl _ | apply Drawn0.step)⟩
 ·rw [if_neg c2] at H
  have c2b0:decide (40 < (a0.size:Int)) = false:=oD_ c2
  have c2b1:decide (40 < a0.size) = false:=oD_ (by omega)
  clear c2
  have H':=A_ H
  clear H
  go_enter Tryz.func54,Tryz.ntmps54
  go_wp2
  go_loopg [3] k (fun kq v3 w'=>∃ (x3_1:Int),v3 = .int .i64 x3_1∧Aside0 (Z81.l0 kq a0 x3_1 = some r)∧Aside0 (kq≤k)∧Drawn0 w w')
  case atStart=>exact ⟨(0),qc_,H',⟨nA_ _⟩,by repeat (first | exact Drawn0.refl _ | apply Drawn0.step)⟩
  case round =>
   clear H'
   obtain ⟨x3_1,rfl,HA,HK1,⟨m1,rfl⟩⟩:=hrel
   cases gk with
   | zero=>exact absurd HA.out (by simp [Z81.l0])
   | succ k1 =>
    have H:=HA.out
    clear HA
    simp only [Z81.l0] at H
    by_cases c3:x3_1 < (a0.size:Int)
    ·rw [if_pos c3] at H
     have c3b0:=oC_ c3
     clear c3
     have c4:=cp_ H
     replace H:=ca_ H
     have c4b0:=oC_ c4
     clear c4
     by_cases c6:(bt a0 x3_1) = 84
     ·rw [if_pos c6] at H
      have c6b0:((bt a0 x3_1) == 84) = true:=beq_iff_eq.mpr c6
      have c6b1:((bt a0 x3_1) != 84) = false:=bne_eq_false_iff_eq.mpr c6
      clear c6
      have H':=A_ H
      clear H
      have p5:0≤(x3_1:Int):=oB_ qe_
      have q5:x3_1 < (a0.size:Int):=oB_ qe_
      have hx5:=bt_at a0 x3_1
      replace p5:=eq_true p5
      replace q5:=eq_true q5
      go_wp2
      go_roundg k1
      case measure=>have:=HK1.out;omega
      case rel=>exact ⟨(wrap64 (x3_1 + 1)),qc_,H',⟨by have:=HK1.out;omega⟩,by repeat (first | exact Drawn0.refl _ | apply Drawn0.step)⟩
     ·rw [if_neg c6] at H
      have c6b0:((bt a0 x3_1) == 84) = false:=beq_eq_false_iff_ne.mpr c6
      have c6b1:((bt a0 x3_1) != 84) = true:=bne_iff_ne.mpr c6
      by_cases c7:(bt a0 x3_1) = 116
      ·rw [if_pos c7] at H
       have c7b0:((bt a0 x3_1) == 116) = true:=beq_iff_eq.mpr c7
       have c7b1:((bt a0 x3_1) != 116) = false:=bne_eq_false_iff_eq.mpr c7
       clear c7
       have H':=A_ H
       clear H
       have p5:0≤(x3_1:Int):=oB_ qe_
       have q5:x3_1 < (a0.size:Int):=oB_ qe_
       have hx5:=bt_at a0 x3_1
       replace p5:=eq_true p5
       replace q5:=eq_true q5
       go_wp2
       go_roundg k1
       case measure=>have:=HK1.out;omega
       case rel=>exact ⟨(wrap64 (x3_1 + 1)),qc_,H',⟨by have:=HK1.out;omega⟩,by repeat (first | exact Drawn0.refl _ | apply Drawn0.step)⟩
      ·rw [if_neg c7] at H
       have c7b0:((bt a0 x3_1) == 116) = false:=beq_eq_false_iff_ne.mpr c7
       have c7b1:((bt a0 x3_1) != 116) = true:=bne_iff_ne.mpr c7
       by_cases c8:(bt a0 x3_1) = 83
       ·rw [if_pos c8] at H
        have c8b0:((bt a0 x3_1) == 83) = true:=beq_iff_eq.mpr c8
        have c8b1:((bt a0 x3_1) != 83) = false:=bne_eq_false_iff_eq.mpr c8
        clear c8
        have H':=A_ H
        clear H
        have p5:0≤(x3_1:Int):=oB_ qe_
        have q5:x3_1 < (a0.size:Int):=oB_ qe_
        have hx5:=bt_at a0 x3_1
        replace p5:=eq_true p5
        replace q5:=eq_true q5
        go_wp2
        go_roundg k1
        case measure=>have:=HK1.out;omega
        case rel=>exact ⟨(wrap64 (x3_1 + 1)),qc_,H',⟨by have:=HK1.out;omega⟩,by repeat (first | exact Drawn0.refl _ | apply Drawn0.step)⟩
       ·rw [if_neg c8] at H
        have c8b0:((bt a0 x3_1) == 83) = false:=beq_eq_false_iff_ne.mpr c8
        have c8b1:((bt a0 x3_1) != 83) = true:=bne_iff_ne.mpr c8
        by_cases c9:(bt a0 x3_1) = 115
        ·rw [if_pos c9] at H
         have c9b0:((bt a0 x3_1) == 115) = true:=beq_iff_eq.mpr c9
         have c9b1:((bt a0 x3_1) != 115) = false:=bne_eq_false_iff_eq.mpr c9
         clear c9
         have H':=A_ H
         clear H
         have p5:0≤(x3_1:Int):=oB_ qe_
         have q5:x3_1 < (a0.size:Int):=oB_ qe_
         have hx5:=bt_at a0 x3_1
         replace p5:=eq_true p5
         replace q5:=eq_true q5
         go_wp2
         go_roundg k1
         case measure=>have:=HK1.out;omega
         case rel=>exact ⟨(wrap64 (x3_1 + 1)),qc_,H',⟨by have:=HK1.out;omega⟩,by repeat (first | exact Drawn0.refl _ | apply Drawn0.step)⟩
        ·rw [if_neg c9] at H
         have c9b0:((bt a0 x3_1) == 115) = false:=beq_eq_false_iff_ne.mpr c9
         have c9b1:((bt a0 x3_1) != 115) = true:=bne_iff_ne.mpr c9
         obtain rfl:=Option.some.inj H
         have p5:0≤(x3_1:Int):=oB_ qe_
         have q5:x3_1 < (a0.size:Int):=oB_ qe_
         have hx5:=bt_at a0 x3_1
         replace p5:=eq_true p5
         replace q5:=eq_true q5
         go_wp2
         go_ret
         exact ⟨qc_,by repeat (first | exact Drawn0.refl _ | apply Drawn0.step)⟩
    ·rw [if_neg c3] at H
     have c3b0:=oD_ c3
     clear c3
     obtain rfl:=Option.some.inj H
     go_wp2
     go_ret
     exact ⟨qc_,by repeat (first | exact Drawn0.refl _ | apply Drawn0.step)⟩
def Z83.l0:Nat→ByteArray→Int→List Int→List Int→Option (List Int × List Int)
 | 0,_,_,_,_=>none
 | k + 1,x1,x6,x402000,x402001=>if x6 < (x1.size:Int) then (if 0≤x6 then ((Z48.f k x402000 x402001 (bt x1 x6)).bind fun bt402=>(Z83.l0 k x1 (wrap64 (x6 + 1)) bt402.1 bt402.2)) else (none)) else (some (x402000,x402001))
def Z83.f (k:Nat) (l0_0:List Int) (l0_1:List Int) (a1:ByteArray):Option (List Int × List Int):=(some (([]:List Int):List Int)).bind fun y389=>(if y389.length + l0_0.length < 17592186044416 then ((some (([]:List Int):List Int)).bind fun y395=>(if y395.length + l0_1.length < 17592186044416 then (Z83.l0 k a1 0 (y389 ++ l0_0) (y395 ++ l0_1)) else (none))) else (none))
theorem Z83.mono_l:∀ k,(∀ y0 y1 y2 y3,LeO (Z83.l0 k y0 y1 y2 y3) (Z83.l0 (k + 1) y0 y1 y2 y3))
 | 0=>fun _ _ _ _ r h=>by simp [Z83.l0] at h
 | k + 1=>by
  have ih0:=Z83.mono_l k
  ·intro y0 y1 y2 y3
   unfold Z83.l0
   repeat' first|exact ih0 _ _ _ _|exact Z48.mono _ _ _ _|exact lo_|refine LeO.ite ?_ ?_|refine LeO.bind ?_ (fun _=>?_)
theorem Z83.mono:∀ a0 a1 a2 k,LeO (Z83.f k a0 a1 a2) (Z83.f (k + 1) a0 a1 a2):=by
 intro a0 a1 a2 k
 have ih0:=Z83.mono_l k
 unfold Z83.f
 repeat' first|exact ih0 _ _ _ _|exact Z48.mono _ _ _ _|exact lo_|refine LeO.ite ?_ ?_|refine LeO.bind ?_ (fun _=>?_)
def Z83.T1:Bool × List (List Nat × List Nat):=(true,[([],[]),([],[]),([1],[1]),([0,2],[0,2]),([],[]),([],[]),([5],[5]),([4,6,3],[4,6]),([3,7],[3,7]),([],[]),([9,8,7,0,1,2,3,4,5,6,7,8,9],[8,9])])
def Z83.B1:List Nat:=[0,0,2,7,0,0,32,127,255,0,1023]
theorem Z83.tab1:rtab .any (opsOf Tryz.f55 1) = Z83.T1:=by kernel_rfl
theorem Z83.bits1:waitsOk Z83.T1.2 Z83.B1 = true:=by kernel_rfl
set_option maxHeartbeats 8000000 in
set_option maxRecDepth 100000 in
theorem Z83.calls (k:Nat) (A0_0:Option Addr) (c0_0:Nat) (l0_0:List Int) (A0_1:Option Addr) (c0_1:Nat) (l0_1:List Int) (a1:ByteArray) (r1:List Int) (r2:List Int) (w:World) (hr0_0:Kd.C (Kd.int .i64) w A0_0 l0_0.length l0_0) (hc0_0:l0_0.length≤c0_0) (hr0_1:Kd.C (Kd.int .i64) w A0_1 l0_1.length l0_1) (hc0_1:l0_1.length≤c0_1) (h:Z83.f k l0_0 l0_1 a1 = some (r1,r2)) :
  Calls Tryz.prog 55 #[.agg #[.slice A0_0 l0_0.length c0_0,.slice A0_1 l0_1.length c0_1],.string a1] w fun e w'=>∃ v0_ v1_:Value,e = .returned (.agg #[v0_,v1_])∧Kd.R (Kd.int .i64) 3 w' w.heap.size (fun k_=>some k_≠(v1_:Value).ownBlock) v0_ r1∧Kd.R (Kd.int .i64) 3 w' w.heap.size (fun k_=>some k_≠(v0_:Value).ownBlock) v1_ r2∧Below w.heap.size w w':=by
 have hu27:=Tryz.underlying27
 have HR0_0:=A_ hr0_0
 have HC0_0:=A_ hc0_0
 clear hr0_0 hc0_0
 have HR0_1:=A_ hr0_1
 have HC0_1:=A_ hc0_1
 clear hr0_1 hc0_1
 have HB:=A_ (Below.refl w.heap.size w)
 have H:=h
 unfold Z83.f at H
 clear h
 obtain ⟨y389,hy389⟩:∃ y_:List Int,y_ = (([]:List Int)):=⟨_,rfl⟩
 replace H:(if y389.length + l0_0.length < 17592186044416 then ((some (([]:List Int):List Int)).bind fun y395=>(if y395.length + l0_1.length < 17592186044416 then (Z83.l0 k a1 0 (y389 ++ l0_0) (y395 ++ l0_1)) else (none))) else (none)) = some (r1,r2):=by first | (rw [hy389];exact H) | exact H
 have Ny389:=A_ hy389
 clear hy389
 have c3:=cp_ H
 replace H:=ca_ H
 have LMc3:=A_ c3
 clear c3
 obtain ⟨y392,hy392⟩:∃ y_:List Int,y_ = (y389 ++ l0_0):=⟨_,rfl⟩
 replace H:((some (([]:List Int):List Int)).bind fun y395=>(if y395.length + l0_1.length < 17592186044416 then (Z83.l0 k a1 0 y392 (y395 ++ l0_1)) else (none))) = some (r1,r2):=by first | (rw [hy392];exact H) | exact H
 have Ny392:=A_ hy392
 clear hy392
 obtain ⟨y395,hy395⟩:∃ y_:List Int,y_ = (([]:List Int)):=⟨_,rfl⟩
 replace H:(if y395.length + l0_1.length < 17592186044416 then (Z83.l0 k a1 0 y392 (y395 ++ l0_1)) else (none)) = some (r1,r2):=by first | (rw [hy395];exact H) | exact H
 have Ny395:=A_ hy395
 clear hy395
 have c4:=cp_ H
 replace H:=ca_ H
 have LMc4:=A_ c4
 clear c4
 obtain ⟨y398,hy398⟩:∃ y_:List Int,y_ = (y395 ++ l0_1):=⟨_,rfl⟩
 replace H:(Z83.l0 k a1 0 y392 y398) = some (r1,r2):=by first | (rw [hy398];exact H) | exact H
 have Ny398:=A_ hy398
 clear hy398
 have H':=A_ H
 clear H
 go_enter Tryz.func55,Tryz.ntmps55
 try go_wp2_with (first | ((with_reducible refine gB_ (N:=2) rfl ?_);refine bx_ 2 #[.slice A0_0 l0_0.length c0_0,.slice A0_1 l0_1.length c0_1] 27 ?_;intro gb387 hg w5 hbox hb;have BK387:=A_ hbox;have GW387:=gw_ w hg;have GE387:=GW387;replace HB:=b1_ hb;clear hb hbox hg) | ((with_reducible refine gB_ (N:=4) rfl ?_);refine bx_ 4 #[.slice none 0 0,.slice none 0 0] 27 ?_;intro gb388 hg w6 hbox hb;have BK388:=A_ hbox;have GW388:=gw_ w hg;have GE388:=GW388;replace HB:=b1_ hb;have NB387_388:=gN_ BK387 hg;have NB388_387:=gP_ BK387 hg;replace BK387:=bb_ BK387 hb;clear hb hbox hg))
 replace BK387:=A_ (kB_ BK387.out)
 replace BK388:=A_ (kB_ BK388.out)
 replace HB:=A_ (bC_ HB.out)
 refine start_ (n:=11) (S:=fun w'=>w'.cell? ⟨gb387,0,none⟩ = some (.slice A0_0 l0_0.length c0_0)∧w'.cell? ⟨gb387,1,none⟩ = some (.slice A0_1 l0_1.length c0_1)) (ds:=[]) (bl_ 11 0) (by kernel_rfl) rfl (by kernel_rfl) ⟨cz0_ BK387,cz1_ BK387⟩ (fun hHeld=>?_);refine with_tabW Z83.tab1 Z83.bits1 (fun HT_ HW_=>?_)
 generalize w6.drew = w7 at BK387 BK388 HB hHeld ⊢
 refine pu_ 1 (some 8) (bl_ 11 2) HT_ ?_
 refine pu_ 5 (some 12) (bl_ 11 34) HT_ ?_
 refine ta_ 2 (some 9) (bl_ 11 38) HT_ HW_ hHeld ?_
 refine ta_ 6 (some 13) (bl_ 11 102) HT_ HW_ hHeld ?_
 refine join_ (σ:=Value × Value × Value × Value × Nat) 1 (bl_ 11 1023) (fun s_=>[(7,s_.1),(10,s_.2.1),(11,s_.2.2.1),(14,s_.2.2.2.1),(5,.pointer (some ⟨s_.2.2.2.2,0,none⟩)),(15,.agg #[s_.2.1,s_.2.2.2.1])]) (fun s_ w'=>(w'.cell? ⟨gb387,0,none⟩ = some (.slice A0_0 l0_0.length c0_0)∧w'.cell? ⟨gb387,1,none⟩ = some (.slice A0_1 l0_1.length c0_1))∧(Kd.R (Kd.int .i64) 3 w' w.heap.size (fun k_=>some k_≠(s_.2.2.2.1:Value).ownBlock) s_.2.1 y392)∧(Kd.R (Kd.int .i64) 3 w' w.heap.size (fun k_=>some k_≠(s_.2.1:Value).ownBlock) s_.2.2.2.1 y398)∧(w'.heap[gb387]? = some (.cells #[.slice A0_0 l0_0.length c0_0,.slice A0_1 l0_1.length c0_1] 27 (0,0)))∧(w'.heap[gb388]? = some (.cells #[.slice none 0 0,.slice none 0 0] 27 (0,0)))∧(w'.heap[s_.2.2.2.2]? = some (.cells #[.slice none 0 0,.slice none 0 0] 27 (0,0)))∧(w.heap.size≤s_.2.2.2.2)∧(w.heap.size≤s_.2.2.2.2)∧(gb387≠s_.2.2.2.2)∧(s_.2.2.2.2≠gb387)∧(gb388≠s_.2.2.2.2)∧(s_.2.2.2.2≠gb388)∧(Below w.heap.size w w')) ?_ ?_
 rotate_left
 ·intro hJ0_3_4_7_9
  refine join_ (σ:=Value × Value × Value × Value) 2 (bl_ 11 511) (fun s_=>[(7,s_.1),(10,s_.2.1),(11,s_.2.2.1),(14,s_.2.2.2),(15,.agg #[s_.2.1,s_.2.2.2])]) (fun s_ w'=>(w'.cell? ⟨gb387,0,none⟩ = some (.slice A0_0 l0_0.length c0_0)∧w'.cell? ⟨gb387,1,none⟩ = some (.slice A0_1 l0_1.length c0_1))∧(Kd.R (Kd.int .i64) 3 w' w.heap.size (fun k_=>some k_≠(s_.2.2.2:Value).ownBlock) s_.2.1 y392)∧(Kd.R (Kd.int .i64) 3 w' w.heap.size (fun k_=>some k_≠(s_.2.1:Value).ownBlock) s_.2.2.2 y398)∧(w'.heap[gb387]? = some (.cells #[.slice A0_0 l0_0.length c0_0,.slice A0_1 l0_1.length c0_1] 27 (0,0)))∧(w'.heap[gb388]? = some (.cells #[.slice none 0 0,.slice none 0 0] 27 (0,0)))∧(Below w.heap.size w w')) ?_ ?_
  rotate_left
  ·intro hJ0_3_4_7
   refine join_ (σ:=Value × Value × Value × Nat) 3 (bl_ 11 639) (fun s_=>[(7,s_.1),(10,s_.2.1),(11,s_.2.2.1),(5,.pointer (some ⟨s_.2.2.2,0,none⟩))]) (fun s_ w'=>(w'.cell? ⟨gb387,0,none⟩ = some (.slice A0_0 l0_0.length c0_0)∧w'.cell? ⟨gb387,1,none⟩ = some (.slice A0_1 l0_1.length c0_1))∧(Kd.R (Kd.int .i64) 3 w' w.heap.size (fun k_=>some k_≠(s_.2.2.1:Value).ownBlock) s_.2.1 y392)∧(Kd.R (Kd.int .i64) 3 w' w.heap.size (fun k_=>some k_≠(s_.2.1:Value).ownBlock) s_.2.2.1 y395)∧(w'.heap[gb387]? = some (.cells #[.slice A0_0 l0_0.length c0_0,.slice A0_1 l0_1.length c0_1] 27 (0,0)))∧(w'.heap[gb388]? = some (.cells #[.slice none 0 0,.slice none 0 0] 27 (0,0)))∧(w'.heap[s_.2.2.2]? = some (.cells #[.slice none 0 0,.slice none 0 0] 27 (0,0)))∧(w.heap.size≤s_.2.2.2)∧(w.heap.size≤s_.2.2.2)∧(gb387≠s_.2.2.2)∧(s_.2.2.2≠gb387)∧(gb388≠s_.2.2.2)∧(s_.2.2.2≠gb388)∧(Below w.heap.size w w')) ?_ ?_
   rotate_left
   ·intro hJ0_3_4_9
    refine join_ (σ:=Value × Value × Value) 4 (bl_ 11 127) (fun s_=>[(7,s_.1),(10,s_.2.1),(11,s_.2.2)]) (fun s_ w'=>(w'.cell? ⟨gb387,0,none⟩ = some (.slice A0_0 l0_0.length c0_0)∧w'.cell? ⟨gb387,1,none⟩ = some (.slice A0_1 l0_1.length c0_1))∧(Kd.R (Kd.int .i64) 3 w' w.heap.size (fun k_=>some k_≠(s_.2.2:Value).ownBlock) s_.2.1 y392)∧(Kd.R (Kd.int .i64) 3 w' w.heap.size (fun k_=>some k_≠(s_.2.1:Value).ownBlock) s_.2.2 y395)∧(w'.heap[gb387]? = some (.cells #[.slice A0_0 l0_0.length c0_0,.slice A0_1 l0_1.length c0_1] 27 (0,0)))∧(w'.heap[gb388]? = some (.cells #[.slice none 0 0,.slice none 0 0] 27 (0,0)))∧(Below w.heap.size w w')) ?_ ?_
    rotate_left
    ·intro hJ0_3_4
     refine join_ (σ:=Value × Value × Nat) 4 (bl_ 11 623) (fun s_=>[(7,s_.1),(10,s_.2.1),(5,.pointer (some ⟨s_.2.2,0,none⟩))]) (fun s_ w'=>(w'.cell? ⟨gb387,0,none⟩ = some (.slice A0_0 l0_0.length c0_0)∧w'.cell? ⟨gb387,1,none⟩ = some (.slice A0_1 l0_1.length c0_1))∧(Kd.R (Kd.int .i64) 3 w' w.heap.size (fun _=>True) s_.2.1 y392)∧(w'.heap[gb387]? = some (.cells #[.slice A0_0 l0_0.length c0_0,.slice A0_1 l0_1.length c0_1] 27 (0,0)))∧(w'.heap[gb388]? = some (.cells #[.slice none 0 0,.slice none 0 0] 27 (0,0)))∧(w'.heap[s_.2.2]? = some (.cells #[.slice none 0 0,.slice none 0 0] 27 (0,0)))∧(w.heap.size≤s_.2.2)∧(w.heap.size≤s_.2.2)∧(gb387≠s_.2.2)∧(s_.2.2≠gb387)∧(gb388≠s_.2.2)∧(s_.2.2≠gb388)∧(Below w.heap.size w w')) ?_ ?_
     rotate_left
     ·intro hJ0_3_9
      refine join_ (σ:=Value × Value × Nat) 4 (bl_ 11 631) (fun s_=>[(7,s_.1),(11,s_.2.1),(5,.pointer (some ⟨s_.2.2,0,none⟩))]) (fun s_ w'=>(w'.cell? ⟨gb387,0,none⟩ = some (.slice A0_0 l0_0.length c0_0)∧w'.cell? ⟨gb387,1,none⟩ = some (.slice A0_1 l0_1.length c0_1))∧(Kd.R (Kd.int .i64) 3 w' w.heap.size (fun k_=>some k_≠(s_.2.1:Value).ownBlock) s_.1 y389)∧(Kd.R (Kd.int .i64) 3 w' w.heap.size (fun k_=>some k_≠(s_.1:Value).ownBlock) s_.2.1 y395)∧(w'.heap[gb387]? = some (.cells #[.slice A0_0 l0_0.length c0_0,.slice A0_1 l0_1.length c0_1] 27 (0,0)))∧(w'.heap[gb388]? = some (.cells #[.slice none 0 0,.slice none 0 0] 27 (0,0)))∧(w'.heap[s_.2.2]? = some (.cells #[.slice none 0 0,.slice none 0 0] 27 (0,0)))∧(w.heap.size≤s_.2.2)∧(w.heap.size≤s_.2.2)∧(gb387≠s_.2.2)∧(s_.2.2≠gb387)∧(gb388≠s_.2.2)∧(s_.2.2≠gb388)∧(Below w.heap.size w w')) ?_ ?_
      rotate_left
      ·intro hJ0_4_9
       refine join_ (σ:=Value × Value) 5 (bl_ 11 111) (fun s_=>[(7,s_.1),(10,s_.2)]) (fun s_ w'=>(w'.cell? ⟨gb387,0,none⟩ = some (.slice A0_0 l0_0.length c0_0)∧w'.cell? ⟨gb387,1,none⟩ = some (.slice A0_1 l0_1.length c0_1))∧(Kd.R (Kd.int .i64) 3 w' w.heap.size (fun _=>True) s_.2 y392)∧(w'.heap[gb387]? = some (.cells #[.slice A0_0 l0_0.length c0_0,.slice A0_1 l0_1.length c0_1] 27 (0,0)))∧(w'.heap[gb388]? = some (.cells #[.slice none 0 0,.slice none 0 0] 27 (0,0)))∧(Below w.heap.size w w')) ?_ ?_
       rotate_left
       ·intro hJ0_3
        refine join_ (σ:=Value × Value) 5 (bl_ 11 119) (fun s_=>[(7,s_.1),(11,s_.2)]) (fun s_ w'=>(w'.cell? ⟨gb387,0,none⟩ = some (.slice A0_0 l0_0.length c0_0)∧w'.cell? ⟨gb387,1,none⟩ = some (.slice A0_1 l0_1.length c0_1))∧(Kd.R (Kd.int .i64) 3 w' w.heap.size (fun k_=>some k_≠(s_.2:Value).ownBlock) s_.1 y389)∧(Kd.R (Kd.int .i64) 3 w' w.heap.size (fun k_=>some k_≠(s_.1:Value).ownBlock) s_.2 y395)∧(w'.heap[gb387]? = some (.cells #[.slice A0_0 l0_0.length c0_0,.slice A0_1 l0_1.length c0_1] 27 (0,0)))∧(w'.heap[gb388]? = some (.cells #[.slice none 0 0,.slice none 0 0] 27 (0,0)))∧(Below w.heap.size w w')) ?_ ?_
        rotate_left
        ·intro hJ0_4
         refine join_ (σ:=Value × Nat) 5 (bl_ 11 615) (fun s_=>[(7,s_.1),(5,.pointer (some ⟨s_.2,0,none⟩))]) (fun s_ w'=>(w'.cell? ⟨gb387,0,none⟩ = some (.slice A0_0 l0_0.length c0_0)∧w'.cell? ⟨gb387,1,none⟩ = some (.slice A0_1 l0_1.length c0_1))∧(Kd.R (Kd.int .i64) 3 w' w.heap.size (fun _=>True) s_.1 y389)∧(w'.heap[gb387]? = some (.cells #[.slice A0_0 l0_0.length c0_0,.slice A0_1 l0_1.length c0_1] 27 (0,0)))∧(w'.heap[gb388]? = some (.cells #[.slice none 0 0,.slice none 0 0] 27 (0,0)))∧(w'.heap[s_.2]? = some (.cells #[.slice none 0 0,.slice none 0 0] 27 (0,0)))∧(w.heap.size≤s_.2)∧(w.heap.size≤s_.2)∧(gb387≠s_.2)∧(s_.2≠gb387)∧(gb388≠s_.2)∧(s_.2≠gb388)∧(Below w.heap.size w w')) ?_ ?_
         rotate_left
         ·intro hJ0_9
          refine join_ (σ:=Value × Nat) 5 (bl_ 11 630) (fun s_=>[(11,s_.1),(5,.pointer (some ⟨s_.2,0,none⟩))]) (fun s_ w'=>(w'.cell? ⟨gb387,0,none⟩ = some (.slice A0_0 l0_0.length c0_0)∧w'.cell? ⟨gb387,1,none⟩ = some (.slice A0_1 l0_1.length c0_1))∧(Kd.R (Kd.int .i64) 3 w' w.heap.size (fun _=>True) s_.1 y395)∧(w'.heap[gb387]? = some (.cells #[.slice A0_0 l0_0.length c0_0,.slice A0_1 l0_1.length c0_1] 27 (0,0)))∧(w'.heap[gb388]? = some (.cells #[.slice none 0 0,.slice none 0 0] 27 (0,0)))∧(w'.heap[s_.2]? = some (.cells #[.slice none 0 0,.slice none 0 0] 27 (0,0)))∧(w.heap.size≤s_.2)∧(w.heap.size≤s_.2)∧(gb387≠s_.2)∧(s_.2≠gb387)∧(gb388≠s_.2)∧(s_.2≠gb388)∧(Below w.heap.size w w')) ?_ ?_
          rotate_left
          ·intro hJ4_9
           refine join_ (σ:=Value) 6 (bl_ 11 103) (fun s_=>[(7,s_)]) (fun s_ w'=>(w'.cell? ⟨gb387,0,none⟩ = some (.slice A0_0 l0_0.length c0_0)∧w'.cell? ⟨gb387,1,none⟩ = some (.slice A0_1 l0_1.length c0_1))∧(Kd.R (Kd.int .i64) 3 w' w.heap.size (fun _=>True) s_ y389)∧(w'.heap[gb387]? = some (.cells #[.slice A0_0 l0_0.length c0_0,.slice A0_1 l0_1.length c0_1] 27 (0,0)))∧(w'.heap[gb388]? = some (.cells #[.slice none 0 0,.slice none 0 0] 27 (0,0)))∧(Below w.heap.size w w')) ?_ ?_
           rotate_left
           ·intro hJ0
            refine join_ (σ:=Value) 6 (bl_ 11 118) (fun s_=>[(11,s_)]) (fun s_ w'=>(w'.cell? ⟨gb387,0,none⟩ = some (.slice A0_0 l0_0.length c0_0)∧w'.cell? ⟨gb387,1,none⟩ = some (.slice A0_1 l0_1.length c0_1))∧(Kd.R (Kd.int .i64) 3 w' w.heap.size (fun _=>True) s_ y395)∧(w'.heap[gb387]? = some (.cells #[.slice A0_0 l0_0.length c0_0,.slice A0_1 l0_1.length c0_1] 27 (0,0)))∧(w'.heap[gb388]? = some (.cells #[.slice none 0 0,.slice none 0 0] 27 (0,0)))∧(Below w.heap.size w w')) ?_ ?_
            rotate_left
            ·intro hJ4
             refine join_ (σ:=Nat) 6 (bl_ 11 614) (fun s_=>[(5,.pointer (some ⟨s_,0,none⟩))]) (fun s_ w'=>(w'.cell? ⟨gb387,0,none⟩ = some (.slice A0_0 l0_0.length c0_0)∧w'.cell? ⟨gb387,1,none⟩ = some (.slice A0_1 l0_1.length c0_1))∧(w'.heap[gb387]? = some (.cells #[.slice A0_0 l0_0.length c0_0,.slice A0_1 l0_1.length c0_1] 27 (0,0)))∧(w'.heap[gb388]? = some (.cells #[.slice none 0 0,.slice none 0 0] 27 (0,0)))∧(w'.heap[s_]? = some (.cells #[.slice none 0 0,.slice none 0 0] 27 (0,0)))∧(w.heap.size≤s_)∧(w.heap.size≤s_)∧(gb387≠s_)∧(s_≠gb387)∧(gb388≠s_)∧(s_≠gb388)∧(Below w.heap.size w w')) ?_ ?_
             rotate_left
             ·intro hJ9
              refine three_ (i:=0) (j:=4) (k:=9) (Ni:=some 7) (Nj:=some 11) (Nk:=some 5) (bl_ 11 103) (bl_ 11 118) (bl_ 11 614) rfl rfl rfl rfl rfl rfl (three_of HT_.out (by kernel_rfl)) (by decide) (by decide) (by decide) (fun K hK=>?_) (fun K hK=>?_) (fun K hK=>?_)
              ·skip
               refine Kd.R_lit_step (Kd.int .i64) _ 3 ?hg (N:=7) ?hd (xs:=([]:List Int)) (inner:=[]) (ok:=fun _=>True) (okp:=fun _=>True) ?hr ?hp (fun _ hk=>hk) trivial (Below.refl _ _) (nA_ _) (by simp) ?_;(case hd=>rfl);(case hg=>rfl);(case hr=>first | (go_simp;done) | (go_simp;rfl));(case hp=>exact (Reps.none _ _))
               intro v390 w8 ho9 hb hg_ hnew_
               clear hg_ hnew_
               (first | rw [← Ny389.out] at ho9 | (simp only [Int.reduceToNat] at ho9;rw [← Ny389.out] at ho9))
               have HO391:=rl_ w ho9
               replace BK387:=bb_ BK387 hb
               replace BK388:=bb_ BK388 hb
               replace HB:=b1_ hb
               clear hb ho9
               refine hK.out _ _ ⟨cz0_ BK387,cz1_ BK387⟩ (fun hHeld=>?_)
               clear hK K
               refine no_ (some 7) ?_
               exact norm_ (by first | (simp only [putAll,Act.put,sA_,sB_,sC_];done) | (simp only [putAll,Act.put,sA_,sB_,sC_];rfl)) (hJ0 (v390) _ ⟨hHeld,(rr_ HO391),(kk_ BK387),(kk_ BK388),hB_⟩)
              ·skip
               refine Kd.R_lit_step (Kd.int .i64) _ 3 ?hg (N:=11) ?hd (xs:=([]:List Int)) (inner:=[]) (ok:=fun _=>True) (okp:=fun _=>True) ?hr ?hp (fun _ hk=>hk) trivial (Below.refl _ _) (nA_ _) (by simp) ?_;(case hd=>rfl);(case hg=>rfl);(case hr=>first | (go_simp;done) | (go_simp;rfl));(case hp=>exact (Reps.none _ _))
               intro v396 w8 ho9 hb hg_ hnew_
               clear hg_ hnew_
               (first | rw [← Ny395.out] at ho9 | (simp only [Int.reduceToNat] at ho9;rw [← Ny395.out] at ho9))
               have HO397:=rl_ w ho9
               replace BK387:=bb_ BK387 hb
               replace BK388:=bb_ BK388 hb
               replace HB:=b1_ hb
               clear hb ho9
               refine hK.out _ _ ⟨cz0_ BK387,cz1_ BK387⟩ (fun hHeld=>?_)
               clear hK K
               refine no_ (some 11) ?_
               exact norm_ (by first | (simp only [putAll,Act.put,sA_,sB_,sC_];done) | (simp only [putAll,Act.put,sA_,sB_,sC_];rfl)) (hJ4 (v396) _ ⟨hHeld,(rr_ HO397),(kk_ BK387),(kk_ BK388),hB_⟩)
              ·skip
               refine box_step ?hg (N:=5) ?hd (cs:=#[.slice none 0 0,.slice none 0 0]) (t:=27) ?hr ?_;(case hd=>rfl);(case hg=>rfl);(case hr=>first | (go_simp;done) | (go_simp;rfl))
               intro gb401 hg w8 hbox hb
               have BK401:=A_ hbox
               have GW401:=gw_ w hg
               have GE401:=GW401
               replace HB:=b1_ hb
               have NB387_401:=gN_ BK387 hg
               have NB401_387:=gP_ BK387 hg
               replace BK387:=bb_ BK387 hb
               have NB388_401:=gN_ BK388 hg
               have NB401_388:=gP_ BK388 hg
               replace BK388:=bb_ BK388 hb
               clear hb hbox hg
               refine hK.out _ _ ⟨cz0_ BK387,cz1_ BK387⟩ (fun hHeld=>?_)
               clear hK K
               refine no_ (some 5) ?_
               exact norm_ (by first | (simp only [putAll,Act.put,sA_,sB_,sC_];done) | (simp only [putAll,Act.put,sA_,sB_,sC_];rfl)) (hJ9 (gb401) _ ⟨hHeld,(kk_ BK387),(kk_ BK388),(kk_ BK401),GW401.out,GE401.out,NB387_401.out,NB401_387.out,NB388_401.out,NB401_388.out,hB_⟩)
             ·skip
              rintro gb401 w9 ⟨hS_,h0_,h1_,h2_,h3_,h4_,h5_,h6_,h7_,h8_,h9_⟩
              have n0_:Aside0 (w9.heap[gb387]? = some (.cells #[.slice A0_0 l0_0.length c0_0,.slice A0_1 l0_1.length c0_1] 27 (0,0))):=⟨h0_⟩
              have n1_:Aside0 (w9.heap[gb388]? = some (.cells #[.slice none 0 0,.slice none 0 0] 27 (0,0))):=⟨h1_⟩
              have n2_:Aside0 (w9.heap[gb401]? = some (.cells #[.slice none 0 0,.slice none 0 0] 27 (0,0))):=⟨h2_⟩
              have n3_:Aside0 (w.heap.size≤gb401):=⟨h3_⟩
              have n4_:Aside0 (w.heap.size≤gb401):=⟨h4_⟩
              have n5_:Aside0 (gb387≠gb401):=⟨h5_⟩
              have n6_:Aside0 (gb401≠gb387):=⟨h6_⟩
              have n7_:Aside0 (gb388≠gb401):=⟨h7_⟩
              have n8_:Aside0 (gb401≠gb388):=⟨h8_⟩
              have n9_:Aside0 (Below w.heap.size w w9):=⟨h9_⟩
              clear BK387
              clear BK388
              clear HB
              clear h0_ h1_ h2_ h3_ h4_ h5_ h6_ h7_ h8_ h9_
              have BK387:=n0_
              have BK388:=n1_
              have BK401:=n2_
              have GW401:=n3_
              have GE401:=n4_
              have NB387_401:=n5_
              have NB401_387:=n6_
              have NB388_401:=n7_
              have NB401_388:=n8_
              have HB:=n9_
              clear n0_ n1_ n2_ n3_ n4_ n5_ n6_ n7_ n8_ n9_
              have hHeld:w9.cell? ⟨gb387,0,none⟩ = some (.slice A0_0 l0_0.length c0_0)∧w9.cell? ⟨gb387,1,none⟩ = some (.slice A0_1 l0_1.length c0_1):=hS_
              refine norm_ (a':=?_) ?_ ?_
              rotate_left
              ·simp only [putAll,Act.put,sA_,sB_,sC_]
               rfl
              refine two_ (i:=0) (j:=4) (Ni:=some 7) (Nj:=some 11) (bl_ 11 615) (bl_ 11 630) rfl rfl rfl rfl (two_of HT_.out (by kernel_rfl)) (by decide) (by decide) (fun K hK=>?_) (fun K hK=>?_)
              ·skip
               refine Kd.R_lit_step (Kd.int .i64) _ 3 ?hg (N:=7) ?hd (xs:=([]:List Int)) (inner:=[]) (ok:=fun _=>True) (okp:=fun _=>True) ?hr ?hp (fun _ hk=>hk) trivial (Below.refl _ _) (nA_ _) (by simp) ?_;(case hd=>rfl);(case hg=>rfl);(case hr=>first | (go_simp;done) | (go_simp;rfl));(case hp=>exact (Reps.none _ _))
               intro v390 w10 ho11 hb hg_ hnew_
               clear hg_ hnew_
               (first | rw [← Ny389.out] at ho11 | (simp only [Int.reduceToNat] at ho11;rw [← Ny389.out] at ho11))
               have HO391:=rl_ w ho11
               replace BK387:=bb_ BK387 hb
               replace BK388:=bb_ BK388 hb
               replace BK401:=bb_ BK401 hb
               replace HB:=b1_ hb
               clear hb ho11
               refine hK.out _ _ ⟨cz0_ BK387,cz1_ BK387⟩ (fun hHeld=>?_)
               clear hK K
               refine no_ (some 7) ?_
               exact norm_ (by first | (simp only [putAll,Act.put,sA_,sB_,sC_];done) | (simp only [putAll,Act.put,sA_,sB_,sC_];rfl)) (hJ0_9 (v390,gb401) _ ⟨hHeld,(rr_ HO391),(kk_ BK387),(kk_ BK388),(kk_ BK401),GW401.out,GE401.out,NB387_401.out,NB401_387.out,NB388_401.out,NB401_388.out,hB_⟩)
              ·skip
               refine Kd.R_lit_step (Kd.int .i64) _ 3 ?hg (N:=11) ?hd (xs:=([]:List Int)) (inner:=[]) (ok:=fun _=>True) (okp:=fun _=>True) ?hr ?hp (fun _ hk=>hk) trivial (Below.refl _ _) (nA_ _) (by simp) ?_;(case hd=>rfl);(case hg=>rfl);(case hr=>first | (go_simp;done) | (go_simp;rfl));(case hp=>exact (Reps.none _ _))
               intro v396 w10 ho11 hb hg_ hnew_
               clear hg_ hnew_
               (first | rw [← Ny395.out] at ho11 | (simp only [Int.reduceToNat] at ho11;rw [← Ny395.out] at ho11))
               have HO397:=rl_ w ho11
               replace BK387:=bb_ BK387 hb
               replace BK388:=bb_ BK388 hb
               replace BK401:=bb_ BK401 hb
               replace HB:=b1_ hb
               clear hb ho11
               refine hK.out _ _ ⟨cz0_ BK387,cz1_ BK387⟩ (fun hHeld=>?_)
               clear hK K
               refine no_ (some 11) ?_
               exact norm_ (by first | (simp only [putAll,Act.put,sA_,sB_,sC_];done) | (simp only [putAll,Act.put,sA_,sB_,sC_];rfl)) (hJ4_9 (v396,gb401) _ ⟨hHeld,(rr_ HO397),(kk_ BK387),(kk_ BK388),(kk_ BK401),GW401.out,GE401.out,NB387_401.out,NB401_387.out,NB388_401.out,NB401_388.out,hB_⟩)
            ·skip
             rintro v396 w10 ⟨hS_,h0_,h1_,h2_,h3_⟩
             have n0_:Aside0 (Kd.R (Kd.int .i64) 3 w10 w.heap.size (fun _=>True) v396 y395):=⟨h0_⟩
             have n1_:Aside0 (w10.heap[gb387]? = some (.cells #[.slice A0_0 l0_0.length c0_0,.slice A0_1 l0_1.length c0_1] 27 (0,0))):=⟨h1_⟩
             have n2_:Aside0 (w10.heap[gb388]? = some (.cells #[.slice none 0 0,.slice none 0 0] 27 (0,0))):=⟨h2_⟩
             have n3_:Aside0 (Below w.heap.size w w10):=⟨h3_⟩
             clear BK387
             clear BK388
             clear HB
             clear h0_ h1_ h2_ h3_
             have HO397:=n0_
             have BK387:=n1_
             have BK388:=n2_
             have HB:=n3_
             clear n0_ n1_ n2_ n3_
             have hHeld:w10.cell? ⟨gb387,0,none⟩ = some (.slice A0_0 l0_0.length c0_0)∧w10.cell? ⟨gb387,1,none⟩ = some (.slice A0_1 l0_1.length c0_1):=hS_
             refine norm_ (a':=?_) ?_ ?_
             rotate_left
             ·simp only [putAll,Act.put,sA_,sB_,sC_]
              rfl
             refine two_ (i:=0) (j:=9) (Ni:=some 7) (Nj:=some 5) (bl_ 11 119) (bl_ 11 630) rfl rfl rfl rfl (two_of HT_.out (by kernel_rfl)) (by decide) (by decide) (fun K hK=>?_) (fun K hK=>?_)
             ·skip
              refine Kd.R_lit_step (Kd.int .i64) _ 3 ?hg (N:=7) ?hd (xs:=([]:List Int)) (inner:=[]) (ok:=fun _=>True) (okp:=fun _=>True) ?hr ?hp (fun _ hk=>hk) trivial (Below.refl _ _) (nA_ _) (by simp) ?_;(case hd=>rfl);(case hg=>rfl);(case hr=>first | (go_simp;done) | (go_simp;rfl));(case hp=>exact (Reps.none _ _))
              intro v390 w11 ho12 hb hg_ hnew_
              clear hg_ hnew_
              (first | rw [← Ny389.out] at ho12 | (simp only [Int.reduceToNat] at ho12;rw [← Ny389.out] at ho12))
              have HO391:=A_ (rE_ (Kd.R_new' ho12 (Kd.R_lt (rr_ HO397))) (bF_ hB_))
              replace HO397:=A_ (Kd.R_elder' (rr_ HO397) (Kd.R_base ho12) hb)
              replace BK387:=bb_ BK387 hb
              replace BK388:=bb_ BK388 hb
              replace HB:=b1_ hb
              clear hb ho12
              refine hK.out _ _ ⟨cz0_ BK387,cz1_ BK387⟩ (fun hHeld=>?_)
              clear hK K
              refine no_ (some 7) ?_
              exact norm_ (by first | (simp only [putAll,Act.put,sA_,sB_,sC_];done) | (simp only [putAll,Act.put,sA_,sB_,sC_];rfl)) (hJ0_4 (v390,v396) _ ⟨hHeld,(rw_ (Kd.R_mono HO391.out (fun _ hk=>hk.2))),(rw_ (Kd.R_mono HO397.out (fun _ hk=>hk.2))),(kk_ BK387),(kk_ BK388),hB_⟩)
             ·skip
              refine box_step ?hg (N:=5) ?hd (cs:=#[.slice none 0 0,.slice none 0 0]) (t:=27) ?hr ?_;(case hd=>rfl);(case hg=>rfl);(case hr=>first | (go_simp;done) | (go_simp;rfl))
              intro gb401 hg w11 hbox hb
              replace HO397:=rb_ HO397 hb
              have BK401:=A_ hbox
              have GW401:=gw_ w hg
              have GE401:=GW401
              replace HB:=b1_ hb
              have NB387_401:=gN_ BK387 hg
              have NB401_387:=gP_ BK387 hg
              replace BK387:=bb_ BK387 hb
              have NB388_401:=gN_ BK388 hg
              have NB401_388:=gP_ BK388 hg
              replace BK388:=bb_ BK388 hb
              clear hb hbox hg
              refine hK.out _ _ ⟨cz0_ BK387,cz1_ BK387⟩ (fun hHeld=>?_)
              clear hK K
              refine no_ (some 5) ?_
              exact norm_ (by first | (simp only [putAll,Act.put,sA_,sB_,sC_];done) | (simp only [putAll,Act.put,sA_,sB_,sC_];rfl)) (hJ4_9 (v396,gb401) _ ⟨hHeld,(rr_ HO397),(kk_ BK387),(kk_ BK388),(kk_ BK401),GW401.out,GE401.out,NB387_401.out,NB401_387.out,NB388_401.out,NB401_388.out,hB_⟩)
           ·skip
            rintro v390 w10 ⟨hS_,h0_,h1_,h2_,h3_⟩
            have n0_:Aside0 (Kd.R (Kd.int .i64) 3 w10 w.heap.size (fun _=>True) v390 y389):=⟨h0_⟩
            have n1_:Aside0 (w10.heap[gb387]? = some (.cells #[.slice A0_0 l0_0.length c0_0,.slice A0_1 l0_1.length c0_1] 27 (0,0))):=⟨h1_⟩
            have n2_:Aside0 (w10.heap[gb388]? = some (.cells #[.slice none 0 0,.slice none 0 0] 27 (0,0))):=⟨h2_⟩
            have n3_:Aside0 (Below w.heap.size w w10):=⟨h3_⟩
            clear BK387
            clear BK388
            clear HB
            clear h0_ h1_ h2_ h3_
            have HO391:=n0_
            have BK387:=n1_
            have BK388:=n2_
            have HB:=n3_
            clear n0_ n1_ n2_ n3_
            have hHeld:w10.cell? ⟨gb387,0,none⟩ = some (.slice A0_0 l0_0.length c0_0)∧w10.cell? ⟨gb387,1,none⟩ = some (.slice A0_1 l0_1.length c0_1):=hS_
            refine norm_ (a':=?_) ?_ ?_
            rotate_left
            ·simp only [putAll,Act.put,sA_,sB_,sC_]
             rfl
            refine three_ (i:=3) (j:=4) (k:=9) (Ni:=some 10) (Nj:=some 11) (Nk:=some 5) (bl_ 11 111) (bl_ 11 119) (bl_ 11 615) rfl rfl rfl rfl rfl rfl (three_of HT_.out (by kernel_rfl)) (by decide) (by decide) (by decide) (fun K hK=>?_) (fun K hK=>?_) (fun K hK=>?_)
            ·skip
             refine Kd.R_append_rows_step (Kd.int .i64) (w0:=w) w.heap.size (by rfl) (.tmp 7) (.tmp 9) 22 3 (.int .i64 0) 8 rfl Tryz.underlying22 info3 rfl (by decide) (by omega) v390 y389 l0_0 _ _ _ (fun _=>True) (fun _=>False) rfl rfl ?aO ?aR (fun _ _ h=>h) (fun _ h=>h.elim) ?aF ?aB ?aS ?aL ?_
             (case aR=>exact cb_ HR0_0)
             (case aB=>exact hB_)
             (case aF=>exact (fun _ _=>trivial))
             (case aO=>exact (rr_ HO391))
             (case aS=>exact (bF_ hB_))
             (case aL=>have:=LMc3.out;omega)
             intro v393 w11 ho hb hg hat
             rw [← Ny392.out] at ho
             replace BK387:=A_ (blk_grown (kk_ BK387) hg (Kd.R_ne HO391.out BK387.out (by decide)))
             replace BK388:=A_ (blk_grown (kk_ BK388) hg (Kd.R_ne HO391.out BK388.out (by decide)))
             replace HB:=A_ hb
             have HO394:=A_ ho
             clear HO391
             clear ho hb hg hat
             refine hK.out _ _ ⟨cz0_ BK387,cz1_ BK387⟩ (fun hHeld=>?_)
             clear hK K
             refine no_ (some 10) ?_
             exact norm_ (by first | (simp only [putAll,Act.put,sA_,sB_,sC_];done) | (simp only [putAll,Act.put,sA_,sB_,sC_];rfl)) (hJ0_3 (v390,v393) _ ⟨hHeld,(rr_ HO394),(kk_ BK387),(kk_ BK388),hB_⟩)
            ·skip
             refine Kd.R_lit_step (Kd.int .i64) _ 3 ?hg (N:=11) ?hd (xs:=([]:List Int)) (inner:=[]) (ok:=fun _=>True) (okp:=fun _=>True) ?hr ?hp (fun _ hk=>hk) trivial (Below.refl _ _) (nA_ _) (by simp) ?_;(case hd=>rfl);(case hg=>rfl);(case hr=>first | (go_simp;done) | (go_simp;rfl));(case hp=>exact (Reps.none _ _))
             intro v396 w11 ho12 hb hg_ hnew_
             clear hg_ hnew_
             (first | rw [← Ny395.out] at ho12 | (simp only [Int.reduceToNat] at ho12;rw [← Ny395.out] at ho12))
             have HO397:=A_ (rE_ (Kd.R_new' ho12 (Kd.R_lt (rr_ HO391))) (bF_ hB_))
             replace HO391:=A_ (Kd.R_elder' (rr_ HO391) (Kd.R_base ho12) hb)
             replace BK387:=bb_ BK387 hb
             replace BK388:=bb_ BK388 hb
             replace HB:=b1_ hb
             clear hb ho12
             refine hK.out _ _ ⟨cz0_ BK387,cz1_ BK387⟩ (fun hHeld=>?_)
             clear hK K
             refine no_ (some 11) ?_
             exact norm_ (by first | (simp only [putAll,Act.put,sA_,sB_,sC_];done) | (simp only [putAll,Act.put,sA_,sB_,sC_];rfl)) (hJ0_4 (v390,v396) _ ⟨hHeld,(rw_ (Kd.R_mono HO391.out (fun _ hk=>hk.2))),(rw_ (Kd.R_mono HO397.out (fun _ hk=>hk.2))),(kk_ BK387),(kk_ BK388),hB_⟩)
            ·skip
             refine box_step ?hg (N:=5) ?hd (cs:=#[.slice none 0 0,.slice none 0 0]) (t:=27) ?hr ?_;(case hd=>rfl);(case hg=>rfl);(case hr=>first | (go_simp;done) | (go_simp;rfl))
             intro gb401 hg w11 hbox hb
             replace HO391:=rb_ HO391 hb
             have BK401:=A_ hbox
             have GW401:=gw_ w hg
             have GE401:=GW401
             replace HB:=b1_ hb
             have NB387_401:=gN_ BK387 hg
             have NB401_387:=gP_ BK387 hg
             replace BK387:=bb_ BK387 hb
             have NB388_401:=gN_ BK388 hg
             have NB401_388:=gP_ BK388 hg
             replace BK388:=bb_ BK388 hb
             clear hb hbox hg
             refine hK.out _ _ ⟨cz0_ BK387,cz1_ BK387⟩ (fun hHeld=>?_)
             clear hK K
             refine no_ (some 5) ?_
             exact norm_ (by first | (simp only [putAll,Act.put,sA_,sB_,sC_];done) | (simp only [putAll,Act.put,sA_,sB_,sC_];rfl)) (hJ0_9 (v390,gb401) _ ⟨hHeld,(rr_ HO391),(kk_ BK387),(kk_ BK388),(kk_ BK401),GW401.out,GE401.out,NB387_401.out,NB401_387.out,NB388_401.out,NB401_388.out,hB_⟩)
          ·skip
           rintro ⟨v396,gb401⟩ w11 ⟨hS_,h0_,h1_,h2_,h3_,h4_,h5_,h6_,h7_,h8_,h9_,h10_⟩
           have n0_:Aside0 (Kd.R (Kd.int .i64) 3 w11 w.heap.size (fun _=>True) v396 y395):=⟨h0_⟩
           have n1_:Aside0 (w11.heap[gb387]? = some (.cells #[.slice A0_0 l0_0.length c0_0,.slice A0_1 l0_1.length c0_1] 27 (0,0))):=⟨h1_⟩
           have n2_:Aside0 (w11.heap[gb388]? = some (.cells #[.slice none 0 0,.slice none 0 0] 27 (0,0))):=⟨h2_⟩
           have n3_:Aside0 (w11.heap[gb401]? = some (.cells #[.slice none 0 0,.slice none 0 0] 27 (0,0))):=⟨h3_⟩
           have n4_:Aside0 (w.heap.size≤gb401):=⟨h4_⟩
           have n5_:Aside0 (w.heap.size≤gb401):=⟨h5_⟩
           have n6_:Aside0 (gb387≠gb401):=⟨h6_⟩
           have n7_:Aside0 (gb401≠gb387):=⟨h7_⟩
           have n8_:Aside0 (gb388≠gb401):=⟨h8_⟩
           have n9_:Aside0 (gb401≠gb388):=⟨h9_⟩
           have n10_:Aside0 (Below w.heap.size w w11):=⟨h10_⟩
           clear BK387
           clear BK388
           clear HB
           clear h0_ h1_ h2_ h3_ h4_ h5_ h6_ h7_ h8_ h9_ h10_
           have HO397:=n0_
           have BK387:=n1_
           have BK388:=n2_
           have BK401:=n3_
           have GW401:=n4_
           have GE401:=n5_
           have NB387_401:=n6_
           have NB401_387:=n7_
           have NB388_401:=n8_
           have NB401_388:=n9_
           have HB:=n10_
           clear n0_ n1_ n2_ n3_ n4_ n5_ n6_ n7_ n8_ n9_ n10_
           have hHeld:w11.cell? ⟨gb387,0,none⟩ = some (.slice A0_0 l0_0.length c0_0)∧w11.cell? ⟨gb387,1,none⟩ = some (.slice A0_1 l0_1.length c0_1):=hS_
           refine norm_ (a':=?_) ?_ ?_
           rotate_left
           ·simp only [putAll,Act.put,sA_,sB_,sC_]
            rfl
           refine on_ 0 (some 7) (bl_ 11 631) HT_ (fun K hK=>?_)
           refine Kd.R_lit_step (Kd.int .i64) _ 3 ?hg (N:=7) ?hd (xs:=([]:List Int)) (inner:=[]) (ok:=fun _=>True) (okp:=fun _=>True) ?hr ?hp (fun _ hk=>hk) trivial (Below.refl _ _) (nA_ _) (by simp) ?_;(case hd=>rfl);(case hg=>rfl);(case hr=>first | (go_simp;done) | (go_simp;rfl));(case hp=>exact (Reps.none _ _))
           intro v390 w12 ho13 hb hg_ hnew_
           clear hg_ hnew_
           (first | rw [← Ny389.out] at ho13 | (simp only [Int.reduceToNat] at ho13;rw [← Ny389.out] at ho13))
           have HO391:=A_ (rE_ (Kd.R_new' ho13 (Kd.R_lt (rr_ HO397))) (bF_ hB_))
           replace HO397:=A_ (Kd.R_elder' (rr_ HO397) (Kd.R_base ho13) hb)
           replace BK387:=bb_ BK387 hb
           replace BK388:=bb_ BK388 hb
           replace BK401:=bb_ BK401 hb
           replace HB:=b1_ hb
           clear hb ho13
           refine hK.out _ _ ⟨cz0_ BK387,cz1_ BK387⟩ (fun hHeld=>?_)
           clear hK K
           refine no_ (some 7) ?_
           exact norm_ (by first | (simp only [putAll,Act.put,sA_,sB_,sC_];done) | (simp only [putAll,Act.put,sA_,sB_,sC_];rfl)) (hJ0_4_9 (v390,v396,gb401) _ ⟨hHeld,(rw_ (Kd.R_mono HO391.out (fun _ hk=>hk.2))),(rw_ (Kd.R_mono HO397.out (fun _ hk=>hk.2))),(kk_ BK387),(kk_ BK388),(kk_ BK401),GW401.out,GE401.out,NB387_401.out,NB401_387.out,NB388_401.out,NB401_388.out,hB_⟩)
         ·skip
          rintro ⟨v390,gb401⟩ w11 ⟨hS_,h0_,h1_,h2_,h3_,h4_,h5_,h6_,h7_,h8_,h9_,h10_⟩
          have n0_:Aside0 (Kd.R (Kd.int .i64) 3 w11 w.heap.size (fun _=>True) v390 y389):=⟨h0_⟩
          have n1_:Aside0 (w11.heap[gb387]? = some (.cells #[.slice A0_0 l0_0.length c0_0,.slice A0_1 l0_1.length c0_1] 27 (0,0))):=⟨h1_⟩
          have n2_:Aside0 (w11.heap[gb388]? = some (.cells #[.slice none 0 0,.slice none 0 0] 27 (0,0))):=⟨h2_⟩
          have n3_:Aside0 (w11.heap[gb401]? = some (.cells #[.slice none 0 0,.slice none 0 0] 27 (0,0))):=⟨h3_⟩
          have n4_:Aside0 (w.heap.size≤gb401):=⟨h4_⟩
          have n5_:Aside0 (w.heap.size≤gb401):=⟨h5_⟩
          have n6_:Aside0 (gb387≠gb401):=⟨h6_⟩
          have n7_:Aside0 (gb401≠gb387):=⟨h7_⟩
          have n8_:Aside0 (gb388≠gb401):=⟨h8_⟩
          have n9_:Aside0 (gb401≠gb388):=⟨h9_⟩
          have n10_:Aside0 (Below w.heap.size w w11):=⟨h10_⟩
          clear BK387
          clear BK388
          clear HB
          clear h0_ h1_ h2_ h3_ h4_ h5_ h6_ h7_ h8_ h9_ h10_
          have HO391:=n0_
          have BK387:=n1_
          have BK388:=n2_
          have BK401:=n3_
          have GW401:=n4_
          have GE401:=n5_
          have NB387_401:=n6_
          have NB401_387:=n7_
          have NB388_401:=n8_
          have NB401_388:=n9_
          have HB:=n10_
          clear n0_ n1_ n2_ n3_ n4_ n5_ n6_ n7_ n8_ n9_ n10_
          have hHeld:w11.cell? ⟨gb387,0,none⟩ = some (.slice A0_0 l0_0.length c0_0)∧w11.cell? ⟨gb387,1,none⟩ = some (.slice A0_1 l0_1.length c0_1):=hS_
          refine norm_ (a':=?_) ?_ ?_
          rotate_left
          ·simp only [putAll,Act.put,sA_,sB_,sC_]
           rfl
          refine two_ (i:=3) (j:=4) (Ni:=some 10) (Nj:=some 11) (bl_ 11 623) (bl_ 11 631) rfl rfl rfl rfl (two_of HT_.out (by kernel_rfl)) (by decide) (by decide) (fun K hK=>?_) (fun K hK=>?_)
          ·skip
           refine Kd.R_append_rows_step (Kd.int .i64) (w0:=w) w.heap.size (by rfl) (.tmp 7) (.tmp 9) 22 3 (.int .i64 0) 8 rfl Tryz.underlying22 info3 rfl (by decide) (by omega) v390 y389 l0_0 _ _ _ (fun _=>True) (fun _=>False) rfl rfl ?aO ?aR (fun _ _ h=>h) (fun _ h=>h.elim) ?aF ?aB ?aS ?aL ?_
           (case aR=>exact cb_ HR0_0)
           (case aB=>exact hB_)
           (case aF=>exact (fun _ _=>trivial))
           (case aO=>exact (rr_ HO391))
           (case aS=>exact (bF_ hB_))
           (case aL=>have:=LMc3.out;omega)
           intro v393 w12 ho hb hg hat
           rw [← Ny392.out] at ho
           replace BK387:=A_ (blk_grown (kk_ BK387) hg (Kd.R_ne HO391.out BK387.out (by decide)))
           replace BK388:=A_ (blk_grown (kk_ BK388) hg (Kd.R_ne HO391.out BK388.out (by decide)))
           replace BK401:=A_ (blk_grown (kk_ BK401) hg (Kd.R_ne HO391.out BK401.out (by decide)))
           replace HB:=A_ hb
           have HO394:=A_ ho
           clear HO391
           clear ho hb hg hat
           refine hK.out _ _ ⟨cz0_ BK387,cz1_ BK387⟩ (fun hHeld=>?_)
           clear hK K
           refine no_ (some 10) ?_
           exact norm_ (by first | (simp only [putAll,Act.put,sA_,sB_,sC_];done) | (simp only [putAll,Act.put,sA_,sB_,sC_];rfl)) (hJ0_3_9 (v390,v393,gb401) _ ⟨hHeld,(rr_ HO394),(kk_ BK387),(kk_ BK388),(kk_ BK401),GW401.out,GE401.out,NB387_401.out,NB401_387.out,NB388_401.out,NB401_388.out,hB_⟩)
          ·skip
           refine Kd.R_lit_step (Kd.int .i64) _ 3 ?hg (N:=11) ?hd (xs:=([]:List Int)) (inner:=[]) (ok:=fun _=>True) (okp:=fun _=>True) ?hr ?hp (fun _ hk=>hk) trivial (Below.refl _ _) (nA_ _) (by simp) ?_;(case hd=>rfl);(case hg=>rfl);(case hr=>first | (go_simp;done) | (go_simp;rfl));(case hp=>exact (Reps.none _ _))
           intro v396 w12 ho13 hb hg_ hnew_
           clear hg_ hnew_
           (first | rw [← Ny395.out] at ho13 | (simp only [Int.reduceToNat] at ho13;rw [← Ny395.out] at ho13))
           have HO397:=A_ (rE_ (Kd.R_new' ho13 (Kd.R_lt (rr_ HO391))) (bF_ hB_))
           replace HO391:=A_ (Kd.R_elder' (rr_ HO391) (Kd.R_base ho13) hb)
           replace BK387:=bb_ BK387 hb
           replace BK388:=bb_ BK388 hb
           replace BK401:=bb_ BK401 hb
           replace HB:=b1_ hb
           clear hb ho13
           refine hK.out _ _ ⟨cz0_ BK387,cz1_ BK387⟩ (fun hHeld=>?_)
           clear hK K
           refine no_ (some 11) ?_
           exact norm_ (by first | (simp only [putAll,Act.put,sA_,sB_,sC_];done) | (simp only [putAll,Act.put,sA_,sB_,sC_];rfl)) (hJ0_4_9 (v390,v396,gb401) _ ⟨hHeld,(rw_ (Kd.R_mono HO391.out (fun _ hk=>hk.2))),(rw_ (Kd.R_mono HO397.out (fun _ hk=>hk.2))),(kk_ BK387),(kk_ BK388),(kk_ BK401),GW401.out,GE401.out,NB387_401.out,NB401_387.out,NB388_401.out,NB401_388.out,hB_⟩)
        ·skip
         rintro ⟨v390,v396⟩ w12 ⟨hS_,h0_,h1_,h2_,h3_,h4_⟩
         have n0_:Aside0 (Kd.R (Kd.int .i64) 3 w12 w.heap.size (fun k_=>some k_≠(v396:Value).ownBlock) v390 y389):=⟨h0_⟩
         have n1_:Aside0 (Kd.R (Kd.int .i64) 3 w12 w.heap.size (fun k_=>some k_≠(v390:Value).ownBlock) v396 y395):=⟨h1_⟩
         have n2_:Aside0 (w12.heap[gb387]? = some (.cells #[.slice A0_0 l0_0.length c0_0,.slice A0_1 l0_1.length c0_1] 27 (0,0))):=⟨h2_⟩
         have n3_:Aside0 (w12.heap[gb388]? = some (.cells #[.slice none 0 0,.slice none 0 0] 27 (0,0))):=⟨h3_⟩
         have n4_:Aside0 (Below w.heap.size w w12):=⟨h4_⟩
         clear BK387
         clear BK388
         clear HB
         clear h0_ h1_ h2_ h3_ h4_
         have HO391:=n0_
         have HO397:=n1_
         have BK387:=n2_
         have BK388:=n3_
         have HB:=n4_
         clear n0_ n1_ n2_ n3_ n4_
         have hHeld:w12.cell? ⟨gb387,0,none⟩ = some (.slice A0_0 l0_0.length c0_0)∧w12.cell? ⟨gb387,1,none⟩ = some (.slice A0_1 l0_1.length c0_1):=hS_
         refine norm_ (a':=?_) ?_ ?_
         rotate_left
         ·simp only [putAll,Act.put,sA_,sB_,sC_]
          rfl
         refine two_ (i:=3) (j:=9) (Ni:=some 10) (Nj:=some 5) (bl_ 11 127) (bl_ 11 631) rfl rfl rfl rfl (two_of HT_.out (by kernel_rfl)) (by decide) (by decide) (fun K hK=>?_) (fun K hK=>?_)
         ·skip
          refine Kd.R_append_rows_step (Kd.int .i64) (w0:=w) w.heap.size (by rfl) (.tmp 7) (.tmp 9) 22 3 (.int .i64 0) 8 rfl Tryz.underlying22 info3 rfl (by decide) (by omega) v390 y389 l0_0 _ _ _ (fun k_=>some k_≠(v396:Value).ownBlock) (fun _=>False) rfl rfl ?aO ?aR (fun _ _ h=>h) (fun _ h=>h.elim) ?aF ?aB ?aS ?aL ?_
          (case aR=>exact cb_ HR0_0)
          (case aB=>exact hB_)
          (case aF=>exact (fun k_ hk=>Kd.fresh' (Kd.R_lt (rr_ HO397)) k_ hk))
          (case aO=>exact (rr_ HO391))
          (case aS=>exact (bF_ hB_))
          (case aL=>have:=LMc3.out;omega)
          intro v393 w13 ho hb hg hat
          rw [← Ny392.out] at ho
          replace BK387:=A_ (blk_grown (kk_ BK387) hg (Kd.R_ne HO391.out BK387.out (by decide)))
          replace BK388:=A_ (blk_grown (kk_ BK388) hg (Kd.R_ne HO391.out BK388.out (by decide)))
          replace HO397:=A_ (Kd.R_after (ok:=(fun _=>True)) (rw_ (Kd.R_mono HO397.out (fun _ hk=>⟨trivial,hk⟩))) hg hat)
          replace HB:=A_ hb
          have HO394:=A_ ho
          clear HO391
          clear ho hb hg hat
          refine hK.out _ _ ⟨cz0_ BK387,cz1_ BK387⟩ (fun hHeld=>?_)
          clear hK K
          refine no_ (some 10) ?_
          exact norm_ (by first | (simp only [putAll,Act.put,sA_,sB_,sC_];done) | (simp only [putAll,Act.put,sA_,sB_,sC_];rfl)) (hJ0_3_4 (v390,v393,v396) _ ⟨hHeld,(rr_ HO394),(rw_ (Kd.R_mono HO397.out (fun _ hk=>hk.2))),(kk_ BK387),(kk_ BK388),hB_⟩)
         ·skip
          refine box_step ?hg (N:=5) ?hd (cs:=#[.slice none 0 0,.slice none 0 0]) (t:=27) ?hr ?_;(case hd=>rfl);(case hg=>rfl);(case hr=>first | (go_simp;done) | (go_simp;rfl))
          intro gb401 hg w13 hbox hb
          replace HO391:=rb_ HO391 hb
          replace HO397:=rb_ HO397 hb
          have BK401:=A_ hbox
          have GW401:=gw_ w hg
          have GE401:=GW401
          replace HB:=b1_ hb
          have NB387_401:=gN_ BK387 hg
          have NB401_387:=gP_ BK387 hg
          replace BK387:=bb_ BK387 hb
          have NB388_401:=gN_ BK388 hg
          have NB401_388:=gP_ BK388 hg
          replace BK388:=bb_ BK388 hb
          clear hb hbox hg
          refine hK.out _ _ ⟨cz0_ BK387,cz1_ BK387⟩ (fun hHeld=>?_)
          clear hK K
          refine no_ (some 5) ?_
          exact norm_ (by first | (simp only [putAll,Act.put,sA_,sB_,sC_];done) | (simp only [putAll,Act.put,sA_,sB_,sC_];rfl)) (hJ0_4_9 (v390,v396,gb401) _ ⟨hHeld,(rr_ HO391),(rr_ HO397),(kk_ BK387),(kk_ BK388),(kk_ BK401),GW401.out,GE401.out,NB387_401.out,NB401_387.out,NB388_401.out,NB401_388.out,hB_⟩)
       ·skip
        rintro ⟨v390,v393⟩ w11 ⟨hS_,h0_,h1_,h2_,h3_⟩
        have n0_:Aside0 (Kd.R (Kd.int .i64) 3 w11 w.heap.size (fun _=>True) v393 y392):=⟨h0_⟩
        have n1_:Aside0 (w11.heap[gb387]? = some (.cells #[.slice A0_0 l0_0.length c0_0,.slice A0_1 l0_1.length c0_1] 27 (0,0))):=⟨h1_⟩
        have n2_:Aside0 (w11.heap[gb388]? = some (.cells #[.slice none 0 0,.slice none 0 0] 27 (0,0))):=⟨h2_⟩
        have n3_:Aside0 (Below w.heap.size w w11):=⟨h3_⟩
        clear BK387
        clear BK388
        clear HB
        clear h0_ h1_ h2_ h3_
        have HO394:=n0_
        have BK387:=n1_
        have BK388:=n2_
        have HB:=n3_
        clear n0_ n1_ n2_ n3_
        have hHeld:w11.cell? ⟨gb387,0,none⟩ = some (.slice A0_0 l0_0.length c0_0)∧w11.cell? ⟨gb387,1,none⟩ = some (.slice A0_1 l0_1.length c0_1):=hS_
        refine norm_ (a':=?_) ?_ ?_
        rotate_left
        ·simp only [putAll,Act.put,sA_,sB_,sC_]
         rfl
        refine two_ (i:=4) (j:=9) (Ni:=some 11) (Nj:=some 5) (bl_ 11 127) (bl_ 11 623) rfl rfl rfl rfl (two_of HT_.out (by kernel_rfl)) (by decide) (by decide) (fun K hK=>?_) (fun K hK=>?_)
        ·skip
         refine Kd.R_lit_step (Kd.int .i64) _ 3 ?hg (N:=11) ?hd (xs:=([]:List Int)) (inner:=[]) (ok:=fun _=>True) (okp:=fun _=>True) ?hr ?hp (fun _ hk=>hk) trivial (Below.refl _ _) (nA_ _) (by simp) ?_;(case hd=>rfl);(case hg=>rfl);(case hr=>first | (go_simp;done) | (go_simp;rfl));(case hp=>exact (Reps.none _ _))
         intro v396 w12 ho13 hb hg_ hnew_
         clear hg_ hnew_
         (first | rw [← Ny395.out] at ho13 | (simp only [Int.reduceToNat] at ho13;rw [← Ny395.out] at ho13))
         have HO397:=A_ (rE_ (Kd.R_new' ho13 (Kd.R_lt (rr_ HO394))) (bF_ hB_))
         replace HO394:=A_ (Kd.R_elder' (rr_ HO394) (Kd.R_base ho13) hb)
         replace BK387:=bb_ BK387 hb
         replace BK388:=bb_ BK388 hb
         replace HB:=b1_ hb
         clear hb ho13
         refine hK.out _ _ ⟨cz0_ BK387,cz1_ BK387⟩ (fun hHeld=>?_)
         clear hK K
         refine no_ (some 11) ?_
         exact norm_ (by first | (simp only [putAll,Act.put,sA_,sB_,sC_];done) | (simp only [putAll,Act.put,sA_,sB_,sC_];rfl)) (hJ0_3_4 (v390,v393,v396) _ ⟨hHeld,(rw_ (Kd.R_mono HO394.out (fun _ hk=>hk.2))),(rw_ (Kd.R_mono HO397.out (fun _ hk=>hk.2))),(kk_ BK387),(kk_ BK388),hB_⟩)
        ·skip
         refine box_step ?hg (N:=5) ?hd (cs:=#[.slice none 0 0,.slice none 0 0]) (t:=27) ?hr ?_;(case hd=>rfl);(case hg=>rfl);(case hr=>first | (go_simp;done) | (go_simp;rfl))
         intro gb401 hg w12 hbox hb
         replace HO394:=rb_ HO394 hb
         have BK401:=A_ hbox
         have GW401:=gw_ w hg
         have GE401:=GW401
         replace HB:=b1_ hb
         have NB387_401:=gN_ BK387 hg
         have NB401_387:=gP_ BK387 hg
         replace BK387:=bb_ BK387 hb
         have NB388_401:=gN_ BK388 hg
         have NB401_388:=gP_ BK388 hg
         replace BK388:=bb_ BK388 hb
         clear hb hbox hg
         refine hK.out _ _ ⟨cz0_ BK387,cz1_ BK387⟩ (fun hHeld=>?_)
         clear hK K
         refine no_ (some 5) ?_
         exact norm_ (by first | (simp only [putAll,Act.put,sA_,sB_,sC_];done) | (simp only [putAll,Act.put,sA_,sB_,sC_];rfl)) (hJ0_3_9 (v390,v393,gb401) _ ⟨hHeld,(rr_ HO394),(kk_ BK387),(kk_ BK388),(kk_ BK401),GW401.out,GE401.out,NB387_401.out,NB401_387.out,NB388_401.out,NB401_388.out,hB_⟩)
      ·skip
       rintro ⟨v390,v396,gb401⟩ w13 ⟨hS_,h0_,h1_,h2_,h3_,h4_,h5_,h6_,h7_,h8_,h9_,h10_,h11_⟩
       have n0_:Aside0 (Kd.R (Kd.int .i64) 3 w13 w.heap.size (fun k_=>some k_≠(v396:Value).ownBlock) v390 y389):=⟨h0_⟩
       have n1_:Aside0 (Kd.R (Kd.int .i64) 3 w13 w.heap.size (fun k_=>some k_≠(v390:Value).ownBlock) v396 y395):=⟨h1_⟩
       have n2_:Aside0 (w13.heap[gb387]? = some (.cells #[.slice A0_0 l0_0.length c0_0,.slice A0_1 l0_1.length c0_1] 27 (0,0))):=⟨h2_⟩
       have n3_:Aside0 (w13.heap[gb388]? = some (.cells #[.slice none 0 0,.slice none 0 0] 27 (0,0))):=⟨h3_⟩
       have n4_:Aside0 (w13.heap[gb401]? = some (.cells #[.slice none 0 0,.slice none 0 0] 27 (0,0))):=⟨h4_⟩
       have n5_:Aside0 (w.heap.size≤gb401):=⟨h5_⟩
       have n6_:Aside0 (w.heap.size≤gb401):=⟨h6_⟩
       have n7_:Aside0 (gb387≠gb401):=⟨h7_⟩
       have n8_:Aside0 (gb401≠gb387):=⟨h8_⟩
       have n9_:Aside0 (gb388≠gb401):=⟨h9_⟩
       have n10_:Aside0 (gb401≠gb388):=⟨h10_⟩
       have n11_:Aside0 (Below w.heap.size w w13):=⟨h11_⟩
       clear BK387
       clear BK388
       clear HB
       clear h0_ h1_ h2_ h3_ h4_ h5_ h6_ h7_ h8_ h9_ h10_ h11_
       have HO391:=n0_
       have HO397:=n1_
       have BK387:=n2_
       have BK388:=n3_
       have BK401:=n4_
       have GW401:=n5_
       have GE401:=n6_
       have NB387_401:=n7_
       have NB401_387:=n8_
       have NB388_401:=n9_
       have NB401_388:=n10_
       have HB:=n11_
       clear n0_ n1_ n2_ n3_ n4_ n5_ n6_ n7_ n8_ n9_ n10_ n11_
       have hHeld:w13.cell? ⟨gb387,0,none⟩ = some (.slice A0_0 l0_0.length c0_0)∧w13.cell? ⟨gb387,1,none⟩ = some (.slice A0_1 l0_1.length c0_1):=hS_
       refine norm_ (a':=?_) ?_ ?_
       rotate_left
       ·simp only [putAll,Act.put,sA_,sB_,sC_]
        rfl
       refine on_ 3 (some 10) (bl_ 11 639) HT_ (fun K hK=>?_)
       refine Kd.R_append_rows_step (Kd.int .i64) (w0:=w) w.heap.size (by rfl) (.tmp 7) (.tmp 9) 22 3 (.int .i64 0) 8 rfl Tryz.underlying22 info3 rfl (by decide) (by omega) v390 y389 l0_0 _ _ _ (fun k_=>some k_≠(v396:Value).ownBlock) (fun _=>False) rfl rfl ?aO ?aR (fun _ _ h=>h) (fun _ h=>h.elim) ?aF ?aB ?aS ?aL ?_
       (case aR=>exact cb_ HR0_0)
       (case aB=>exact hB_)
       (case aF=>exact (fun k_ hk=>Kd.fresh' (Kd.R_lt (rr_ HO397)) k_ hk))
       (case aO=>exact (rr_ HO391))
       (case aS=>exact (bF_ hB_))
       (case aL=>have:=LMc3.out;omega)
       intro v393 w14 ho hb hg hat
       rw [← Ny392.out] at ho
       replace BK387:=A_ (blk_grown (kk_ BK387) hg (Kd.R_ne HO391.out BK387.out (by decide)))
       replace BK388:=A_ (blk_grown (kk_ BK388) hg (Kd.R_ne HO391.out BK388.out (by decide)))
       replace HO397:=A_ (Kd.R_after (ok:=(fun _=>True)) (rw_ (Kd.R_mono HO397.out (fun _ hk=>⟨trivial,hk⟩))) hg hat)
       replace BK401:=A_ (blk_grown (kk_ BK401) hg (Kd.R_ne HO391.out BK401.out (by decide)))
       replace HB:=A_ hb
       have HO394:=A_ ho
       clear HO391
       clear ho hb hg hat
       refine hK.out _ _ ⟨cz0_ BK387,cz1_ BK387⟩ (fun hHeld=>?_)
       clear hK K
       refine no_ (some 10) ?_
       exact norm_ (by first | (simp only [putAll,Act.put,sA_,sB_,sC_];done) | (simp only [putAll,Act.put,sA_,sB_,sC_];rfl)) (hJ0_3_4_9 (v390,v393,v396,gb401) _ ⟨hHeld,(rr_ HO394),(rw_ (Kd.R_mono HO397.out (fun _ hk=>hk.2))),(kk_ BK387),(kk_ BK388),(kk_ BK401),GW401.out,GE401.out,NB387_401.out,NB401_387.out,NB388_401.out,NB401_388.out,hB_⟩)
     ·skip
      rintro ⟨v390,v393,gb401⟩ w12 ⟨hS_,h0_,h1_,h2_,h3_,h4_,h5_,h6_,h7_,h8_,h9_,h10_⟩
      have n0_:Aside0 (Kd.R (Kd.int .i64) 3 w12 w.heap.size (fun _=>True) v393 y392):=⟨h0_⟩
      have n1_:Aside0 (w12.heap[gb387]? = some (.cells #[.slice A0_0 l0_0.length c0_0,.slice A0_1 l0_1.length c0_1] 27 (0,0))):=⟨h1_⟩
      have n2_:Aside0 (w12.heap[gb388]? = some (.cells #[.slice none 0 0,.slice none 0 0] 27 (0,0))):=⟨h2_⟩
      have n3_:Aside0 (w12.heap[gb401]? = some (.cells #[.slice none 0 0,.slice none 0 0] 27 (0,0))):=⟨h3_⟩
      have n4_:Aside0 (w.heap.size≤gb401):=⟨h4_⟩
      have n5_:Aside0 (w.heap.size≤gb401):=⟨h5_⟩
      have n6_:Aside0 (gb387≠gb401):=⟨h6_⟩
      have n7_:Aside0 (gb401≠gb387):=⟨h7_⟩
      have n8_:Aside0 (gb388≠gb401):=⟨h8_⟩
      have n9_:Aside0 (gb401≠gb388):=⟨h9_⟩
      have n10_:Aside0 (Below w.heap.size w w12):=⟨h10_⟩
      clear BK387
      clear BK388
      clear HB
      clear h0_ h1_ h2_ h3_ h4_ h5_ h6_ h7_ h8_ h9_ h10_
      have HO394:=n0_
      have BK387:=n1_
      have BK388:=n2_
      have BK401:=n3_
      have GW401:=n4_
      have GE401:=n5_
      have NB387_401:=n6_
      have NB401_387:=n7_
      have NB388_401:=n8_
      have NB401_388:=n9_
      have HB:=n10_
      clear n0_ n1_ n2_ n3_ n4_ n5_ n6_ n7_ n8_ n9_ n10_
      have hHeld:w12.cell? ⟨gb387,0,none⟩ = some (.slice A0_0 l0_0.length c0_0)∧w12.cell? ⟨gb387,1,none⟩ = some (.slice A0_1 l0_1.length c0_1):=hS_
      refine norm_ (a':=?_) ?_ ?_
      rotate_left
      ·simp only [putAll,Act.put,sA_,sB_,sC_]
       rfl
      refine on_ 4 (some 11) (bl_ 11 639) HT_ (fun K hK=>?_)
      refine Kd.R_lit_step (Kd.int .i64) _ 3 ?hg (N:=11) ?hd (xs:=([]:List Int)) (inner:=[]) (ok:=fun _=>True) (okp:=fun _=>True) ?hr ?hp (fun _ hk=>hk) trivial (Below.refl _ _) (nA_ _) (by simp) ?_;(case hd=>rfl);(case hg=>rfl);(case hr=>first | (go_simp;done) | (go_simp;rfl));(case hp=>exact (Reps.none _ _))
      intro v396 w13 ho14 hb hg_ hnew_
      clear hg_ hnew_
      (first | rw [← Ny395.out] at ho14 | (simp only [Int.reduceToNat] at ho14;rw [← Ny395.out] at ho14))
      have HO397:=A_ (rE_ (Kd.R_new' ho14 (Kd.R_lt (rr_ HO394))) (bF_ hB_))
      replace HO394:=A_ (Kd.R_elder' (rr_ HO394) (Kd.R_base ho14) hb)
      replace BK387:=bb_ BK387 hb
      replace BK388:=bb_ BK388 hb
      replace BK401:=bb_ BK401 hb
      replace HB:=b1_ hb
      clear hb ho14
      refine hK.out _ _ ⟨cz0_ BK387,cz1_ BK387⟩ (fun hHeld=>?_)
      clear hK K
      refine no_ (some 11) ?_
      exact norm_ (by first | (simp only [putAll,Act.put,sA_,sB_,sC_];done) | (simp only [putAll,Act.put,sA_,sB_,sC_];rfl)) (hJ0_3_4_9 (v390,v393,v396,gb401) _ ⟨hHeld,(rw_ (Kd.R_mono HO394.out (fun _ hk=>hk.2))),(rw_ (Kd.R_mono HO397.out (fun _ hk=>hk.2))),(kk_ BK387),(kk_ BK388),(kk_ BK401),GW401.out,GE401.out,NB387_401.out,NB401_387.out,NB388_401.out,NB401_388.out,hB_⟩)
    ·skip
     rintro ⟨v390,v393,v396⟩ w13 ⟨hS_,h0_,h1_,h2_,h3_,h4_⟩
     have n0_:Aside0 (Kd.R (Kd.int .i64) 3 w13 w.heap.size (fun k_=>some k_≠(v396:Value).ownBlock) v393 y392):=⟨h0_⟩
     have n1_:Aside0 (Kd.R (Kd.int .i64) 3 w13 w.heap.size (fun k_=>some k_≠(v393:Value).ownBlock) v396 y395):=⟨h1_⟩
     have n2_:Aside0 (w13.heap[gb387]? = some (.cells #[.slice A0_0 l0_0.length c0_0,.slice A0_1 l0_1.length c0_1] 27 (0,0))):=⟨h2_⟩
     have n3_:Aside0 (w13.heap[gb388]? = some (.cells #[.slice none 0 0,.slice none 0 0] 27 (0,0))):=⟨h3_⟩
     have n4_:Aside0 (Below w.heap.size w w13):=⟨h4_⟩
     clear BK387
     clear BK388
     clear HB
     clear h0_ h1_ h2_ h3_ h4_
     have HO394:=n0_
     have HO397:=n1_
     have BK387:=n2_
     have BK388:=n3_
     have HB:=n4_
     clear n0_ n1_ n2_ n3_ n4_
     have hHeld:w13.cell? ⟨gb387,0,none⟩ = some (.slice A0_0 l0_0.length c0_0)∧w13.cell? ⟨gb387,1,none⟩ = some (.slice A0_1 l0_1.length c0_1):=hS_
     refine norm_ (a':=?_) ?_ ?_
     rotate_left
     ·simp only [putAll,Act.put,sA_,sB_,sC_]
      rfl
     refine two_ (i:=7) (j:=9) (Ni:=some 14) (Nj:=some 5) (bl_ 11 255) (bl_ 11 639) rfl rfl rfl rfl (two_of HT_.out (by kernel_rfl)) (by decide) (by decide) (fun K hK=>?_) (fun K hK=>?_)
     ·skip
      refine Kd.R_append_rows_step (Kd.int .i64) (w0:=w) w.heap.size (by rfl) (.tmp 11) (.tmp 13) 22 3 (.int .i64 0) 8 rfl Tryz.underlying22 info3 rfl (by decide) (by omega) v396 y395 l0_1 _ _ _ (fun k_=>some k_≠(v393:Value).ownBlock) (fun _=>False) rfl rfl ?aO ?aR (fun _ _ h=>h) (fun _ h=>h.elim) ?aF ?aB ?aS ?aL ?_
      (case aR=>exact cb_ HR0_1)
      (case aB=>exact hB_)
      (case aF=>exact (fun k_ hk=>Kd.fresh' (Kd.R_lt (rr_ HO394)) k_ hk))
      (case aO=>exact (rr_ HO397))
      (case aS=>exact (bF_ hB_))
      (case aL=>have:=LMc4.out;omega)
      intro v399 w14 ho hb hg hat
      rw [← Ny398.out] at ho
      replace BK387:=A_ (blk_grown (kk_ BK387) hg (Kd.R_ne HO397.out BK387.out (by decide)))
      replace BK388:=A_ (blk_grown (kk_ BK388) hg (Kd.R_ne HO397.out BK388.out (by decide)))
      replace HO394:=A_ (Kd.R_after (ok:=(fun _=>True)) (rw_ (Kd.R_mono HO394.out (fun _ hk=>⟨trivial,hk⟩))) hg hat)
      replace HB:=A_ hb
      have HO400:=A_ ho
      clear HO397
      clear ho hb hg hat
      obtain ⟨Ao15,co15,eo15⟩:=Kd.R_slice HO400.out
      (first | subst eo15 | (injection eo15 with f1_ f2_ f3_;have f4_:=f1_.symm;have f5_:=f3_.symm;clear f1_ f2_ f3_;subst f4_;subst f5_))
      obtain ⟨Ao16,co16,eo16⟩:=Kd.R_slice HO394.out
      (first | subst eo16 | (injection eo16 with f1_ f2_ f3_;have f4_:=f1_.symm;have f5_:=f3_.symm;clear f1_ f2_ f3_;subst f4_;subst f5_))
      refine hK.out _ _ ⟨cz0_ BK387,cz1_ BK387⟩ (fun hHeld=>?_)
      clear hK K
      refine no_ (some 14) ?_
      refine pu_ 8 (some 15) (bl_ 11 511) HT_ ?_
      exact norm_ (by first | (simp only [putAll,Act.put,sA_,sB_,sC_];done) | (simp only [putAll,Act.put,sA_,sB_,sC_];rfl)) (hJ0_3_4_7 (v390,.slice Ao16 y392.length co16,v396,.slice Ao15 y398.length co15) _ ⟨hHeld,(rw_ (Kd.R_mono HO394.out (fun _ hk=>hk.2))),(rr_ HO400),(kk_ BK387),(kk_ BK388),hB_⟩)
     ·skip
      refine box_step ?hg (N:=5) ?hd (cs:=#[.slice none 0 0,.slice none 0 0]) (t:=27) ?hr ?_;(case hd=>rfl);(case hg=>rfl);(case hr=>first | (go_simp;done) | (go_simp;rfl))
      intro gb401 hg w14 hbox hb
      replace HO394:=rb_ HO394 hb
      replace HO397:=rb_ HO397 hb
      have BK401:=A_ hbox
      have GW401:=gw_ w hg
      have GE401:=GW401
      replace HB:=b1_ hb
      have NB387_401:=gN_ BK387 hg
      have NB401_387:=gP_ BK387 hg
      replace BK387:=bb_ BK387 hb
      have NB388_401:=gN_ BK388 hg
      have NB401_388:=gP_ BK388 hg
      replace BK388:=bb_ BK388 hb
      clear hb hbox hg
      refine hK.out _ _ ⟨cz0_ BK387,cz1_ BK387⟩ (fun hHeld=>?_)
      clear hK K
      refine no_ (some 5) ?_
      exact norm_ (by first | (simp only [putAll,Act.put,sA_,sB_,sC_];done) | (simp only [putAll,Act.put,sA_,sB_,sC_];rfl)) (hJ0_3_4_9 (v390,v393,v396,gb401) _ ⟨hHeld,(rr_ HO394),(rr_ HO397),(kk_ BK387),(kk_ BK388),(kk_ BK401),GW401.out,GE401.out,NB387_401.out,NB401_387.out,NB388_401.out,NB401_388.out,hB_⟩)
   ·skip
    rintro ⟨v390,v393,v396,gb401⟩ w14 ⟨hS_,h0_,h1_,h2_,h3_,h4_,h5_,h6_,h7_,h8_,h9_,h10_,h11_⟩
    have n0_:Aside0 (Kd.R (Kd.int .i64) 3 w14 w.heap.size (fun k_=>some k_≠(v396:Value).ownBlock) v393 y392):=⟨h0_⟩
    have n1_:Aside0 (Kd.R (Kd.int .i64) 3 w14 w.heap.size (fun k_=>some k_≠(v393:Value).ownBlock) v396 y395):=⟨h1_⟩
    have n2_:Aside0 (w14.heap[gb387]? = some (.cells #[.slice A0_0 l0_0.length c0_0,.slice A0_1 l0_1.length c0_1] 27 (0,0))):=⟨h2_⟩
    have n3_:Aside0 (w14.heap[gb388]? = some (.cells #[.slice none 0 0,.slice none 0 0] 27 (0,0))):=⟨h3_⟩
    have n4_:Aside0 (w14.heap[gb401]? = some (.cells #[.slice none 0 0,.slice none 0 0] 27 (0,0))):=⟨h4_⟩
    have n5_:Aside0 (w.heap.size≤gb401):=⟨h5_⟩
    have n6_:Aside0 (w.heap.size≤gb401):=⟨h6_⟩
    have n7_:Aside0 (gb387≠gb401):=⟨h7_⟩
    have n8_:Aside0 (gb401≠gb387):=⟨h8_⟩
    have n9_:Aside0 (gb388≠gb401):=⟨h9_⟩
    have n10_:Aside0 (gb401≠gb388):=⟨h10_⟩
    have n11_:Aside0 (Below w.heap.size w w14):=⟨h11_⟩
    clear BK387
    clear BK388
    clear HB
    clear h0_ h1_ h2_ h3_ h4_ h5_ h6_ h7_ h8_ h9_ h10_ h11_
    have HO394:=n0_
    have HO397:=n1_
    have BK387:=n2_
    have BK388:=n3_
    have BK401:=n4_
    have GW401:=n5_
    have GE401:=n6_
    have NB387_401:=n7_
    have NB401_387:=n8_
    have NB388_401:=n9_
    have NB401_388:=n10_
    have HB:=n11_
    clear n0_ n1_ n2_ n3_ n4_ n5_ n6_ n7_ n8_ n9_ n10_ n11_
    have hHeld:w14.cell? ⟨gb387,0,none⟩ = some (.slice A0_0 l0_0.length c0_0)∧w14.cell? ⟨gb387,1,none⟩ = some (.slice A0_1 l0_1.length c0_1):=hS_
    refine norm_ (a':=?_) ?_ ?_
    rotate_left
    ·simp only [putAll,Act.put,sA_,sB_,sC_]
     rfl
    refine on_ 7 (some 14) (bl_ 11 767) HT_ (fun K hK=>?_)
    refine Kd.R_append_rows_step (Kd.int .i64) (w0:=w) w.heap.size (by rfl) (.tmp 11) (.tmp 13) 22 3 (.int .i64 0) 8 rfl Tryz.underlying22 info3 rfl (by decide) (by omega) v396 y395 l0_1 _ _ _ (fun k_=>some k_≠(v393:Value).ownBlock) (fun _=>False) rfl rfl ?aO ?aR (fun _ _ h=>h) (fun _ h=>h.elim) ?aF ?aB ?aS ?aL ?_
    (case aR=>exact cb_ HR0_1)
    (case aB=>exact hB_)
    (case aF=>exact (fun k_ hk=>Kd.fresh' (Kd.R_lt (rr_ HO394)) k_ hk))
    (case aO=>exact (rr_ HO397))
    (case aS=>exact (bF_ hB_))
    (case aL=>have:=LMc4.out;omega)
    intro v399 w15 ho hb hg hat
    rw [← Ny398.out] at ho
    replace BK387:=A_ (blk_grown (kk_ BK387) hg (Kd.R_ne HO397.out BK387.out (by decide)))
    replace BK388:=A_ (blk_grown (kk_ BK388) hg (Kd.R_ne HO397.out BK388.out (by decide)))
    replace HO394:=A_ (Kd.R_after (ok:=(fun _=>True)) (rw_ (Kd.R_mono HO394.out (fun _ hk=>⟨trivial,hk⟩))) hg hat)
    replace BK401:=A_ (blk_grown (kk_ BK401) hg (Kd.R_ne HO397.out BK401.out (by decide)))
    replace HB:=A_ hb
    have HO400:=A_ ho
    clear HO397
    clear ho hb hg hat
    obtain ⟨Ao16,co16,eo16⟩:=Kd.R_slice HO400.out
    (first | subst eo16 | (injection eo16 with f1_ f2_ f3_;have f4_:=f1_.symm;have f5_:=f3_.symm;clear f1_ f2_ f3_;subst f4_;subst f5_))
    obtain ⟨Ao17,co17,eo17⟩:=Kd.R_slice HO394.out
    (first | subst eo17 | (injection eo17 with f1_ f2_ f3_;have f4_:=f1_.symm;have f5_:=f3_.symm;clear f1_ f2_ f3_;subst f4_;subst f5_))
    refine hK.out _ _ ⟨cz0_ BK387,cz1_ BK387⟩ (fun hHeld=>?_)
    clear hK K
    refine no_ (some 14) ?_
    refine pu_ 8 (some 15) (bl_ 11 1023) HT_ ?_
    exact norm_ (by first | (simp only [putAll,Act.put,sA_,sB_,sC_];done) | (simp only [putAll,Act.put,sA_,sB_,sC_];rfl)) (hJ0_3_4_7_9 (v390,.slice Ao17 y392.length co17,v396,.slice Ao16 y398.length co16,gb401) _ ⟨hHeld,(rw_ (Kd.R_mono HO394.out (fun _ hk=>hk.2))),(rr_ HO400),(kk_ BK387),(kk_ BK388),(kk_ BK401),GW401.out,GE401.out,NB387_401.out,NB401_387.out,NB388_401.out,NB401_388.out,hB_⟩)
  ·skip
   rintro ⟨v390,v393,v396,v399⟩ w16 ⟨hS_,h0_,h1_,h2_,h3_,h4_⟩
   have n0_:Aside0 (Kd.R (Kd.int .i64) 3 w16 w.heap.size (fun k_=>some k_≠(v399:Value).ownBlock) v393 y392):=⟨h0_⟩
   have n1_:Aside0 (Kd.R (Kd.int .i64) 3 w16 w.heap.size (fun k_=>some k_≠(v393:Value).ownBlock) v399 y398):=⟨h1_⟩
   have n2_:Aside0 (w16.heap[gb387]? = some (.cells #[.slice A0_0 l0_0.length c0_0,.slice A0_1 l0_1.length c0_1] 27 (0,0))):=⟨h2_⟩
   have n3_:Aside0 (w16.heap[gb388]? = some (.cells #[.slice none 0 0,.slice none 0 0] 27 (0,0))):=⟨h3_⟩
   have n4_:Aside0 (Below w.heap.size w w16):=⟨h4_⟩
   clear BK387
   clear BK388
   clear HB
   clear h0_ h1_ h2_ h3_ h4_
   have HO394:=n0_
   have HO400:=n1_
   have BK387:=n2_
   have BK388:=n3_
   have HB:=n4_
   clear n0_ n1_ n2_ n3_ n4_
   have hHeld:w16.cell? ⟨gb387,0,none⟩ = some (.slice A0_0 l0_0.length c0_0)∧w16.cell? ⟨gb387,1,none⟩ = some (.slice A0_1 l0_1.length c0_1):=hS_
   obtain ⟨Ao17,co17,eo17⟩:=Kd.R_slice HO400.out
   (first | subst eo17 | (injection eo17 with f1_ f2_ f3_;have f4_:=f1_.symm;have f5_:=f3_.symm;clear f1_ f2_ f3_;subst f4_;subst f5_))
   obtain ⟨Ao18,co18,eo18⟩:=Kd.R_slice HO394.out
   (first | subst eo18 | (injection eo18 with f1_ f2_ f3_;have f4_:=f1_.symm;have f5_:=f3_.symm;clear f1_ f2_ f3_;subst f4_;subst f5_))
   refine norm_ (a':=?_) ?_ ?_
   rotate_left
   ·simp only [putAll,Act.put,sA_,sB_,sC_]
    rfl
   refine on_ 9 (some 5) (bl_ 11 1023) HT_ (fun K hK=>?_)
   refine box_step ?hg (N:=5) ?hd (cs:=#[.slice none 0 0,.slice none 0 0]) (t:=27) ?hr ?_;(case hd=>rfl);(case hg=>rfl);(case hr=>first | (go_simp;done) | (go_simp;rfl))
   intro gb401 hg w19 hbox hb
   replace HO394:=rb_ HO394 hb
   replace HO400:=rb_ HO400 hb
   have BK401:=A_ hbox
   have GW401:=gw_ w hg
   have GE401:=GW401
   replace HB:=b1_ hb
   have NB387_401:=gN_ BK387 hg
   have NB401_387:=gP_ BK387 hg
   replace BK387:=bb_ BK387 hb
   have NB388_401:=gN_ BK388 hg
   have NB401_388:=gP_ BK388 hg
   replace BK388:=bb_ BK388 hb
   clear hb hbox hg
   refine hK.out _ _ ⟨cz0_ BK387,cz1_ BK387⟩ (fun hHeld=>?_)
   clear hK K
   refine no_ (some 5) ?_
   exact norm_ (by first | (simp only [putAll,Act.put,sA_,sB_,sC_];done) | (simp only [putAll,Act.put,sA_,sB_,sC_];rfl)) (hJ0_3_4_7_9 (v390,.slice Ao18 y392.length co18,v396,.slice Ao17 y398.length co17,gb401) _ ⟨hHeld,(rr_ HO394),(rr_ HO400),(kk_ BK387),(kk_ BK388),(kk_ BK401),GW401.out,GE401.out,NB387_401.out,NB401_387.out,NB388_401.out,NB401_388.out,hB_⟩)
 rintro ⟨v390,v393,v396,v399,gb401⟩ w17 ⟨hS_,h0_,h1_,h2_,h3_,h4_,h5_,h6_,h7_,h8_,h9_,h10_,h11_⟩
 have n0_:Aside0 (Kd.R (Kd.int .i64) 3 w17 w.heap.size (fun k_=>some k_≠(v399:Value).ownBlock) v393 y392):=⟨h0_⟩
 have n1_:Aside0 (Kd.R (Kd.int .i64) 3 w17 w.heap.size (fun k_=>some k_≠(v393:Value).ownBlock) v399 y398):=⟨h1_⟩
 have n2_:Aside0 (w17.heap[gb387]? = some (.cells #[.slice A0_0 l0_0.length c0_0,.slice A0_1 l0_1.length c0_1] 27 (0,0))):=⟨h2_⟩
 have n3_:Aside0 (w17.heap[gb388]? = some (.cells #[.slice none 0 0,.slice none 0 0] 27 (0,0))):=⟨h3_⟩
 have n4_:Aside0 (w17.heap[gb401]? = some (.cells #[.slice none 0 0,.slice none 0 0] 27 (0,0))):=⟨h4_⟩
 have n5_:Aside0 (w.heap.size≤gb401):=⟨h5_⟩
 have n6_:Aside0 (w.heap.size≤gb401):=⟨h6_⟩
 have n7_:Aside0 (gb387≠gb401):=⟨h7_⟩
 have n8_:Aside0 (gb401≠gb387):=⟨h8_⟩
 have n9_:Aside0 (gb388≠gb401):=⟨h9_⟩
 have n10_:Aside0 (gb401≠gb388):=⟨h10_⟩
 have n11_:Aside0 (Below w.heap.size w w17):=⟨h11_⟩
 clear BK387
 clear BK388
 clear HB
 clear h0_ h1_ h2_ h3_ h4_ h5_ h6_ h7_ h8_ h9_ h10_ h11_
 have HO394:=n0_
 have HO400:=n1_
 have BK387:=n2_
 have BK388:=n3_
 have BK401:=n4_
 have GW401:=n5_
 have GE401:=n6_
 have NB387_401:=n7_
 have NB401_387:=n8_
 have NB388_401:=n9_
 have NB401_388:=n10_
 have HB:=n11_
 clear n0_ n1_ n2_ n3_ n4_ n5_ n6_ n7_ n8_ n9_ n10_ n11_
 have hHeld:w17.cell? ⟨gb387,0,none⟩ = some (.slice A0_0 l0_0.length c0_0)∧w17.cell? ⟨gb387,1,none⟩ = some (.slice A0_1 l0_1.length c0_1):=hS_
 obtain ⟨Ao18,co18,eo18⟩:=Kd.R_slice HO400.out
 (first | subst eo18 | (injection eo18 with f1_ f2_ f3_;have f4_:=f1_.symm;have f5_:=f3_.symm;clear f1_ f2_ f3_;subst f4_;subst f5_))
 obtain ⟨Ao19,co19,eo19⟩:=Kd.R_slice HO394.out
 (first | subst eo19 | (injection eo19 with f1_ f2_ f3_;have f4_:=f1_.symm;have f5_:=f3_.symm;clear f1_ f2_ f3_;subst f4_;subst f5_))
 refine norm_ (a':=?_) ?_ ?_
 rotate_left
 ·simp only [putAll,Act.put,sA_,sB_,sC_]
  rfl
 refine on_ 10 (none) (bl_ 11 2047) HT_ (fun K hK=>?_)
 have hs20:w17.cell? ⟨gb401,0,none⟩ = some (.slice none 0 0):=cz0_ BK401
 have hfs20:=kD_ BK401.out 0
 have hns20_0:=NB387_401.out
 have hns20_1:=NB388_401.out
 have hms20_0:=NB401_387.out
 have hms20_1:=NB401_388.out
 have hs21:w17.cell? ⟨gb401,1,none⟩ = some (.slice none 0 0):=cz1_ BK401
 have hfs21:=kD_ BK401.out 1
 have hns21_0:=NB387_401.out
 have hns21_1:=NB388_401.out
 have hms21_0:=NB401_387.out
 have hms21_1:=NB401_388.out
 refine skip_ (w1:=?_) (by rfl) rfl ?_ ?_
 rotate_left
 ·go_simp
  rfl
 refine hK.out _ _ ⟨((cell_far (p:=⟨gb401,_,none⟩) NB387_401.out _).trans (((cell_far (p:=⟨gb401,_,none⟩) NB387_401.out _).trans (hHeld.1)))),((cell_far (p:=⟨gb401,_,none⟩) NB387_401.out _).trans (((cell_far (p:=⟨gb401,_,none⟩) NB387_401.out _).trans (hHeld.2))))⟩ (fun hHeld=>?_)
 clear hK K
 refine done_ (done_of HT_.out (by kernel_rfl)) ?_
 try go_wp2
 go_loopg [6] k (fun kq v6 w'=>∃ (x6_1:Int) (x402000_1:List Int) (x402001_1:List Int) (u402000:Value) (u402001:Value),v6 = .int .i64 x6_1∧Aside0 (Z83.l0 kq a1 x6_1 x402000_1 x402001_1 = some (r1,r2))∧Aside0 (kq≤k)∧Aside0 (Kd.R (Kd.int .i64) 3 w' w.heap.size (fun k_=>some k_≠(u402001:Value).ownBlock) u402000 x402000_1)∧Aside0 (Kd.R (Kd.int .i64) 3 w' w.heap.size (fun k_=>some k_≠(u402000:Value).ownBlock) u402001 x402001_1)∧Aside0 (w'.heap[gb387]? = some (.cells #[(.slice A0_0 l0_0.length c0_0),(.slice A0_1 l0_1.length c0_1)] 27 (0,0)))∧Aside0 (w'.heap[gb388]? = some (.cells #[(.slice none 0 0),(.slice none 0 0)] 27 (0,0)))∧Aside0 (w'.heap[gb401]? = some (.cells #[u402000,u402001] 27 (0,0)))∧Aside0 (Below w.heap.size w w'))
 case atStart=>exact ⟨(0),(y392),(y398),(.slice Ao19 y392.length co19),(.slice Ao18 y398.length co18),qc_,H',⟨nA_ _⟩,⟨(rw_ (fa_ HO394 BK401))⟩,⟨(rw_ (fa_ HO400 BK401))⟩,⟨by (with_reducible repeat (first | refine kA_ ?_ _ | refine kB_ ?_ | refine kC_ ?_ _));refine blk_far ?_ NB387_401.out _;(with_reducible repeat (first | refine kA_ ?_ _ | refine kB_ ?_ | refine kC_ ?_ _));refine blk_far ?_ NB387_401.out _;(with_reducible repeat (first | refine kA_ ?_ _ | refine kB_ ?_ | refine kC_ ?_ _));exact BK387.out⟩,⟨by (with_reducible repeat (first | refine kA_ ?_ _ | refine kB_ ?_ | refine kC_ ?_ _));refine blk_far ?_ NB388_401.out _;(with_reducible repeat (first | refine kA_ ?_ _ | refine kB_ ?_ | refine kC_ ?_ _));refine blk_far ?_ NB388_401.out _;(with_reducible repeat (first | refine kA_ ?_ _ | refine kB_ ?_ | refine kC_ ?_ _));exact BK388.out⟩,⟨qp_⟩,⟨hB_⟩⟩
 case round =>
  clear H'
  obtain ⟨x6_1,x402000_1,x402001_1,u402000,u402001,rfl,HA,HK1,HO_402000,HO_402001,BK387,BK388,BK401,HB⟩:=hrel
  cases gk with
  | zero=>exact absurd HA.out (by simp [Z83.l0])
  | succ k1 =>
   have H:=HA.out
   clear HA
   simp only [Z83.l0] at H
   by_cases c22:x6_1 < (a1.size:Int)
   ·rw [if_pos c22] at H
    have c22b0:=oC_ c22
    clear c22
    have c23:=cp_ H
    replace H:=ca_ H
    have c23b0:=oC_ c23
    clear c23
    obtain ⟨⟨t402,t405⟩,A25,H⟩:=bi_ H
    try dsimp only at H
    have H':=A_ H
    clear H
    try go_wp2
    replace HO_402000:=A_ (rC_ HO_402000.out)
    replace HO_402001:=A_ (rC_ HO_402001.out)
    replace BK387:=A_ (kB_ BK387.out)
    replace BK388:=A_ (kB_ BK388.out)
    replace BK401:=A_ (kB_ BK401.out)
    replace HB:=A_ (bC_ HB.out)
    have p24:0≤(x6_1:Int):=oB_ qe_
    have q24:x6_1 < (a1.size:Int):=oB_ qe_
    have hx24:=bt_at a1 x6_1
    replace p24:=eq_true p24
    replace q24:=eq_true q24
    obtain ⟨Ao27,co27,eo27⟩:=Kd.R_slice HO_402000.out
    (first | subst eo27 | (injection eo27 with f1_ f2_ f3_;have f4_:=f1_.symm;have f5_:=f3_.symm;clear f1_ f2_ f3_;subst f4_;subst f5_))
    obtain ⟨Ao28,co28,eo28⟩:=Kd.R_slice HO_402001.out
    (first | subst eo28 | (injection eo28 with f1_ f2_ f3_;have f4_:=f1_.symm;have f5_:=f3_.symm;clear f1_ f2_ f3_;subst f4_;subst f5_))
    refine start_ (n:=6) (S:=fun w'=>w'.cell? ⟨gb401,0,none⟩ = some (.slice Ao27 x402000_1.length co27)∧w'.cell? ⟨gb401,1,none⟩ = some (.slice Ao28 x402001_1.length co28)) (ds:=[5]) (bl_ 6 0) (by kernel_rfl) rfl (by kernel_rfl) ⟨cz0_ BK401,cz1_ BK401⟩ (fun hHeld=>?_)
    generalize wr.drew = w26 at HO_402000 HO_402001 BK387 BK388 BK401 HB hHeld ⊢
    refine pure_ (i:=1) (N:=some 23) (v:=?_) (a':=?_) (bl_ 6 2) rfl rfl (by kernel_rfl) (fun _ _ _ h=>h) (Or.inl ⟨by rfl,?_⟩) ?_ ?_
    rotate_left
    ·intro w'
     go_simp
     with_reducible rfl
    rotate_left
    ·simp only [Act.put,sA_,sB_,sC_,i64_w,i32_w]
     rfl
    refine pure_ (i:=2) (N:=some 24) (v:=?_) (a':=?_) (bl_ 6 6) rfl rfl (by kernel_rfl) (fun _ _ _ h=>h) (Or.inl ⟨by rfl,?_⟩) ?_ ?_
    rotate_left
    ·intro w'
     go_simp
     with_reducible rfl
    rotate_left
    ·simp only [Act.put,sA_,sB_,sC_,i64_w,i32_w]
     rfl
    refine take_ (i:=0) (N:=some 22) (v:=?_) (a':=?_) (bl_ 6 7) rfl rfl (by kernel_rfl) (fun _ _ _ h=>h) (Or.inl ⟨by rfl,?_⟩) hHeld ?_ ?_
    rotate_left
    ·rintro w' ⟨s0,s1⟩
     go_simp
     with_reducible rfl
    rotate_left
    ·simp only [Act.put,sA_,sB_,sC_,i64_w,i32_w]
     rfl
    refine take_ (i:=3) (N:=some 25) (v:=?_) (a':=?_) (bl_ 6 15) rfl rfl (by kernel_rfl) (fun _ _ _ h=>h) (Or.inl ⟨by rfl,?_⟩) hHeld ?_ ?_
    rotate_left
    ·rintro w' ⟨s0,s1⟩
     go_simp
     with_reducible rfl
    rotate_left
    ·simp only [Act.put,sA_,sB_,sC_,i64_w,i32_w]
     rfl
    refine one_ (i:=4) (N:=some 26) (bl_ 6 31) rfl rfl (by kernel_rfl) (by decide) (fun K hK=>?_)
    refine gO_ Tryz.func47 #[.agg #[.slice Ao27 x402000_1.length co27,.slice Ao28 x402001_1.length co28],.int .u8 (bt a1 x6_1)] (by rfl) rfl rfl qa_ ?_
    with_reducible refine (Z48.calls k1 _ _ x402000_1 _ _ x402001_1 (bt a1 x6_1) t402 t405 _ (cr_ HO_402000) ((Kd.R_reads' HO_402000.out).2.1) (cr_ HO_402001) ((Kd.R_reads' HO_402001.out).2.1) A25.out).mono ?_
    rintro e w29 ⟨v403,v406,rfl,ho0,ho1,hb⟩
    refine ⟨_,rfl,?_⟩
    have HO404:=A_ (rE_ (Kd.R_new' (Kd.R_new' ho0 (Kd.R_lt (rr_ HO_402000))) (Kd.R_lt (rr_ HO_402001))) (bF_ hB_))
    have HO407:=A_ (rE_ (Kd.R_new' (Kd.R_new' ho1 (Kd.R_lt (rr_ HO_402000))) (Kd.R_lt (rr_ HO_402001))) (bF_ hB_))
    replace HO_402000:=A_ (Kd.R_mono (Kd.R_told (Kd.R_told (Kd.R_old (rr_ HO_402000) hb) (Kd.R_base ho0)) (Kd.R_base ho1)) (fun _ h_=>h_.1))
    replace HO_402001:=A_ (Kd.R_mono (Kd.R_told (Kd.R_told (Kd.R_old (rr_ HO_402001) hb) (Kd.R_base ho0)) (Kd.R_base ho1)) (fun _ h_=>h_.1))
    replace BK387:=bb_ BK387 hb
    replace BK388:=bb_ BK388 hb
    replace BK401:=bb_ BK401 hb
    replace HB:=b1_ hb
    clear hb ho0 ho1
    obtain ⟨Ao30,co30,eo30⟩:=Kd.R_slice HO404.out
    (first | subst eo30 | (injection eo30 with f1_ f2_ f3_;have f4_:=f1_.symm;have f5_:=f3_.symm;clear f1_ f2_ f3_;subst f4_;subst f5_))
    obtain ⟨Ao32,co32,eo32⟩:=Kd.R_slice HO407.out
    (first | subst eo32 | (injection eo32 with f1_ f2_ f3_;have f4_:=f1_.symm;have f5_:=f3_.symm;clear f1_ f2_ f3_;subst f4_;subst f5_))
    refine hK.out _ _ ⟨cz0_ BK401,cz1_ BK401⟩ (fun hHeld=>?_)
    clear hK K
    refine no_ (some 26) ?_
    refine last_ (i:=5) (N:=none) (bl_ 6 63) rfl rfl (by kernel_rfl) (by decide) (fun K hK=>?_)
    have hs31:w29.cell? ⟨gb401,0,none⟩ = some (.slice Ao27 x402000_1.length co27):=cz0_ BK401
    have hfs31:=kD_ BK401.out 0
    have hns31_0:=NB387_401.out
    have hns31_1:=NB388_401.out
    have hms31_0:=NB401_387.out
    have hms31_1:=NB401_388.out
    have hs33:w29.cell? ⟨gb401,1,none⟩ = some (.slice Ao28 x402001_1.length co28):=cz1_ BK401
    have hfs33:=kD_ BK401.out 1
    have hns33_0:=NB387_401.out
    have hns33_1:=NB388_401.out
    have hms33_0:=NB401_387.out
    have hms33_1:=NB401_388.out
    refine skip_ (w1:=?_) (by rfl) rfl ?_ ?_
    rotate_left
    ·go_simp
     rfl
    refine hK.out _ _ ?_
    clear hK K
    refine done_ (by kernel_rfl) ?_
    try go_wp2
    go_roundg k1
    case measure=>have:=HK1.out;omega
    case rel=>exact ⟨(wrap64 (x6_1 + 1)),(t402),(t405),(.slice Ao30 t402.length co30),(.slice Ao32 t405.length co32),qc_,H',⟨by have:=HK1.out;omega⟩,⟨(rw_ (Kd.R_mono (fa_ HO404 BK401) (fun _ hk=>hk.1.1)))⟩,⟨(rw_ (Kd.R_mono (fa_ HO407 BK401) (fun _ hk=>hk.1.1)))⟩,⟨by (with_reducible repeat (first | refine kA_ ?_ _ | refine kB_ ?_ | refine kC_ ?_ _));refine blk_far ?_ NB387_401.out _;(with_reducible repeat (first | refine kA_ ?_ _ | refine kB_ ?_ | refine kC_ ?_ _));refine blk_far ?_ NB387_401.out _;(with_reducible repeat (first | refine kA_ ?_ _ | refine kB_ ?_ | refine kC_ ?_ _));exact BK387.out⟩,⟨by (with_reducible repeat (first | refine kA_ ?_ _ | refine kB_ ?_ | refine kC_ ?_ _));refine blk_far ?_ NB388_401.out _;(with_reducible repeat (first | refine kA_ ?_ _ | refine kB_ ?_ | refine kC_ ?_ _));refine blk_far ?_ NB388_401.out _;(with_reducible repeat (first | refine kA_ ?_ _ | refine kB_ ?_ | refine kC_ ?_ _));exact BK388.out⟩,⟨qp_⟩,⟨hB_⟩⟩
   ·rw [if_neg c22] at H
    have c22b0:=oD_ c22
    clear c22
    simp only [Option.some.injEq,Prod.mk.injEq] at H
    obtain ⟨rfl,rfl⟩:=H
    have hnb34:=NB401_387.out
    have hnc34:=NB387_401.out
    have hnb35:=NB401_388.out
    have hnc35:=NB388_401.out
    obtain ⟨hcz36_0,hcz36_1,hfz36_0,hfz36_1⟩:=c2_ BK401
    obtain ⟨Ao37,co37,eo37⟩:=Kd.R_slice HO_402000.out
    subst eo37
    have hnb38:=NB388_387.out
    have hnc38:=NB387_388.out
    obtain ⟨hcz39_0,hcz39_1,hfz39_0,hfz39_1⟩:=c2_ BK388
    obtain ⟨Ao40,co40,eo40⟩:=Kd.R_slice HO_402001.out
    subst eo40
    go_wp2
    refine bodyPost_ret (results_cell_row rfl _ _ gb388 27 #[.slice Ao37 x402000_1.length co37,.slice Ao40 x402001_1.length co40] (0,0) _ rfl qp_ Tryz.underlying27 rfl (by kernel_rfl)) rfl ?_
    exact ⟨_,_,qb_,(rw_ (fa_ HO_402000 BK388)),(rw_ (fa_ HO_402001 BK388)),hB_⟩
def Z69.f (k:Nat) (l0_0:List Int) (l0_1:List Int) (a1:ByteArray):Option (List Int × List Int × Bool):=(Z44.f k l0_0 l0_1).bind fun t410=>(if t410 = true then ((Z81.f k a1).bind fun t411=>(if t411 = true then ((Z83.f k l0_0 l0_1 a1).bind fun bt412=>(some (bt412.1,bt412.2,true))) else (some (([]:List Int),([]:List Int),false)))) else (some (([]:List Int),([]:List Int),false)))
theorem Z69.mono:∀ a0 a1 a2 k,LeO (Z69.f k a0 a1 a2) (Z69.f (k + 1) a0 a1 a2):=by
 intro a0 a1 a2 k
 unfold Z69.f
 repeat' first|exact Z44.mono _ _ _|exact Z81.mono _ _|exact Z83.mono _ _ _ _|exact lo_|refine LeO.ite ?_ ?_|refine LeO.bind ?_ (fun _=>?_)
set_option maxHeartbeats 8000000 in
set_option maxRecDepth 100000 in
theorem Z69.calls (k:Nat) (A0_0:Option Addr) (c0_0:Nat) (l0_0:List Int) (A0_1:Option Addr) (c0_1:Nat) (l0_1:List Int) (a1:ByteArray) (r1:List Int) (r2:List Int) (r3:Bool) (w:World) (hr0_0:Kd.C (Kd.int .i64) w A0_0 l0_0.length l0_0) (hc0_0:l0_0.length≤c0_0) (hr0_1:Kd.C (Kd.int .i64) w A0_1 l0_1.length l0_1) (hc0_1:l0_1.length≤c0_1) (h:Z69.f k l0_0 l0_1 a1 = some (r1,r2,r3)) :
  Calls Tryz.prog 37 #[.agg #[.slice A0_0 l0_0.length c0_0,.slice A0_1 l0_1.length c0_1],.string a1] w fun e w'=>∃ v0_ v1_:Value,e = .returned (.tuple #[.agg #[v0_,v1_],.bool r3])∧Kd.R (Kd.int .i64) 3 w' w.heap.size (fun k_=>some k_≠(v1_:Value).ownBlock) v0_ r1∧Kd.R (Kd.int .i64) 3 w' w.heap.size (fun k_=>some k_≠(v0_:Value).ownBlock) v1_ r2∧Below w.heap.size w w':=by
 have hu27:=Tryz.underlying27
 have HR0_0:=A_ hr0_0
 have HC0_0:=A_ hc0_0
 clear hr0_0 hc0_0
 have HR0_1:=A_ hr0_1
 have HC0_1:=A_ hc0_1
 clear hr0_1 hc0_1
 have HB:=A_ (Below.refl w.heap.size w)
 have H:=h
 unfold Z69.f at H
 clear h
 obtain ⟨t410,A3,H⟩:=bi_ H
 by_cases c4:t410 = true
 ·subst c4
  rw [if_pos rfl] at H
  obtain ⟨t411,A5,H⟩:=bi_ H
  by_cases c6:t411 = true
  ·subst c6
   rw [if_pos rfl] at H
   obtain ⟨⟨t412,t415⟩,A7,H⟩:=bi_ H
   try dsimp only at H
   simp only [Option.some.injEq,Prod.mk.injEq] at H
   obtain ⟨rfl,rfl,rfl⟩:=H
   go_enter Tryz.func37,Tryz.ntmps37
   go_wp2_with (first | ((with_reducible refine gB_ (N:=2) rfl ?_);refine bx_ 2 #[.slice A0_0 l0_0.length c0_0,.slice A0_1 l0_1.length c0_1] 27 ?_;intro gb408 hg w8 hbox hb;have BK408:=A_ hbox;have GW408:=gw_ w hg;have GE408:=GW408;replace HB:=b1_ hb;clear hb hbox hg) | ((with_reducible refine gB_ (N:=4) rfl ?_);refine bx_ 4 #[.slice none 0 0,.slice none 0 0] 27 ?_;intro gb409 hg w9 hbox hb;have BK409:=A_ hbox;have GW409:=gw_ w hg;have GE409:=GW409;replace HB:=b1_ hb;have NB408_409:=gN_ BK408 hg;have NB409_408:=gP_ BK408 hg;replace BK408:=bb_ BK408 hb;clear hb hbox hg;have hnb10:=NB408_409.out;have hnc10:=NB409_408.out;obtain ⟨hcz11_0,hcz11_1,hfz11_0,hfz11_1⟩:=c2_ BK408) | ((with_reducible refine gA_ (f:=32) rfl ?_);refine gL_ (some 7) Tryz.func32 #[.agg #[.slice A0_0 l0_0.length c0_0,.slice A0_1 l0_1.length c0_1]] rfl qa_ ?_;(with_reducible refine (Z44.calls k _ _ l0_0 _ _ l0_1 true _ (cb_ HR0_0) HC0_0.out (cb_ HR0_1) HC0_1.out A3.out).mono ?_);rintro e w12 ⟨rfl,hb⟩;refine ⟨_,rfl,?_⟩;replace BK408:=bb_ BK408 hb;replace BK409:=bb_ BK409 hb;replace HB:=b1_ hb;clear hb) | (go_at_call 54;(with_reducible refine (Z81.calls k a1 true _ A5.out).mono ?_);rintro e w' ⟨rfl,⟨nd,rfl⟩⟩;(try (rw [drewN_self w12];generalize hq_:World.drewN w12 _ = w12;have n0_:Aside0 (w12.heap[gb408]? = some (.cells #[.slice A0_0 l0_0.length c0_0,.slice A0_1 l0_1.length c0_1] 27 (0,0))):=⟨by rw [← hq_];exact (kk_ BK408)⟩;have n1_:Aside0 (w12.heap[gb409]? = some (.cells #[.slice none 0 0,.slice none 0 0] 27 (0,0))):=⟨by rw [← hq_];exact (kk_ BK409)⟩;have n2_:Aside0 (Below w.heap.size w w12):=⟨by rw [← hq_];exact hB_⟩;clear BK408 BK409 HB hq_;have BK408:=n0_;have BK409:=n1_;have HB:=n2_;clear n0_ n1_ n2_));obtain ⟨hcz13_0,hcz13_1,hfz13_0,hfz13_1⟩:=c2_ BK408) | ((with_reducible refine gA_ (f:=55) rfl ?_);refine gL_ (some 17) Tryz.func55 #[.agg #[.slice A0_0 l0_0.length c0_0,.slice A0_1 l0_1.length c0_1],.string a1] rfl qa_ ?_;(with_reducible refine (Z83.calls k _ _ l0_0 _ _ l0_1 a1 t412 t415 _ (cb_ HR0_0) HC0_0.out (cb_ HR0_1) HC0_1.out A7.out).mono ?_);rintro e w14 ⟨v413,v416,rfl,ho0,ho1,hb⟩;refine ⟨_,rfl,?_⟩;have HO414:=rl_ w ho0;have HO417:=rl_ w ho1;replace BK408:=bb_ BK408 hb;replace BK409:=bb_ BK409 hb;replace HB:=b1_ hb;clear hb ho0 ho1;obtain ⟨Ao15,co15,eo15⟩:=Kd.R_slice HO414.out;subst eo15;obtain ⟨hcz16_0,hcz16_1,hfz16_0,hfz16_1⟩:=c2_ BK409;obtain ⟨Ao17,co17,eo17⟩:=Kd.R_slice HO417.out;subst eo17))
   refine bodyPost_ret (results_ct rfl _ _ gb409 27 #[.slice Ao15 t412.length co15,.slice Ao17 t415.length co17] (0,0) _ rfl qp_ Tryz.underlying27 rfl (by kernel_rfl)) rfl ?_
   exact ⟨_,_,qb_,(rw_ (fa_ HO414 BK409)),(rw_ (fa_ HO417 BK409)),hB_⟩
  ·replace c6:=Bool.eq_false_iff.mpr c6
   subst c6
   have H1:(some (([]:List Int),([]:List Int),false)) = some (r1,r2,r3):=by rw [if_neg (show ¬ (false = true) by decide)] at H;exact H
   clear H
   have H:=H1
   clear H1
   simp only [Option.some.injEq,Prod.mk.injEq] at H
   obtain ⟨rfl,rfl,rfl⟩:=H
   go_enter Tryz.func37,Tryz.ntmps37
   go_wp2_with (first | ((with_reducible refine gB_ (N:=2) rfl ?_);refine bx_ 2 #[.slice A0_0 l0_0.length c0_0,.slice A0_1 l0_1.length c0_1] 27 ?_;intro gb408 hg w18 hbox hb;have BK408:=A_ hbox;have GW408:=gw_ w hg;have GE408:=GW408;replace HB:=b1_ hb;clear hb hbox hg) | ((with_reducible refine gB_ (N:=4) rfl ?_);refine bx_ 4 #[.slice none 0 0,.slice none 0 0] 27 ?_;intro gb409 hg w19 hbox hb;have BK409:=A_ hbox;have GW409:=gw_ w hg;have GE409:=GW409;replace HB:=b1_ hb;have NB408_409:=gN_ BK408 hg;have NB409_408:=gP_ BK408 hg;replace BK408:=bb_ BK408 hb;clear hb hbox hg;have hnb20:=NB408_409.out;have hnc20:=NB409_408.out;obtain ⟨hcz21_0,hcz21_1,hfz21_0,hfz21_1⟩:=c2_ BK408) | ((with_reducible refine gA_ (f:=32) rfl ?_);refine gL_ (some 7) Tryz.func32 #[.agg #[.slice A0_0 l0_0.length c0_0,.slice A0_1 l0_1.length c0_1]] rfl qa_ ?_;(with_reducible refine (Z44.calls k _ _ l0_0 _ _ l0_1 true _ (cb_ HR0_0) HC0_0.out (cb_ HR0_1) HC0_1.out A3.out).mono ?_);rintro e w22 ⟨rfl,hb⟩;refine ⟨_,rfl,?_⟩;replace BK408:=bb_ BK408 hb;replace BK409:=bb_ BK409 hb;replace HB:=b1_ hb;clear hb) | (go_at_call 54;(with_reducible refine (Z81.calls k a1 false _ A5.out).mono ?_);rintro e w' ⟨rfl,⟨nd,rfl⟩⟩;(try (rw [drewN_self w22];generalize hq_:World.drewN w22 _ = w22;have n0_:Aside0 (w22.heap[gb408]? = some (.cells #[.slice A0_0 l0_0.length c0_0,.slice A0_1 l0_1.length c0_1] 27 (0,0))):=⟨by rw [← hq_];exact (kk_ BK408)⟩;have n1_:Aside0 (w22.heap[gb409]? = some (.cells #[.slice none 0 0,.slice none 0 0] 27 (0,0))):=⟨by rw [← hq_];exact (kk_ BK409)⟩;have n2_:Aside0 (Below w.heap.size w w22):=⟨by rw [← hq_];exact hB_⟩;clear BK408 BK409 HB hq_;have BK408:=n0_;have BK409:=n1_;have HB:=n2_;clear n0_ n1_ n2_));obtain ⟨hcz23_0,hcz23_1,hfz23_0,hfz23_1⟩:=c2_ BK409))
   refine bodyPost_ret (results_ct rfl _ _ gb409 27 #[.slice none 0 0,.slice none 0 0] (0,0) _ rfl qp_ Tryz.underlying27 rfl (by kernel_rfl)) rfl ?_
   exact ⟨_,_,qb_,by first | exact Kd.R_nil _ _ _ _ _ | exact Kd.N_nil _ _ _ _ _ | exact Kd.V_nil _ _ _ _ _ | exact Kd.Q_nil _ _ _ _ _ | exact Kd.S_nil _ _ _ _ _,by first | exact Kd.R_nil _ _ _ _ _ | exact Kd.N_nil _ _ _ _ _ | exact Kd.V_nil _ _ _ _ _ | exact Kd.Q_nil _ _ _ _ _ | exact Kd.S_nil _ _ _ _ _,hB_⟩
 ·replace c4:=Bool.eq_false_iff.mpr c4
  subst c4
  have H1:(some (([]:List Int),([]:List Int),false)) = some (r1,r2,r3):=by rw [if_neg (show ¬ (false = true) by decide)] at H;exact H
  clear H
  have H:=H1
  clear H1
  simp only [Option.some.injEq,Prod.mk.injEq] at H
  obtain ⟨rfl,rfl,rfl⟩:=H
  go_enter Tryz.func37,Tryz.ntmps37
  go_wp2_with (first | ((with_reducible refine gB_ (N:=2) rfl ?_);refine bx_ 2 #[.slice A0_0 l0_0.length c0_0,.slice A0_1 l0_1.length c0_1] 27 ?_;intro gb408 hg w24 hbox hb;have BK408:=A_ hbox;have GW408:=gw_ w hg;have GE408:=GW408;replace HB:=b1_ hb;clear hb hbox hg) | ((with_reducible refine gB_ (N:=4) rfl ?_);refine bx_ 4 #[.slice none 0 0,.slice none 0 0] 27 ?_;intro gb409 hg w25 hbox hb;have BK409:=A_ hbox;have GW409:=gw_ w hg;have GE409:=GW409;replace HB:=b1_ hb;have NB408_409:=gN_ BK408 hg;have NB409_408:=gP_ BK408 hg;replace BK408:=bb_ BK408 hb;clear hb hbox hg;have hnb26:=NB408_409.out;have hnc26:=NB409_408.out;obtain ⟨hcz27_0,hcz27_1,hfz27_0,hfz27_1⟩:=c2_ BK408) | ((with_reducible refine gA_ (f:=32) rfl ?_);refine gL_ (some 7) Tryz.func32 #[.agg #[.slice A0_0 l0_0.length c0_0,.slice A0_1 l0_1.length c0_1]] rfl qa_ ?_;(with_reducible refine (Z44.calls k _ _ l0_0 _ _ l0_1 false _ (cb_ HR0_0) HC0_0.out (cb_ HR0_1) HC0_1.out A3.out).mono ?_);rintro e w28 ⟨rfl,hb⟩;refine ⟨_,rfl,?_⟩;replace BK408:=bb_ BK408 hb;replace BK409:=bb_ BK409 hb;replace HB:=b1_ hb;clear hb;obtain ⟨hcz29_0,hcz29_1,hfz29_0,hfz29_1⟩:=c2_ BK409))
  refine bodyPost_ret (results_ct rfl _ _ gb409 27 #[.slice none 0 0,.slice none 0 0] (0,0) _ rfl qp_ Tryz.underlying27 rfl (by kernel_rfl)) rfl ?_
  exact ⟨_,_,qb_,by first | exact Kd.R_nil _ _ _ _ _ | exact Kd.N_nil _ _ _ _ _ | exact Kd.V_nil _ _ _ _ _ | exact Kd.Q_nil _ _ _ _ _ | exact Kd.S_nil _ _ _ _ _,by first | exact Kd.R_nil _ _ _ _ _ | exact Kd.N_nil _ _ _ _ _ | exact Kd.V_nil _ _ _ _ _ | exact Kd.Q_nil _ _ _ _ _ | exact Kd.S_nil _ _ _ _ _,hB_⟩
def Z12.f (k:Nat) (l0_0:List Int) (l0_1:List Int) (l1_0:List Int) (l1_1:List Int):Option (Bool):=(Z44.f k l0_0 l0_1).bind fun t420=>(if t420 = true then ((Z44.f k l1_0 l1_1).bind fun t421=>(if t421 = true then ((Z57.f k l0_0 l0_1).bind fun bt422=>((Z57.f k l1_0 l1_1).bind fun bt428=>((Z28.f k bt422.1 bt422.2 bt428.1 bt428.2).bind fun t434=>(some t434)))) else (some false))) else (some false))
theorem Z12.mono:∀ a0 a1 a2 a3 k,LeO (Z12.f k a0 a1 a2 a3) (Z12.f (k + 1) a0 a1 a2 a3):=by
 intro a0 a1 a2 a3 k
 unfold Z12.f
 repeat' first|exact Z28.mono _ _ _ _ _|exact Z44.mono _ _ _|exact Z57.mono _ _ _|exact lo_|refine LeO.ite ?_ ?_|refine LeO.bind ?_ (fun _=>?_)
def Z12.T1:Bool × List (List Nat × List Nat):=(true,[([],[]),([0],[0]),([1,1],[1]),([2],[2]),([3,2,2],[2,3]),([2,4],[2,4]),([5,4],[5]),([6],[6]),([7,6,6],[6,7]),([6],[6]),([9,8,6],[6,9]),([8,10,10,6],[6,8,10]),([6,11],[6,11]),([12,11,0,1,2,3,4,5,6,7,8,9,10,11,12],[12])])
def Z12.B1:List Nat:=[0,1,3,7,15,31,63,127,255,127,1023,2047,4095,8191]
theorem Z12.tab1:rtab .any (opsOf Tryz.f38 1) = Z12.T1:=by kernel_rfl
theorem Z12.bits1:waitsOk Z12.T1.2 Z12.B1 = true:=by kernel_rfl
set_option maxHeartbeats 8000000 in
set_option maxRecDepth 100000 in
theorem Z12.calls (k:Nat) (A0_0:Option Addr) (c0_0:Nat) (l0_0:List Int) (A0_1:Option Addr) (c0_1:Nat) (l0_1:List Int) (A1_0:Option Addr) (c1_0:Nat) (l1_0:List Int) (A1_1:Option Addr) (c1_1:Nat) (l1_1:List Int) (r:Bool) (w:World) (hr0_0:Kd.C (Kd.int .i64) w A0_0 l0_0.length l0_0) (hc0_0:l0_0.length≤c0_0) (hr0_1:Kd.C (Kd.int .i64) w A0_1 l0_1.length l0_1) (hc0_1:l0_1.length≤c0_1) (hr1_0:Kd.C (Kd.int .i64) w A1_0 l1_0.length l1_0) (hc1_0:l1_0.length≤c1_0) (hr1_1:Kd.C (Kd.int .i64) w A1_1 l1_1.length l1_1) (hc1_1:l1_1.length≤c1_1) (h:Z12.f k l0_0 l0_1 l1_0 l1_1 = some r) :
  Calls Tryz.prog 38 #[.agg #[.slice A0_0 l0_0.length c0_0,.slice A0_1 l0_1.length c0_1],.agg #[.slice A1_0 l1_0.length c1_0,.slice A1_1 l1_1.length c1_1]] w fun e w'=>e = .returned (.bool r)∧Below w.heap.size w w':=by
 have hu27:=Tryz.underlying27
 have HR0_0:=A_ hr0_0
 have HC0_0:=A_ hc0_0
 clear hr0_0 hc0_0
 have HR0_1:=A_ hr0_1
 have HC0_1:=A_ hc0_1
 clear hr0_1 hc0_1
 have HR1_0:=A_ hr1_0
 have HC1_0:=A_ hc1_0
 clear hr1_0 hc1_0
 have HR1_1:=A_ hr1_1
 have HC1_1:=A_ hc1_1
 clear hr1_1 hc1_1
 have HB:=A_ (Below.refl w.heap.size w)
 have H:=h
 unfold Z12.f at H
 clear h
 obtain ⟨t420,A3,H⟩:=bi_ H
 by_cases c4:t420 = true
 ·subst c4
  rw [if_pos rfl] at H
  obtain ⟨t421,A5,H⟩:=bi_ H
  by_cases c6:t421 = true
  ·subst c6
   rw [if_pos rfl] at H
   obtain ⟨⟨t422,t425⟩,A7,H⟩:=bi_ H
   try dsimp only at H
   obtain ⟨⟨t428,t431⟩,A8,H⟩:=bi_ H
   try dsimp only at H
   obtain ⟨t434,A9,H⟩:=bi_ H
   obtain rfl:=Option.some.inj H
   go_enter Tryz.func38,Tryz.ntmps38
   try go_wp2_with (first | ((with_reducible refine gB_ (N:=2) rfl ?_);refine bx_ 2 #[.slice A0_0 l0_0.length c0_0,.slice A0_1 l0_1.length c0_1] 27 ?_;intro gb418 hg w10 hbox hb;have BK418:=A_ hbox;have GW418:=gw_ w hg;have GE418:=GW418;replace HB:=b1_ hb;clear hb hbox hg) | ((with_reducible refine gB_ (N:=3) rfl ?_);refine bx_ 3 #[.slice A1_0 l1_0.length c1_0,.slice A1_1 l1_1.length c1_1] 27 ?_;intro gb419 hg w11 hbox hb;have BK419:=A_ hbox;have GW419:=gw_ w hg;have GE419:=GW419;replace HB:=b1_ hb;have NB418_419:=gN_ BK418 hg;have NB419_418:=gP_ BK418 hg;replace BK418:=bb_ BK418 hb;clear hb hbox hg))
   replace BK418:=A_ (kB_ BK418.out)
   replace BK419:=A_ (kB_ BK419.out)
   replace HB:=A_ (bC_ HB.out)
   refine start_ (n:=14) (S:=fun w'=>w'.cell? ⟨gb418,0,none⟩ = some (.slice A0_0 l0_0.length c0_0)∧w'.cell? ⟨gb418,1,none⟩ = some (.slice A0_1 l0_1.length c0_1)∧w'.cell? ⟨gb419,0,none⟩ = some (.slice A1_0 l1_0.length c1_0)∧w'.cell? ⟨gb419,1,none⟩ = some (.slice A1_1 l1_1.length c1_1)) (ds:=[]) (bl_ 14 0) (by kernel_rfl) rfl (by kernel_rfl) ⟨cz0_ BK418,cz1_ BK418,cz0_ BK419,cz1_ BK419⟩ (fun hHeld=>?_);refine with_tabW Z12.tab1 Z12.bits1 (fun HT_ HW_=>?_)
   generalize w11.drew = w12 at BK418 BK419 HB hHeld ⊢
   refine ta_ 0 (some 5) (bl_ 14 1) HT_ HW_ hHeld ?_
   refine on_ 1 (some 6) (bl_ 14 3) HT_ (fun K hK=>?_)
   refine gO_ Tryz.func32 #[.agg #[.slice A0_0 l0_0.length c0_0,.slice A0_1 l0_1.length c0_1]] (by rfl) rfl rfl qa_ ?_
   with_reducible refine (Z44.calls k _ _ l0_0 _ _ l0_1 true _ (cb_ HR0_0) HC0_0.out (cb_ HR0_1) HC0_1.out A3.out).mono ?_
   rintro e w13 ⟨rfl,hb⟩
   refine ⟨_,rfl,?_⟩
   replace BK418:=bb_ BK418 hb
   replace BK419:=bb_ BK419 hb
   replace HB:=b1_ hb
   clear hb
   refine hK.out _ _ ⟨cz0_ BK418,cz1_ BK418,cz0_ BK419,cz1_ BK419⟩ (fun hHeld=>?_)
   clear hK K
   refine no_ (some 6) ?_
   refine pu_ 2 (some 7) (bl_ 14 7) HT_ ?_
   refine ta_ 3 (some 8) (bl_ 14 15) HT_ HW_ hHeld ?_
   refine on_ 4 (some 9) (bl_ 14 31) HT_ (fun K hK=>?_)
   refine gO_ Tryz.func32 #[.agg #[.slice A1_0 l1_0.length c1_0,.slice A1_1 l1_1.length c1_1]] (by rfl) rfl rfl qa_ ?_
   with_reducible refine (Z44.calls k _ _ l1_0 _ _ l1_1 true _ (cb_ HR1_0) HC1_0.out (cb_ HR1_1) HC1_1.out A5.out).mono ?_
   rintro e w14 ⟨rfl,hb⟩
   refine ⟨_,rfl,?_⟩
   replace BK418:=bb_ BK418 hb
   replace BK419:=bb_ BK419 hb
   replace HB:=b1_ hb
   clear hb
   refine hK.out _ _ ⟨cz0_ BK418,cz1_ BK418,cz0_ BK419,cz1_ BK419⟩ (fun hHeld=>?_)
   clear hK K
   refine no_ (some 9) ?_
   refine pu_ 5 (some 10) (bl_ 14 63) HT_ ?_
   refine pu_ 6 (some 11) (bl_ 14 127) HT_ ?_
   refine ta_ 7 (some 12) (bl_ 14 255) HT_ HW_ hHeld ?_
   refine ta_ 9 (some 14) (bl_ 14 767) HT_ HW_ hHeld ?_
   refine on_ 8 (some 13) (bl_ 14 1023) HT_ (fun K hK=>?_)
   refine gO_ Tryz.func35 #[.agg #[.slice A0_0 l0_0.length c0_0,.slice A0_1 l0_1.length c0_1]] (by rfl) rfl rfl qa_ ?_
   with_reducible refine (Z57.calls k _ _ l0_0 _ _ l0_1 t422 t425 _ (cb_ HR0_0) HC0_0.out (cb_ HR0_1) HC0_1.out A7.out).mono ?_
   rintro e w15 ⟨v423,v426,rfl,ho0,ho1,hb⟩
   refine ⟨_,rfl,?_⟩
   have HO424:=rl_ w ho0
   have HO427:=rl_ w ho1
   replace BK418:=bb_ BK418 hb
   replace BK419:=bb_ BK419 hb
   replace HB:=b1_ hb
   clear hb ho0 ho1
   refine hK.out _ _ ⟨cz0_ BK418,cz1_ BK418,cz0_ BK419,cz1_ BK419⟩ (fun hHeld=>?_)
   clear hK K
   refine no_ (some 13) ?_
   refine on_ 10 (some 15) (bl_ 14 2047) HT_ (fun K hK=>?_)
   refine gO_ Tryz.func35 #[.agg #[.slice A1_0 l1_0.length c1_0,.slice A1_1 l1_1.length c1_1]] (by rfl) rfl rfl qa_ ?_
   with_reducible refine (Z57.calls k _ _ l1_0 _ _ l1_1 t428 t431 _ (cb_ HR1_0) HC1_0.out (cb_ HR1_1) HC1_1.out A8.out).mono ?_
   rintro e w16 ⟨v429,v432,rfl,ho0,ho1,hb⟩
   refine ⟨_,rfl,?_⟩
   have HO430:=A_ (rE_ (Kd.R_new' (Kd.R_new' ho0 (Kd.R_lt (rr_ HO424))) (Kd.R_lt (rr_ HO427))) (bF_ hB_))
   have HO433:=A_ (rE_ (Kd.R_new' (Kd.R_new' ho1 (Kd.R_lt (rr_ HO424))) (Kd.R_lt (rr_ HO427))) (bF_ hB_))
   replace HO424:=A_ (Kd.R_mono (Kd.R_told (Kd.R_told (Kd.R_old (rr_ HO424) hb) (Kd.R_base ho0)) (Kd.R_base ho1)) (fun _ h_=>h_.1))
   replace HO427:=A_ (Kd.R_mono (Kd.R_told (Kd.R_told (Kd.R_old (rr_ HO427) hb) (Kd.R_base ho0)) (Kd.R_base ho1)) (fun _ h_=>h_.1))
   replace BK418:=bb_ BK418 hb
   replace BK419:=bb_ BK419 hb
   replace HB:=b1_ hb
   clear hb ho0 ho1
   obtain ⟨Ao17,co17,eo17⟩:=Kd.R_slice HO424.out
   (first | subst eo17 | (injection eo17 with f1_ f2_ f3_;have f4_:=f1_.symm;have f5_:=f3_.symm;clear f1_ f2_ f3_;subst f4_;subst f5_))
   obtain ⟨Ao18,co18,eo18⟩:=Kd.R_slice HO427.out
   (first | subst eo18 | (injection eo18 with f1_ f2_ f3_;have f4_:=f1_.symm;have f5_:=f3_.symm;clear f1_ f2_ f3_;subst f4_;subst f5_))
   obtain ⟨Ao19,co19,eo19⟩:=Kd.R_slice HO430.out
   (first | subst eo19 | (injection eo19 with f1_ f2_ f3_;have f4_:=f1_.symm;have f5_:=f3_.symm;clear f1_ f2_ f3_;subst f4_;subst f5_))
   obtain ⟨Ao20,co20,eo20⟩:=Kd.R_slice HO433.out
   (first | subst eo20 | (injection eo20 with f1_ f2_ f3_;have f4_:=f1_.symm;have f5_:=f3_.symm;clear f1_ f2_ f3_;subst f4_;subst f5_))
   refine hK.out _ _ ⟨cz0_ BK418,cz1_ BK418,cz0_ BK419,cz1_ BK419⟩ (fun hHeld=>?_)
   clear hK K
   refine no_ (some 15) ?_
   refine on_ 11 (some 16) (bl_ 14 4095) HT_ (fun K hK=>?_)
   refine gO_ Tryz.func48 #[.agg #[.slice Ao17 t422.length co17,.slice Ao18 t425.length co18],.agg #[.slice Ao19 t428.length co19,.slice Ao20 t431.length co20]] (by rfl) rfl rfl qa_ ?_
   with_reducible refine (Z28.calls k _ _ t422 _ _ t425 _ _ t428 _ _ t431 t434 _ (cr_ HO424) ((Kd.R_reads' HO424.out).2.1) (cr_ HO427) ((Kd.R_reads' HO427.out).2.1) (cr_ HO430) ((Kd.R_reads' HO430.out).2.1) (cr_ HO433) ((Kd.R_reads' HO433.out).2.1) A9.out).mono ?_
   rintro e w21 ⟨rfl,hb⟩
   refine ⟨_,rfl,?_⟩
   replace HO424:=rb_ HO424 hb
   replace HO427:=rb_ HO427 hb
   replace HO430:=rb_ HO430 hb
   replace HO433:=rb_ HO433 hb
   replace BK418:=bb_ BK418 hb
   replace BK419:=bb_ BK419 hb
   replace HB:=b1_ hb
   clear hb
   refine hK.out _ _ ⟨cz0_ BK418,cz1_ BK418,cz0_ BK419,cz1_ BK419⟩ (fun hHeld=>?_)
   clear hK K
   refine no_ (some 16) ?_
   refine pu_ 12 (some 17) (bl_ 14 8191) HT_ ?_
   refine pu_ 13 (some 4) (bl_ 14 16383) HT_ ?_
   refine done_ (done_of HT_.out (by kernel_rfl)) ?_
   try go_wp2
   go_ret
   exact ⟨qb_,hB_⟩
  ·replace c6:=Bool.eq_false_iff.mpr c6
   subst c6
   have H1:(some false) = some r:=by rw [if_neg (show ¬ (false = true) by decide)] at H;exact H
   clear H
   have H:=H1
   clear H1
   obtain rfl:=Option.some.inj H
   go_enter Tryz.func38,Tryz.ntmps38
   try go_wp2_with (first | ((with_reducible refine gB_ (N:=2) rfl ?_);refine bx_ 2 #[.slice A0_0 l0_0.length c0_0,.slice A0_1 l0_1.length c0_1] 27 ?_;intro gb418 hg w22 hbox hb;have BK418:=A_ hbox;have GW418:=gw_ w hg;have GE418:=GW418;replace HB:=b1_ hb;clear hb hbox hg) | ((with_reducible refine gB_ (N:=3) rfl ?_);refine bx_ 3 #[.slice A1_0 l1_0.length c1_0,.slice A1_1 l1_1.length c1_1] 27 ?_;intro gb419 hg w23 hbox hb;have BK419:=A_ hbox;have GW419:=gw_ w hg;have GE419:=GW419;replace HB:=b1_ hb;have NB418_419:=gN_ BK418 hg;have NB419_418:=gP_ BK418 hg;replace BK418:=bb_ BK418 hb;clear hb hbox hg))
   replace BK418:=A_ (kB_ BK418.out)
   replace BK419:=A_ (kB_ BK419.out)
   replace HB:=A_ (bC_ HB.out)
   refine start_ (n:=14) (S:=fun w'=>w'.cell? ⟨gb418,0,none⟩ = some (.slice A0_0 l0_0.length c0_0)∧w'.cell? ⟨gb418,1,none⟩ = some (.slice A0_1 l0_1.length c0_1)∧w'.cell? ⟨gb419,0,none⟩ = some (.slice A1_0 l1_0.length c1_0)∧w'.cell? ⟨gb419,1,none⟩ = some (.slice A1_1 l1_1.length c1_1)) (ds:=[]) (bl_ 14 0) (by kernel_rfl) rfl (by kernel_rfl) ⟨cz0_ BK418,cz1_ BK418,cz0_ BK419,cz1_ BK419⟩ (fun hHeld=>?_);refine with_tabW Z12.tab1 Z12.bits1 (fun HT_ HW_=>?_)
   generalize w23.drew = w24 at BK418 BK419 HB hHeld ⊢
   refine ta_ 0 (some 5) (bl_ 14 1) HT_ HW_ hHeld ?_
   refine on_ 1 (some 6) (bl_ 14 3) HT_ (fun K hK=>?_)
   refine gO_ Tryz.func32 #[.agg #[.slice A0_0 l0_0.length c0_0,.slice A0_1 l0_1.length c0_1]] (by rfl) rfl rfl qa_ ?_
   with_reducible refine (Z44.calls k _ _ l0_0 _ _ l0_1 true _ (cb_ HR0_0) HC0_0.out (cb_ HR0_1) HC0_1.out A3.out).mono ?_
   rintro e w25 ⟨rfl,hb⟩
   refine ⟨_,rfl,?_⟩
   replace BK418:=bb_ BK418 hb
   replace BK419:=bb_ BK419 hb
   replace HB:=b1_ hb
   clear hb
   refine hK.out _ _ ⟨cz0_ BK418,cz1_ BK418,cz0_ BK419,cz1_ BK419⟩ (fun hHeld=>?_)
   clear hK K
   refine no_ (some 6) ?_
   refine pu_ 2 (some 7) (bl_ 14 7) HT_ ?_
   refine ta_ 3 (some 8) (bl_ 14 15) HT_ HW_ hHeld ?_
   refine on_ 4 (some 9) (bl_ 14 31) HT_ (fun K hK=>?_)
   refine gO_ Tryz.func32 #[.agg #[.slice A1_0 l1_0.length c1_0,.slice A1_1 l1_1.length c1_1]] (by rfl) rfl rfl qa_ ?_
   with_reducible refine (Z44.calls k _ _ l1_0 _ _ l1_1 false _ (cb_ HR1_0) HC1_0.out (cb_ HR1_1) HC1_1.out A5.out).mono ?_
   rintro e w26 ⟨rfl,hb⟩
   refine ⟨_,rfl,?_⟩
   replace BK418:=bb_ BK418 hb
   replace BK419:=bb_ BK419 hb
   replace HB:=b1_ hb
   clear hb
   refine hK.out _ _ ⟨cz0_ BK418,cz1_ BK418,cz0_ BK419,cz1_ BK419⟩ (fun hHeld=>?_)
   clear hK K
   refine no_ (some 9) ?_
   refine pu_ 5 (some 10) (bl_ 14 63) HT_ ?_
   refine pu_ 6 (some 11) (bl_ 14 127) HT_ ?_
   refine pure_ (i:=7) (N:=some 12) (v:=undef) (a':=?_) (bl_ 14 255) rfl rfl (any_of HT_.out (by kernel_rfl)) (fun _ _ _ h=>h) (Or.inr ⟨by rfl,rfl⟩) ?_ ?_
   rotate_left
   ·simp only [Act.put,sA_,sB_,sC_,i64_w,i32_w]
    rfl
   refine pure_ (i:=8) (N:=some 13) (v:=undef) (a':=?_) (bl_ 14 511) rfl rfl (any_of HT_.out (by kernel_rfl)) (fun _ _ _ h=>h) (Or.inr ⟨by rfl,rfl⟩) ?_ ?_
   rotate_left
   ·simp only [Act.put,sA_,sB_,sC_,i64_w,i32_w]
    rfl
   refine pure_ (i:=9) (N:=some 14) (v:=undef) (a':=?_) (bl_ 14 1023) rfl rfl (any_of HT_.out (by kernel_rfl)) (fun _ _ _ h=>h) (Or.inr ⟨by rfl,rfl⟩) ?_ ?_
   rotate_left
   ·simp only [Act.put,sA_,sB_,sC_,i64_w,i32_w]
    rfl
   refine pure_ (i:=10) (N:=some 15) (v:=undef) (a':=?_) (bl_ 14 2047) rfl rfl (any_of HT_.out (by kernel_rfl)) (fun _ _ _ h=>h) (Or.inr ⟨by rfl,rfl⟩) ?_ ?_
   rotate_left
   ·simp only [Act.put,sA_,sB_,sC_,i64_w,i32_w]
    rfl
   refine pure_ (i:=11) (N:=some 16) (v:=undef) (a':=?_) (bl_ 14 4095) rfl rfl (any_of HT_.out (by kernel_rfl)) (fun _ _ _ h=>h) (Or.inr ⟨by rfl,rfl⟩) ?_ ?_
   rotate_left
   ·simp only [Act.put,sA_,sB_,sC_,i64_w,i32_w]
    rfl
   refine pu_ 12 (some 17) (bl_ 14 8191) HT_ ?_
   refine pu_ 13 (some 4) (bl_ 14 16383) HT_ ?_
   refine done_ (done_of HT_.out (by kernel_rfl)) ?_
   try go_wp2
   go_ret
   exact ⟨qb_,hB_⟩
 ·replace c4:=Bool.eq_false_iff.mpr c4
  subst c4
  have H1:(some false) = some r:=by rw [if_neg (show ¬ (false = true) by decide)] at H;exact H
  clear H
  have H:=H1
  clear H1
  obtain rfl:=Option.some.inj H
  go_enter Tryz.func38,Tryz.ntmps38
  try go_wp2_with (first | ((with_reducible refine gB_ (N:=2) rfl ?_);refine bx_ 2 #[.slice A0_0 l0_0.length c0_0,.slice A0_1 l0_1.length c0_1] 27 ?_;intro gb418 hg w27 hbox hb;have BK418:=A_ hbox;have GW418:=gw_ w hg;have GE418:=GW418;replace HB:=b1_ hb;clear hb hbox hg) | ((with_reducible refine gB_ (N:=3) rfl ?_);refine bx_ 3 #[.slice A1_0 l1_0.length c1_0,.slice A1_1 l1_1.length c1_1] 27 ?_;intro gb419 hg w28 hbox hb;have BK419:=A_ hbox;have GW419:=gw_ w hg;have GE419:=GW419;replace HB:=b1_ hb;have NB418_419:=gN_ BK418 hg;have NB419_418:=gP_ BK418 hg;replace BK418:=bb_ BK418 hb;clear hb hbox hg))
  replace BK418:=A_ (kB_ BK418.out)
  replace BK419:=A_ (kB_ BK419.out)
  replace HB:=A_ (bC_ HB.out)
  refine start_ (n:=14) (S:=fun w'=>w'.cell? ⟨gb418,0,none⟩ = some (.slice A0_0 l0_0.length c0_0)∧w'.cell? ⟨gb418,1,none⟩ = some (.slice A0_1 l0_1.length c0_1)) (ds:=[]) (bl_ 14 0) (by kernel_rfl) rfl (by kernel_rfl) ⟨cz0_ BK418,cz1_ BK418⟩ (fun hHeld=>?_);refine with_tabW Z12.tab1 Z12.bits1 (fun HT_ HW_=>?_)
  generalize w28.drew = w29 at BK418 BK419 HB hHeld ⊢
  refine ta_ 0 (some 5) (bl_ 14 1) HT_ HW_ hHeld ?_
  refine on_ 1 (some 6) (bl_ 14 3) HT_ (fun K hK=>?_)
  refine gO_ Tryz.func32 #[.agg #[.slice A0_0 l0_0.length c0_0,.slice A0_1 l0_1.length c0_1]] (by rfl) rfl rfl qa_ ?_
  with_reducible refine (Z44.calls k _ _ l0_0 _ _ l0_1 false _ (cb_ HR0_0) HC0_0.out (cb_ HR0_1) HC0_1.out A3.out).mono ?_
  rintro e w30 ⟨rfl,hb⟩
  refine ⟨_,rfl,?_⟩
  replace BK418:=bb_ BK418 hb
  replace BK419:=bb_ BK419 hb
  replace HB:=b1_ hb
  clear hb
  refine hK.out _ _ ⟨cz0_ BK418,cz1_ BK418⟩ (fun hHeld=>?_)
  clear hK K
  refine no_ (some 6) ?_
  refine pu_ 2 (some 7) (bl_ 14 7) HT_ ?_
  refine pure_ (i:=3) (N:=some 8) (v:=undef) (a':=?_) (bl_ 14 15) rfl rfl (any_of HT_.out (by kernel_rfl)) (fun _ _ _ h=>h) (Or.inr ⟨by rfl,rfl⟩) ?_ ?_
  rotate_left
  ·simp only [Act.put,sA_,sB_,sC_,i64_w,i32_w]
   rfl
  refine pure_ (i:=4) (N:=some 9) (v:=undef) (a':=?_) (bl_ 14 31) rfl rfl (any_of HT_.out (by kernel_rfl)) (fun _ _ _ h=>h) (Or.inr ⟨by rfl,rfl⟩) ?_ ?_
  rotate_left
  ·simp only [Act.put,sA_,sB_,sC_,i64_w,i32_w]
   rfl
  refine pu_ 5 (some 10) (bl_ 14 63) HT_ ?_
  refine pu_ 6 (some 11) (bl_ 14 127) HT_ ?_
  refine pure_ (i:=7) (N:=some 12) (v:=undef) (a':=?_) (bl_ 14 255) rfl rfl (any_of HT_.out (by kernel_rfl)) (fun _ _ _ h=>h) (Or.inr ⟨by rfl,rfl⟩) ?_ ?_
  rotate_left
  ·simp only [Act.put,sA_,sB_,sC_,i64_w,i32_w]
   rfl
  refine pure_ (i:=8) (N:=some 13) (v:=undef) (a':=?_) (bl_ 14 511) rfl rfl (any_of HT_.out (by kernel_rfl)) (fun _ _ _ h=>h) (Or.inr ⟨by rfl,rfl⟩) ?_ ?_
  rotate_left
  ·simp only [Act.put,sA_,sB_,sC_,i64_w,i32_w]
   rfl
  refine pure_ (i:=9) (N:=some 14) (v:=undef) (a':=?_) (bl_ 14 1023) rfl rfl (any_of HT_.out (by kernel_rfl)) (fun _ _ _ h=>h) (Or.inr ⟨by rfl,rfl⟩) ?_ ?_
  rotate_left
  ·simp only [Act.put,sA_,sB_,sC_,i64_w,i32_w]
   rfl
  refine pure_ (i:=10) (N:=some 15) (v:=undef) (a':=?_) (bl_ 14 2047) rfl rfl (any_of HT_.out (by kernel_rfl)) (fun _ _ _ h=>h) (Or.inr ⟨by rfl,rfl⟩) ?_ ?_
  rotate_left
  ·simp only [Act.put,sA_,sB_,sC_,i64_w,i32_w]
   rfl
  refine pure_ (i:=11) (N:=some 16) (v:=undef) (a':=?_) (bl_ 14 4095) rfl rfl (any_of HT_.out (by kernel_rfl)) (fun _ _ _ h=>h) (Or.inr ⟨by rfl,rfl⟩) ?_ ?_
  rotate_left
  ·simp only [Act.put,sA_,sB_,sC_,i64_w,i32_w]
   rfl
  refine pu_ 12 (some 17) (bl_ 14 8191) HT_ ?_
  refine pu_ 13 (some 4) (bl_ 14 16383) HT_ ?_
  refine done_ (done_of HT_.out (by kernel_rfl)) ?_
  try go_wp2
  go_ret
  exact ⟨qb_,hB_⟩
def Z43.f (k:Nat) (l0_0:List Int) (l0_1:List Int) (a1:ByteArray):Option (Bool):=(Z69.f k l0_0 l0_1 a1).bind fun bt436=>(if bt436.2.2 = true then ((Z12.f k bt436.1 bt436.2.1 l0_0 l0_1).bind fun t444=>(some t444)) else (some false))
theorem Z43.mono:∀ a0 a1 a2 k,LeO (Z43.f k a0 a1 a2) (Z43.f (k + 1) a0 a1 a2):=by
 intro a0 a1 a2 k
 unfold Z43.f
 repeat' first|exact Z12.mono _ _ _ _ _|exact Z69.mono _ _ _ _|exact lo_|refine LeO.ite ?_ ?_|refine LeO.bind ?_ (fun _=>?_)
set_option maxHeartbeats 8000000 in
set_option maxRecDepth 100000 in
theorem Z43.calls (k:Nat) (A0_0:Option Addr) (c0_0:Nat) (l0_0:List Int) (A0_1:Option Addr) (c0_1:Nat) (l0_1:List Int) (a1:ByteArray) (r:Bool) (w:World) (hr0_0:Kd.C (Kd.int .i64) w A0_0 l0_0.length l0_0) (hc0_0:l0_0.length≤c0_0) (hr0_1:Kd.C (Kd.int .i64) w A0_1 l0_1.length l0_1) (hc0_1:l0_1.length≤c0_1) (h:Z43.f k l0_0 l0_1 a1 = some r) :
  Calls Tryz.prog 25 #[.agg #[.slice A0_0 l0_0.length c0_0,.slice A0_1 l0_1.length c0_1],.string a1] w fun e w'=>e = .returned (.bool r)∧Below w.heap.size w w':=by
 have hu27:=Tryz.underlying27
 have HR0_0:=A_ hr0_0
 have HC0_0:=A_ hc0_0
 clear hr0_0 hc0_0
 have HR0_1:=A_ hr0_1
 have HC0_1:=A_ hc0_1
 clear hr0_1 hc0_1
 have HB:=A_ (Below.refl w.heap.size w)
 have H:=h
 unfold Z43.f at H
 clear h
 obtain ⟨⟨t436,t439,t442⟩,A3,H⟩:=bi_ H
 try dsimp only at H
 by_cases c4:t442 = true
 ·subst c4
  rw [if_pos rfl] at H
  obtain ⟨t444,A5,H⟩:=bi_ H
  obtain rfl:=Option.some.inj H
  go_enter Tryz.func25,Tryz.ntmps25
  go_wp2_with (first | ((with_reducible refine gB_ (N:=2) rfl ?_);refine bx_ 2 #[.slice A0_0 l0_0.length c0_0,.slice A0_1 l0_1.length c0_1] 27 ?_;intro gb435 hg w6 hbox hb;have BK435:=A_ hbox;have GW435:=gw_ w hg;have GE435:=GW435;replace HB:=b1_ hb;clear hb hbox hg;obtain ⟨hcz7_0,hcz7_1,hfz7_0,hfz7_1⟩:=c2_ BK435) | ((with_reducible refine gA_ (f:=37) rfl ?_);refine gL_ (some 10) Tryz.func37 #[.agg #[.slice A0_0 l0_0.length c0_0,.slice A0_1 l0_1.length c0_1],.string a1] rfl qa_ ?_;(with_reducible refine (Z69.calls k _ _ l0_0 _ _ l0_1 a1 t436 t439 true _ (cb_ HR0_0) HC0_0.out (cb_ HR0_1) HC0_1.out A3.out).mono ?_);rintro e w8 ⟨v437,v440,rfl,ho0,ho1,hb⟩;refine ⟨_,rfl,?_⟩;have HO438:=rl_ w ho0;have HO441:=rl_ w ho1;replace BK435:=bb_ BK435 hb;replace HB:=b1_ hb;clear hb ho0 ho1) | ((with_reducible refine gB_ (N:=5) rfl ?_);refine bx_ 5 #[.slice none 0 0,.slice none 0 0] 27 ?_;intro gb443 hg w9 hbox hb;replace HO438:=rb_ HO438 hb;replace HO441:=rb_ HO441 hb;have BK443:=A_ hbox;have GW443:=gw_ w hg;have GE443:=GW443;replace HB:=b1_ hb;have NB435_443:=gN_ BK435 hg;have NB443_435:=gP_ BK435 hg;replace BK435:=bb_ BK435 hb;clear hb hbox hg;obtain ⟨Ao10,co10,eo10⟩:=Kd.R_slice HO438.out;subst eo10;have hnb11:=NB443_435.out;have hnc11:=NB435_443.out;obtain ⟨hcz12_0,hcz12_1,hfz12_0,hfz12_1⟩:=c2_ BK443;obtain ⟨Ao13,co13,eo13⟩:=Kd.R_slice HO441.out;subst eo13;obtain ⟨hcz14_0,hcz14_1,hfz14_0,hfz14_1⟩:=c2_ BK435) | (go_at_call 38;(with_reducible refine (Z12.calls k _ _ t436 _ _ t439 _ _ l0_0 _ _ l0_1 t444 _ ?side1 ?side2 ?side3 ?side4 ?side5 ?side6 ?side7 ?side8 A5.out).mono ?_);(case side1=>refine (Kd.R_reads' (e:=3) (base:=w.heap.size) (ok:=fun k_=>some k_≠(.slice Ao13 t439.length co13:Value).ownBlock) (n:=t436.length) (c:=co10) ?_).2.2;exact (rw_ (fa_ HO438 BK443)));(case side2=>exact (Kd.R_reads' HO438.out).2.1);(case side3=>refine (Kd.R_reads' (e:=3) (base:=w.heap.size) (ok:=fun k_=>some k_≠(.slice Ao10 t436.length co10:Value).ownBlock) (n:=t439.length) (c:=co13) ?_).2.2;exact (rw_ (fa_ HO441 BK443)));(case side4=>exact (Kd.R_reads' HO441.out).2.1);(case side5=>exact cD_ HR0_0.out hB_);(case side6=>exact HC0_0.out);(case side7=>exact cD_ HR0_1.out hB_);(case side8=>exact HC0_1.out);rintro e w15 ⟨rfl,hb⟩;replace HO438:=A_ (rD_ (rw_ (fa_ HO438 BK443)) hb);replace HO441:=A_ (rD_ (rw_ (fa_ HO441 BK443)) hb);replace BK435:=A_ (kE_ (g:=gb435) (o:=.cells #[.slice A0_0 l0_0.length c0_0,.slice A0_1 l0_1.length c0_1] 27 (0,0)) (by (with_reducible repeat (first | refine kA_ ?_ _ | refine kB_ ?_ | refine kC_ ?_ _));refine blk_far ?_ NB435_443.out _;(with_reducible repeat (first | refine kA_ ?_ _ | refine kB_ ?_ | refine kC_ ?_ _));refine blk_far ?_ NB435_443.out _;(with_reducible repeat (first | refine kA_ ?_ _ | refine kB_ ?_ | refine kC_ ?_ _));exact BK435.out) hb);replace BK443:=A_ (kE_ (g:=gb443) (o:=.cells #[.slice Ao10 t436.length co10,.slice Ao13 t439.length co13] 27 (0,0)) qp_ hb);replace HB:=b1_ hb;clear hb))
  go_ret
  exact ⟨qb_,hB_⟩
 ·replace c4:=Bool.eq_false_iff.mpr c4
  subst c4
  have H1:(some false) = some r:=by rw [if_neg (show ¬ (false = true) by decide)] at H;exact H
  clear H
  have H:=H1
  clear H1
  obtain rfl:=Option.some.inj H
  go_enter Tryz.func25,Tryz.ntmps25
  go_wp2_with (first | ((with_reducible refine gB_ (N:=2) rfl ?_);refine bx_ 2 #[.slice A0_0 l0_0.length c0_0,.slice A0_1 l0_1.length c0_1] 27 ?_;intro gb435 hg w16 hbox hb;have BK435:=A_ hbox;have GW435:=gw_ w hg;have GE435:=GW435;replace HB:=b1_ hb;clear hb hbox hg;obtain ⟨hcz17_0,hcz17_1,hfz17_0,hfz17_1⟩:=c2_ BK435) | ((with_reducible refine gA_ (f:=37) rfl ?_);refine gL_ (some 10) Tryz.func37 #[.agg #[.slice A0_0 l0_0.length c0_0,.slice A0_1 l0_1.length c0_1],.string a1] rfl qa_ ?_;(with_reducible refine (Z69.calls k _ _ l0_0 _ _ l0_1 a1 t436 t439 false _ (cb_ HR0_0) HC0_0.out (cb_ HR0_1) HC0_1.out A3.out).mono ?_);rintro e w18 ⟨v437,v440,rfl,ho0,ho1,hb⟩;refine ⟨_,rfl,?_⟩;have HO438:=rl_ w ho0;have HO441:=rl_ w ho1;replace BK435:=bb_ BK435 hb;replace HB:=b1_ hb;clear hb ho0 ho1) | ((with_reducible refine gB_ (N:=5) rfl ?_);refine bx_ 5 #[.slice none 0 0,.slice none 0 0] 27 ?_;intro gb443 hg w19 hbox hb;replace HO438:=rb_ HO438 hb;replace HO441:=rb_ HO441 hb;have BK443:=A_ hbox;have GW443:=gw_ w hg;have GE443:=GW443;replace HB:=b1_ hb;have NB435_443:=gN_ BK435 hg;have NB443_435:=gP_ BK435 hg;replace BK435:=bb_ BK435 hb;clear hb hbox hg;obtain ⟨Ao20,co20,eo20⟩:=Kd.R_slice HO438.out;subst eo20;have hnb21:=NB443_435.out;have hnc21:=NB435_443.out;obtain ⟨hcz22_0,hcz22_1,hfz22_0,hfz22_1⟩:=c2_ BK443;obtain ⟨Ao23,co23,eo23⟩:=Kd.R_slice HO441.out;subst eo23))
  go_ret
  exact ⟨qb_,hB_⟩
def Z27.f (k:Nat) (l0_0:List Int) (l0_1:List Int):Option (Bool):=(Z43.f k l0_0 l0_1 (⟨#[83,83]⟩:ByteArray)).bind fun t446=>(some t446)
theorem Z27.mono:∀ a0 a1 k,LeO (Z27.f k a0 a1) (Z27.f (k + 1) a0 a1):=by
 intro a0 a1 k
 unfold Z27.f
 repeat' first|exact Z43.mono _ _ _ _|exact lo_|refine LeO.ite ?_ ?_|refine LeO.bind ?_ (fun _=>?_)
set_option maxHeartbeats 8000000 in
set_option maxRecDepth 100000 in
theorem Z27.calls (k:Nat) (A0_0:Option Addr) (c0_0:Nat) (l0_0:List Int) (A0_1:Option Addr) (c0_1:Nat) (l0_1:List Int) (r:Bool) (w:World) (hr0_0:Kd.C (Kd.int .i64) w A0_0 l0_0.length l0_0) (hc0_0:l0_0.length≤c0_0) (hr0_1:Kd.C (Kd.int .i64) w A0_1 l0_1.length l0_1) (hc0_1:l0_1.length≤c0_1) (h:Z27.f k l0_0 l0_1 = some r) :
  Calls Tryz.prog 11 #[.agg #[.slice A0_0 l0_0.length c0_0,.slice A0_1 l0_1.length c0_1]] w fun e w'=>e = .returned (.bool r)∧Below w.heap.size w w':=by
 have hu27:=Tryz.underlying27
 have HR0_0:=A_ hr0_0
 have HC0_0:=A_ hc0_0
 clear hr0_0 hc0_0
 have HR0_1:=A_ hr0_1
 have HC0_1:=A_ hc0_1
 clear hr0_1 hc0_1
 have HB:=A_ (Below.refl w.heap.size w)
 have H:=h
 unfold Z27.f at H
 clear h
 obtain ⟨t446,A2,H⟩:=bi_ H
 obtain rfl:=Option.some.inj H
 go_enter Tryz.func11,Tryz.ntmps11
 go_wp2_with (first | ((with_reducible refine gB_ (N:=1) rfl ?_);refine bx_ 1 #[.slice A0_0 l0_0.length c0_0,.slice A0_1 l0_1.length c0_1] 27 ?_;intro gb445 hg w3 hbox hb;have BK445:=A_ hbox;have GW445:=gw_ w hg;have GE445:=GW445;replace HB:=b1_ hb;clear hb hbox hg;obtain ⟨hcz4_0,hcz4_1,hfz4_0,hfz4_1⟩:=c2_ BK445) | ((with_reducible refine gA_ (f:=25) rfl ?_);refine gL_ (some 4) Tryz.func25 #[.agg #[.slice A0_0 l0_0.length c0_0,.slice A0_1 l0_1.length c0_1],.string (⟨#[83,83]⟩:ByteArray)] rfl qa_ ?_;(with_reducible refine (Z43.calls k _ _ l0_0 _ _ l0_1 (⟨#[83,83]⟩:ByteArray) t446 _ (cb_ HR0_0) HC0_0.out (cb_ HR0_1) HC0_1.out A2.out).mono ?_);rintro e w5 ⟨rfl,hb⟩;refine ⟨_,rfl,?_⟩;replace BK445:=bb_ BK445 hb;replace HB:=b1_ hb;clear hb))
 go_ret
 exact ⟨qb_,hB_⟩
def Z67.f (k:Nat) (l0_0:List Int) (l0_1:List Int):Option (Int):=(Z68.f k l0_0 l0_1).bind fun bt448=>(if bt448.2 = true then (some (bt448.1.length:Int)) else (some (-1)))
theorem Z67.mono:∀ a0 a1 k,LeO (Z67.f k a0 a1) (Z67.f (k + 1) a0 a1):=by
 intro a0 a1 k
 unfold Z67.f
 repeat' first|exact Z68.mono _ _ _|exact lo_|refine LeO.ite ?_ ?_|refine LeO.bind ?_ (fun _=>?_)
set_option maxHeartbeats 8000000 in
set_option maxRecDepth 100000 in
theorem Z67.calls (k:Nat) (A0_0:Option Addr) (c0_0:Nat) (l0_0:List Int) (A0_1:Option Addr) (c0_1:Nat) (l0_1:List Int) (r:Int) (w:World) (hr0_0:Kd.C (Kd.int .i64) w A0_0 l0_0.length l0_0) (hc0_0:l0_0.length≤c0_0) (hr0_1:Kd.C (Kd.int .i64) w A0_1 l0_1.length l0_1) (hc0_1:l0_1.length≤c0_1) (h:Z67.f k l0_0 l0_1 = some r) :
  Calls Tryz.prog 12 #[.agg #[.slice A0_0 l0_0.length c0_0,.slice A0_1 l0_1.length c0_1]] w fun e w'=>e = .returned (.int .i64 r)∧Below w.heap.size w w':=by
 have hu27:=Tryz.underlying27
 have HR0_0:=A_ hr0_0
 have HC0_0:=A_ hc0_0
 clear hr0_0 hc0_0
 have HR0_1:=A_ hr0_1
 have HC0_1:=A_ hc0_1
 clear hr0_1 hc0_1
 have HB:=A_ (Below.refl w.heap.size w)
 have H:=h
 unfold Z67.f at H
 clear h
 obtain ⟨⟨t448,t451⟩,A2,H⟩:=bi_ H
 try dsimp only at H
 by_cases c3:t451 = true
 ·subst c3
  rw [if_pos rfl] at H
  obtain rfl:=Option.some.inj H
  go_enter Tryz.func12,Tryz.ntmps12
  go_wp2_with (first | ((with_reducible refine gB_ (N:=1) rfl ?_);refine bx_ 1 #[.slice A0_0 l0_0.length c0_0,.slice A0_1 l0_1.length c0_1] 27 ?_;intro gb447 hg w4 hbox hb;have BK447:=A_ hbox;have GW447:=gw_ w hg;have GE447:=GW447;replace HB:=b1_ hb;clear hb hbox hg;obtain ⟨hcz5_0,hcz5_1,hfz5_0,hfz5_1⟩:=c2_ BK447) | ((with_reducible refine gA_ (f:=22) rfl ?_);refine gL_ (some 7) Tryz.func22 #[.agg #[.slice A0_0 l0_0.length c0_0,.slice A0_1 l0_1.length c0_1]] rfl qa_ ?_;(with_reducible refine (Z68.calls k _ _ l0_0 _ _ l0_1 t448 true _ (cb_ HR0_0) HC0_0.out (cb_ HR0_1) HC0_1.out A2.out).mono ?_);rintro e w6 ⟨v449,rfl,ho0,hb⟩;refine ⟨_,rfl,?_⟩;have HO450:=A_ (Kd.N_lower (Kd.N_mono (ok':=fun k_=>k_≠gb447) ho0 (fun k_ hk_=>(Kd.freshB (kk_ BK447) k_ hk_))) (bF_ hB_));replace BK447:=bb_ BK447 hb;replace HB:=b1_ hb;clear hb ho0;obtain ⟨Ao7,co7,eo7⟩:=Kd.N_slice HO450.out;subst eo7))
  go_ret
  exact ⟨qb_,hB_⟩
 ·replace c3:=Bool.eq_false_iff.mpr c3
  subst c3
  have H1:(some (-1)) = some r:=by rw [if_neg (show ¬ (false = true) by decide)] at H;exact H
  clear H
  have H:=H1
  clear H1
  obtain rfl:=Option.some.inj H
  go_enter Tryz.func12,Tryz.ntmps12
  go_wp2_with (first | ((with_reducible refine gB_ (N:=1) rfl ?_);refine bx_ 1 #[.slice A0_0 l0_0.length c0_0,.slice A0_1 l0_1.length c0_1] 27 ?_;intro gb447 hg w8 hbox hb;have BK447:=A_ hbox;have GW447:=gw_ w hg;have GE447:=GW447;replace HB:=b1_ hb;clear hb hbox hg;obtain ⟨hcz9_0,hcz9_1,hfz9_0,hfz9_1⟩:=c2_ BK447) | ((with_reducible refine gA_ (f:=22) rfl ?_);refine gL_ (some 7) Tryz.func22 #[.agg #[.slice A0_0 l0_0.length c0_0,.slice A0_1 l0_1.length c0_1]] rfl qa_ ?_;(with_reducible refine (Z68.calls k _ _ l0_0 _ _ l0_1 t448 false _ (cb_ HR0_0) HC0_0.out (cb_ HR0_1) HC0_1.out A2.out).mono ?_);rintro e w10 ⟨v449,rfl,ho0,hb⟩;refine ⟨_,rfl,?_⟩;have HO450:=A_ (Kd.N_lower (Kd.N_mono (ok':=fun k_=>k_≠gb447) ho0 (fun k_ hk_=>(Kd.freshB (kk_ BK447) k_ hk_))) (bF_ hB_));replace BK447:=bb_ BK447 hb;replace HB:=b1_ hb;clear hb ho0))
  go_ret
  exact ⟨qb_,hB_⟩
def Z61.l0:Nat→ByteArray→Int→List (S27)→Int→Int→Option (Int)
 | 0,_,_,_,_,_=>none
 | k + 1,x1,x7,x17,x18,x19=>if x19 < x18 then (if 0≤x19 then (if x19 < (x17.length:Int) then ((Z43.f k ((rd_T27 x17 x19).f0) ((rd_T27 x17 x19).f1) x1).bind fun t459=>(if t459 = true then (Z61.l0 k x1 (wrap64 (x7 + 1)) x17 x18 (wrap64 (x19 + 1))) else (Z61.l0 k x1 x7 x17 x18 (wrap64 (x19 + 1))))) else (none)) else (none)) else (some x7)
def Z61.f (k:Nat) (l0_0:List Int) (l0_1:List Int) (a1:ByteArray):Option (Int):=(Z68.f k l0_0 l0_1).bind fun bt453=>(if bt453.2 = true then (Z61.l0 k a1 0 bt453.1 (bt453.1.length:Int) 0) else (some (-1)))
theorem Z61.mono_l:∀ k,(∀ y0 y1 y2 y3 y4,LeO (Z61.l0 k y0 y1 y2 y3 y4) (Z61.l0 (k + 1) y0 y1 y2 y3 y4))
 | 0=>fun _ _ _ _ _ r h=>by simp [Z61.l0] at h
 | k + 1=>by
  have ih0:=Z61.mono_l k
  ·intro y0 y1 y2 y3 y4
   unfold Z61.l0
   repeat' first|exact ih0 _ _ _ _ _|exact Z43.mono _ _ _ _|exact Z68.mono _ _ _|exact lo_|refine LeO.ite ?_ ?_|refine LeO.bind ?_ (fun _=>?_)
theorem Z61.mono:∀ a0 a1 a2 k,LeO (Z61.f k a0 a1 a2) (Z61.f (k + 1) a0 a1 a2):=by
 intro a0 a1 a2 k
 have ih0:=Z61.mono_l k
 unfold Z61.f
 repeat' first|exact ih0 _ _ _ _ _|exact Z43.mono _ _ _ _|exact Z68.mono _ _ _|exact lo_|refine LeO.ite ?_ ?_|refine LeO.bind ?_ (fun _=>?_)
set_option maxHeartbeats 8000000 in
set_option maxRecDepth 100000 in
theorem Z61.calls (k:Nat) (A0_0:Option Addr) (c0_0:Nat) (l0_0:List Int) (A0_1:Option Addr) (c0_1:Nat) (l0_1:List Int) (a1:ByteArray) (r:Int) (w:World) (hr0_0:Kd.C (Kd.int .i64) w A0_0 l0_0.length l0_0) (hc0_0:l0_0.length≤c0_0) (hr0_1:Kd.C (Kd.int .i64) w A0_1 l0_1.length l0_1) (hc0_1:l0_1.length≤c0_1) (h:Z61.f k l0_0 l0_1 a1 = some r) :
  Calls Tryz.prog 26 #[.agg #[.slice A0_0 l0_0.length c0_0,.slice A0_1 l0_1.length c0_1],.string a1] w fun e w'=>e = .returned (.int .i64 r)∧Below w.heap.size w w':=by
 have hu27:=Tryz.underlying27
 have HR0_0:=A_ hr0_0
 have HC0_0:=A_ hc0_0
 clear hr0_0 hc0_0
 have HR0_1:=A_ hr0_1
 have HC0_1:=A_ hc0_1
 clear hr0_1 hc0_1
 have HB:=A_ (Below.refl w.heap.size w)
 have H:=h
 unfold Z61.f at H
 clear h
 obtain ⟨⟨t453,t456⟩,A3,H⟩:=bi_ H
 try dsimp only at H
 by_cases c4:t456 = true
 ·subst c4
  rw [if_pos rfl] at H
  have H':=A_ H
  clear H
  go_enter Tryz.func26,Tryz.ntmps26
  go_wp2_with (first | ((with_reducible refine gB_ (N:=2) rfl ?_);refine bx_ 2 #[.slice A0_0 l0_0.length c0_0,.slice A0_1 l0_1.length c0_1] 27 ?_;intro gb452 hg w5 hbox hb;have BK452:=A_ hbox;have GW452:=gw_ w hg;have GE452:=GW452;replace HB:=b1_ hb;clear hb hbox hg;obtain ⟨hcz6_0,hcz6_1,hfz6_0,hfz6_1⟩:=c2_ BK452) | ((with_reducible refine gA_ (f:=22) rfl ?_);refine gL_ (some 12) Tryz.func22 #[.agg #[.slice A0_0 l0_0.length c0_0,.slice A0_1 l0_1.length c0_1]] rfl qa_ ?_;(with_reducible refine (Z68.calls k _ _ l0_0 _ _ l0_1 t453 true _ (cb_ HR0_0) HC0_0.out (cb_ HR0_1) HC0_1.out A3.out).mono ?_);rintro e w7 ⟨v454,rfl,ho0,hb⟩;refine ⟨_,rfl,?_⟩;have HO455:=A_ (Kd.N_lower (Kd.N_mono (ok':=fun k_=>k_≠gb452) ho0 (fun k_ hk_=>(Kd.freshB (kk_ BK452) k_ hk_))) (bF_ hB_));replace BK452:=bb_ BK452 hb;replace HB:=b1_ hb;clear hb ho0;obtain ⟨Ao8,co8,eo8⟩:=Kd.N_slice HO455.out;subst eo8))
  go_loopg [7,19] k (fun kq v7 v19 w'=>∃ (x7_1:Int) (x19_1:Int),v7 = .int .i64 x7_1∧v19 = .int .i64 x19_1∧Aside0 (Z61.l0 kq a1 x7_1 t453 (t453.length:Int) x19_1 = some r)∧Aside0 (kq≤k)∧Aside0 (Kd.N k27 27 w' w.heap.size (fun k_=>k_≠gb452) (.slice Ao8 t453.length co8) t453)∧Aside0 (w'.heap[gb452]? = some (.cells #[(.slice A0_0 l0_0.length c0_0),(.slice A0_1 l0_1.length c0_1)] 27 (0,0)))∧Aside0 (Below w.heap.size w w'))
  case atStart=>exact ⟨(0),(0),qc_,qc_,H',⟨nA_ _⟩,⟨by (with_reducible repeat (first | apply Kd.N_alloc | apply Kd.N_drewN | apply Kd.N_drew));exact HO455.out⟩,⟨(kk_ BK452)⟩,⟨hB_⟩⟩
  case round =>
   clear H'
   obtain ⟨x7_1,x19_1,rfl,rfl,HA,HK1,HO_17,BK452,HB⟩:=hrel
   cases gk with
   | zero=>exact absurd HA.out (by simp [Z61.l0])
   | succ k1 =>
    have H:=HA.out
    clear HA
    simp only [Z61.l0] at H
    by_cases c9:x19_1 < (t453.length:Int)
    ·rw [if_pos c9] at H
     have c9b0:=oC_ c9
     clear c9
     have c10:=cp_ H
     replace H:=ca_ H
     have c10b0:=oC_ c10
     clear c10
     have c11:=cp_ H
     replace H:=ca_ H
     have c11b0:=oC_ c11
     clear c11
     obtain ⟨t459,A12,H⟩:=bi_ H
     by_cases c13:t459 = true
     ·subst c13
      rw [if_pos rfl] at H
      have H':=A_ H
      clear H
      have p457:0≤(x19_1:Int):=oB_ qe_
      have q457:x19_1 < (t453.length:Int):=oB_ qe_
      obtain ⟨ad457,A457_0,c457_0,A457_1,c457_1,e457,hx457_0,hx457_1,hl457_0,hi457_0,hl457_1,hi457_1⟩:=at_T27 (Kd.N_reads' HO_17.out).2.2 x19_1 p457 q457
      cases e457
      obtain ⟨ce457,hce457,hMe457,hcc457⟩:=Kd.N_get HO_17.out z27 x19_1 p457 (by first | exact q457 | exact oB_ qe_ | (have e_:=(Kd.N_reads' HO_17.out).1;omega))
      obtain ⟨ua457_0,uc457_0,ua457_1,uc457_1,rfl,ul457_0,ge457_0,ul457_1,ge457_1⟩:=k27_openF hMe457
      have hv457_0:=hcc457 0 _ rfl
      rw [Nat.add_zero] at hv457_0
      replace hv457_0:=Option.some.inj (hv457_0.symm.trans hx457_0)
      injection hv457_0 with hva_ hvn_ hvc_
      rw [hva_] at ge457_0
      rw [hvc_] at ul457_0
      have HL457_0:=A_ (show Kd.V (Kd.int .i64) 3 _ w.heap.size _ _ ((rd_T27 t453 x19_1).f0) from Kd.V_mk ul457_0 ge457_0)
      clear hva_ hvn_ hvc_ ge457_0 ul457_0
      have hv457_1:=hcc457 1 _ rfl
      rw [add_field _ _ 1 (by omega)] at hv457_1
      replace hv457_1:=Option.some.inj (hv457_1.symm.trans hx457_1)
      injection hv457_1 with hva_ hvn_ hvc_
      rw [hva_] at ge457_1
      rw [hvc_] at ul457_1
      have HL457_1:=A_ (show Kd.V (Kd.int .i64) 3 _ w.heap.size _ _ ((rd_T27 t453 x19_1).f1) from Kd.V_mk ul457_1 ge457_1)
      clear hva_ hvn_ hvc_ ge457_1 ul457_1
      clear hcc457 hce457
      have HR457_0:=A_ hi457_0
      have HC457_0:=A_ hl457_0
      clear hi457_0 hl457_0
      have HR457_1:=A_ hi457_1
      have HC457_1:=A_ hl457_1
      clear hi457_1 hl457_1
      replace p457:=eq_true p457
      replace q457:=eq_true q457
      go_wp2_with (first | ((with_reducible refine gB_ (N:=9) rfl ?_);refine bx_ 9 #[.slice none 0 0,.slice none 0 0] 27 ?_;intro gb458 hg w14 hbox hb;replace HO_17:=A_ (Kd.N_below (Kd.N_elderB (by (with_reducible repeat (first | apply Kd.N_alloc | apply Kd.N_drewN | apply Kd.N_drew));exact HO_17.out) gb458 (Nat.le_of_eq hg.symm)) hb);replace HL457_0:=A_ (Kd.V_below (Kd.V_elderB (by (with_reducible repeat (first | apply Kd.V_alloc | apply Kd.V_drewN | apply Kd.V_drew));exact HL457_0.out) gb458 (Nat.le_of_eq hg.symm)) hb);replace HL457_1:=A_ (Kd.V_below (Kd.V_elderB (by (with_reducible repeat (first | apply Kd.V_alloc | apply Kd.V_drewN | apply Kd.V_drew));exact HL457_1.out) gb458 (Nat.le_of_eq hg.symm)) hb);replace HR457_0:=A_ (cD_ (by repeat (first | (with_reducible exact HR457_0.out) | (with_reducible refine cA_ ?_ _) | (with_reducible refine cB_ ?_ _) | (with_reducible refine cC_ ?_) | exact HR457_0.out)) hb);replace HR457_1:=A_ (cD_ (by repeat (first | (with_reducible exact HR457_1.out) | (with_reducible refine cA_ ?_ _) | (with_reducible refine cB_ ?_ _) | (with_reducible refine cC_ ?_) | exact HR457_1.out)) hb);have BK458:=A_ hbox;have GW458:=gw_ w hg;have GE458:=GW458;replace HB:=b1_ hb;have NB452_458:=gN_ BK452 hg;have NB458_452:=gP_ BK452 hg;replace BK452:=bb_ BK452 hb;clear hb hbox hg;have hnb15:=NB458_452.out;have hnc15:=NB452_458.out;obtain ⟨hcz16_0,hcz16_1,hfz16_0,hfz16_1⟩:=c2_ BK458) | ((with_reducible refine gA_ (f:=25) rfl ?_);refine gL_ (some 25) Tryz.func25 #[.agg #[.slice A457_0 ((rd_T27 t453 x19_1).f0).length c457_0,.slice A457_1 ((rd_T27 t453 x19_1).f1).length c457_1],.string a1] rfl qa_ ?_;(with_reducible refine (Z43.calls k1 _ _ ((rd_T27 t453 x19_1).f0) _ _ ((rd_T27 t453 x19_1).f1) a1 true _ ?side1 ?side2 ?side3 ?side4 A12.out).mono ?_);(case side1=>repeat (first | exact ((Kd.V_reads' (by (with_reducible repeat (first | apply Kd.V_alloc | apply Kd.V_drewN | apply Kd.V_drew));exact (Kd.V_mono (Kd.V_far (p:=⟨gb458,1,none⟩) (Kd.V_far (p:=⟨gb458,0,none⟩) (Kd.V_mono HL457_0.out (fun k_ hk=>(⟨hk,hk.2⟩:_∧k_≠gb458))) (fun _ hk=>hk.2) (.slice A457_0 ((rd_T27 t453 x19_1).f0).length c457_0)) (fun _ hk=>hk.2) (.slice A457_1 ((rd_T27 t453 x19_1).f1).length c457_1)) (fun _ h_=>h_.1)))).2.2) | (with_reducible first | refine cA_ ?_ _ | refine cB_ ?_ _ | refine cC_ ?_)));(case side2=>exact HC457_0.out);(case side3=>repeat (first | exact ((Kd.V_reads' (by (with_reducible repeat (first | apply Kd.V_alloc | apply Kd.V_drewN | apply Kd.V_drew));exact (Kd.V_mono (Kd.V_far (p:=⟨gb458,1,none⟩) (Kd.V_far (p:=⟨gb458,0,none⟩) (Kd.V_mono HL457_1.out (fun k_ hk=>(⟨hk,hk.2⟩:_∧k_≠gb458))) (fun _ hk=>hk.2) (.slice A457_0 ((rd_T27 t453 x19_1).f0).length c457_0)) (fun _ hk=>hk.2) (.slice A457_1 ((rd_T27 t453 x19_1).f1).length c457_1)) (fun _ h_=>h_.1)))).2.2) | (with_reducible first | refine cA_ ?_ _ | refine cB_ ?_ _ | refine cC_ ?_)));(case side4=>exact HC457_1.out);rintro e w17 ⟨rfl,hb⟩;refine ⟨_,rfl,?_⟩;replace HO_17:=A_ (Kd.N_below (by (with_reducible repeat (first | apply Kd.N_alloc | apply Kd.N_drewN | apply Kd.N_drew));exact (Kd.N_mono (Kd.N_far (p:=⟨gb458,1,none⟩) (Kd.N_far (p:=⟨gb458,0,none⟩) (Kd.N_mono HO_17.out (fun k_ hk=>(⟨hk,hk.2⟩:_∧k_≠gb458))) (fun _ hk=>hk.2) (.slice A457_0 ((rd_T27 t453 x19_1).f0).length c457_0)) (fun _ hk=>hk.2) (.slice A457_1 ((rd_T27 t453 x19_1).f1).length c457_1)) (fun _ h_=>h_.1))) hb);replace BK452:=A_ (kE_ (g:=gb452) (o:=.cells #[.slice A0_0 l0_0.length c0_0,.slice A0_1 l0_1.length c0_1] 27 (0,0)) (by (with_reducible repeat (first | refine kA_ ?_ _ | refine kB_ ?_ | refine kC_ ?_ _));refine blk_far ?_ NB452_458.out _;(with_reducible repeat (first | refine kA_ ?_ _ | refine kB_ ?_ | refine kC_ ?_ _));refine blk_far ?_ NB452_458.out _;(with_reducible repeat (first | refine kA_ ?_ _ | refine kB_ ?_ | refine kC_ ?_ _));exact BK452.out) hb);replace HR457_0:=A_ (cD_ ((Kd.V_reads' (by (with_reducible repeat (first | apply Kd.V_alloc | apply Kd.V_drewN | apply Kd.V_drew));exact (Kd.V_mono (Kd.V_far (p:=⟨gb458,1,none⟩) (Kd.V_far (p:=⟨gb458,0,none⟩) (Kd.V_mono HL457_0.out (fun k_ hk=>(⟨hk,hk.2⟩:_∧k_≠gb458))) (fun _ hk=>hk.2) (.slice A457_0 ((rd_T27 t453 x19_1).f0).length c457_0)) (fun _ hk=>hk.2) (.slice A457_1 ((rd_T27 t453 x19_1).f1).length c457_1)) (fun _ h_=>h_.1)))).2.2) hb);replace HL457_0:=A_ (Kd.V_below (by (with_reducible repeat (first | apply Kd.V_alloc | apply Kd.V_drewN | apply Kd.V_drew));exact (Kd.V_mono (Kd.V_far (p:=⟨gb458,1,none⟩) (Kd.V_far (p:=⟨gb458,0,none⟩) (Kd.V_mono HL457_0.out (fun k_ hk=>(⟨hk,hk.2⟩:_∧k_≠gb458))) (fun _ hk=>hk.2) (.slice A457_0 ((rd_T27 t453 x19_1).f0).length c457_0)) (fun _ hk=>hk.2) (.slice A457_1 ((rd_T27 t453 x19_1).f1).length c457_1)) (fun _ h_=>h_.1))) hb);replace HR457_1:=A_ (cD_ ((Kd.V_reads' (by (with_reducible repeat (first | apply Kd.V_alloc | apply Kd.V_drewN | apply Kd.V_drew));exact (Kd.V_mono (Kd.V_far (p:=⟨gb458,1,none⟩) (Kd.V_far (p:=⟨gb458,0,none⟩) (Kd.V_mono HL457_1.out (fun k_ hk=>(⟨hk,hk.2⟩:_∧k_≠gb458))) (fun _ hk=>hk.2) (.slice A457_0 ((rd_T27 t453 x19_1).f0).length c457_0)) (fun _ hk=>hk.2) (.slice A457_1 ((rd_T27 t453 x19_1).f1).length c457_1)) (fun _ h_=>h_.1)))).2.2) hb);replace HL457_1:=A_ (Kd.V_below (by (with_reducible repeat (first | apply Kd.V_alloc | apply Kd.V_drewN | apply Kd.V_drew));exact (Kd.V_mono (Kd.V_far (p:=⟨gb458,1,none⟩) (Kd.V_far (p:=⟨gb458,0,none⟩) (Kd.V_mono HL457_1.out (fun k_ hk=>(⟨hk,hk.2⟩:_∧k_≠gb458))) (fun _ hk=>hk.2) (.slice A457_0 ((rd_T27 t453 x19_1).f0).length c457_0)) (fun _ hk=>hk.2) (.slice A457_1 ((rd_T27 t453 x19_1).f1).length c457_1)) (fun _ h_=>h_.1))) hb);replace BK458:=A_ (kE_ (g:=gb458) (o:=.cells #[.slice A457_0 ((rd_T27 t453 x19_1).f0).length c457_0,.slice A457_1 ((rd_T27 t453 x19_1).f1).length c457_1] 27 (0,0)) qp_ hb);replace HB:=b1_ hb;clear hb))
      go_roundg k1
      case measure=>have:=HK1.out;omega
      case rel=>exact ⟨(wrap64 (x7_1 + 1)),(wrap64 (x19_1 + 1)),qc_,qc_,H',⟨by have:=HK1.out;omega⟩,⟨by (with_reducible repeat (first | apply Kd.N_alloc | apply Kd.N_drewN | apply Kd.N_drew));exact Kd.N_mono HO_17.out (fun _ hk=>hk.1)⟩,⟨(kk_ BK452)⟩,⟨hB_⟩⟩
     ·replace c13:=Bool.eq_false_iff.mpr c13
      subst c13
      have H1:(Z61.l0 k1 a1 x7_1 t453 (t453.length:Int) (wrap64 (x19_1 + 1))) = some r:=by rw [if_neg (show ¬ (false = true) by decide)] at H;exact H
      clear H
      have H:=H1
      clear H1
      have H':=A_ H
      clear H
      have p457:0≤(x19_1:Int):=oB_ qe_
      have q457:x19_1 < (t453.length:Int):=oB_ qe_
      obtain ⟨ad457,A457_0,c457_0,A457_1,c457_1,e457,hx457_0,hx457_1,hl457_0,hi457_0,hl457_1,hi457_1⟩:=at_T27 (Kd.N_reads' HO_17.out).2.2 x19_1 p457 q457
      cases e457
      obtain ⟨ce457,hce457,hMe457,hcc457⟩:=Kd.N_get HO_17.out z27 x19_1 p457 (by first | exact q457 | exact oB_ qe_ | (have e_:=(Kd.N_reads' HO_17.out).1;omega))
      obtain ⟨ua457_0,uc457_0,ua457_1,uc457_1,rfl,ul457_0,ge457_0,ul457_1,ge457_1⟩:=k27_openF hMe457
      have hv457_0:=hcc457 0 _ rfl
      rw [Nat.add_zero] at hv457_0
      replace hv457_0:=Option.some.inj (hv457_0.symm.trans hx457_0)
      injection hv457_0 with hva_ hvn_ hvc_
      rw [hva_] at ge457_0
      rw [hvc_] at ul457_0
      have HL457_0:=A_ (show Kd.V (Kd.int .i64) 3 _ w.heap.size _ _ ((rd_T27 t453 x19_1).f0) from Kd.V_mk ul457_0 ge457_0)
      clear hva_ hvn_ hvc_ ge457_0 ul457_0
      have hv457_1:=hcc457 1 _ rfl
      rw [add_field _ _ 1 (by omega)] at hv457_1
      replace hv457_1:=Option.some.inj (hv457_1.symm.trans hx457_1)
      injection hv457_1 with hva_ hvn_ hvc_
      rw [hva_] at ge457_1
      rw [hvc_] at ul457_1
      have HL457_1:=A_ (show Kd.V (Kd.int .i64) 3 _ w.heap.size _ _ ((rd_T27 t453 x19_1).f1) from Kd.V_mk ul457_1 ge457_1)
      clear hva_ hvn_ hvc_ ge457_1 ul457_1
      clear hcc457 hce457
      have HR457_0:=A_ hi457_0
      have HC457_0:=A_ hl457_0
      clear hi457_0 hl457_0
      have HR457_1:=A_ hi457_1
      have HC457_1:=A_ hl457_1
      clear hi457_1 hl457_1
      replace p457:=eq_true p457
      replace q457:=eq_true q457
      go_wp2_with (first | ((with_reducible refine gB_ (N:=9) rfl ?_);refine bx_ 9 #[.slice none 0 0,.slice none 0 0] 27 ?_;intro gb458 hg w18 hbox hb;replace HO_17:=A_ (Kd.N_below (Kd.N_elderB (by (with_reducible repeat (first | apply Kd.N_alloc | apply Kd.N_drewN | apply Kd.N_drew));exact HO_17.out) gb458 (Nat.le_of_eq hg.symm)) hb);replace HL457_0:=A_ (Kd.V_below (Kd.V_elderB (by (with_reducible repeat (first | apply Kd.V_alloc | apply Kd.V_drewN | apply Kd.V_drew));exact HL457_0.out) gb458 (Nat.le_of_eq hg.symm)) hb);replace HL457_1:=A_ (Kd.V_below (Kd.V_elderB (by (with_reducible repeat (first | apply Kd.V_alloc | apply Kd.V_drewN | apply Kd.V_drew));exact HL457_1.out) gb458 (Nat.le_of_eq hg.symm)) hb);replace HR457_0:=A_ (cD_ (by repeat (first | (with_reducible exact HR457_0.out) | (with_reducible refine cA_ ?_ _) | (with_reducible refine cB_ ?_ _) | (with_reducible refine cC_ ?_) | exact HR457_0.out)) hb);replace HR457_1:=A_ (cD_ (by repeat (first | (with_reducible exact HR457_1.out) | (with_reducible refine cA_ ?_ _) | (with_reducible refine cB_ ?_ _) | (with_reducible refine cC_ ?_) | exact HR457_1.out)) hb);have BK458:=A_ hbox;have GW458:=gw_ w hg;have GE458:=GW458;replace HB:=b1_ hb;have NB452_458:=gN_ BK452 hg;have NB458_452:=gP_ BK452 hg;replace BK452:=bb_ BK452 hb;clear hb hbox hg;have hnb19:=NB458_452.out;have hnc19:=NB452_458.out;obtain ⟨hcz20_0,hcz20_1,hfz20_0,hfz20_1⟩:=c2_ BK458) | ((with_reducible refine gA_ (f:=25) rfl ?_);refine gL_ (some 25) Tryz.func25 #[.agg #[.slice A457_0 ((rd_T27 t453 x19_1).f0).length c457_0,.slice A457_1 ((rd_T27 t453 x19_1).f1).length c457_1],.string a1] rfl qa_ ?_;(with_reducible refine (Z43.calls k1 _ _ ((rd_T27 t453 x19_1).f0) _ _ ((rd_T27 t453 x19_1).f1) a1 false _ ?side1 ?side2 ?side3 ?side4 A12.out).mono ?_);(case side1=>repeat (first | exact ((Kd.V_reads' (by (with_reducible repeat (first | apply Kd.V_alloc | apply Kd.V_drewN | apply Kd.V_drew));exact (Kd.V_mono (Kd.V_far (p:=⟨gb458,1,none⟩) (Kd.V_far (p:=⟨gb458,0,none⟩) (Kd.V_mono HL457_0.out (fun k_ hk=>(⟨hk,hk.2⟩:_∧k_≠gb458))) (fun _ hk=>hk.2) (.slice A457_0 ((rd_T27 t453 x19_1).f0).length c457_0)) (fun _ hk=>hk.2) (.slice A457_1 ((rd_T27 t453 x19_1).f1).length c457_1)) (fun _ h_=>h_.1)))).2.2) | (with_reducible first | refine cA_ ?_ _ | refine cB_ ?_ _ | refine cC_ ?_)));(case side2=>exact HC457_0.out);(case side3=>repeat (first | exact ((Kd.V_reads' (by (with_reducible repeat (first | apply Kd.V_alloc | apply Kd.V_drewN | apply Kd.V_drew));exact (Kd.V_mono (Kd.V_far (p:=⟨gb458,1,none⟩) (Kd.V_far (p:=⟨gb458,0,none⟩) (Kd.V_mono HL457_1.out (fun k_ hk=>(⟨hk,hk.2⟩:_∧k_≠gb458))) (fun _ hk=>hk.2) (.slice A457_0 ((rd_T27 t453 x19_1).f0).length c457_0)) (fun _ hk=>hk.2) (.slice A457_1 ((rd_T27 t453 x19_1).f1).length c457_1)) (fun _ h_=>h_.1)))).2.2) | (with_reducible first | refine cA_ ?_ _ | refine cB_ ?_ _ | refine cC_ ?_)));(case side4=>exact HC457_1.out);rintro e w21 ⟨rfl,hb⟩;refine ⟨_,rfl,?_⟩;replace HO_17:=A_ (Kd.N_below (by (with_reducible repeat (first | apply Kd.N_alloc | apply Kd.N_drewN | apply Kd.N_drew));exact (Kd.N_mono (Kd.N_far (p:=⟨gb458,1,none⟩) (Kd.N_far (p:=⟨gb458,0,none⟩) (Kd.N_mono HO_17.out (fun k_ hk=>(⟨hk,hk.2⟩:_∧k_≠gb458))) (fun _ hk=>hk.2) (.slice A457_0 ((rd_T27 t453 x19_1).f0).length c457_0)) (fun _ hk=>hk.2) (.slice A457_1 ((rd_T27 t453 x19_1).f1).length c457_1)) (fun _ h_=>h_.1))) hb);replace BK452:=A_ (kE_ (g:=gb452) (o:=.cells #[.slice A0_0 l0_0.length c0_0,.slice A0_1 l0_1.length c0_1] 27 (0,0)) (by (with_reducible repeat (first | refine kA_ ?_ _ | refine kB_ ?_ | refine kC_ ?_ _));refine blk_far ?_ NB452_458.out _;(with_reducible repeat (first | refine kA_ ?_ _ | refine kB_ ?_ | refine kC_ ?_ _));refine blk_far ?_ NB452_458.out _;(with_reducible repeat (first | refine kA_ ?_ _ | refine kB_ ?_ | refine kC_ ?_ _));exact BK452.out) hb);replace HR457_0:=A_ (cD_ ((Kd.V_reads' (by (with_reducible repeat (first | apply Kd.V_alloc | apply Kd.V_drewN | apply Kd.V_drew));exact (Kd.V_mono (Kd.V_far (p:=⟨gb458,1,none⟩) (Kd.V_far (p:=⟨gb458,0,none⟩) (Kd.V_mono HL457_0.out (fun k_ hk=>(⟨hk,hk.2⟩:_∧k_≠gb458))) (fun _ hk=>hk.2) (.slice A457_0 ((rd_T27 t453 x19_1).f0).length c457_0)) (fun _ hk=>hk.2) (.slice A457_1 ((rd_T27 t453 x19_1).f1).length c457_1)) (fun _ h_=>h_.1)))).2.2) hb);replace HL457_0:=A_ (Kd.V_below (by (with_reducible repeat (first | apply Kd.V_alloc | apply Kd.V_drewN | apply Kd.V_drew));exact (Kd.V_mono (Kd.V_far (p:=⟨gb458,1,none⟩) (Kd.V_far (p:=⟨gb458,0,none⟩) (Kd.V_mono HL457_0.out (fun k_ hk=>(⟨hk,hk.2⟩:_∧k_≠gb458))) (fun _ hk=>hk.2) (.slice A457_0 ((rd_T27 t453 x19_1).f0).length c457_0)) (fun _ hk=>hk.2) (.slice A457_1 ((rd_T27 t453 x19_1).f1).length c457_1)) (fun _ h_=>h_.1))) hb);replace HR457_1:=A_ (cD_ ((Kd.V_reads' (by (with_reducible repeat (first | apply Kd.V_alloc | apply Kd.V_drewN | apply Kd.V_drew));exact (Kd.V_mono (Kd.V_far (p:=⟨gb458,1,none⟩) (Kd.V_far (p:=⟨gb458,0,none⟩) (Kd.V_mono HL457_1.out (fun k_ hk=>(⟨hk,hk.2⟩:_∧k_≠gb458))) (fun _ hk=>hk.2) (.slice A457_0 ((rd_T27 t453 x19_1).f0).length c457_0)) (fun _ hk=>hk.2) (.slice A457_1 ((rd_T27 t453 x19_1).f1).length c457_1)) (fun _ h_=>h_.1)))).2.2) hb);replace HL457_1:=A_ (Kd.V_below (by (with_reducible repeat (first | apply Kd.V_alloc | apply Kd.V_drewN | apply Kd.V_drew));exact (Kd.V_mono (Kd.V_far (p:=⟨gb458,1,none⟩) (Kd.V_far (p:=⟨gb458,0,none⟩) (Kd.V_mono HL457_1.out (fun k_ hk=>(⟨hk,hk.2⟩:_∧k_≠gb458))) (fun _ hk=>hk.2) (.slice A457_0 ((rd_T27 t453 x19_1).f0).length c457_0)) (fun _ hk=>hk.2) (.slice A457_1 ((rd_T27 t453 x19_1).f1).length c457_1)) (fun _ h_=>h_.1))) hb);replace BK458:=A_ (kE_ (g:=gb458) (o:=.cells #[.slice A457_0 ((rd_T27 t453 x19_1).f0).length c457_0,.slice A457_1 ((rd_T27 t453 x19_1).f1).length c457_1] 27 (0,0)) qp_ hb);replace HB:=b1_ hb;clear hb))
      go_roundg k1
      case measure=>have:=HK1.out;omega
      case rel=>exact ⟨(x7_1),(wrap64 (x19_1 + 1)),qc_,qc_,H',⟨by have:=HK1.out;omega⟩,⟨by (with_reducible repeat (first | apply Kd.N_alloc | apply Kd.N_drewN | apply Kd.N_drew));exact Kd.N_mono HO_17.out (fun _ hk=>hk.1)⟩,⟨(kk_ BK452)⟩,⟨hB_⟩⟩
    ·rw [if_neg c9] at H
     have c9b0:=oD_ c9
     clear c9
     obtain rfl:=Option.some.inj H
     go_wp2
     go_ret
     exact ⟨qb_,hB_⟩
 ·replace c4:=Bool.eq_false_iff.mpr c4
  subst c4
  have H1:(some (-1)) = some r:=by rw [if_neg (show ¬ (false = true) by decide)] at H;exact H
  clear H
  have H:=H1
  clear H1
  obtain rfl:=Option.some.inj H
  go_enter Tryz.func26,Tryz.ntmps26
  go_wp2_with (first | ((with_reducible refine gB_ (N:=2) rfl ?_);refine bx_ 2 #[.slice A0_0 l0_0.length c0_0,.slice A0_1 l0_1.length c0_1] 27 ?_;intro gb452 hg w22 hbox hb;have BK452:=A_ hbox;have GW452:=gw_ w hg;have GE452:=GW452;replace HB:=b1_ hb;clear hb hbox hg;obtain ⟨hcz23_0,hcz23_1,hfz23_0,hfz23_1⟩:=c2_ BK452) | ((with_reducible refine gA_ (f:=22) rfl ?_);refine gL_ (some 12) Tryz.func22 #[.agg #[.slice A0_0 l0_0.length c0_0,.slice A0_1 l0_1.length c0_1]] rfl qa_ ?_;(with_reducible refine (Z68.calls k _ _ l0_0 _ _ l0_1 t453 false _ (cb_ HR0_0) HC0_0.out (cb_ HR0_1) HC0_1.out A3.out).mono ?_);rintro e w24 ⟨v454,rfl,ho0,hb⟩;refine ⟨_,rfl,?_⟩;have HO455:=A_ (Kd.N_lower (Kd.N_mono (ok':=fun k_=>k_≠gb452) ho0 (fun k_ hk_=>(Kd.freshB (kk_ BK452) k_ hk_))) (bF_ hB_));replace BK452:=bb_ BK452 hb;replace HB:=b1_ hb;clear hb ho0))
  go_ret
  exact ⟨qb_,hB_⟩
def Z20.f (k:Nat) (l0_0:List Int) (l0_1:List Int):Option (Int):=(Z61.f k l0_0 l0_1 (⟨#[83]⟩:ByteArray)).bind fun t461=>(some t461)
theorem Z20.mono:∀ a0 a1 k,LeO (Z20.f k a0 a1) (Z20.f (k + 1) a0 a1):=by
 intro a0 a1 k
 unfold Z20.f
 repeat' first|exact Z61.mono _ _ _ _|exact lo_|refine LeO.ite ?_ ?_|refine LeO.bind ?_ (fun _=>?_)
set_option maxHeartbeats 8000000 in
set_option maxRecDepth 100000 in
theorem Z20.calls (k:Nat) (A0_0:Option Addr) (c0_0:Nat) (l0_0:List Int) (A0_1:Option Addr) (c0_1:Nat) (l0_1:List Int) (r:Int) (w:World) (hr0_0:Kd.C (Kd.int .i64) w A0_0 l0_0.length l0_0) (hc0_0:l0_0.length≤c0_0) (hr0_1:Kd.C (Kd.int .i64) w A0_1 l0_1.length l0_1) (hc0_1:l0_1.length≤c0_1) (h:Z20.f k l0_0 l0_1 = some r) :
  Calls Tryz.prog 13 #[.agg #[.slice A0_0 l0_0.length c0_0,.slice A0_1 l0_1.length c0_1]] w fun e w'=>e = .returned (.int .i64 r)∧Below w.heap.size w w':=by
 have hu27:=Tryz.underlying27
 have HR0_0:=A_ hr0_0
 have HC0_0:=A_ hc0_0
 clear hr0_0 hc0_0
 have HR0_1:=A_ hr0_1
 have HC0_1:=A_ hc0_1
 clear hr0_1 hc0_1
 have HB:=A_ (Below.refl w.heap.size w)
 have H:=h
 unfold Z20.f at H
 clear h
 obtain ⟨t461,A2,H⟩:=bi_ H
 obtain rfl:=Option.some.inj H
 go_enter Tryz.func13,Tryz.ntmps13
 go_wp2_with (first | ((with_reducible refine gB_ (N:=1) rfl ?_);refine bx_ 1 #[.slice A0_0 l0_0.length c0_0,.slice A0_1 l0_1.length c0_1] 27 ?_;intro gb460 hg w3 hbox hb;have BK460:=A_ hbox;have GW460:=gw_ w hg;have GE460:=GW460;replace HB:=b1_ hb;clear hb hbox hg;obtain ⟨hcz4_0,hcz4_1,hfz4_0,hfz4_1⟩:=c2_ BK460) | ((with_reducible refine gA_ (f:=26) rfl ?_);refine gL_ (some 4) Tryz.func26 #[.agg #[.slice A0_0 l0_0.length c0_0,.slice A0_1 l0_1.length c0_1],.string (⟨#[83]⟩:ByteArray)] rfl qa_ ?_;(with_reducible refine (Z61.calls k _ _ l0_0 _ _ l0_1 (⟨#[83]⟩:ByteArray) t461 _ (cb_ HR0_0) HC0_0.out (cb_ HR0_1) HC0_1.out A2.out).mono ?_);rintro e w5 ⟨rfl,hb⟩;refine ⟨_,rfl,?_⟩;replace BK460:=bb_ BK460 hb;replace HB:=b1_ hb;clear hb))
 go_ret
 exact ⟨qb_,hB_⟩
def Z13.f (k:Nat) (l0_0:List Int) (l0_1:List Int):Option (Int):=(Z61.f k l0_0 l0_1 (⟨#[84,83]⟩:ByteArray)).bind fun t463=>(some t463)
theorem Z13.mono:∀ a0 a1 k,LeO (Z13.f k a0 a1) (Z13.f (k + 1) a0 a1):=by
 intro a0 a1 k
 unfold Z13.f
 repeat' first|exact Z61.mono _ _ _ _|exact lo_|refine LeO.ite ?_ ?_|refine LeO.bind ?_ (fun _=>?_)
set_option maxHeartbeats 8000000 in
set_option maxRecDepth 100000 in
theorem Z13.calls (k:Nat) (A0_0:Option Addr) (c0_0:Nat) (l0_0:List Int) (A0_1:Option Addr) (c0_1:Nat) (l0_1:List Int) (r:Int) (w:World) (hr0_0:Kd.C (Kd.int .i64) w A0_0 l0_0.length l0_0) (hc0_0:l0_0.length≤c0_0) (hr0_1:Kd.C (Kd.int .i64) w A0_1 l0_1.length l0_1) (hc0_1:l0_1.length≤c0_1) (h:Z13.f k l0_0 l0_1 = some r) :
  Calls Tryz.prog 14 #[.agg #[.slice A0_0 l0_0.length c0_0,.slice A0_1 l0_1.length c0_1]] w fun e w'=>e = .returned (.int .i64 r)∧Below w.heap.size w w':=by
 have hu27:=Tryz.underlying27
 have HR0_0:=A_ hr0_0
 have HC0_0:=A_ hc0_0
 clear hr0_0 hc0_0
 have HR0_1:=A_ hr0_1
 have HC0_1:=A_ hc0_1
 clear hr0_1 hc0_1
 have HB:=A_ (Below.refl w.heap.size w)
 have H:=h
 unfold Z13.f at H
 clear h
 obtain ⟨t463,A2,H⟩:=bi_ H
 obtain rfl:=Option.some.inj H
 go_enter Tryz.func14,Tryz.ntmps14
 go_wp2_with (first | ((with_reducible refine gB_ (N:=1) rfl ?_);refine bx_ 1 #[.slice A0_0 l0_0.length c0_0,.slice A0_1 l0_1.length c0_1] 27 ?_;intro gb462 hg w3 hbox hb;have BK462:=A_ hbox;have GW462:=gw_ w hg;have GE462:=GW462;replace HB:=b1_ hb;clear hb hbox hg;obtain ⟨hcz4_0,hcz4_1,hfz4_0,hfz4_1⟩:=c2_ BK462) | ((with_reducible refine gA_ (f:=26) rfl ?_);refine gL_ (some 4) Tryz.func26 #[.agg #[.slice A0_0 l0_0.length c0_0,.slice A0_1 l0_1.length c0_1],.string (⟨#[84,83]⟩:ByteArray)] rfl qa_ ?_;(with_reducible refine (Z61.calls k _ _ l0_0 _ _ l0_1 (⟨#[84,83]⟩:ByteArray) t463 _ (cb_ HR0_0) HC0_0.out (cb_ HR0_1) HC0_1.out A2.out).mono ?_);rintro e w5 ⟨rfl,hb⟩;refine ⟨_,rfl,?_⟩;replace BK462:=bb_ BK462 hb;replace HB:=b1_ hb;clear hb))
 go_ret
 exact ⟨qb_,hB_⟩
def Z33.j0:Nat→List Int→Bool→List Int→List Int→Option (Int)
 | 0,_,_,_,_=>none
 | k + 1,x3,x16,x465000,x465001=>if x16 = true then (some (-1)) else ((Z67.f k x465000 x465001).bind fun t470=>((Z20.f k x465000 x465001).bind fun t471=>((Z13.f k x465000 x465001).bind fun t472=>(some (wrap64 (Int.tdiv (wrap64 ((wrap64 ((wrap64 ((wrap64 (12 + t470)) - (wrap64 (3 * t471)))) - (wrap64 (4 * t472)))) - (wrap64 (6 * (x3.length:Int))))) 12))))))
def Z33.f (k:Nat) (l0_0:List Int) (l0_1:List Int):Option (Int):=(Z66.f k l0_0 l0_1).bind fun bt465=>(if bt465.2 = true then ((Z27.f k l0_0 l0_1).bind fun t469=>(Z33.j0 k bt465.1 (!t469) l0_0 l0_1)) else (Z33.j0 k bt465.1 true l0_0 l0_1))
theorem Z33.mono_l:∀ k,(∀ y0 y1 y2 y3,LeO (Z33.j0 k y0 y1 y2 y3) (Z33.j0 (k + 1) y0 y1 y2 y3))
 | 0=>fun _ _ _ _ r h=>by simp [Z33.j0] at h
 | k + 1=>by
  have ih0:=Z33.mono_l k
  ·intro y0 y1 y2 y3
   unfold Z33.j0
   repeat' first|exact ih0 _ _ _ _|exact Z66.mono _ _ _|exact Z27.mono _ _ _|exact Z67.mono _ _ _|exact Z13.mono _ _ _|exact Z20.mono _ _ _|exact lo_|refine LeO.ite ?_ ?_|refine LeO.bind ?_ (fun _=>?_)
theorem Z33.mono:∀ a0 a1 k,LeO (Z33.f k a0 a1) (Z33.f (k + 1) a0 a1):=by
 intro a0 a1 k
 have ih0:=Z33.mono_l k
 unfold Z33.f
 repeat' first|exact ih0 _ _ _ _|exact Z66.mono _ _ _|exact Z27.mono _ _ _|exact Z67.mono _ _ _|exact Z13.mono _ _ _|exact Z20.mono _ _ _|exact lo_|refine LeO.ite ?_ ?_|refine LeO.bind ?_ (fun _=>?_)
def Z33.T4:Bool × List (List Nat × List Nat):=(true,[([],[]),([0],[0]),([1],[1]),([],[]),([3,1],[3]),([4],[4]),([2,5],[2,5]),([],[]),([7,4],[7]),([8],[8]),([6,9],[6,9]),([],[]),([11],[11]),([12],[12]),([10,13],[10,13]),([14],[14]),([15,8,0,1,2,3,4,5,6,7,8,9,10,11,12,13,14,15],[15])])
def Z33.B4:List Nat:=[0,1,3,0,11,27,63,0,155,411,1023,0,2048,6144,16383,32767,65535]
theorem Z33.tab4:rtab .any (opsOf Tryz.f5 4) = Z33.T4:=by kernel_rfl
theorem Z33.bits4:waitsOk Z33.T4.2 Z33.B4 = true:=by kernel_rfl
set_option maxHeartbeats 8000000 in
set_option maxRecDepth 100000 in
theorem Z33.calls (k:Nat) (A0_0:Option Addr) (c0_0:Nat) (l0_0:List Int) (A0_1:Option Addr) (c0_1:Nat) (l0_1:List Int) (r:Int) (w:World) (hr0_0:Kd.C (Kd.int .i64) w A0_0 l0_0.length l0_0) (hc0_0:l0_0.length≤c0_0) (hr0_1:Kd.C (Kd.int .i64) w A0_1 l0_1.length l0_1) (hc0_1:l0_1.length≤c0_1) (h:Z33.f k l0_0 l0_1 = some r) :
  Calls Tryz.prog 5 #[.agg #[.slice A0_0 l0_0.length c0_0,.slice A0_1 l0_1.length c0_1]] w fun e w'=>e = .returned (.int .i64 r)∧Below w.heap.size w w':=by
 have hu27:=Tryz.underlying27
 have HR0_0:=A_ hr0_0
 have HC0_0:=A_ hc0_0
 clear hr0_0 hc0_0
 have HR0_1:=A_ hr0_1
 have HC0_1:=A_ hc0_1
 clear hr0_1 hc0_1
 have HB:=A_ (Below.refl w.heap.size w)
 have H:=h
 unfold Z33.f at H
 clear h
 obtain ⟨⟨t465,t468⟩,A2,H⟩:=bi_ H
 try dsimp only at H
 have HC3:=A_ H
 clear H
 go_enter Tryz.func5,Tryz.ntmps5
 go_upto_region 2 with (first | ((with_reducible refine gB_ (N:=1) rfl ?_);refine bx_ 1 #[.slice A0_0 l0_0.length c0_0,.slice A0_1 l0_1.length c0_1] 27 ?_;intro gb464 hg w4 hbox hb;have BK464:=A_ hbox;have GW464:=gw_ w hg;have GE464:=GW464;replace HB:=b1_ hb;clear hb hbox hg;obtain ⟨hcz5_0,hcz5_1,hfz5_0,hfz5_1⟩:=c2_ BK464) | ((with_reducible refine gA_ (f:=10) rfl ?_);refine gL_ (some 7) Tryz.func10 #[.agg #[.slice A0_0 l0_0.length c0_0,.slice A0_1 l0_1.length c0_1]] rfl qa_ ?_;(with_reducible refine (Z66.calls k _ _ l0_0 _ _ l0_1 t465 t468 _ (cb_ HR0_0) HC0_0.out (cb_ HR0_1) HC0_1.out A2.out).mono ?_);rintro e w6 ⟨v466,rfl,ho0,hb⟩;refine ⟨_,rfl,?_⟩;have HO467:=rl_ w ho0;replace BK464:=bb_ BK464 hb;replace HB:=b1_ hb;clear hb ho0))
 (try simp only [Act.put,sA_,sB_,sC_])
 go_cut [16] (fun v16 wc=>∃ (kq:Nat) (x16_2:Bool),v16 = .bool x16_2∧Aside0 (Z33.j0 kq t465 x16_2 l0_0 l0_1 = some r)∧Aside0 (kq≤k)∧Aside0 (Kd.R (Kd.int .i64) 3 wc w.heap.size (fun _=>True) v466 t465)∧Aside0 (wc.heap[gb464]? = some (.cells #[(.slice A0_0 l0_0.length c0_0),(.slice A0_1 l0_1.length c0_1)] 27 (0,0)))∧Aside0 (Below w.heap.size w wc))
 case first =>
  have H:=HC3.out
  clear HC3
  by_cases c7:t468 = true
  ·subst c7
   rw [if_pos rfl] at H
   obtain ⟨t469,A8,H⟩:=bi_ H
   have H':=A_ H
   clear H
   obtain ⟨hcz9_0,hcz9_1,hfz9_0,hfz9_1⟩:=c2_ BK464
   go_wp2_with (first | (go_at_call 11;(with_reducible refine (Z27.calls k _ _ l0_0 _ _ l0_1 t469 _ (cb_ HR0_0) HC0_0.out (cb_ HR0_1) HC0_1.out A8.out).mono ?_);rintro e w10 ⟨rfl,hb⟩;replace HO467:=rb_ HO467 hb;replace BK464:=bb_ BK464 hb;replace HB:=b1_ hb;clear hb))
   go_meet
   case rel=>exact ⟨_,(!t469),qc_,H',⟨qd_⟩,⟨(rr_ HO467)⟩,⟨(kk_ BK464)⟩,⟨hB_⟩⟩
  ·replace c7:=Bool.eq_false_iff.mpr c7
   subst c7
   have H1:(Z33.j0 k t465 true l0_0 l0_1) = some r:=by rw [if_neg (show ¬ (false = true) by decide)] at H;exact H
   clear H
   have H:=H1
   clear H1
   have H':=A_ H
   clear H
   go_wp2
   go_meet
   case rel=>exact ⟨_,(true),qc_,H',⟨qd_⟩,⟨(rr_ HO467)⟩,⟨(kk_ BK464)⟩,⟨hB_⟩⟩
 case rest =>
  clear HC3
  obtain ⟨kq,x16_2,rfl,HA,HJ2,HO_3,BK464,HB⟩:=hcut
  cases kq with
  | zero=>exact absurd HA.out (by simp [Z33.j0])
  | succ kj2 =>
   have H:=HA.out
   clear HA
   simp only [Z33.j0] at H
   by_cases c11:x16_2 = true
   ·subst c11
    rw [if_pos rfl] at H
    obtain rfl:=Option.some.inj H
    go_wp2
    go_ret
    exact ⟨qb_,hB_⟩
   ·replace c11:=Bool.eq_false_iff.mpr c11
    subst c11
    have H1:((Z67.f kj2 l0_0 l0_1).bind fun t470=>((Z20.f kj2 l0_0 l0_1).bind fun t471=>((Z13.f kj2 l0_0 l0_1).bind fun t472=>(some (wrap64 (Int.tdiv (wrap64 ((wrap64 ((wrap64 ((wrap64 (12 + t470)) - (wrap64 (3 * t471)))) - (wrap64 (4 * t472)))) - (wrap64 (6 * (t465.length:Int))))) 12)))))) = some r:=by rw [if_neg (show ¬ (false = true) by decide)] at H;exact H
    clear H
    have H:=H1
    clear H1
    obtain ⟨t470,A12,H⟩:=bi_ H
    obtain ⟨t471,A13,H⟩:=bi_ H
    obtain ⟨t472,A14,H⟩:=bi_ H
    obtain rfl:=Option.some.inj H
    try go_wp2
    replace HO_3:=A_ (rC_ HO_3.out)
    replace BK464:=A_ (kB_ BK464.out)
    replace HB:=A_ (bC_ HB.out)
    obtain ⟨Ao16,co16,eo16⟩:=Kd.R_slice HO_3.out
    (first | subst eo16 | (injection eo16 with f1_ f2_ f3_;have f4_:=f1_.symm;have f5_:=f3_.symm;clear f1_ f2_ f3_;subst f4_;subst f5_))
    refine start_ (n:=17) (S:=fun w'=>w'.cell? ⟨gb464,0,none⟩ = some (.slice A0_0 l0_0.length c0_0)∧w'.cell? ⟨gb464,1,none⟩ = some (.slice A0_1 l0_1.length c0_1)) (ds:=[]) (bl_ 17 0) (by kernel_rfl) rfl (by kernel_rfl) ⟨cz0_ BK464,cz1_ BK464⟩ (fun hHeld=>?_);refine with_tabW Z33.tab4 Z33.bits4 (fun HT_ HW_=>?_)
    generalize wc.drew = w15 at HO_3 BK464 HB hHeld ⊢
    refine pu_ 11 (some 28) (bl_ 17 2048) HT_ ?_
    refine pu_ 12 (some 29) (bl_ 17 6144) HT_ ?_
    refine pu_ 13 (some 30) (bl_ 17 14336) HT_ ?_
    refine ta_ 0 (some 17) (bl_ 17 14337) HT_ HW_ hHeld ?_
    refine ta_ 3 (some 20) (bl_ 17 14345) HT_ HW_ hHeld ?_
    refine ta_ 7 (some 24) (bl_ 17 14473) HT_ HW_ hHeld ?_
    refine on_ 1 (some 18) (bl_ 17 14475) HT_ (fun K hK=>?_)
    refine gO_ Tryz.func12 #[.agg #[.slice A0_0 l0_0.length c0_0,.slice A0_1 l0_1.length c0_1]] (by rfl) rfl rfl qa_ ?_
    with_reducible refine (Z67.calls kj2 _ _ l0_0 _ _ l0_1 t470 _ (cb_ HR0_0) HC0_0.out (cb_ HR0_1) HC0_1.out A12.out).mono ?_
    rintro e w17 ⟨rfl,hb⟩
    refine ⟨_,rfl,?_⟩
    replace HO_3:=rb_ HO_3 hb
    replace BK464:=bb_ BK464 hb
    replace HB:=b1_ hb
    clear hb
    refine hK.out _ _ ⟨cz0_ BK464,cz1_ BK464⟩ (fun hHeld=>?_)
    clear hK K
    refine no_ (some 18) ?_
    refine pu_ 2 (some 19) (bl_ 17 14479) HT_ ?_
    refine on_ 4 (some 21) (bl_ 17 14495) HT_ (fun K hK=>?_)
    refine gO_ Tryz.func13 #[.agg #[.slice A0_0 l0_0.length c0_0,.slice A0_1 l0_1.length c0_1]] (by rfl) rfl rfl qa_ ?_
    with_reducible refine (Z20.calls kj2 _ _ l0_0 _ _ l0_1 t471 _ (cb_ HR0_0) HC0_0.out (cb_ HR0_1) HC0_1.out A13.out).mono ?_
    rintro e w18 ⟨rfl,hb⟩
    refine ⟨_,rfl,?_⟩
    replace HO_3:=rb_ HO_3 hb
    replace BK464:=bb_ BK464 hb
    replace HB:=b1_ hb
    clear hb
    refine hK.out _ _ ⟨cz0_ BK464,cz1_ BK464⟩ (fun hHeld=>?_)
    clear hK K
    refine no_ (some 21) ?_
    refine pu_ 5 (some 22) (bl_ 17 14527) HT_ ?_
    refine pu_ 6 (some 23) (bl_ 17 14591) HT_ ?_
    refine on_ 8 (some 25) (bl_ 17 14847) HT_ (fun K hK=>?_)
    refine gO_ Tryz.func14 #[.agg #[.slice A0_0 l0_0.length c0_0,.slice A0_1 l0_1.length c0_1]] (by rfl) rfl rfl qa_ ?_
    with_reducible refine (Z13.calls kj2 _ _ l0_0 _ _ l0_1 t472 _ (cb_ HR0_0) HC0_0.out (cb_ HR0_1) HC0_1.out A14.out).mono ?_
    rintro e w19 ⟨rfl,hb⟩
    refine ⟨_,rfl,?_⟩
    replace HO_3:=rb_ HO_3 hb
    replace BK464:=bb_ BK464 hb
    replace HB:=b1_ hb
    clear hb
    refine hK.out _ _ ⟨cz0_ BK464,cz1_ BK464⟩ (fun hHeld=>?_)
    clear hK K
    refine no_ (some 25) ?_
    refine pu_ 9 (some 26) (bl_ 17 15359) HT_ ?_
    refine pu_ 10 (some 27) (bl_ 17 16383) HT_ ?_
    refine pu_ 14 (some 31) (bl_ 17 32767) HT_ ?_
    refine pu_ 15 (some 32) (bl_ 17 65535) HT_ ?_
    refine pu_ 16 (some 2) (bl_ 17 131071) HT_ ?_
    refine done_ (done_of HT_.out (by kernel_rfl)) ?_
    try go_wp2
    go_ret
    exact ⟨qb_,hB_⟩
def Z79.l0:Nat→List Int→List Int→Int→Option (List Int)
 | 0,_,_,_=>none
 | k + 1,x0,x3,x4=>if x4 < (x0.length:Int) then (if 0≤x4 then (if x4 < (x3.length:Int) then (Z79.l0 k x0 (x3.set (x4:Int).toNat (rd x0 x4)) (wrap64 (x4 + 1))) else (none)) else (none)) else (some x3)
def Z79.f (k:Nat) (l0:List Int):Option (List Int):=if 0≤(l0.length:Int) then (if ((l0.length:Int):Int).toNat≤35184372088832 then (Z79.l0 k l0 (List.replicate ((l0.length:Int):Int).toNat 0) 0) else (none)) else (none)
theorem Z79.mono_l:∀ k,(∀ y0 y1 y2,LeO (Z79.l0 k y0 y1 y2) (Z79.l0 (k + 1) y0 y1 y2))
 | 0=>fun _ _ _ r h=>by simp [Z79.l0] at h
 | k + 1=>by
  have ih0:=Z79.mono_l k
  ·intro y0 y1 y2
   unfold Z79.l0
   repeat' first|exact ih0 _ _ _|exact lo_|refine LeO.ite ?_ ?_|refine LeO.bind ?_ (fun _=>?_)
theorem Z79.mono:∀ a0 k,LeO (Z79.f k a0) (Z79.f (k + 1) a0):=by
 intro a0 k
 have ih0:=Z79.mono_l k
 unfold Z79.f
 repeat' first|exact ih0 _ _ _|exact lo_|refine LeO.ite ?_ ?_|refine LeO.bind ?_ (fun _=>?_)
set_option maxHeartbeats 8000000 in
set_option maxRecDepth 100000 in
theorem Z79.calls (k:Nat) (A0:Option Addr) (c0:Nat) (l0:List Int) (r:List Int) (w:World) (hr0:Kd.C (Kd.int .i64) w A0 l0.length l0) (hc0:l0.length≤c0) (h:Z79.f k l0 = some r) :
  Calls Tryz.prog 15 #[.slice A0 l0.length c0] w fun e w'=>∃ v0_:Value,e = .returned (v0_)∧Kd.R (Kd.int .i64) 3 w' w.heap.size (fun _=>True) v0_ r∧Below w.heap.size w w':=by
 have HR0:=A_ hr0
 have HC0:=A_ hc0
 clear hr0 hc0
 have HB:=A_ (Below.refl w.heap.size w)
 have H:=h
 unfold Z79.f at H
 clear h
 have c2:=cp_ H
 replace H:=ca_ H
 have c2b0:=eq_true c2
 have c2b1:=oC_ c2
 clear c2
 have c3:=cp_ H
 replace H:=ca_ H
 have c3b0:=eq_true c3
 have c3b1:=oC_ c3
 clear c3
 obtain ⟨y473,hy473⟩:∃ y_:List Int,y_ = (List.replicate ((l0.length:Int):Int).toNat 0):=⟨_,rfl⟩
 replace H:(Z79.l0 k l0 y473 0) = some r:=by first | (rw [hy473];exact H) | exact H
 have Ny473:=A_ hy473
 clear hy473
 have H':=A_ H
 clear H
 go_enter Tryz.func15,Tryz.ntmps15
 go_wp2_with (first | ((with_reducible refine gB_ (N:=7) rfl ?_);refine Kd.R_make (Kd.int .i64) _ 3 rfl (N:=7) rfl 22 _ _ rfl (l0.length:Int) rfl rfl Tryz.underlying22 (.int .i64 0) 8 info3 rfl (by decide) (by omega) 0 (ok:=fun _=>True) (okp:=fun _=>True) rfl (fun _ hk=>hk) trivial (oB_ qe_) (Nat.le_trans (Nat.mul_le_mul_right _ (oB_ qe_:(l0.length:Int).toNat≤35184372088832)) (by omega)) (Below.refl _ _) (nA_ _) ?_;intro v474 w4 ho5 hb hg_ hnew_;clear hg_ hnew_;(first | rw [← Ny473.out] at ho5 | (simp only [Int.reduceToNat] at ho5;rw [← Ny473.out] at ho5));have HO475:=rl_ w ho5;replace HB:=b1_ hb;clear hb ho5))
 go_loopg [4] k (fun kq v4 w'=>∃ (x3_1:List Int) (x4_1:Int),v4 = .int .i64 x4_1∧Aside0 (Z79.l0 kq l0 x3_1 x4_1 = some r)∧Aside0 (kq≤k)∧Aside0 (Kd.R (Kd.int .i64) 3 w' w.heap.size (fun _=>True) v474 x3_1)∧Aside0 (Below w.heap.size w w'))
 case atStart=>exact ⟨(y473),(0),qc_,H',⟨nA_ _⟩,⟨(rr_ HO475)⟩,⟨hB_⟩⟩
 case round =>
  clear H'
  obtain ⟨x3_1,x4_1,rfl,HA,HK1,HO_3,HB⟩:=hrel
  cases gk with
  | zero=>exact absurd HA.out (by simp [Z79.l0])
  | succ k1 =>
   have H:=HA.out
   clear HA
   simp only [Z79.l0] at H
   by_cases c6:x4_1 < (l0.length:Int)
   ·rw [if_pos c6] at H
    have c6b0:=oC_ c6
    clear c6
    have c7:=cp_ H
    replace H:=ca_ H
    have c7b0:=oC_ c7
    clear c7
    have c8:=cp_ H
    replace H:=ca_ H
    have c8b0:=oC_ c8
    clear c8
    obtain ⟨y477,hy477⟩:∃ y_:List Int,y_ = (x3_1.set (x4_1:Int).toNat (rd l0 x4_1)):=⟨_,rfl⟩
    replace H:(Z79.l0 k1 l0 y477 (wrap64 (x4_1 + 1))) = some r:=by first | (rw [hy477];exact H) | exact H
    have Ny477:=A_ hy477
    clear hy477
    have H':=A_ H
    clear H
    have p476:0≤(x4_1:Int):=oB_ qe_
    have q476:x4_1 < (l0.length:Int):=oB_ qe_
    obtain ⟨ad476,e476,hx476_0⟩:=Kd.at_int HR0.out x4_1 p476 q476
    cases e476
    replace hx476_0:=(HB.out.cell (World.block_lt_of_cell? w _ hx476_0)).trans hx476_0
    replace p476:=eq_true p476
    replace q476:=eq_true q476
    have p9:0≤(x4_1:Int):=oB_ qe_
    have q9:(x4_1:Int) < ((x3_1.length:Int):Int):=oB_ qe_
    obtain ⟨go9,co9,eo9,gb9,gl9,cl9,HG9⟩:=Kd.R_form HO_3.out (by omega)
    (first | cases eo9 | (injection eo9 with ea_ en_ ec_;(first | subst ea_ | (injection ea_ with ea_;subst ea_));subst ec_;clear en_))
    have GB9:=A_ gb9
    have GG9:=A_ HG9
    clear gb9 gl9 HG9
    obtain ⟨hx9_0,hf9_0⟩:=Kd.R_celln 0 HO_3.out (x4_1:Int) p9 q9
    replace p9:=eq_true p9
    replace q9:=eq_true q9
    have HP10:=Kd.R_putg HO_3.out (x4_1:Int) (rd l0 x4_1)
    go_wp2_with (first | ((with_reducible refine gate_store (t:=3) (p:=20) rfl ?_);refine store_event (t:=3) (p:=20) (v:=?vo_w11) (w1:=(wr.setCell ⟨go9,(x4_1:Int).toNat,none⟩ (.int .i64 (rd l0 x4_1)))) ?hg ?ho ?hn ?hr ?_;(case ho=>rfl);(case hg=>rfl);(case hn=>rfl);(case hr=>first | (go_simp;done) | (go_simp;rfl));intro w11 hw;have hg:wr.grownBy w11 (some go9):=(by rw [hw];exact HP10.2);have hp_:Kd.R (Kd.int .i64) 3 w11 w.heap.size (fun _=>True) (.slice (some ⟨go9,0,none⟩) x3_1.length co9) y477:=(by rw [hw,Ny477.out];exact HP10.1);clear HP10;replace HO_3:=A_ (hp_);replace HB:=A_ ((by rw [hw];exact bD_ (HB.out) GB9.out:Below w.heap.size w w11));clear hg hw hp_))
    go_roundg k1
    case measure=>have:=HK1.out;omega
    case rel=>exact ⟨(y477),(wrap64 (x4_1 + 1)),qc_,H',⟨by have:=HK1.out;omega⟩,⟨(rr_ HO_3)⟩,⟨hB_⟩⟩
   ·rw [if_neg c6] at H
    have c6b0:=oD_ c6
    clear c6
    obtain rfl:=Option.some.inj H
    go_wp2
    go_ret
    exact ⟨_,qb_,(rr_ HO_3),hB_⟩
end Go.Proofs.YtcggfjpnfodbaaaGreat.A
end
