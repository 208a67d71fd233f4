/- Lemmas for the row FnExactStrataWith: the program's functions told as plain functions, and plain mathematics. No conditions. -/
import Derived.Test.YtoijcallajegfaaGreatQFnExactStrataWith1
section
namespace Go.Proofs.YtoijcallajegfaaGreat.A
open Go.RowKit Go.Proofs.YtoijcallajegfaaGreatW.PrintWords Go.Proofs.YtoijcallajegfaaGreatW.PrintLast Go.Proofs.YtoijcallajegfaaGreatW.PrintMore
attribute [local go_sem] max2_int min2_int max_two min_two max_three min_three max_four min_four
set_option linter.unusedVariables false
set_option linter.unusedSimpArgs false
def Z52.l0:Nat→Int→List Int→List Int→List Int→List Int→Option (List Int × List Int)
 | 0,_,_,_,_,_=>none
 | k + 1,x4,x219000,x219001,x230000,x230001=>if x4 < (x219000.length:Int) then ((Z53.f k x219000 x219001 x4).bind fun t230=>((Z35.f k x219000 x219001 t230).bind fun bt233=>((Z34.f k bt233.1 bt233.2 x230000 x230001).bind fun t240=>(if t240 = true then (Z52.l0 k (wrap64 (x4 + 1)) x219000 x219001 bt233.1 bt233.2) else (Z52.l0 k (wrap64 (x4 + 1)) x219000 x219001 x230000 x230001))))) else (some (x230000,x230001))
def Z52.f (k:Nat) (l0_0:List Int) (l0_1:List Int):Option (List Int × List Int):=(Z53.f k l0_0 l0_1 0).bind fun t220=>((Z35.f k l0_0 l0_1 t220).bind fun bt223=>(Z52.l0 k 1 l0_0 l0_1 bt223.1 bt223.2))
theorem Z52.mono_l:∀ k,(∀ y0 y1 y2 y3 y4,LeO (Z52.l0 k y0 y1 y2 y3 y4) (Z52.l0 (k + 1) y0 y1 y2 y3 y4))
 | 0=>fun _ _ _ _ _ r h=>by simp [Z52.l0] at h
 | k + 1=>by
  have ih0:=Z52.mono_l k
  ·intro y0 y1 y2 y3 y4
   unfold Z52.l0
   repeat' first|exact ih0 _ _ _ _ _|exact Z34.mono _ _ _ _ _|exact Z53.mono _ _ _ _|exact Z35.mono _ _ _ _|exact lo_|refine LeO.ite ?_ ?_|refine LeO.bind ?_ (fun _=>?_)
theorem Z52.mono:∀ a0 a1 k,LeO (Z52.f k a0 a1) (Z52.f (k + 1) a0 a1):=by
 intro a0 a1 k
 have ih0:=Z52.mono_l k
 unfold Z52.f
 repeat' first|exact ih0 _ _ _ _ _|exact Z34.mono _ _ _ _ _|exact Z53.mono _ _ _ _|exact Z35.mono _ _ _ _|exact lo_|refine LeO.ite ?_ ?_|refine LeO.bind ?_ (fun _=>?_)
set_option maxHeartbeats 8000000 in
set_option maxRecDepth 100000 in
theorem Z52.calls (k:Nat) (A0_0:Option Addr) (c0_0:Nat) (l0_0:List Int) (A0_1:Option Addr) (c0_1:Nat) (l0_1:List Int) (r1:List Int) (r2:List Int) (w:World) (hr0_0:Kd.C (Kd.int .i64) w A0_0 l0_0.length l0_0) (hc0_0:l0_0.length≤c0_0) (hr0_1:Kd.C (Kd.int .i64) w A0_1 l0_1.length l0_1) (hc0_1:l0_1.length≤c0_1) (h:Z52.f k l0_0 l0_1 = some (r1,r2)) :
  Calls Tryz.prog 35 #[.agg #[.slice A0_0 l0_0.length c0_0,.slice A0_1 l0_1.length c0_1]] w fun e w'=>∃ v0_ v1_:Value,e = .returned (.agg #[v0_,v1_])∧Kd.R (Kd.int .i64) 3 w' w.heap.size (fun k_=>some k_≠(v1_:Value).ownBlock) v0_ r1∧Kd.R (Kd.int .i64) 3 w' w.heap.size (fun k_=>some k_≠(v0_:Value).ownBlock) v1_ r2∧Below w.heap.size w w':=by
 have hu38:=Tryz.underlying38
 have HR0_0:=A_ hr0_0
 have HC0_0:=A_ hc0_0
 clear hr0_0 hc0_0
 have HR0_1:=A_ hr0_1
 have HC0_1:=A_ hc0_1
 clear hr0_1 hc0_1
 have HB:=A_ (Below.refl w.heap.size w)
 have H:=h
 unfold Z52.f at H
 clear h
 obtain ⟨t220,A2,H⟩:=bi_ H
 obtain ⟨⟨t223,t226⟩,A3,H⟩:=bi_ H
 try dsimp only at H
 have H':=A_ H
 clear H
 go_enter Tryz.func35,Tryz.ntmps35
 try go_wp2_with (first | ((with_reducible refine gB_ (N:=1) rfl ?_);refine bx_ 1 #[.slice A0_0 l0_0.length c0_0,.slice A0_1 l0_1.length c0_1] 38 ?_;intro gb218 hg w4 hbox hb;have BK218:=A_ hbox;have GW218:=gw_ w hg;have GE218:=GW218;replace HB:=b1_ hb;clear hb hbox hg) | ((with_reducible refine gB_ (N:=2) rfl ?_);refine bx_ 2 #[.slice none 0 0,.slice none 0 0] 38 ?_;intro gb219 hg w5 hbox hb;have BK219:=A_ hbox;have GW219:=gw_ w hg;have GE219:=GW219;replace HB:=b1_ hb;have NB218_219:=gN_ BK218 hg;have NB219_218:=gP_ BK218 hg;replace BK218:=bb_ BK218 hb;clear hb hbox hg))
 replace BK218:=A_ (kB_ BK218.out)
 replace BK219:=A_ (kB_ BK219.out)
 replace HB:=A_ (bC_ HB.out)
 refine start_ (n:=6) (S:=fun w'=>w'.cell? ⟨gb218,0,none⟩ = some (.slice A0_0 l0_0.length c0_0)∧w'.cell? ⟨gb218,1,none⟩ = some (.slice A0_1 l0_1.length c0_1)) (ds:=[]) (bl_ 6 0) (by kernel_rfl) rfl (by kernel_rfl) ⟨cz0_ BK218,cz1_ BK218⟩ (fun hHeld=>?_)
 generalize w5.drew = w6 at BK218 BK219 HB hHeld ⊢
 refine take_ (i:=0) (N:=some 6) (v:=?_) (a':=?_) (bl_ 6 1) rfl rfl (by kernel_rfl) (fun _ _ _ h=>h) (Or.inl ⟨by rfl,?_⟩) hHeld ?_ ?_
 rotate_left
 ·rintro w' ⟨s0,s1⟩
  go_simp
  with_reducible rfl
 rotate_left
 ·simp only [Act.put,sA_,sB_,sC_,i64_w,i32_w]
  rfl
 refine take_ (i:=1) (N:=some 7) (v:=?_) (a':=?_) (bl_ 6 3) rfl rfl (by kernel_rfl) (fun _ _ _ h=>h) (Or.inl ⟨by rfl,?_⟩) hHeld ?_ ?_
 rotate_left
 ·rintro w' ⟨s0,s1⟩
  go_simp
  with_reducible rfl
 rotate_left
 ·simp only [Act.put,sA_,sB_,sC_,i64_w,i32_w]
  rfl
 refine join_ (σ:=Value × Value × Value × Nat) 1 (bl_ 6 31) (fun s_=>[(8,s_.1),(9,.agg #[s_.2.1,s_.2.2.1]),(3,.pointer (some ⟨s_.2.2.2,0,none⟩))]) (fun s_ w'=>(w'.cell? ⟨gb218,0,none⟩ = some (.slice A0_0 l0_0.length c0_0)∧w'.cell? ⟨gb218,1,none⟩ = some (.slice A0_1 l0_1.length c0_1))∧(Kd.R (Kd.int .i64) 3 w' w.heap.size (fun k_=>some k_≠(s_.2.1:Value).ownBlock∧some k_≠(s_.2.2.1:Value).ownBlock) s_.1 t220)∧(Kd.R (Kd.int .i64) 3 w' w.heap.size (fun k_=>some k_≠(s_.1:Value).ownBlock∧some k_≠(s_.2.2.1:Value).ownBlock) s_.2.1 t223)∧(Kd.R (Kd.int .i64) 3 w' w.heap.size (fun k_=>some k_≠(s_.1:Value).ownBlock∧some k_≠(s_.2.1:Value).ownBlock) s_.2.2.1 t226)∧(w'.heap[gb218]? = some (.cells #[.slice A0_0 l0_0.length c0_0,.slice A0_1 l0_1.length c0_1] 38 (0,0)))∧(w'.heap[gb219]? = some (.cells #[.slice none 0 0,.slice none 0 0] 38 (0,0)))∧(w'.heap[s_.2.2.2]? = some (.cells #[.slice none 0 0,.slice none 0 0] 38 (0,0)))∧(w.heap.size≤s_.2.2.2)∧(w.heap.size≤s_.2.2.2)∧(gb218≠s_.2.2.2)∧(s_.2.2.2≠gb218)∧(gb219≠s_.2.2.2)∧(s_.2.2.2≠gb219)∧(Below w.heap.size w w')) ?_ ?_
 rotate_left
 ·intro hCont
  refine two_ (i:=2) (j:=4) (Ni:=some 8) (Nj:=some 3) (bl_ 6 7) (bl_ 6 19) rfl rfl rfl rfl (by kernel_rfl) (by decide) (by decide) (fun K hK=>?_) (fun K hK=>?_)
  ·skip
   refine gO_ Tryz.func50 #[.agg #[.slice A0_0 l0_0.length c0_0,.slice A0_1 l0_1.length c0_1],.int .i64 0] (by rfl) rfl rfl qa_ ?_
   with_reducible refine (Z53.calls k _ _ l0_0 _ _ l0_1 0 t220 _ (cb_ HR0_0) HC0_0.out (cb_ HR0_1) HC0_1.out A2.out).mono ?_
   rintro e w7 ⟨v221,rfl,ho0,hb⟩
   refine ⟨_,rfl,?_⟩
   have HO222:=rl_ w ho0
   replace BK218:=bb_ BK218 hb
   replace BK219:=bb_ BK219 hb
   replace HB:=b1_ hb
   clear hb ho0
   obtain ⟨Ao8,co8,eo8⟩:=Kd.R_slice HO222.out
   (first | subst eo8 | (injection eo8 with f1_ f2_ f3_;have f4_:=f1_.symm;have f5_:=f3_.symm;clear f1_ f2_ f3_;subst f4_;subst f5_))
   refine hK.out _ _ ⟨cz0_ BK218,cz1_ BK218⟩ (fun hHeld=>?_)
   clear hK K
   refine no_ (some 8) ?_
   refine two_ (i:=3) (j:=4) (Ni:=some 9) (Nj:=some 3) (bl_ 6 15) (bl_ 6 23) rfl rfl rfl rfl (by kernel_rfl) (by decide) (by decide) (fun K hK=>?_) (fun K hK=>?_)
   ·skip
    refine gO_ Tryz.func49 #[.agg #[.slice A0_0 l0_0.length c0_0,.slice A0_1 l0_1.length c0_1],.slice Ao8 t220.length co8] (by rfl) rfl rfl qa_ ?_
    with_reducible refine (Z35.calls k _ _ l0_0 _ _ l0_1 _ _ t220 t223 t226 _ (cb_ HR0_0) HC0_0.out (cb_ HR0_1) HC0_1.out (cr_ HO222) ((Kd.R_reads' HO222.out).2.1) A3.out).mono ?_
    rintro e w9 ⟨v224,v227,rfl,ho0,ho1,hb⟩
    refine ⟨_,rfl,?_⟩
    have HO225:=A_ (rE_ (Kd.R_new' ho0 (Kd.R_lt (rr_ HO222))) (bF_ hB_))
    have HO228:=A_ (rE_ (Kd.R_new' ho1 (Kd.R_lt (rr_ HO222))) (bF_ hB_))
    replace HO222:=A_ (Kd.R_mono (Kd.R_told (Kd.R_told (Kd.R_old (rr_ HO222) hb) (Kd.R_base ho0)) (Kd.R_base ho1)) (fun _ h_=>h_.1))
    replace BK218:=bb_ BK218 hb
    replace BK219:=bb_ BK219 hb
    replace HB:=b1_ hb
    clear hb ho0 ho1
    refine hK.out _ _ ⟨cz0_ BK218,cz1_ BK218⟩ (fun hHeld=>?_)
    clear hK K
    refine no_ (some 9) ?_
    refine one_ (i:=4) (N:=some 3) (bl_ 6 31) rfl rfl (by kernel_rfl) (by decide) (fun K hK=>?_)
    refine box_step ?hg (N:=3) ?hd (cs:=#[.slice none 0 0,.slice none 0 0]) (t:=38) ?hr ?_;(case hd=>rfl);(case hg=>rfl);(case hr=>first | (go_simp;done) | (go_simp;rfl))
    intro gb229 hg w10 hbox hb
    replace HO222:=rb_ HO222 hb
    replace HO225:=rb_ HO225 hb
    replace HO228:=rb_ HO228 hb
    have BK229:=A_ hbox
    have GW229:=gw_ w hg
    have GE229:=GW229
    replace HB:=b1_ hb
    have NB218_229:=gN_ BK218 hg
    have NB229_218:=gP_ BK218 hg
    replace BK218:=bb_ BK218 hb
    have NB219_229:=gN_ BK219 hg
    have NB229_219:=gP_ BK219 hg
    replace BK219:=bb_ BK219 hb
    clear hb hbox hg
    refine hK.out _ _ ⟨cz0_ BK218,cz1_ BK218⟩ (fun hHeld=>?_)
    clear hK K
    refine no_ (some 3) ?_
    exact norm_ (by simp only [putAll,Act.put,sA_,sB_,sC_]) (hCont (.slice Ao8 t220.length co8,v224,v227,gb229) _ ⟨hHeld,(rw_ (Kd.R_mono HO222.out (fun _ hk=>⟨hk.1.2,hk.2⟩))),(rw_ (Kd.R_mono HO225.out (fun _ hk=>⟨hk.2,hk.1⟩))),(rw_ (Kd.R_mono HO228.out (fun _ hk=>⟨hk.2,hk.1⟩))),(kk_ BK218),(kk_ BK219),(kk_ BK229),GW229.out,GE229.out,NB218_229.out,NB229_218.out,NB219_229.out,NB229_219.out,hB_⟩)
   ·skip
    refine box_step ?hg (N:=3) ?hd (cs:=#[.slice none 0 0,.slice none 0 0]) (t:=38) ?hr ?_;(case hd=>rfl);(case hg=>rfl);(case hr=>first | (go_simp;done) | (go_simp;rfl))
    intro gb229 hg w8 hbox hb
    replace HO222:=rb_ HO222 hb
    have BK229:=A_ hbox
    have GW229:=gw_ w hg
    have GE229:=GW229
    replace HB:=b1_ hb
    have NB218_229:=gN_ BK218 hg
    have NB229_218:=gP_ BK218 hg
    replace BK218:=bb_ BK218 hb
    have NB219_229:=gN_ BK219 hg
    have NB229_219:=gP_ BK219 hg
    replace BK219:=bb_ BK219 hb
    clear hb hbox hg
    obtain ⟨Ao9,co9,eo9⟩:=Kd.R_slice HO222.out
    (first | subst eo9 | (injection eo9 with f1_ f2_ f3_;have f4_:=f1_.symm;have f5_:=f3_.symm;clear f1_ f2_ f3_;subst f4_;subst f5_))
    refine hK.out _ _ ⟨cz0_ BK218,cz1_ BK218⟩ (fun hHeld=>?_)
    clear hK K
    refine no_ (some 3) ?_
    refine one_ (i:=3) (N:=some 9) (bl_ 6 31) rfl rfl (by kernel_rfl) (by decide) (fun K hK=>?_)
    refine gO_ Tryz.func49 #[.agg #[.slice A0_0 l0_0.length c0_0,.slice A0_1 l0_1.length c0_1],.slice Ao9 t220.length co9] (by rfl) rfl rfl qa_ ?_
    with_reducible refine (Z35.calls k _ _ l0_0 _ _ l0_1 _ _ t220 t223 t226 _ (cb_ HR0_0) HC0_0.out (cb_ HR0_1) HC0_1.out (cr_ HO222) ((Kd.R_reads' HO222.out).2.1) A3.out).mono ?_
    rintro e w10 ⟨v224,v227,rfl,ho0,ho1,hb⟩
    refine ⟨_,rfl,?_⟩
    have HO225:=A_ (rE_ (Kd.R_new' ho0 (Kd.R_lt (rr_ HO222))) (bF_ hB_))
    have HO228:=A_ (rE_ (Kd.R_new' ho1 (Kd.R_lt (rr_ HO222))) (bF_ hB_))
    replace HO222:=A_ (Kd.R_mono (Kd.R_told (Kd.R_told (Kd.R_old (rr_ HO222) hb) (Kd.R_base ho0)) (Kd.R_base ho1)) (fun _ h_=>h_.1))
    replace BK218:=bb_ BK218 hb
    replace BK219:=bb_ BK219 hb
    replace BK229:=bb_ BK229 hb
    replace HB:=b1_ hb
    clear hb ho0 ho1
    refine hK.out _ _ ⟨cz0_ BK218,cz1_ BK218⟩ (fun hHeld=>?_)
    clear hK K
    refine no_ (some 9) ?_
    exact norm_ (by simp only [putAll,Act.put,sA_,sB_,sC_]) (hCont (.slice Ao9 t220.length co9,v224,v227,gb229) _ ⟨hHeld,(rw_ (Kd.R_mono HO222.out (fun _ hk=>⟨hk.1.2,hk.2⟩))),(rw_ (Kd.R_mono HO225.out (fun _ hk=>⟨hk.2,hk.1⟩))),(rw_ (Kd.R_mono HO228.out (fun _ hk=>⟨hk.2,hk.1⟩))),(kk_ BK218),(kk_ BK219),(kk_ BK229),GW229.out,GE229.out,NB218_229.out,NB229_218.out,NB219_229.out,NB229_219.out,hB_⟩)
  ·skip
   refine box_step ?hg (N:=3) ?hd (cs:=#[.slice none 0 0,.slice none 0 0]) (t:=38) ?hr ?_;(case hd=>rfl);(case hg=>rfl);(case hr=>first | (go_simp;done) | (go_simp;rfl))
   intro gb229 hg w7 hbox hb
   have BK229:=A_ hbox
   have GW229:=gw_ w hg
   have GE229:=GW229
   replace HB:=b1_ hb
   have NB218_229:=gN_ BK218 hg
   have NB229_218:=gP_ BK218 hg
   replace BK218:=bb_ BK218 hb
   have NB219_229:=gN_ BK219 hg
   have NB229_219:=gP_ BK219 hg
   replace BK219:=bb_ BK219 hb
   clear hb hbox hg
   refine hK.out _ _ ⟨cz0_ BK218,cz1_ BK218⟩ (fun hHeld=>?_)
   clear hK K
   refine no_ (some 3) ?_
   refine one_ (i:=2) (N:=some 8) (bl_ 6 23) rfl rfl (by kernel_rfl) (by decide) (fun K hK=>?_)
   refine gO_ Tryz.func50 #[.agg #[.slice A0_0 l0_0.length c0_0,.slice A0_1 l0_1.length c0_1],.int .i64 0] (by rfl) rfl rfl qa_ ?_
   with_reducible refine (Z53.calls k _ _ l0_0 _ _ l0_1 0 t220 _ (cb_ HR0_0) HC0_0.out (cb_ HR0_1) HC0_1.out A2.out).mono ?_
   rintro e w8 ⟨v221,rfl,ho0,hb⟩
   refine ⟨_,rfl,?_⟩
   have HO222:=rl_ w ho0
   replace BK218:=bb_ BK218 hb
   replace BK219:=bb_ BK219 hb
   replace BK229:=bb_ BK229 hb
   replace HB:=b1_ hb
   clear hb ho0
   obtain ⟨Ao9,co9,eo9⟩:=Kd.R_slice HO222.out
   (first | subst eo9 | (injection eo9 with f1_ f2_ f3_;have f4_:=f1_.symm;have f5_:=f3_.symm;clear f1_ f2_ f3_;subst f4_;subst f5_))
   refine hK.out _ _ ⟨cz0_ BK218,cz1_ BK218⟩ (fun hHeld=>?_)
   clear hK K
   refine no_ (some 8) ?_
   refine one_ (i:=3) (N:=some 9) (bl_ 6 31) rfl rfl (by kernel_rfl) (by decide) (fun K hK=>?_)
   refine gO_ Tryz.func49 #[.agg #[.slice A0_0 l0_0.length c0_0,.slice A0_1 l0_1.length c0_1],.slice Ao9 t220.length co9] (by rfl) rfl rfl qa_ ?_
   with_reducible refine (Z35.calls k _ _ l0_0 _ _ l0_1 _ _ t220 t223 t226 _ (cb_ HR0_0) HC0_0.out (cb_ HR0_1) HC0_1.out (cr_ HO222) ((Kd.R_reads' HO222.out).2.1) A3.out).mono ?_
   rintro e w10 ⟨v224,v227,rfl,ho0,ho1,hb⟩
   refine ⟨_,rfl,?_⟩
   have HO225:=A_ (rE_ (Kd.R_new' ho0 (Kd.R_lt (rr_ HO222))) (bF_ hB_))
   have HO228:=A_ (rE_ (Kd.R_new' ho1 (Kd.R_lt (rr_ HO222))) (bF_ hB_))
   replace HO222:=A_ (Kd.R_mono (Kd.R_told (Kd.R_told (Kd.R_old (rr_ HO222) hb) (Kd.R_base ho0)) (Kd.R_base ho1)) (fun _ h_=>h_.1))
   replace BK218:=bb_ BK218 hb
   replace BK219:=bb_ BK219 hb
   replace BK229:=bb_ BK229 hb
   replace HB:=b1_ hb
   clear hb ho0 ho1
   refine hK.out _ _ ⟨cz0_ BK218,cz1_ BK218⟩ (fun hHeld=>?_)
   clear hK K
   refine no_ (some 9) ?_
   exact norm_ (by simp only [putAll,Act.put,sA_,sB_,sC_]) (hCont (.slice Ao9 t220.length co9,v224,v227,gb229) _ ⟨hHeld,(rw_ (Kd.R_mono HO222.out (fun _ hk=>⟨hk.1.2,hk.2⟩))),(rw_ (Kd.R_mono HO225.out (fun _ hk=>⟨hk.2,hk.1⟩))),(rw_ (Kd.R_mono HO228.out (fun _ hk=>⟨hk.2,hk.1⟩))),(kk_ BK218),(kk_ BK219),(kk_ BK229),GW229.out,GE229.out,NB218_229.out,NB229_218.out,NB219_229.out,NB229_219.out,hB_⟩)
 rintro ⟨v221,v224,v227,gb229⟩ w11 ⟨hS_,h0_,h1_,h2_,h3_,h4_,h5_,h6_,h7_,h8_,h9_,h10_,h11_,h12_⟩
 have n0_:Aside0 (Kd.R (Kd.int .i64) 3 w11 w.heap.size (fun k_=>some k_≠(v224:Value).ownBlock∧some k_≠(v227:Value).ownBlock) v221 t220):=⟨h0_⟩
 have n1_:Aside0 (Kd.R (Kd.int .i64) 3 w11 w.heap.size (fun k_=>some k_≠(v221:Value).ownBlock∧some k_≠(v227:Value).ownBlock) v224 t223):=⟨h1_⟩
 have n2_:Aside0 (Kd.R (Kd.int .i64) 3 w11 w.heap.size (fun k_=>some k_≠(v221:Value).ownBlock∧some k_≠(v224:Value).ownBlock) v227 t226):=⟨h2_⟩
 have n3_:Aside0 (w11.heap[gb218]? = some (.cells #[.slice A0_0 l0_0.length c0_0,.slice A0_1 l0_1.length c0_1] 38 (0,0))):=⟨h3_⟩
 have n4_:Aside0 (w11.heap[gb219]? = some (.cells #[.slice none 0 0,.slice none 0 0] 38 (0,0))):=⟨h4_⟩
 have n5_:Aside0 (w11.heap[gb229]? = some (.cells #[.slice none 0 0,.slice none 0 0] 38 (0,0))):=⟨h5_⟩
 have n6_:Aside0 (w.heap.size≤gb229):=⟨h6_⟩
 have n7_:Aside0 (w.heap.size≤gb229):=⟨h7_⟩
 have n8_:Aside0 (gb218≠gb229):=⟨h8_⟩
 have n9_:Aside0 (gb229≠gb218):=⟨h9_⟩
 have n10_:Aside0 (gb219≠gb229):=⟨h10_⟩
 have n11_:Aside0 (gb229≠gb219):=⟨h11_⟩
 have n12_:Aside0 (Below w.heap.size w w11):=⟨h12_⟩
 clear BK218
 clear BK219
 clear HB
 clear h0_ h1_ h2_ h3_ h4_ h5_ h6_ h7_ h8_ h9_ h10_ h11_ h12_
 have HO222:=n0_
 have HO225:=n1_
 have HO228:=n2_
 have BK218:=n3_
 have BK219:=n4_
 have BK229:=n5_
 have GW229:=n6_
 have GE229:=n7_
 have NB218_229:=n8_
 have NB229_218:=n9_
 have NB219_229:=n10_
 have NB229_219:=n11_
 have HB:=n12_
 clear n0_ n1_ n2_ n3_ n4_ n5_ n6_ n7_ n8_ n9_ n10_ n11_ n12_
 have hHeld:w11.cell? ⟨gb218,0,none⟩ = some (.slice A0_0 l0_0.length c0_0)∧w11.cell? ⟨gb218,1,none⟩ = some (.slice A0_1 l0_1.length c0_1):=hS_
 obtain ⟨Ao12,co12,eo12⟩:=Kd.R_slice HO225.out
 (first | subst eo12 | (injection eo12 with f1_ f2_ f3_;have f4_:=f1_.symm;have f5_:=f3_.symm;clear f1_ f2_ f3_;subst f4_;subst f5_))
 obtain ⟨Ao14,co14,eo14⟩:=Kd.R_slice HO228.out
 (first | subst eo14 | (injection eo14 with f1_ f2_ f3_;have f4_:=f1_.symm;have f5_:=f3_.symm;clear f1_ f2_ f3_;subst f4_;subst f5_))
 refine norm_ (a':=?_) ?_ ?_
 rotate_left
 ·simp only [putAll,Act.put,sA_,sB_,sC_]
  rfl
 refine one_ (i:=5) (N:=none) (bl_ 6 63) rfl rfl (by kernel_rfl) (by decide) (fun K hK=>?_)
 have hs13:w11.cell? ⟨gb229,0,none⟩ = some (.slice none 0 0):=cz0_ BK229
 have hfs13:=kD_ BK229.out 0
 have hns13_0:=NB218_229.out
 have hns13_1:=NB219_229.out
 have hms13_0:=NB229_218.out
 have hms13_1:=NB229_219.out
 have hs15:w11.cell? ⟨gb229,1,none⟩ = some (.slice none 0 0):=cz1_ BK229
 have hfs15:=kD_ BK229.out 1
 have hns15_0:=NB218_229.out
 have hns15_1:=NB219_229.out
 have hms15_0:=NB229_218.out
 have hms15_1:=NB229_219.out
 refine skip_ (w1:=?_) (by rfl) rfl ?_ ?_
 rotate_left
 ·go_simp
  rfl
 refine hK.out _ _ ⟨((cell_far (p:=⟨gb229,_,none⟩) NB218_229.out _).trans (((cell_far (p:=⟨gb229,_,none⟩) NB218_229.out _).trans (hHeld.1)))),((cell_far (p:=⟨gb229,_,none⟩) NB218_229.out _).trans (((cell_far (p:=⟨gb229,_,none⟩) NB218_229.out _).trans (hHeld.2))))⟩ (fun hHeld=>?_)
 clear hK K
 refine done_ (by kernel_rfl) ?_
 try go_wp2
 go_loopg [4] k (fun kq v4 w'=>∃ (x4_1:Int) (x230000_1:List Int) (x230001_1:List Int) (u230000:Value) (u230001:Value),v4 = .int .i64 x4_1∧Aside0 (Z52.l0 kq x4_1 l0_0 l0_1 x230000_1 x230001_1 = some (r1,r2))∧Aside0 (kq≤k)∧Aside0 (Kd.R (Kd.int .i64) 3 w' w.heap.size (fun k_=>some k_≠(u230001:Value).ownBlock) u230000 x230000_1)∧Aside0 (Kd.R (Kd.int .i64) 3 w' w.heap.size (fun k_=>some k_≠(u230000:Value).ownBlock) u230001 x230001_1)∧Aside0 (w'.heap[gb218]? = some (.cells #[(.slice A0_0 l0_0.length c0_0),(.slice A0_1 l0_1.length c0_1)] 38 (0,0)))∧Aside0 (w'.heap[gb219]? = some (.cells #[(.slice none 0 0),(.slice none 0 0)] 38 (0,0)))∧Aside0 (w'.heap[gb229]? = some (.cells #[u230000,u230001] 38 (0,0)))∧Aside0 (Below w.heap.size w w'))
 case atStart=>exact ⟨(1),(t223),(t226),(.slice Ao12 t223.length co12),(.slice Ao14 t226.length co14),qc_,H',⟨nA_ _⟩,⟨(rw_ (Kd.R_mono (fa_ HO225 BK229) (fun _ hk=>hk.2)))⟩,⟨(rw_ (Kd.R_mono (fa_ HO228 BK229) (fun _ hk=>hk.2)))⟩,⟨by (with_reducible repeat (first | refine kA_ ?_ _ | refine kB_ ?_ | refine kC_ ?_ _));refine blk_far ?_ NB218_229.out _;(with_reducible repeat (first | refine kA_ ?_ _ | refine kB_ ?_ | refine kC_ ?_ _));refine blk_far ?_ NB218_229.out _;(with_reducible repeat (first | refine kA_ ?_ _ | refine kB_ ?_ | refine kC_ ?_ _));exact BK218.out⟩,⟨by (with_reducible repeat (first | refine kA_ ?_ _ | refine kB_ ?_ | refine kC_ ?_ _));refine blk_far ?_ NB219_229.out _;(with_reducible repeat (first | refine kA_ ?_ _ | refine kB_ ?_ | refine kC_ ?_ _));refine blk_far ?_ NB219_229.out _;(with_reducible repeat (first | refine kA_ ?_ _ | refine kB_ ?_ | refine kC_ ?_ _));exact BK219.out⟩,⟨qp_⟩,⟨hB_⟩⟩
 case round =>
  clear H'
  obtain ⟨x4_1,x230000_1,x230001_1,u230000,u230001,rfl,HA,HK1,HO_230000,HO_230001,BK218,BK219,BK229,HB⟩:=hrel
  cases gk with
  | zero=>exact absurd HA.out (by simp [Z52.l0])
  | succ k1 =>
   have H:=HA.out
   clear HA
   simp only [Z52.l0] at H
   by_cases c16:x4_1 < (l0_0.length:Int)
   ·rw [if_pos c16] at H
    have c16b0:=oC_ c16
    clear c16
    obtain ⟨t230,A17,H⟩:=bi_ H
    obtain ⟨⟨t233,t236⟩,A18,H⟩:=bi_ H
    try dsimp only at H
    obtain ⟨t240,A19,H⟩:=bi_ H
    by_cases c20:t240 = true
    ·subst c20
     rw [if_pos rfl] at H
     have H':=A_ H
     clear H
     have hnb21:=NB218_219.out
     have hnc21:=NB219_218.out
     have hnb22:=NB218_229.out
     have hnc22:=NB229_218.out
     obtain ⟨hcz23_0,hcz23_1,hfz23_0,hfz23_1⟩:=c2_ BK218
     try go_wp2
     replace HO_230000:=A_ (rC_ HO_230000.out)
     replace HO_230001:=A_ (rC_ HO_230001.out)
     replace BK218:=A_ (kB_ BK218.out)
     replace BK219:=A_ (kB_ BK219.out)
     replace BK229:=A_ (kB_ BK229.out)
     replace HB:=A_ (bC_ HB.out)
     refine start_ (n:=7) (S:=fun w'=>w'.cell? ⟨gb218,0,none⟩ = some (.slice A0_0 l0_0.length c0_0)∧w'.cell? ⟨gb218,1,none⟩ = some (.slice A0_1 l0_1.length c0_1)) (ds:=[]) (bl_ 7 0) (by kernel_rfl) rfl (by kernel_rfl) ⟨cz0_ BK218,cz1_ BK218⟩ (fun hHeld=>?_)
     generalize wr.drew = w24 at HO_230000 HO_230001 BK218 BK219 BK229 HB hHeld ⊢
     refine pure_ (i:=2) (N:=some 19) (v:=?_) (a':=?_) (bl_ 7 4) rfl rfl (by kernel_rfl) (fun _ _ _ h=>h) (Or.inl ⟨by rfl,?_⟩) ?_ ?_
     rotate_left
     ·intro w'
      go_simp
      with_reducible rfl
     rotate_left
     ·simp only [Act.put,sA_,sB_,sC_,i64_w,i32_w]
      rfl
     refine take_ (i:=0) (N:=some 17) (v:=?_) (a':=?_) (bl_ 7 5) rfl rfl (by kernel_rfl) (fun _ _ _ h=>h) (Or.inl ⟨by rfl,?_⟩) hHeld ?_ ?_
     rotate_left
     ·rintro w' ⟨s0,s1⟩
      go_simp
      with_reducible rfl
     rotate_left
     ·simp only [Act.put,sA_,sB_,sC_,i64_w,i32_w]
      rfl
     refine take_ (i:=1) (N:=some 18) (v:=?_) (a':=?_) (bl_ 7 7) rfl rfl (by kernel_rfl) (fun _ _ _ h=>h) (Or.inl ⟨by rfl,?_⟩) hHeld ?_ ?_
     rotate_left
     ·rintro w' ⟨s0,s1⟩
      go_simp
      with_reducible rfl
     rotate_left
     ·simp only [Act.put,sA_,sB_,sC_,i64_w,i32_w]
      rfl
     refine join_ (σ:=Value × Value × Value × Nat) 1 (bl_ 7 63) (fun s_=>[(20,s_.1),(21,.agg #[s_.2.1,s_.2.2.1]),(5,.pointer (some ⟨s_.2.2.2,0,none⟩))]) (fun s_ w'=>(w'.cell? ⟨gb218,0,none⟩ = some (.slice A0_0 l0_0.length c0_0)∧w'.cell? ⟨gb218,1,none⟩ = some (.slice A0_1 l0_1.length c0_1))∧(Kd.R (Kd.int .i64) 3 w' w.heap.size (fun k_=>some k_≠(s_.2.1:Value).ownBlock∧some k_≠(s_.2.2.1:Value).ownBlock∧some k_≠(u230000:Value).ownBlock∧some k_≠(u230001:Value).ownBlock) s_.1 t230)∧(Kd.R (Kd.int .i64) 3 w' w.heap.size (fun k_=>some k_≠(s_.1:Value).ownBlock∧some k_≠(s_.2.2.1:Value).ownBlock∧some k_≠(u230000:Value).ownBlock∧some k_≠(u230001:Value).ownBlock) s_.2.1 t233)∧(Kd.R (Kd.int .i64) 3 w' w.heap.size (fun k_=>some k_≠(s_.1:Value).ownBlock∧some k_≠(s_.2.1:Value).ownBlock∧some k_≠(u230000:Value).ownBlock∧some k_≠(u230001:Value).ownBlock) s_.2.2.1 t236)∧(Kd.R (Kd.int .i64) 3 w' w.heap.size (fun k_=>some k_≠(s_.1:Value).ownBlock∧some k_≠(s_.2.1:Value).ownBlock∧some k_≠(s_.2.2.1:Value).ownBlock∧some k_≠(u230001:Value).ownBlock) u230000 x230000_1)∧(Kd.R (Kd.int .i64) 3 w' w.heap.size (fun k_=>some k_≠(s_.1:Value).ownBlock∧some k_≠(s_.2.1:Value).ownBlock∧some k_≠(s_.2.2.1:Value).ownBlock∧some k_≠(u230000:Value).ownBlock) u230001 x230001_1)∧(w'.heap[gb218]? = some (.cells #[.slice A0_0 l0_0.length c0_0,.slice A0_1 l0_1.length c0_1] 38 (0,0)))∧(w'.heap[gb219]? = some (.cells #[.slice none 0 0,.slice none 0 0] 38 (0,0)))∧(w'.heap[gb229]? = some (.cells #[u230000,u230001] 38 (0,0)))∧(w'.heap[s_.2.2.2]? = some (.cells #[.slice none 0 0,.slice none 0 0] 38 (0,0)))∧(w.heap.size≤s_.2.2.2)∧(w.heap.size≤s_.2.2.2)∧(gb218≠s_.2.2.2)∧(s_.2.2.2≠gb218)∧(gb219≠s_.2.2.2)∧(s_.2.2.2≠gb219)∧(gb229≠s_.2.2.2)∧(s_.2.2.2≠gb229)∧(Below w.heap.size w w')) ?_ ?_
     rotate_left
     ·intro hCont
      refine two_ (i:=3) (j:=5) (Ni:=some 20) (Nj:=some 5) (bl_ 7 15) (bl_ 7 39) rfl rfl rfl rfl (by kernel_rfl) (by decide) (by decide) (fun K hK=>?_) (fun K hK=>?_)
      ·skip
       refine gO_ Tryz.func50 #[.agg #[.slice A0_0 l0_0.length c0_0,.slice A0_1 l0_1.length c0_1],.int .i64 x4_1] (by rfl) rfl rfl qa_ ?_
       with_reducible refine (Z53.calls k1 _ _ l0_0 _ _ l0_1 x4_1 t230 _ (cb_ HR0_0) HC0_0.out (cb_ HR0_1) HC0_1.out A17.out).mono ?_
       rintro e w25 ⟨v231,rfl,ho0,hb⟩
       refine ⟨_,rfl,?_⟩
       have HO232:=A_ (rE_ (Kd.R_new' (Kd.R_new' ho0 (Kd.R_lt (rr_ HO_230000))) (Kd.R_lt (rr_ HO_230001))) (bF_ hB_))
       replace HO_230000:=A_ (Kd.R_elder' (rr_ HO_230000) (Kd.R_base ho0) hb)
       replace HO_230001:=A_ (Kd.R_elder' (rr_ HO_230001) (Kd.R_base ho0) hb)
       replace BK218:=bb_ BK218 hb
       replace BK219:=bb_ BK219 hb
       replace BK229:=bb_ BK229 hb
       replace HB:=b1_ hb
       clear hb ho0
       obtain ⟨Ao26,co26,eo26⟩:=Kd.R_slice HO232.out
       (first | subst eo26 | (injection eo26 with f1_ f2_ f3_;have f4_:=f1_.symm;have f5_:=f3_.symm;clear f1_ f2_ f3_;subst f4_;subst f5_))
       refine hK.out _ _ ⟨cz0_ BK218,cz1_ BK218⟩ (fun hHeld=>?_)
       clear hK K
       refine no_ (some 20) ?_
       refine two_ (i:=4) (j:=5) (Ni:=some 21) (Nj:=some 5) (bl_ 7 31) (bl_ 7 47) rfl rfl rfl rfl (by kernel_rfl) (by decide) (by decide) (fun K hK=>?_) (fun K hK=>?_)
       ·skip
        refine gO_ Tryz.func49 #[.agg #[.slice A0_0 l0_0.length c0_0,.slice A0_1 l0_1.length c0_1],.slice Ao26 t230.length co26] (by rfl) rfl rfl qa_ ?_
        with_reducible refine (Z35.calls k1 _ _ l0_0 _ _ l0_1 _ _ t230 t233 t236 _ (cb_ HR0_0) HC0_0.out (cb_ HR0_1) HC0_1.out (cr_ HO232) ((Kd.R_reads' HO232.out).2.1) A18.out).mono ?_
        rintro e w27 ⟨v234,v237,rfl,ho0,ho1,hb⟩
        refine ⟨_,rfl,?_⟩
        have HO235:=A_ (rE_ (Kd.R_new' (Kd.R_new' (Kd.R_new' ho0 (Kd.R_lt (rr_ HO_230000))) (Kd.R_lt (rr_ HO_230001))) (Kd.R_lt (rr_ HO232))) (bF_ hB_))
        have HO238:=A_ (rE_ (Kd.R_new' (Kd.R_new' (Kd.R_new' ho1 (Kd.R_lt (rr_ HO_230000))) (Kd.R_lt (rr_ HO_230001))) (Kd.R_lt (rr_ HO232))) (bF_ hB_))
        replace HO_230000:=A_ (Kd.R_mono (Kd.R_told (Kd.R_told (Kd.R_old (rr_ HO_230000) hb) (Kd.R_base ho0)) (Kd.R_base ho1)) (fun _ h_=>h_.1))
        replace HO_230001:=A_ (Kd.R_mono (Kd.R_told (Kd.R_told (Kd.R_old (rr_ HO_230001) hb) (Kd.R_base ho0)) (Kd.R_base ho1)) (fun _ h_=>h_.1))
        replace HO232:=A_ (Kd.R_mono (Kd.R_told (Kd.R_told (Kd.R_old (rr_ HO232) hb) (Kd.R_base ho0)) (Kd.R_base ho1)) (fun _ h_=>h_.1))
        replace BK218:=bb_ BK218 hb
        replace BK219:=bb_ BK219 hb
        replace BK229:=bb_ BK229 hb
        replace HB:=b1_ hb
        clear hb ho0 ho1
        refine hK.out _ _ ⟨cz0_ BK218,cz1_ BK218⟩ (fun hHeld=>?_)
        clear hK K
        refine no_ (some 21) ?_
        refine one_ (i:=5) (N:=some 5) (bl_ 7 63) rfl rfl (by kernel_rfl) (by decide) (fun K hK=>?_)
        refine box_step ?hg (N:=5) ?hd (cs:=#[.slice none 0 0,.slice none 0 0]) (t:=38) ?hr ?_;(case hd=>rfl);(case hg=>rfl);(case hr=>first | (go_simp;done) | (go_simp;rfl))
        intro gb239 hg w28 hbox hb
        replace HO_230000:=rb_ HO_230000 hb
        replace HO_230001:=rb_ HO_230001 hb
        replace HO232:=rb_ HO232 hb
        replace HO235:=rb_ HO235 hb
        replace HO238:=rb_ HO238 hb
        have BK239:=A_ hbox
        have GW239:=gw_ w hg
        have GE239:=GW239
        replace HB:=b1_ hb
        have NB218_239:=gN_ BK218 hg
        have NB239_218:=gP_ BK218 hg
        replace BK218:=bb_ BK218 hb
        have NB219_239:=gN_ BK219 hg
        have NB239_219:=gP_ BK219 hg
        replace BK219:=bb_ BK219 hb
        have NB229_239:=gN_ BK229 hg
        have NB239_229:=gP_ BK229 hg
        replace BK229:=bb_ BK229 hb
        clear hb hbox hg
        refine hK.out _ _ ⟨cz0_ BK218,cz1_ BK218⟩ (fun hHeld=>?_)
        clear hK K
        refine no_ (some 5) ?_
        exact norm_ (by simp only [putAll,Act.put,sA_,sB_,sC_]) (hCont (.slice Ao26 t230.length co26,v234,v237,gb239) _ ⟨hHeld,(rw_ (Kd.R_mono HO232.out (fun _ hk=>⟨hk.1.2,⟨hk.2,⟨hk.1.1.1.2,hk.1.1.2⟩⟩⟩))),(rw_ (Kd.R_mono HO235.out (fun _ hk=>⟨hk.2,⟨hk.1.1.1,⟨hk.1.1.2,hk.1.2⟩⟩⟩))),(rw_ (Kd.R_mono HO238.out (fun _ hk=>⟨hk.2,⟨hk.1.1.1,⟨hk.1.1.2,hk.1.2⟩⟩⟩))),(rw_ (Kd.R_mono HO_230000.out (fun _ hk=>⟨hk.1.1.2,⟨hk.1.2,⟨hk.2,hk.1.1.1⟩⟩⟩))),(rw_ (Kd.R_mono HO_230001.out (fun _ hk=>⟨hk.1.1.2,⟨hk.1.2,⟨hk.2,hk.1.1.1⟩⟩⟩))),(kk_ BK218),(kk_ BK219),(kk_ BK229),(kk_ BK239),GW239.out,GE239.out,NB218_239.out,NB239_218.out,NB219_239.out,NB239_219.out,NB229_239.out,NB239_229.out,hB_⟩)
       ·skip
        refine box_step ?hg (N:=5) ?hd (cs:=#[.slice none 0 0,.slice none 0 0]) (t:=38) ?hr ?_;(case hd=>rfl);(case hg=>rfl);(case hr=>first | (go_simp;done) | (go_simp;rfl))
        intro gb239 hg w26 hbox hb
        replace HO_230000:=rb_ HO_230000 hb
        replace HO_230001:=rb_ HO_230001 hb
        replace HO232:=rb_ HO232 hb
        have BK239:=A_ hbox
        have GW239:=gw_ w hg
        have GE239:=GW239
        replace HB:=b1_ hb
        have NB218_239:=gN_ BK218 hg
        have NB239_218:=gP_ BK218 hg
        replace BK218:=bb_ BK218 hb
        have NB219_239:=gN_ BK219 hg
        have NB239_219:=gP_ BK219 hg
        replace BK219:=bb_ BK219 hb
        have NB229_239:=gN_ BK229 hg
        have NB239_229:=gP_ BK229 hg
        replace BK229:=bb_ BK229 hb
        clear hb hbox hg
        obtain ⟨Ao27,co27,eo27⟩:=Kd.R_slice HO232.out
        (first | subst eo27 | (injection eo27 with f1_ f2_ f3_;have f4_:=f1_.symm;have f5_:=f3_.symm;clear f1_ f2_ f3_;subst f4_;subst f5_))
        refine hK.out _ _ ⟨cz0_ BK218,cz1_ BK218⟩ (fun hHeld=>?_)
        clear hK K
        refine no_ (some 5) ?_
        refine one_ (i:=4) (N:=some 21) (bl_ 7 63) rfl rfl (by kernel_rfl) (by decide) (fun K hK=>?_)
        refine gO_ Tryz.func49 #[.agg #[.slice A0_0 l0_0.length c0_0,.slice A0_1 l0_1.length c0_1],.slice Ao27 t230.length co27] (by rfl) rfl rfl qa_ ?_
        with_reducible refine (Z35.calls k1 _ _ l0_0 _ _ l0_1 _ _ t230 t233 t236 _ (cb_ HR0_0) HC0_0.out (cb_ HR0_1) HC0_1.out (cr_ HO232) ((Kd.R_reads' HO232.out).2.1) A18.out).mono ?_
        rintro e w28 ⟨v234,v237,rfl,ho0,ho1,hb⟩
        refine ⟨_,rfl,?_⟩
        have HO235:=A_ (rE_ (Kd.R_new' (Kd.R_new' (Kd.R_new' ho0 (Kd.R_lt (rr_ HO_230000))) (Kd.R_lt (rr_ HO_230001))) (Kd.R_lt (rr_ HO232))) (bF_ hB_))
        have HO238:=A_ (rE_ (Kd.R_new' (Kd.R_new' (Kd.R_new' ho1 (Kd.R_lt (rr_ HO_230000))) (Kd.R_lt (rr_ HO_230001))) (Kd.R_lt (rr_ HO232))) (bF_ hB_))
        replace HO_230000:=A_ (Kd.R_mono (Kd.R_told (Kd.R_told (Kd.R_old (rr_ HO_230000) hb) (Kd.R_base ho0)) (Kd.R_base ho1)) (fun _ h_=>h_.1))
        replace HO_230001:=A_ (Kd.R_mono (Kd.R_told (Kd.R_told (Kd.R_old (rr_ HO_230001) hb) (Kd.R_base ho0)) (Kd.R_base ho1)) (fun _ h_=>h_.1))
        replace HO232:=A_ (Kd.R_mono (Kd.R_told (Kd.R_told (Kd.R_old (rr_ HO232) hb) (Kd.R_base ho0)) (Kd.R_base ho1)) (fun _ h_=>h_.1))
        replace BK218:=bb_ BK218 hb
        replace BK219:=bb_ BK219 hb
        replace BK229:=bb_ BK229 hb
        replace BK239:=bb_ BK239 hb
        replace HB:=b1_ hb
        clear hb ho0 ho1
        refine hK.out _ _ ⟨cz0_ BK218,cz1_ BK218⟩ (fun hHeld=>?_)
        clear hK K
        refine no_ (some 21) ?_
        exact norm_ (by simp only [putAll,Act.put,sA_,sB_,sC_]) (hCont (.slice Ao27 t230.length co27,v234,v237,gb239) _ ⟨hHeld,(rw_ (Kd.R_mono HO232.out (fun _ hk=>⟨hk.1.2,⟨hk.2,⟨hk.1.1.1.2,hk.1.1.2⟩⟩⟩))),(rw_ (Kd.R_mono HO235.out (fun _ hk=>⟨hk.2,⟨hk.1.1.1,⟨hk.1.1.2,hk.1.2⟩⟩⟩))),(rw_ (Kd.R_mono HO238.out (fun _ hk=>⟨hk.2,⟨hk.1.1.1,⟨hk.1.1.2,hk.1.2⟩⟩⟩))),(rw_ (Kd.R_mono HO_230000.out (fun _ hk=>⟨hk.1.1.2,⟨hk.1.2,⟨hk.2,hk.1.1.1⟩⟩⟩))),(rw_ (Kd.R_mono HO_230001.out (fun _ hk=>⟨hk.1.1.2,⟨hk.1.2,⟨hk.2,hk.1.1.1⟩⟩⟩))),(kk_ BK218),(kk_ BK219),(kk_ BK229),(kk_ BK239),GW239.out,GE239.out,NB218_239.out,NB239_218.out,NB219_239.out,NB239_219.out,NB229_239.out,NB239_229.out,hB_⟩)
      ·skip
       refine box_step ?hg (N:=5) ?hd (cs:=#[.slice none 0 0,.slice none 0 0]) (t:=38) ?hr ?_;(case hd=>rfl);(case hg=>rfl);(case hr=>first | (go_simp;done) | (go_simp;rfl))
       intro gb239 hg w25 hbox hb
       replace HO_230000:=rb_ HO_230000 hb
       replace HO_230001:=rb_ HO_230001 hb
       have BK239:=A_ hbox
       have GW239:=gw_ w hg
       have GE239:=GW239
       replace HB:=b1_ hb
       have NB218_239:=gN_ BK218 hg
       have NB239_218:=gP_ BK218 hg
       replace BK218:=bb_ BK218 hb
       have NB219_239:=gN_ BK219 hg
       have NB239_219:=gP_ BK219 hg
       replace BK219:=bb_ BK219 hb
       have NB229_239:=gN_ BK229 hg
       have NB239_229:=gP_ BK229 hg
       replace BK229:=bb_ BK229 hb
       clear hb hbox hg
       refine hK.out _ _ ⟨cz0_ BK218,cz1_ BK218⟩ (fun hHeld=>?_)
       clear hK K
       refine no_ (some 5) ?_
       refine one_ (i:=3) (N:=some 20) (bl_ 7 47) rfl rfl (by kernel_rfl) (by decide) (fun K hK=>?_)
       refine gO_ Tryz.func50 #[.agg #[.slice A0_0 l0_0.length c0_0,.slice A0_1 l0_1.length c0_1],.int .i64 x4_1] (by rfl) rfl rfl qa_ ?_
       with_reducible refine (Z53.calls k1 _ _ l0_0 _ _ l0_1 x4_1 t230 _ (cb_ HR0_0) HC0_0.out (cb_ HR0_1) HC0_1.out A17.out).mono ?_
       rintro e w26 ⟨v231,rfl,ho0,hb⟩
       refine ⟨_,rfl,?_⟩
       have HO232:=A_ (rE_ (Kd.R_new' (Kd.R_new' ho0 (Kd.R_lt (rr_ HO_230000))) (Kd.R_lt (rr_ HO_230001))) (bF_ hB_))
       replace HO_230000:=A_ (Kd.R_elder' (rr_ HO_230000) (Kd.R_base ho0) hb)
       replace HO_230001:=A_ (Kd.R_elder' (rr_ HO_230001) (Kd.R_base ho0) hb)
       replace BK218:=bb_ BK218 hb
       replace BK219:=bb_ BK219 hb
       replace BK229:=bb_ BK229 hb
       replace BK239:=bb_ BK239 hb
       replace HB:=b1_ hb
       clear hb ho0
       obtain ⟨Ao27,co27,eo27⟩:=Kd.R_slice HO232.out
       (first | subst eo27 | (injection eo27 with f1_ f2_ f3_;have f4_:=f1_.symm;have f5_:=f3_.symm;clear f1_ f2_ f3_;subst f4_;subst f5_))
       refine hK.out _ _ ⟨cz0_ BK218,cz1_ BK218⟩ (fun hHeld=>?_)
       clear hK K
       refine no_ (some 20) ?_
       refine one_ (i:=4) (N:=some 21) (bl_ 7 63) rfl rfl (by kernel_rfl) (by decide) (fun K hK=>?_)
       refine gO_ Tryz.func49 #[.agg #[.slice A0_0 l0_0.length c0_0,.slice A0_1 l0_1.length c0_1],.slice Ao27 t230.length co27] (by rfl) rfl rfl qa_ ?_
       with_reducible refine (Z35.calls k1 _ _ l0_0 _ _ l0_1 _ _ t230 t233 t236 _ (cb_ HR0_0) HC0_0.out (cb_ HR0_1) HC0_1.out (cr_ HO232) ((Kd.R_reads' HO232.out).2.1) A18.out).mono ?_
       rintro e w28 ⟨v234,v237,rfl,ho0,ho1,hb⟩
       refine ⟨_,rfl,?_⟩
       have HO235:=A_ (rE_ (Kd.R_new' (Kd.R_new' (Kd.R_new' ho0 (Kd.R_lt (rr_ HO_230000))) (Kd.R_lt (rr_ HO_230001))) (Kd.R_lt (rr_ HO232))) (bF_ hB_))
       have HO238:=A_ (rE_ (Kd.R_new' (Kd.R_new' (Kd.R_new' ho1 (Kd.R_lt (rr_ HO_230000))) (Kd.R_lt (rr_ HO_230001))) (Kd.R_lt (rr_ HO232))) (bF_ hB_))
       replace HO_230000:=A_ (Kd.R_mono (Kd.R_told (Kd.R_told (Kd.R_old (rr_ HO_230000) hb) (Kd.R_base ho0)) (Kd.R_base ho1)) (fun _ h_=>h_.1))
       replace HO_230001:=A_ (Kd.R_mono (Kd.R_told (Kd.R_told (Kd.R_old (rr_ HO_230001) hb) (Kd.R_base ho0)) (Kd.R_base ho1)) (fun _ h_=>h_.1))
       replace HO232:=A_ (Kd.R_mono (Kd.R_told (Kd.R_told (Kd.R_old (rr_ HO232) hb) (Kd.R_base ho0)) (Kd.R_base ho1)) (fun _ h_=>h_.1))
       replace BK218:=bb_ BK218 hb
       replace BK219:=bb_ BK219 hb
       replace BK229:=bb_ BK229 hb
       replace BK239:=bb_ BK239 hb
       replace HB:=b1_ hb
       clear hb ho0 ho1
       refine hK.out _ _ ⟨cz0_ BK218,cz1_ BK218⟩ (fun hHeld=>?_)
       clear hK K
       refine no_ (some 21) ?_
       exact norm_ (by simp only [putAll,Act.put,sA_,sB_,sC_]) (hCont (.slice Ao27 t230.length co27,v234,v237,gb239) _ ⟨hHeld,(rw_ (Kd.R_mono HO232.out (fun _ hk=>⟨hk.1.2,⟨hk.2,⟨hk.1.1.1.2,hk.1.1.2⟩⟩⟩))),(rw_ (Kd.R_mono HO235.out (fun _ hk=>⟨hk.2,⟨hk.1.1.1,⟨hk.1.1.2,hk.1.2⟩⟩⟩))),(rw_ (Kd.R_mono HO238.out (fun _ hk=>⟨hk.2,⟨hk.1.1.1,⟨hk.1.1.2,hk.1.2⟩⟩⟩))),(rw_ (Kd.R_mono HO_230000.out (fun _ hk=>⟨hk.1.1.2,⟨hk.1.2,⟨hk.2,hk.1.1.1⟩⟩⟩))),(rw_ (Kd.R_mono HO_230001.out (fun _ hk=>⟨hk.1.1.2,⟨hk.1.2,⟨hk.2,hk.1.1.1⟩⟩⟩))),(kk_ BK218),(kk_ BK219),(kk_ BK229),(kk_ BK239),GW239.out,GE239.out,NB218_239.out,NB239_218.out,NB219_239.out,NB239_219.out,NB229_239.out,NB239_229.out,hB_⟩)
     rintro ⟨v231,v234,v237,gb239⟩ w29 ⟨hS_,h0_,h1_,h2_,h3_,h4_,h5_,h6_,h7_,h8_,h9_,h10_,h11_,h12_,h13_,h14_,h15_,h16_,h17_⟩
     have n0_:Aside0 (Kd.R (Kd.int .i64) 3 w29 w.heap.size (fun k_=>some k_≠(v234:Value).ownBlock∧some k_≠(v237:Value).ownBlock∧some k_≠(u230000:Value).ownBlock∧some k_≠(u230001:Value).ownBlock) v231 t230):=⟨h0_⟩
     have n1_:Aside0 (Kd.R (Kd.int .i64) 3 w29 w.heap.size (fun k_=>some k_≠(v231:Value).ownBlock∧some k_≠(v237:Value).ownBlock∧some k_≠(u230000:Value).ownBlock∧some k_≠(u230001:Value).ownBlock) v234 t233):=⟨h1_⟩
     have n2_:Aside0 (Kd.R (Kd.int .i64) 3 w29 w.heap.size (fun k_=>some k_≠(v231:Value).ownBlock∧some k_≠(v234:Value).ownBlock∧some k_≠(u230000:Value).ownBlock∧some k_≠(u230001:Value).ownBlock) v237 t236):=⟨h2_⟩
     have n3_:Aside0 (Kd.R (Kd.int .i64) 3 w29 w.heap.size (fun k_=>some k_≠(v231:Value).ownBlock∧some k_≠(v234:Value).ownBlock∧some k_≠(v237:Value).ownBlock∧some k_≠(u230001:Value).ownBlock) u230000 x230000_1):=⟨h3_⟩
     have n4_:Aside0 (Kd.R (Kd.int .i64) 3 w29 w.heap.size (fun k_=>some k_≠(v231:Value).ownBlock∧some k_≠(v234:Value).ownBlock∧some k_≠(v237:Value).ownBlock∧some k_≠(u230000:Value).ownBlock) u230001 x230001_1):=⟨h4_⟩
     have n5_:Aside0 (w29.heap[gb218]? = some (.cells #[.slice A0_0 l0_0.length c0_0,.slice A0_1 l0_1.length c0_1] 38 (0,0))):=⟨h5_⟩
     have n6_:Aside0 (w29.heap[gb219]? = some (.cells #[.slice none 0 0,.slice none 0 0] 38 (0,0))):=⟨h6_⟩
     have n7_:Aside0 (w29.heap[gb229]? = some (.cells #[u230000,u230001] 38 (0,0))):=⟨h7_⟩
     have n8_:Aside0 (w29.heap[gb239]? = some (.cells #[.slice none 0 0,.slice none 0 0] 38 (0,0))):=⟨h8_⟩
     have n9_:Aside0 (w.heap.size≤gb239):=⟨h9_⟩
     have n10_:Aside0 (w.heap.size≤gb239):=⟨h10_⟩
     have n11_:Aside0 (gb218≠gb239):=⟨h11_⟩
     have n12_:Aside0 (gb239≠gb218):=⟨h12_⟩
     have n13_:Aside0 (gb219≠gb239):=⟨h13_⟩
     have n14_:Aside0 (gb239≠gb219):=⟨h14_⟩
     have n15_:Aside0 (gb229≠gb239):=⟨h15_⟩
     have n16_:Aside0 (gb239≠gb229):=⟨h16_⟩
     have n17_:Aside0 (Below w.heap.size w w29):=⟨h17_⟩
     clear HO_230000
     clear HO_230001
     clear BK218
     clear BK219
     clear BK229
     clear HB
     clear h0_ h1_ h2_ h3_ h4_ h5_ h6_ h7_ h8_ h9_ h10_ h11_ h12_ h13_ h14_ h15_ h16_ h17_
     have HO232:=n0_
     have HO235:=n1_
     have HO238:=n2_
     have HO_230000:=n3_
     have HO_230001:=n4_
     have BK218:=n5_
     have BK219:=n6_
     have BK229:=n7_
     have BK239:=n8_
     have GW239:=n9_
     have GE239:=n10_
     have NB218_239:=n11_
     have NB239_218:=n12_
     have NB219_239:=n13_
     have NB239_219:=n14_
     have NB229_239:=n15_
     have NB239_229:=n16_
     have HB:=n17_
     clear n0_ n1_ n2_ n3_ n4_ n5_ n6_ n7_ n8_ n9_ n10_ n11_ n12_ n13_ n14_ n15_ n16_ n17_
     have hHeld:w29.cell? ⟨gb218,0,none⟩ = some (.slice A0_0 l0_0.length c0_0)∧w29.cell? ⟨gb218,1,none⟩ = some (.slice A0_1 l0_1.length c0_1):=hS_
     obtain ⟨Ao30,co30,eo30⟩:=Kd.R_slice HO235.out
     (first | subst eo30 | (injection eo30 with f1_ f2_ f3_;have f4_:=f1_.symm;have f5_:=f3_.symm;clear f1_ f2_ f3_;subst f4_;subst f5_))
     obtain ⟨Ao32,co32,eo32⟩:=Kd.R_slice HO238.out
     (first | subst eo32 | (injection eo32 with f1_ f2_ f3_;have f4_:=f1_.symm;have f5_:=f3_.symm;clear f1_ f2_ f3_;subst f4_;subst f5_))
     refine norm_ (a':=?_) ?_ ?_
     rotate_left
     ·simp only [putAll,Act.put,sA_,sB_,sC_]
      rfl
     refine one_ (i:=6) (N:=none) (bl_ 7 127) rfl rfl (by kernel_rfl) (by decide) (fun K hK=>?_)
     have hs31:w29.cell? ⟨gb239,0,none⟩ = some (.slice none 0 0):=cz0_ BK239
     have hfs31:=kD_ BK239.out 0
     have hns31_0:=NB218_239.out
     have hns31_1:=NB219_239.out
     have hns31_2:=NB229_239.out
     have hms31_0:=NB239_218.out
     have hms31_1:=NB239_219.out
     have hms31_2:=NB239_229.out
     have hs33:w29.cell? ⟨gb239,1,none⟩ = some (.slice none 0 0):=cz1_ BK239
     have hfs33:=kD_ BK239.out 1
     have hns33_0:=NB218_239.out
     have hns33_1:=NB219_239.out
     have hns33_2:=NB229_239.out
     have hms33_0:=NB239_218.out
     have hms33_1:=NB239_219.out
     have hms33_2:=NB239_229.out
     refine skip_ (w1:=?_) (by rfl) rfl ?_ ?_
     rotate_left
     ·go_simp
      rfl
     refine hK.out _ _ ⟨((cell_far (p:=⟨gb239,_,none⟩) NB218_239.out _).trans (((cell_far (p:=⟨gb239,_,none⟩) NB218_239.out _).trans (hHeld.1)))),((cell_far (p:=⟨gb239,_,none⟩) NB218_239.out _).trans (((cell_far (p:=⟨gb239,_,none⟩) NB218_239.out _).trans (hHeld.2))))⟩ (fun hHeld=>?_)
     clear hK K
     refine done_ (by kernel_rfl) ?_
     have hnb34:=NB239_218.out
     have hnc34:=NB218_239.out
     have hnb35:=NB239_219.out
     have hnc35:=NB219_239.out
     have hnb36:=NB239_229.out
     have hnc36:=NB229_239.out
     obtain ⟨hcz37_0,hcz37_1,hfz37_0,hfz37_1⟩:=c2_ BK239
     have hnb38:=NB229_219.out
     have hnc38:=NB219_229.out
     obtain ⟨hcz39_0,hcz39_1,hfz39_0,hfz39_1⟩:=c2_ BK229
     obtain ⟨Ao40,co40,eo40⟩:=Kd.R_slice HO_230000.out
     subst eo40
     obtain ⟨Ao41,co41,eo41⟩:=Kd.R_slice HO_230001.out
     subst eo41
     try go_wp2_with (first | ((with_reducible refine gA_ (f:=48) rfl ?_);refine gL_ (some 24) Tryz.func48 #[.agg #[.slice Ao30 t233.length co30,.slice Ao32 t236.length co32],.agg #[.slice Ao40 x230000_1.length co40,.slice Ao41 x230001_1.length co41]] rfl qa_ ?_;(with_reducible refine (Z34.calls k1 _ _ t233 _ _ t236 _ _ x230000_1 _ _ x230001_1 true _ ?side1 ?side2 ?side3 ?side4 ?side5 ?side6 ?side7 ?side8 A19.out).mono ?_);(case side1=>refine (Kd.R_reads' (e:=3) (base:=w.heap.size) (ok:=fun k_=>(some k_≠(v231:Value).ownBlock∧(some k_≠(.slice Ao32 t236.length co32:Value).ownBlock∧(some k_≠(.slice Ao40 x230000_1.length co40:Value).ownBlock∧some k_≠(.slice Ao41 x230001_1.length co41:Value).ownBlock)))) (n:=t233.length) (c:=co30) ?_).2.2;exact (rw_ (fa_ HO235 BK239)));(case side2=>exact (Kd.R_reads' HO235.out).2.1);(case side3=>refine (Kd.R_reads' (e:=3) (base:=w.heap.size) (ok:=fun k_=>(some k_≠(v231:Value).ownBlock∧(some k_≠(.slice Ao30 t233.length co30:Value).ownBlock∧(some k_≠(.slice Ao40 x230000_1.length co40:Value).ownBlock∧some k_≠(.slice Ao41 x230001_1.length co41:Value).ownBlock)))) (n:=t236.length) (c:=co32) ?_).2.2;exact (rw_ (fa_ HO238 BK239)));(case side4=>exact (Kd.R_reads' HO238.out).2.1);(case side5=>refine (Kd.R_reads' (e:=3) (base:=w.heap.size) (ok:=fun k_=>(some k_≠(v231:Value).ownBlock∧(some k_≠(.slice Ao30 t233.length co30:Value).ownBlock∧(some k_≠(.slice Ao32 t236.length co32:Value).ownBlock∧some k_≠(.slice Ao41 x230001_1.length co41:Value).ownBlock)))) (n:=x230000_1.length) (c:=co40) ?_).2.2;exact (rw_ (fa_ HO_230000 BK239)));(case side6=>exact (Kd.R_reads' HO_230000.out).2.1);(case side7=>refine (Kd.R_reads' (e:=3) (base:=w.heap.size) (ok:=fun k_=>(some k_≠(v231:Value).ownBlock∧(some k_≠(.slice Ao30 t233.length co30:Value).ownBlock∧(some k_≠(.slice Ao32 t236.length co32:Value).ownBlock∧some k_≠(.slice Ao40 x230000_1.length co40:Value).ownBlock)))) (n:=x230001_1.length) (c:=co41) ?_).2.2;exact (rw_ (fa_ HO_230001 BK239)));(case side8=>exact (Kd.R_reads' HO_230001.out).2.1);rintro e w42 ⟨rfl,hb⟩;refine ⟨_,rfl,?_⟩;replace HO_230000:=A_ (rD_ (rw_ (fa_ HO_230000 BK239)) hb);replace HO_230001:=A_ (rD_ (rw_ (fa_ HO_230001 BK239)) hb);replace HO232:=A_ (rD_ (rw_ (fa_ HO232 BK239)) hb);replace HO235:=A_ (rD_ (rw_ (fa_ HO235 BK239)) hb);replace HO238:=A_ (rD_ (rw_ (fa_ HO238 BK239)) hb);replace BK218:=A_ (kE_ (g:=gb218) (o:=.cells #[.slice A0_0 l0_0.length c0_0,.slice A0_1 l0_1.length c0_1] 38 (0,0)) (by (with_reducible repeat (first | refine kA_ ?_ _ | refine kB_ ?_ | refine kC_ ?_ _));refine blk_far ?_ NB218_239.out _;(with_reducible repeat (first | refine kA_ ?_ _ | refine kB_ ?_ | refine kC_ ?_ _));refine blk_far ?_ NB218_239.out _;(with_reducible repeat (first | refine kA_ ?_ _ | refine kB_ ?_ | refine kC_ ?_ _));exact BK218.out) hb);replace BK219:=A_ (kE_ (g:=gb219) (o:=.cells #[.slice none 0 0,.slice none 0 0] 38 (0,0)) (by (with_reducible repeat (first | refine kA_ ?_ _ | refine kB_ ?_ | refine kC_ ?_ _));refine blk_far ?_ NB219_239.out _;(with_reducible repeat (first | refine kA_ ?_ _ | refine kB_ ?_ | refine kC_ ?_ _));refine blk_far ?_ NB219_239.out _;(with_reducible repeat (first | refine kA_ ?_ _ | refine kB_ ?_ | refine kC_ ?_ _));exact BK219.out) hb);replace BK229:=A_ (kE_ (g:=gb229) (o:=.cells #[.slice Ao40 x230000_1.length co40,.slice Ao41 x230001_1.length co41] 38 (0,0)) (by (with_reducible repeat (first | refine kA_ ?_ _ | refine kB_ ?_ | refine kC_ ?_ _));refine blk_far ?_ NB229_239.out _;(with_reducible repeat (first | refine kA_ ?_ _ | refine kB_ ?_ | refine kC_ ?_ _));refine blk_far ?_ NB229_239.out _;(with_reducible repeat (first | refine kA_ ?_ _ | refine kB_ ?_ | refine kC_ ?_ _));exact BK229.out) hb);replace BK239:=A_ (kE_ (g:=gb239) (o:=.cells #[.slice Ao30 t233.length co30,.slice Ao32 t236.length co32] 38 (0,0)) qp_ hb);replace HB:=b1_ hb;clear hb;obtain ⟨hcz43_0,hcz43_1,hfz43_0,hfz43_1⟩:=c2_ BK239;obtain ⟨hcz44_0,hcz44_1,hfz44_0,hfz44_1⟩:=c2_ BK229))
     go_roundg k1
     case measure=>have:=HK1.out;omega
     case rel=>exact ⟨(wrap64 (x4_1 + 1)),(t233),(t236),(.slice Ao30 t233.length co30),(.slice Ao32 t236.length co32),qc_,H',⟨by have:=HK1.out;omega⟩,⟨(rw_ (Kd.R_mono (fa_ HO235 BK229) (fun _ hk=>hk.2.1)))⟩,⟨(rw_ (Kd.R_mono (fa_ HO238 BK229) (fun _ hk=>hk.2.1)))⟩,⟨by (with_reducible repeat (first | refine kA_ ?_ _ | refine kB_ ?_ | refine kC_ ?_ _));refine blk_far ?_ NB218_229.out _;(with_reducible repeat (first | refine kA_ ?_ _ | refine kB_ ?_ | refine kC_ ?_ _));refine blk_far ?_ NB218_229.out _;(with_reducible repeat (first | refine kA_ ?_ _ | refine kB_ ?_ | refine kC_ ?_ _));exact BK218.out⟩,⟨by (with_reducible repeat (first | refine kA_ ?_ _ | refine kB_ ?_ | refine kC_ ?_ _));refine blk_far ?_ NB219_229.out _;(with_reducible repeat (first | refine kA_ ?_ _ | refine kB_ ?_ | refine kC_ ?_ _));refine blk_far ?_ NB219_229.out _;(with_reducible repeat (first | refine kA_ ?_ _ | refine kB_ ?_ | refine kC_ ?_ _));exact BK219.out⟩,⟨qp_⟩,⟨hB_⟩⟩
    ·replace c20:=Bool.eq_false_iff.mpr c20
     subst c20
     have H1:(Z52.l0 k1 (wrap64 (x4_1 + 1)) l0_0 l0_1 x230000_1 x230001_1) = some (r1,r2):=by rw [if_neg (show ¬ (false = true) by decide)] at H;exact H
     clear H
     have H:=H1
     clear H1
     have H':=A_ H
     clear H
     have hnb45:=NB218_219.out
     have hnc45:=NB219_218.out
     have hnb46:=NB218_229.out
     have hnc46:=NB229_218.out
     obtain ⟨hcz47_0,hcz47_1,hfz47_0,hfz47_1⟩:=c2_ BK218
     try go_wp2
     replace HO_230000:=A_ (rC_ HO_230000.out)
     replace HO_230001:=A_ (rC_ HO_230001.out)
     replace BK218:=A_ (kB_ BK218.out)
     replace BK219:=A_ (kB_ BK219.out)
     replace BK229:=A_ (kB_ BK229.out)
     replace HB:=A_ (bC_ HB.out)
     refine start_ (n:=7) (S:=fun w'=>w'.cell? ⟨gb218,0,none⟩ = some (.slice A0_0 l0_0.length c0_0)∧w'.cell? ⟨gb218,1,none⟩ = some (.slice A0_1 l0_1.length c0_1)) (ds:=[]) (bl_ 7 0) (by kernel_rfl) rfl (by kernel_rfl) ⟨cz0_ BK218,cz1_ BK218⟩ (fun hHeld=>?_)
     generalize wr.drew = w48 at HO_230000 HO_230001 BK218 BK219 BK229 HB hHeld ⊢
     refine pure_ (i:=2) (N:=some 19) (v:=?_) (a':=?_) (bl_ 7 4) rfl rfl (by kernel_rfl) (fun _ _ _ h=>h) (Or.inl ⟨by rfl,?_⟩) ?_ ?_
     rotate_left
     ·intro w'
      go_simp
      with_reducible rfl
     rotate_left
     ·simp only [Act.put,sA_,sB_,sC_,i64_w,i32_w]
      rfl
     refine take_ (i:=0) (N:=some 17) (v:=?_) (a':=?_) (bl_ 7 5) rfl rfl (by kernel_rfl) (fun _ _ _ h=>h) (Or.inl ⟨by rfl,?_⟩) hHeld ?_ ?_
     rotate_left
     ·rintro w' ⟨s0,s1⟩
      go_simp
      with_reducible rfl
     rotate_left
     ·simp only [Act.put,sA_,sB_,sC_,i64_w,i32_w]
      rfl
     refine take_ (i:=1) (N:=some 18) (v:=?_) (a':=?_) (bl_ 7 7) rfl rfl (by kernel_rfl) (fun _ _ _ h=>h) (Or.inl ⟨by rfl,?_⟩) hHeld ?_ ?_
     rotate_left
     ·rintro w' ⟨s0,s1⟩
      go_simp
      with_reducible rfl
     rotate_left
     ·simp only [Act.put,sA_,sB_,sC_,i64_w,i32_w]
      rfl
     refine join_ (σ:=Value × Value × Value × Nat) 1 (bl_ 7 63) (fun s_=>[(20,s_.1),(21,.agg #[s_.2.1,s_.2.2.1]),(5,.pointer (some ⟨s_.2.2.2,0,none⟩))]) (fun s_ w'=>(w'.cell? ⟨gb218,0,none⟩ = some (.slice A0_0 l0_0.length c0_0)∧w'.cell? ⟨gb218,1,none⟩ = some (.slice A0_1 l0_1.length c0_1))∧(Kd.R (Kd.int .i64) 3 w' w.heap.size (fun k_=>some k_≠(s_.2.1:Value).ownBlock∧some k_≠(s_.2.2.1:Value).ownBlock∧some k_≠(u230000:Value).ownBlock∧some k_≠(u230001:Value).ownBlock) s_.1 t230)∧(Kd.R (Kd.int .i64) 3 w' w.heap.size (fun k_=>some k_≠(s_.1:Value).ownBlock∧some k_≠(s_.2.2.1:Value).ownBlock∧some k_≠(u230000:Value).ownBlock∧some k_≠(u230001:Value).ownBlock) s_.2.1 t233)∧(Kd.R (Kd.int .i64) 3 w' w.heap.size (fun k_=>some k_≠(s_.1:Value).ownBlock∧some k_≠(s_.2.1:Value).ownBlock∧some k_≠(u230000:Value).ownBlock∧some k_≠(u230001:Value).ownBlock) s_.2.2.1 t236)∧(Kd.R (Kd.int .i64) 3 w' w.heap.size (fun k_=>some k_≠(s_.1:Value).ownBlock∧some k_≠(s_.2.1:Value).ownBlock∧some k_≠(s_.2.2.1:Value).ownBlock∧some k_≠(u230001:Value).ownBlock) u230000 x230000_1)∧(Kd.R (Kd.int .i64) 3 w' w.heap.size (fun k_=>some k_≠(s_.1:Value).ownBlock∧some k_≠(s_.2.1:Value).ownBlock∧some k_≠(s_.2.2.1:Value).ownBlock∧some k_≠(u230000:Value).ownBlock) u230001 x230001_1)∧(w'.heap[gb218]? = some (.cells #[.slice A0_0 l0_0.length c0_0,.slice A0_1 l0_1.length c0_1] 38 (0,0)))∧(w'.heap[gb219]? = some (.cells #[.slice none 0 0,.slice none 0 0] 38 (0,0)))∧(w'.heap[gb229]? = some (.cells #[u230000,u230001] 38 (0,0)))∧(w'.heap[s_.2.2.2]? = some (.cells #[.slice none 0 0,.slice none 0 0] 38 (0,0)))∧(w.heap.size≤s_.2.2.2)∧(w.heap.size≤s_.2.2.2)∧(gb218≠s_.2.2.2)∧(s_.2.2.2≠gb218)∧(gb219≠s_.2.2.2)∧(s_.2.2.2≠gb219)∧(gb229≠s_.2.2.2)∧(s_.2.2.2≠gb229)∧(Below w.heap.size w w')) ?_ ?_
     rotate_left
     ·intro hCont
      refine two_ (i:=3) (j:=5) (Ni:=some 20) (Nj:=some 5) (bl_ 7 15) (bl_ 7 39) rfl rfl rfl rfl (by kernel_rfl) (by decide) (by decide) (fun K hK=>?_) (fun K hK=>?_)
      ·skip
       refine gO_ Tryz.func50 #[.agg #[.slice A0_0 l0_0.length c0_0,.slice A0_1 l0_1.length c0_1],.int .i64 x4_1] (by rfl) rfl rfl qa_ ?_
       with_reducible refine (Z53.calls k1 _ _ l0_0 _ _ l0_1 x4_1 t230 _ (cb_ HR0_0) HC0_0.out (cb_ HR0_1) HC0_1.out A17.out).mono ?_
       rintro e w49 ⟨v231,rfl,ho0,hb⟩
       refine ⟨_,rfl,?_⟩
       have HO232:=A_ (rE_ (Kd.R_new' (Kd.R_new' ho0 (Kd.R_lt (rr_ HO_230000))) (Kd.R_lt (rr_ HO_230001))) (bF_ hB_))
       replace HO_230000:=A_ (Kd.R_elder' (rr_ HO_230000) (Kd.R_base ho0) hb)
       replace HO_230001:=A_ (Kd.R_elder' (rr_ HO_230001) (Kd.R_base ho0) hb)
       replace BK218:=bb_ BK218 hb
       replace BK219:=bb_ BK219 hb
       replace BK229:=bb_ BK229 hb
       replace HB:=b1_ hb
       clear hb ho0
       obtain ⟨Ao50,co50,eo50⟩:=Kd.R_slice HO232.out
       (first | subst eo50 | (injection eo50 with f1_ f2_ f3_;have f4_:=f1_.symm;have f5_:=f3_.symm;clear f1_ f2_ f3_;subst f4_;subst f5_))
       refine hK.out _ _ ⟨cz0_ BK218,cz1_ BK218⟩ (fun hHeld=>?_)
       clear hK K
       refine no_ (some 20) ?_
       refine two_ (i:=4) (j:=5) (Ni:=some 21) (Nj:=some 5) (bl_ 7 31) (bl_ 7 47) rfl rfl rfl rfl (by kernel_rfl) (by decide) (by decide) (fun K hK=>?_) (fun K hK=>?_)
       ·skip
        refine gO_ Tryz.func49 #[.agg #[.slice A0_0 l0_0.length c0_0,.slice A0_1 l0_1.length c0_1],.slice Ao50 t230.length co50] (by rfl) rfl rfl qa_ ?_
        with_reducible refine (Z35.calls k1 _ _ l0_0 _ _ l0_1 _ _ t230 t233 t236 _ (cb_ HR0_0) HC0_0.out (cb_ HR0_1) HC0_1.out (cr_ HO232) ((Kd.R_reads' HO232.out).2.1) A18.out).mono ?_
        rintro e w51 ⟨v234,v237,rfl,ho0,ho1,hb⟩
        refine ⟨_,rfl,?_⟩
        have HO235:=A_ (rE_ (Kd.R_new' (Kd.R_new' (Kd.R_new' ho0 (Kd.R_lt (rr_ HO_230000))) (Kd.R_lt (rr_ HO_230001))) (Kd.R_lt (rr_ HO232))) (bF_ hB_))
        have HO238:=A_ (rE_ (Kd.R_new' (Kd.R_new' (Kd.R_new' ho1 (Kd.R_lt (rr_ HO_230000))) (Kd.R_lt (rr_ HO_230001))) (Kd.R_lt (rr_ HO232))) (bF_ hB_))
        replace HO_230000:=A_ (Kd.R_mono (Kd.R_told (Kd.R_told (Kd.R_old (rr_ HO_230000) hb) (Kd.R_base ho0)) (Kd.R_base ho1)) (fun _ h_=>h_.1))
        replace HO_230001:=A_ (Kd.R_mono (Kd.R_told (Kd.R_told (Kd.R_old (rr_ HO_230001) hb) (Kd.R_base ho0)) (Kd.R_base ho1)) (fun _ h_=>h_.1))
        replace HO232:=A_ (Kd.R_mono (Kd.R_told (Kd.R_told (Kd.R_old (rr_ HO232) hb) (Kd.R_base ho0)) (Kd.R_base ho1)) (fun _ h_=>h_.1))
        replace BK218:=bb_ BK218 hb
        replace BK219:=bb_ BK219 hb
        replace BK229:=bb_ BK229 hb
        replace HB:=b1_ hb
        clear hb ho0 ho1
        refine hK.out _ _ ⟨cz0_ BK218,cz1_ BK218⟩ (fun hHeld=>?_)
        clear hK K
        refine no_ (some 21) ?_
        refine one_ (i:=5) (N:=some 5) (bl_ 7 63) rfl rfl (by kernel_rfl) (by decide) (fun K hK=>?_)
        refine box_step ?hg (N:=5) ?hd (cs:=#[.slice none 0 0,.slice none 0 0]) (t:=38) ?hr ?_;(case hd=>rfl);(case hg=>rfl);(case hr=>first | (go_simp;done) | (go_simp;rfl))
        intro gb239 hg w52 hbox hb
        replace HO_230000:=rb_ HO_230000 hb
        replace HO_230001:=rb_ HO_230001 hb
        replace HO232:=rb_ HO232 hb
        replace HO235:=rb_ HO235 hb
        replace HO238:=rb_ HO238 hb
        have BK239:=A_ hbox
        have GW239:=gw_ w hg
        have GE239:=GW239
        replace HB:=b1_ hb
        have NB218_239:=gN_ BK218 hg
        have NB239_218:=gP_ BK218 hg
        replace BK218:=bb_ BK218 hb
        have NB219_239:=gN_ BK219 hg
        have NB239_219:=gP_ BK219 hg
        replace BK219:=bb_ BK219 hb
        have NB229_239:=gN_ BK229 hg
        have NB239_229:=gP_ BK229 hg
        replace BK229:=bb_ BK229 hb
        clear hb hbox hg
        refine hK.out _ _ ⟨cz0_ BK218,cz1_ BK218⟩ (fun hHeld=>?_)
        clear hK K
        refine no_ (some 5) ?_
        exact norm_ (by simp only [putAll,Act.put,sA_,sB_,sC_]) (hCont (.slice Ao50 t230.length co50,v234,v237,gb239) _ ⟨hHeld,(rw_ (Kd.R_mono HO232.out (fun _ hk=>⟨hk.1.2,⟨hk.2,⟨hk.1.1.1.2,hk.1.1.2⟩⟩⟩))),(rw_ (Kd.R_mono HO235.out (fun _ hk=>⟨hk.2,⟨hk.1.1.1,⟨hk.1.1.2,hk.1.2⟩⟩⟩))),(rw_ (Kd.R_mono HO238.out (fun _ hk=>⟨hk.2,⟨hk.1.1.1,⟨hk.1.1.2,hk.1.2⟩⟩⟩))),(rw_ (Kd.R_mono HO_230000.out (fun _ hk=>⟨hk.1.1.2,⟨hk.1.2,⟨hk.2,hk.1.1.1⟩⟩⟩))),(rw_ (Kd.R_mono HO_230001.out (fun _ hk=>⟨hk.1.1.2,⟨hk.1.2,⟨hk.2,hk.1.1.1⟩⟩⟩))),(kk_ BK218),(kk_ BK219),(kk_ BK229),(kk_ BK239),GW239.out,GE239.out,NB218_239.out,NB239_218.out,NB219_239.out,NB239_219.out,NB229_239.out,NB239_229.out,hB_⟩)
       ·skip
        refine box_step ?hg (N:=5) ?hd (cs:=#[.slice none 0 0,.slice none 0 0]) (t:=38) ?hr ?_;(case hd=>rfl);(case hg=>rfl);(case hr=>first | (go_simp;done) | (go_simp;rfl))
        intro gb239 hg w50 hbox hb
        replace HO_230000:=rb_ HO_230000 hb
        replace HO_230001:=rb_ HO_230001 hb
        replace HO232:=rb_ HO232 hb
        have BK239:=A_ hbox
        have GW239:=gw_ w hg
        have GE239:=GW239
        replace HB:=b1_ hb
        have NB218_239:=gN_ BK218 hg
        have NB239_218:=gP_ BK218 hg
        replace BK218:=bb_ BK218 hb
        have NB219_239:=gN_ BK219 hg
        have NB239_219:=gP_ BK219 hg
        replace BK219:=bb_ BK219 hb
        have NB229_239:=gN_ BK229 hg
        have NB239_229:=gP_ BK229 hg
        replace BK229:=bb_ BK229 hb
        clear hb hbox hg
        obtain ⟨Ao51,co51,eo51⟩:=Kd.R_slice HO232.out
        (first | subst eo51 | (injection eo51 with f1_ f2_ f3_;have f4_:=f1_.symm;have f5_:=f3_.symm;clear f1_ f2_ f3_;subst f4_;subst f5_))
        refine hK.out _ _ ⟨cz0_ BK218,cz1_ BK218⟩ (fun hHeld=>?_)
        clear hK K
        refine no_ (some 5) ?_
        refine one_ (i:=4) (N:=some 21) (bl_ 7 63) rfl rfl (by kernel_rfl) (by decide) (fun K hK=>?_)
        refine gO_ Tryz.func49 #[.agg #[.slice A0_0 l0_0.length c0_0,.slice A0_1 l0_1.length c0_1],.slice Ao51 t230.length co51] (by rfl) rfl rfl qa_ ?_
        with_reducible refine (Z35.calls k1 _ _ l0_0 _ _ l0_1 _ _ t230 t233 t236 _ (cb_ HR0_0) HC0_0.out (cb_ HR0_1) HC0_1.out (cr_ HO232) ((Kd.R_reads' HO232.out).2.1) A18.out).mono ?_
        rintro e w52 ⟨v234,v237,rfl,ho0,ho1,hb⟩
        refine ⟨_,rfl,?_⟩
        have HO235:=A_ (rE_ (Kd.R_new' (Kd.R_new' (Kd.R_new' ho0 (Kd.R_lt (rr_ HO_230000))) (Kd.R_lt (rr_ HO_230001))) (Kd.R_lt (rr_ HO232))) (bF_ hB_))
        have HO238:=A_ (rE_ (Kd.R_new' (Kd.R_new' (Kd.R_new' ho1 (Kd.R_lt (rr_ HO_230000))) (Kd.R_lt (rr_ HO_230001))) (Kd.R_lt (rr_ HO232))) (bF_ hB_))
        replace HO_230000:=A_ (Kd.R_mono (Kd.R_told (Kd.R_told (Kd.R_old (rr_ HO_230000) hb) (Kd.R_base ho0)) (Kd.R_base ho1)) (fun _ h_=>h_.1))
        replace HO_230001:=A_ (Kd.R_mono (Kd.R_told (Kd.R_told (Kd.R_old (rr_ HO_230001) hb) (Kd.R_base ho0)) (Kd.R_base ho1)) (fun _ h_=>h_.1))
        replace HO232:=A_ (Kd.R_mono (Kd.R_told (Kd.R_told (Kd.R_old (rr_ HO232) hb) (Kd.R_base ho0)) (Kd.R_base ho1)) (fun _ h_=>h_.1))
        replace BK218:=bb_ BK218 hb
        replace BK219:=bb_ BK219 hb
        replace BK229:=bb_ BK229 hb
        replace BK239:=bb_ BK239 hb
        replace HB:=b1_ hb
        clear hb ho0 ho1
        refine hK.out _ _ ⟨cz0_ BK218,cz1_ BK218⟩ (fun hHeld=>?_)
        clear hK K
        refine no_ (some 21) ?_
        exact norm_ (by simp only [putAll,Act.put,sA_,sB_,sC_]) (hCont (.slice Ao51 t230.length co51,v234,v237,gb239) _ ⟨hHeld,(rw_ (Kd.R_mono HO232.out (fun _ hk=>⟨hk.1.2,⟨hk.2,⟨hk.1.1.1.2,hk.1.1.2⟩⟩⟩))),(rw_ (Kd.R_mono HO235.out (fun _ hk=>⟨hk.2,⟨hk.1.1.1,⟨hk.1.1.2,hk.1.2⟩⟩⟩))),(rw_ (Kd.R_mono HO238.out (fun _ hk=>⟨hk.2,⟨hk.1.1.1,⟨hk.1.1.2,hk.1.2⟩⟩⟩))),(rw_ (Kd.R_mono HO_230000.out (fun _ hk=>⟨hk.1.1.2,⟨hk.1.2,⟨hk.2,hk.1.1.1⟩⟩⟩))),(rw_ (Kd.R_mono HO_230001.out (fun _ hk=>⟨hk.1.1.2,⟨hk.1.2,⟨hk.2,hk.1.1.1⟩⟩⟩))),(kk_ BK218),(kk_ BK219),(kk_ BK229),(kk_ BK239),GW239.out,GE239.out,NB218_239.out,NB239_218.out,NB219_239.out,NB239_219.out,NB229_239.out,NB239_229.out,hB_⟩)
      ·skip
       refine box_step ?hg (N:=5) ?hd (cs:=#[.slice none 0 0,.slice none 0 0]) (t:=38) ?hr ?_;(case hd=>rfl);(case hg=>rfl);(case hr=>first | (go_simp;done) | (go_simp;rfl))
       intro gb239 hg w49 hbox hb
       replace HO_230000:=rb_ HO_230000 hb
       replace HO_230001:=rb_ HO_230001 hb
       have BK239:=A_ hbox
       have GW239:=gw_ w hg
       have GE239:=GW239
       replace HB:=b1_ hb
       have NB218_239:=gN_ BK218 hg
       have NB239_218:=gP_ BK218 hg
       replace BK218:=bb_ BK218 hb
       have NB219_239:=gN_ BK219 hg
       have NB239_219:=gP_ BK219 hg
       replace BK219:=bb_ BK219 hb
       have NB229_239:=gN_ BK229 hg
       have NB239_229:=gP_ BK229 hg
       replace BK229:=bb_ BK229 hb
       clear hb hbox hg
       refine hK.out _ _ ⟨cz0_ BK218,cz1_ BK218⟩ (fun hHeld=>?_)
       clear hK K
       refine no_ (some 5) ?_
       refine one_ (i:=3) (N:=some 20) (bl_ 7 47) rfl rfl (by kernel_rfl) (by decide) (fun K hK=>?_)
       refine gO_ Tryz.func50 #[.agg #[.slice A0_0 l0_0.length c0_0,.slice A0_1 l0_1.length c0_1],.int .i64 x4_1] (by rfl) rfl rfl qa_ ?_
       with_reducible refine (Z53.calls k1 _ _ l0_0 _ _ l0_1 x4_1 t230 _ (cb_ HR0_0) HC0_0.out (cb_ HR0_1) HC0_1.out A17.out).mono ?_
       rintro e w50 ⟨v231,rfl,ho0,hb⟩
       refine ⟨_,rfl,?_⟩
       have HO232:=A_ (rE_ (Kd.R_new' (Kd.R_new' ho0 (Kd.R_lt (rr_ HO_230000))) (Kd.R_lt (rr_ HO_230001))) (bF_ hB_))
       replace HO_230000:=A_ (Kd.R_elder' (rr_ HO_230000) (Kd.R_base ho0) hb)
       replace HO_230001:=A_ (Kd.R_elder' (rr_ HO_230001) (Kd.R_base ho0) hb)
       replace BK218:=bb_ BK218 hb
       replace BK219:=bb_ BK219 hb
       replace BK229:=bb_ BK229 hb
       replace BK239:=bb_ BK239 hb
       replace HB:=b1_ hb
       clear hb ho0
       obtain ⟨Ao51,co51,eo51⟩:=Kd.R_slice HO232.out
       (first | subst eo51 | (injection eo51 with f1_ f2_ f3_;have f4_:=f1_.symm;have f5_:=f3_.symm;clear f1_ f2_ f3_;subst f4_;subst f5_))
       refine hK.out _ _ ⟨cz0_ BK218,cz1_ BK218⟩ (fun hHeld=>?_)
       clear hK K
       refine no_ (some 20) ?_
       refine one_ (i:=4) (N:=some 21) (bl_ 7 63) rfl rfl (by kernel_rfl) (by decide) (fun K hK=>?_)
       refine gO_ Tryz.func49 #[.agg #[.slice A0_0 l0_0.length c0_0,.slice A0_1 l0_1.length c0_1],.slice Ao51 t230.length co51] (by rfl) rfl rfl qa_ ?_
       with_reducible refine (Z35.calls k1 _ _ l0_0 _ _ l0_1 _ _ t230 t233 t236 _ (cb_ HR0_0) HC0_0.out (cb_ HR0_1) HC0_1.out (cr_ HO232) ((Kd.R_reads' HO232.out).2.1) A18.out).mono ?_
       rintro e w52 ⟨v234,v237,rfl,ho0,ho1,hb⟩
       refine ⟨_,rfl,?_⟩
       have HO235:=A_ (rE_ (Kd.R_new' (Kd.R_new' (Kd.R_new' ho0 (Kd.R_lt (rr_ HO_230000))) (Kd.R_lt (rr_ HO_230001))) (Kd.R_lt (rr_ HO232))) (bF_ hB_))
       have HO238:=A_ (rE_ (Kd.R_new' (Kd.R_new' (Kd.R_new' ho1 (Kd.R_lt (rr_ HO_230000))) (Kd.R_lt (rr_ HO_230001))) (Kd.R_lt (rr_ HO232))) (bF_ hB_))
       replace HO_230000:=A_ (Kd.R_mono (Kd.R_told (Kd.R_told (Kd.R_old (rr_ HO_230000) hb) (Kd.R_base ho0)) (Kd.R_base ho1)) (fun _ h_=>h_.1))
       replace HO_230001:=A_ (Kd.R_mono (Kd.R_told (Kd.R_told (Kd.R_old (rr_ HO_230001) hb) (Kd.R_base ho0)) (Kd.R_base ho1)) (fun _ h_=>h_.1))
       replace HO232:=A_ (Kd.R_mono (Kd.R_told (Kd.R_told (Kd.R_old (rr_ HO232) hb) (Kd.R_base ho0)) (Kd.R_base ho1)) (fun _ h_=>h_.1))
       replace BK218:=bb_ BK218 hb
       replace BK219:=bb_ BK219 hb
       replace BK229:=bb_ BK229 hb
       replace BK239:=bb_ BK239 hb
       replace HB:=b1_ hb
       clear hb ho0 ho1
       refine hK.out _ _ ⟨cz0_ BK218,cz1_ BK218⟩ (fun hHeld=>?_)
       clear hK K
       refine no_ (some 21) ?_
       exact norm_ (by simp only [putAll,Act.put,sA_,sB_,sC_]) (hCont (.slice Ao51 t230.length co51,v234,v237,gb239) _ ⟨hHeld,(rw_ (Kd.R_mono HO232.out (fun _ hk=>⟨hk.1.2,⟨hk.2,⟨hk.1.1.1.2,hk.1.1.2⟩⟩⟩))),(rw_ (Kd.R_mono HO235.out (fun _ hk=>⟨hk.2,⟨hk.1.1.1,⟨hk.1.1.2,hk.1.2⟩⟩⟩))),(rw_ (Kd.R_mono HO238.out (fun _ hk=>⟨hk.2,⟨hk.1.1.1,⟨hk.1.1.2,hk.1.2⟩⟩⟩))),(rw_ (Kd.R_mono HO_230000.out (fun _ hk=>⟨hk.1.1.2,⟨hk.1.2,⟨hk.2,hk.1.1.1⟩⟩⟩))),(rw_ (Kd.R_mono HO_230001.out (fun _ hk=>⟨hk.1.1.2,⟨hk.1.2,⟨hk.2,hk.1.1.1⟩⟩⟩))),(kk_ BK218),(kk_ BK219),(kk_ BK229),(kk_ BK239),GW239.out,GE239.out,NB218_239.out,NB239_218.out,NB219_239.out,NB239_219.out,NB229_239.out,NB239_229.out,hB_⟩)
     rintro ⟨v231,v234,v237,gb239⟩ w53 ⟨hS_,h0_,h1_,h2_,h3_,h4_,h5_,h6_,h7_,h8_,h9_,h10_,h11_,h12_,h13_,h14_,h15_,h16_,h17_⟩
     have n0_:Aside0 (Kd.R (Kd.int .i64) 3 w53 w.heap.size (fun k_=>some k_≠(v234:Value).ownBlock∧some k_≠(v237:Value).ownBlock∧some k_≠(u230000:Value).ownBlock∧some k_≠(u230001:Value).ownBlock) v231 t230):=⟨h0_⟩
     have n1_:Aside0 (Kd.R (Kd.int .i64) 3 w53 w.heap.size (fun k_=>some k_≠(v231:Value).ownBlock∧some k_≠(v237:Value).ownBlock∧some k_≠(u230000:Value).ownBlock∧some k_≠(u230001:Value).ownBlock) v234 t233):=⟨h1_⟩
     have n2_:Aside0 (Kd.R (Kd.int .i64) 3 w53 w.heap.size (fun k_=>some k_≠(v231:Value).ownBlock∧some k_≠(v234:Value).ownBlock∧some k_≠(u230000:Value).ownBlock∧some k_≠(u230001:Value).ownBlock) v237 t236):=⟨h2_⟩
     have n3_:Aside0 (Kd.R (Kd.int .i64) 3 w53 w.heap.size (fun k_=>some k_≠(v231:Value).ownBlock∧some k_≠(v234:Value).ownBlock∧some k_≠(v237:Value).ownBlock∧some k_≠(u230001:Value).ownBlock) u230000 x230000_1):=⟨h3_⟩
     have n4_:Aside0 (Kd.R (Kd.int .i64) 3 w53 w.heap.size (fun k_=>some k_≠(v231:Value).ownBlock∧some k_≠(v234:Value).ownBlock∧some k_≠(v237:Value).ownBlock∧some k_≠(u230000:Value).ownBlock) u230001 x230001_1):=⟨h4_⟩
     have n5_:Aside0 (w53.heap[gb218]? = some (.cells #[.slice A0_0 l0_0.length c0_0,.slice A0_1 l0_1.length c0_1] 38 (0,0))):=⟨h5_⟩
     have n6_:Aside0 (w53.heap[gb219]? = some (.cells #[.slice none 0 0,.slice none 0 0] 38 (0,0))):=⟨h6_⟩
     have n7_:Aside0 (w53.heap[gb229]? = some (.cells #[u230000,u230001] 38 (0,0))):=⟨h7_⟩
     have n8_:Aside0 (w53.heap[gb239]? = some (.cells #[.slice none 0 0,.slice none 0 0] 38 (0,0))):=⟨h8_⟩
     have n9_:Aside0 (w.heap.size≤gb239):=⟨h9_⟩
     have n10_:Aside0 (w.heap.size≤gb239):=⟨h10_⟩
     have n11_:Aside0 (gb218≠gb239):=⟨h11_⟩
     have n12_:Aside0 (gb239≠gb218):=⟨h12_⟩
     have n13_:Aside0 (gb219≠gb239):=⟨h13_⟩
     have n14_:Aside0 (gb239≠gb219):=⟨h14_⟩
     have n15_:Aside0 (gb229≠gb239):=⟨h15_⟩
     have n16_:Aside0 (gb239≠gb229):=⟨h16_⟩
     have n17_:Aside0 (Below w.heap.size w w53):=⟨h17_⟩
     clear HO_230000
     clear HO_230001
     clear BK218
     clear BK219
     clear BK229
     clear HB
     clear h0_ h1_ h2_ h3_ h4_ h5_ h6_ h7_ h8_ h9_ h10_ h11_ h12_ h13_ h14_ h15_ h16_ h17_
     have HO232:=n0_
     have HO235:=n1_
     have HO238:=n2_
     have HO_230000:=n3_
     have HO_230001:=n4_
     have BK218:=n5_
     have BK219:=n6_
     have BK229:=n7_
     have BK239:=n8_
     have GW239:=n9_
     have GE239:=n10_
     have NB218_239:=n11_
     have NB239_218:=n12_
     have NB219_239:=n13_
     have NB239_219:=n14_
     have NB229_239:=n15_
     have NB239_229:=n16_
     have HB:=n17_
     clear n0_ n1_ n2_ n3_ n4_ n5_ n6_ n7_ n8_ n9_ n10_ n11_ n12_ n13_ n14_ n15_ n16_ n17_
     have hHeld:w53.cell? ⟨gb218,0,none⟩ = some (.slice A0_0 l0_0.length c0_0)∧w53.cell? ⟨gb218,1,none⟩ = some (.slice A0_1 l0_1.length c0_1):=hS_
     obtain ⟨Ao54,co54,eo54⟩:=Kd.R_slice HO235.out
     (first | subst eo54 | (injection eo54 with f1_ f2_ f3_;have f4_:=f1_.symm;have f5_:=f3_.symm;clear f1_ f2_ f3_;subst f4_;subst f5_))
     obtain ⟨Ao56,co56,eo56⟩:=Kd.R_slice HO238.out
     (first | subst eo56 | (injection eo56 with f1_ f2_ f3_;have f4_:=f1_.symm;have f5_:=f3_.symm;clear f1_ f2_ f3_;subst f4_;subst f5_))
     refine norm_ (a':=?_) ?_ ?_
     rotate_left
     ·simp only [putAll,Act.put,sA_,sB_,sC_]
      rfl
     refine one_ (i:=6) (N:=none) (bl_ 7 127) rfl rfl (by kernel_rfl) (by decide) (fun K hK=>?_)
     have hs55:w53.cell? ⟨gb239,0,none⟩ = some (.slice none 0 0):=cz0_ BK239
     have hfs55:=kD_ BK239.out 0
     have hns55_0:=NB218_239.out
     have hns55_1:=NB219_239.out
     have hns55_2:=NB229_239.out
     have hms55_0:=NB239_218.out
     have hms55_1:=NB239_219.out
     have hms55_2:=NB239_229.out
     have hs57:w53.cell? ⟨gb239,1,none⟩ = some (.slice none 0 0):=cz1_ BK239
     have hfs57:=kD_ BK239.out 1
     have hns57_0:=NB218_239.out
     have hns57_1:=NB219_239.out
     have hns57_2:=NB229_239.out
     have hms57_0:=NB239_218.out
     have hms57_1:=NB239_219.out
     have hms57_2:=NB239_229.out
     refine skip_ (w1:=?_) (by rfl) rfl ?_ ?_
     rotate_left
     ·go_simp
      rfl
     refine hK.out _ _ ⟨((cell_far (p:=⟨gb239,_,none⟩) NB218_239.out _).trans (((cell_far (p:=⟨gb239,_,none⟩) NB218_239.out _).trans (hHeld.1)))),((cell_far (p:=⟨gb239,_,none⟩) NB218_239.out _).trans (((cell_far (p:=⟨gb239,_,none⟩) NB218_239.out _).trans (hHeld.2))))⟩ (fun hHeld=>?_)
     clear hK K
     refine done_ (by kernel_rfl) ?_
     have hnb58:=NB239_218.out
     have hnc58:=NB218_239.out
     have hnb59:=NB239_219.out
     have hnc59:=NB219_239.out
     have hnb60:=NB239_229.out
     have hnc60:=NB229_239.out
     obtain ⟨hcz61_0,hcz61_1,hfz61_0,hfz61_1⟩:=c2_ BK239
     have hnb62:=NB229_219.out
     have hnc62:=NB219_229.out
     obtain ⟨hcz63_0,hcz63_1,hfz63_0,hfz63_1⟩:=c2_ BK229
     obtain ⟨Ao64,co64,eo64⟩:=Kd.R_slice HO_230000.out
     subst eo64
     obtain ⟨Ao65,co65,eo65⟩:=Kd.R_slice HO_230001.out
     subst eo65
     try go_wp2_with (first | ((with_reducible refine gA_ (f:=48) rfl ?_);refine gL_ (some 24) Tryz.func48 #[.agg #[.slice Ao54 t233.length co54,.slice Ao56 t236.length co56],.agg #[.slice Ao64 x230000_1.length co64,.slice Ao65 x230001_1.length co65]] rfl qa_ ?_;(with_reducible refine (Z34.calls k1 _ _ t233 _ _ t236 _ _ x230000_1 _ _ x230001_1 false _ ?side1 ?side2 ?side3 ?side4 ?side5 ?side6 ?side7 ?side8 A19.out).mono ?_);(case side1=>refine (Kd.R_reads' (e:=3) (base:=w.heap.size) (ok:=fun k_=>(some k_≠(v231:Value).ownBlock∧(some k_≠(.slice Ao56 t236.length co56:Value).ownBlock∧(some k_≠(.slice Ao64 x230000_1.length co64:Value).ownBlock∧some k_≠(.slice Ao65 x230001_1.length co65:Value).ownBlock)))) (n:=t233.length) (c:=co54) ?_).2.2;exact (rw_ (fa_ HO235 BK239)));(case side2=>exact (Kd.R_reads' HO235.out).2.1);(case side3=>refine (Kd.R_reads' (e:=3) (base:=w.heap.size) (ok:=fun k_=>(some k_≠(v231:Value).ownBlock∧(some k_≠(.slice Ao54 t233.length co54:Value).ownBlock∧(some k_≠(.slice Ao64 x230000_1.length co64:Value).ownBlock∧some k_≠(.slice Ao65 x230001_1.length co65:Value).ownBlock)))) (n:=t236.length) (c:=co56) ?_).2.2;exact (rw_ (fa_ HO238 BK239)));(case side4=>exact (Kd.R_reads' HO238.out).2.1);(case side5=>refine (Kd.R_reads' (e:=3) (base:=w.heap.size) (ok:=fun k_=>(some k_≠(v231:Value).ownBlock∧(some k_≠(.slice Ao54 t233.length co54:Value).ownBlock∧(some k_≠(.slice Ao56 t236.length co56:Value).ownBlock∧some k_≠(.slice Ao65 x230001_1.length co65:Value).ownBlock)))) (n:=x230000_1.length) (c:=co64) ?_).2.2;exact (rw_ (fa_ HO_230000 BK239)));(case side6=>exact (Kd.R_reads' HO_230000.out).2.1);(case side7=>refine (Kd.R_reads' (e:=3) (base:=w.heap.size) (ok:=fun k_=>(some k_≠(v231:Value).ownBlock∧(some k_≠(.slice Ao54 t233.length co54:Value).ownBlock∧(some k_≠(.slice Ao56 t236.length co56:Value).ownBlock∧some k_≠(.slice Ao64 x230000_1.length co64:Value).ownBlock)))) (n:=x230001_1.length) (c:=co65) ?_).2.2;exact (rw_ (fa_ HO_230001 BK239)));(case side8=>exact (Kd.R_reads' HO_230001.out).2.1);rintro e w66 ⟨rfl,hb⟩;refine ⟨_,rfl,?_⟩;replace HO_230000:=A_ (rD_ (rw_ (fa_ HO_230000 BK239)) hb);replace HO_230001:=A_ (rD_ (rw_ (fa_ HO_230001 BK239)) hb);replace HO232:=A_ (rD_ (rw_ (fa_ HO232 BK239)) hb);replace HO235:=A_ (rD_ (rw_ (fa_ HO235 BK239)) hb);replace HO238:=A_ (rD_ (rw_ (fa_ HO238 BK239)) hb);replace BK218:=A_ (kE_ (g:=gb218) (o:=.cells #[.slice A0_0 l0_0.length c0_0,.slice A0_1 l0_1.length c0_1] 38 (0,0)) (by (with_reducible repeat (first | refine kA_ ?_ _ | refine kB_ ?_ | refine kC_ ?_ _));refine blk_far ?_ NB218_239.out _;(with_reducible repeat (first | refine kA_ ?_ _ | refine kB_ ?_ | refine kC_ ?_ _));refine blk_far ?_ NB218_239.out _;(with_reducible repeat (first | refine kA_ ?_ _ | refine kB_ ?_ | refine kC_ ?_ _));exact BK218.out) hb);replace BK219:=A_ (kE_ (g:=gb219) (o:=.cells #[.slice none 0 0,.slice none 0 0] 38 (0,0)) (by (with_reducible repeat (first | refine kA_ ?_ _ | refine kB_ ?_ | refine kC_ ?_ _));refine blk_far ?_ NB219_239.out _;(with_reducible repeat (first | refine kA_ ?_ _ | refine kB_ ?_ | refine kC_ ?_ _));refine blk_far ?_ NB219_239.out _;(with_reducible repeat (first | refine kA_ ?_ _ | refine kB_ ?_ | refine kC_ ?_ _));exact BK219.out) hb);replace BK229:=A_ (kE_ (g:=gb229) (o:=.cells #[.slice Ao64 x230000_1.length co64,.slice Ao65 x230001_1.length co65] 38 (0,0)) (by (with_reducible repeat (first | refine kA_ ?_ _ | refine kB_ ?_ | refine kC_ ?_ _));refine blk_far ?_ NB229_239.out _;(with_reducible repeat (first | refine kA_ ?_ _ | refine kB_ ?_ | refine kC_ ?_ _));refine blk_far ?_ NB229_239.out _;(with_reducible repeat (first | refine kA_ ?_ _ | refine kB_ ?_ | refine kC_ ?_ _));exact BK229.out) hb);replace BK239:=A_ (kE_ (g:=gb239) (o:=.cells #[.slice Ao54 t233.length co54,.slice Ao56 t236.length co56] 38 (0,0)) qp_ hb);replace HB:=b1_ hb;clear hb))
     go_roundg k1
     case measure=>have:=HK1.out;omega
     case rel=>exact ⟨(wrap64 (x4_1 + 1)),(x230000_1),(x230001_1),(.slice Ao64 x230000_1.length co64),(.slice Ao65 x230001_1.length co65),qc_,H',⟨by have:=HK1.out;omega⟩,⟨(rw_ (Kd.R_mono HO_230000.out (fun _ hk=>hk.2.2.2)))⟩,⟨(rw_ (Kd.R_mono HO_230001.out (fun _ hk=>hk.2.2.2)))⟩,⟨(kk_ BK218)⟩,⟨(kk_ BK219)⟩,⟨(kk_ BK229)⟩,⟨hB_⟩⟩
   ·rw [if_neg c16] at H
    have c16b0:=oD_ c16
    clear c16
    simp only [Option.some.injEq,Prod.mk.injEq] at H
    obtain ⟨rfl,rfl⟩:=H
    have hnb67:=NB218_219.out
    have hnc67:=NB219_218.out
    have hnb68:=NB218_229.out
    have hnc68:=NB229_218.out
    obtain ⟨hcz69_0,hcz69_1,hfz69_0,hfz69_1⟩:=c2_ BK218
    have hnb70:=NB229_219.out
    have hnc70:=NB219_229.out
    obtain ⟨hcz71_0,hcz71_1,hfz71_0,hfz71_1⟩:=c2_ BK229
    obtain ⟨Ao72,co72,eo72⟩:=Kd.R_slice HO_230000.out
    subst eo72
    obtain ⟨hcz73_0,hcz73_1,hfz73_0,hfz73_1⟩:=c2_ BK219
    obtain ⟨Ao74,co74,eo74⟩:=Kd.R_slice HO_230001.out
    subst eo74
    go_wp2
    refine bodyPost_ret (results_cell_row rfl _ _ gb219 38 #[.slice Ao72 x230000_1.length co72,.slice Ao74 x230001_1.length co74] (0,0) _ rfl qp_ Tryz.underlying38 rfl (by kernel_rfl)) rfl ?_
    exact ⟨_,_,qb_,(rw_ (fa_ HO_230000 BK219)),(rw_ (fa_ HO_230001 BK219)),hB_⟩
end Go.Proofs.YtoijcallajegfaaGreat.A
end
section
namespace Go.Proofs.YtoijcallajegfaaGreat.A
open Go.RowKit Go.Proofs.YtoijcallajegfaaGreatW.PrintWords Go.Proofs.YtoijcallajegfaaGreatW.PrintLast Go.Proofs.YtoijcallajegfaaGreatW.PrintMore
attribute [local go_sem] max2_int min2_int max_two min_two max_three min_three max_four min_four
set_option linter.unusedVariables false
set_option linter.unusedSimpArgs false
mutual
def Z13.l0:Nat→List (S38)→List (List Int)→List (List Int)→Int→Int→Option ((List (S38)))
 | 0,_,_,_,_,_=>none
 | k + 1,x3,x4,x16,x17,x18=>if x18 < x17 then (if 0≤x18 then (if x18 < (x16.length:Int) then (Z13.l1 k x3 x4 (rd_L1 x16 x18) x16 x17 x18 x4 (x4.length:Int) 0) else (none)) else (none)) else (some x3)
def Z13.l1:Nat→List (S38)→List (List Int)→List Int→List (List Int)→Int→Int→List (List Int)→Int→Int→Option ((List (S38)))
 | 0,_,_,_,_,_,_,_,_,_=>none
 | k + 1,x3,x4,x6,x16,x17,x18,x22,x23,x24=>if x24 < x23 then (if 0≤x24 then (if x24 < (x22.length:Int) then ((Z32.f k x6 (rd_L1 x22 x24)).bind fun t251=>(if t251 = true then ((Z52.f k x6 (rd_L1 x22 x24)).bind fun bt252=>((Z37.f k x3 bt252.1 bt252.2).bind fun t258=>(Z13.l1 k t258 x4 x6 x16 x17 x18 x22 x23 (wrap64 (x24 + 1))))) else (Z13.l1 k x3 x4 x6 x16 x17 x18 x22 x23 (wrap64 (x24 + 1))))) else (none)) else (none)) else (Z13.l0 k x3 x4 x16 x17 (wrap64 (x18 + 1)))
end
def Z13.f (k:Nat) (a0:Int):Option ((List (S38))):=(Z65.f a0 1 4).bind fun t241=>(if t241 = true then ((Z54.f k a0).bind fun t245=>(Z13.l0 k (([]:List (S38))) t245 t245 (t245.length:Int) 0)) else (some ([]:List (S38))))
theorem Z13.mono_l:∀ k,(∀ y0 y1 y2 y3 y4,LeO (Z13.l0 k y0 y1 y2 y3 y4) (Z13.l0 (k + 1) y0 y1 y2 y3 y4))∧(∀ y0 y1 y2 y3 y4 y5 y6 y7 y8,LeO (Z13.l1 k y0 y1 y2 y3 y4 y5 y6 y7 y8) (Z13.l1 (k + 1) y0 y1 y2 y3 y4 y5 y6 y7 y8))
 | 0=>⟨fun _ _ _ _ _ r h=>by simp [Z13.l0] at h,fun _ _ _ _ _ _ _ _ _ r h=>by simp [Z13.l1] at h⟩
 | k + 1=>by
  obtain ⟨ih0,ih1⟩:=Z13.mono_l k
  refine ⟨?_,?_⟩
  ·intro y0 y1 y2 y3 y4
   unfold Z13.l0
   repeat' first|exact ih0 _ _ _ _ _|exact ih1 _ _ _ _ _ _ _ _ _|exact Z32.mono _ _ _|exact Z52.mono _ _ _|exact Z37.mono _ _ _ _|exact Z54.mono _ _|exact lo_|refine LeO.ite ?_ ?_|refine LeO.bind ?_ (fun _=>?_)
  ·intro y0 y1 y2 y3 y4 y5 y6 y7 y8
   unfold Z13.l1
   repeat' first|exact ih0 _ _ _ _ _|exact ih1 _ _ _ _ _ _ _ _ _|exact Z32.mono _ _ _|exact Z52.mono _ _ _|exact Z37.mono _ _ _ _|exact Z54.mono _ _|exact lo_|refine LeO.ite ?_ ?_|refine LeO.bind ?_ (fun _=>?_)
theorem Z13.mono:∀ a0 k,LeO (Z13.f k a0) (Z13.f (k + 1) a0):=by
 intro a0 k
 obtain ⟨ih0,ih1⟩:=Z13.mono_l k
 unfold Z13.f
 repeat' first|exact ih0 _ _ _ _ _|exact ih1 _ _ _ _ _ _ _ _ _|exact Z32.mono _ _ _|exact Z52.mono _ _ _|exact Z37.mono _ _ _ _|exact Z54.mono _ _|exact lo_|refine LeO.ite ?_ ?_|refine LeO.bind ?_ (fun _=>?_)
set_option maxHeartbeats 8000000 in
set_option maxRecDepth 100000 in
theorem Z13.calls (k:Nat) (a0:Int) (r:List (S38)) (w:World) (h:Z13.f k a0 = some r) :
  Calls Tryz.prog 18 #[.int .i64 a0] w fun e w'=>∃ v0_:Value,e = .returned (v0_)∧Kd.N k38 38 w' w.heap.size (fun k_=>(w.heap.size≤k_)) v0_ r∧Below w.heap.size w w':=by
 have hu38:=Tryz.underlying38
 have HB:=A_ (Below.refl w.heap.size w)
 have H:=h
 unfold Z13.f at H
 clear h
 obtain ⟨t241,A2,H⟩:=bi_ H
 by_cases c3:t241 = true
 ·subst c3
  rw [if_pos rfl] at H
  obtain ⟨y242,hy242⟩:∃ y_:List (S38),y_ = (([]:List (S38))):=⟨_,rfl⟩
  replace H:((Z54.f k a0).bind fun t245=>(Z13.l0 k y242 t245 t245 (t245.length:Int) 0)) = some r:=by first | (rw [hy242];exact H) | exact H
  have Ny242:=A_ hy242
  clear hy242
  obtain ⟨t245,A4,H⟩:=bi_ H
  have H':=A_ H
  clear H
  go_enter Tryz.func18,Tryz.ntmps18
  go_wp2_with (first | ((with_reducible refine gA_ (f:=31) rfl ?_);refine gL_ (some 11) Tryz.func31 #[.int .i64 a0,.int .i64 1,.int .i64 4] rfl qa_ ?_;(with_reducible refine (Z65.calls a0 1 4 true _ A2.out).mono ?_);rintro e w' ⟨rfl,⟨nd,rfl⟩⟩;refine ⟨_,rfl,?_⟩) | ((with_reducible refine gB_ (N:=13) rfl ?_);refine Kd.N_lit k38 _ 38 ?hg (N':=13) ?hd (xs:=([]:List (S38))) (inner:=[]) (ok:=(fun k_=>(w.heap.size≤k_))) (okp:=(fun k_=>(w.heap.size≤k_))) ?hr ?hp (fun _ hk=>hk) ((show ∀ k_,w.heap.size≤k_→(fun k_=>(w.heap.size≤k_)) k_ from fun k_ hk=>(Nat.le_trans (bF_ hB_) hk)) _ (nA_ _)) (Below.refl _ _) (nA_ _) (by simp) ?_;(case hd=>rfl);(case hg=>rfl);(case hr=>first | (go_simp;done) | (go_simp;rfl));(case hp=>exact (Reps.none _ _));intro v243 w5 ho6 hb hg_ hnew_;clear hg_ hnew_;(first | rw [← Ny242.out] at ho6 | (simp only [Int.reduceToNat] at ho6;rw [← Ny242.out] at ho6));have HO244:=A_ (Kd.N_lower ho6 (bF_ hB_));replace HB:=b1_ hb;clear hb ho6) | ((with_reducible refine gA_ (f:=32) rfl ?_);refine gL_ (some 15) Tryz.func32 #[.int .i64 a0] rfl qa_ ?_;(with_reducible refine (Z54.calls k a0 t245 _ A4.out).mono ?_);rintro e w7 ⟨v246,rfl,ho0,hb⟩;refine ⟨_,rfl,?_⟩;have HO247:=A_ (Kd.N_lower (Kd.N_mono (ok':=fun k_=>(w.heap.size≤k_)∧some k_≠(v243:Value).ownBlock) ho0 (fun k_ hk_=>⟨(Nat.le_trans (bF_ hB_) hk_),(Kd.fresh' (Kd.N_lt (by (with_reducible repeat (first | apply Kd.N_alloc | apply Kd.N_drewN | apply Kd.N_drew));exact HO244.out)) k_ hk_)⟩)) (bF_ hB_));replace HO244:=A_ (Kd.N_elder' (by (with_reducible repeat (first | apply Kd.N_alloc | apply Kd.N_drewN | apply Kd.N_drew));exact HO244.out) (Kd.N_base ho0) hb);replace HB:=b1_ hb;clear hb ho0;obtain ⟨Ao8,co8,eo8⟩:=Kd.N_slice HO247.out;subst eo8))
  go_loopg [3,18] k (fun kq v3 v18 w'=>∃ (x3_1:List (S38)) (x18_1:Int),v18 = .int .i64 x18_1∧Aside0 (Z13.l0 kq x3_1 t245 t245 (t245.length:Int) x18_1 = some r)∧Aside0 (kq≤k)∧Aside0 (Kd.N k38 38 w' w.heap.size (fun k_=>(w.heap.size≤k_)∧some k_≠((.slice Ao8 t245.length co8):Value).ownBlock∧some k_≠((.slice Ao8 t245.length co8):Value).ownBlock) v3 x3_1)∧Aside0 (Kd.N (Kd.slice 3 (Kd.int .i64)) 27 w' w.heap.size (fun k_=>(w.heap.size≤k_)∧some k_≠(v3:Value).ownBlock) (.slice Ao8 t245.length co8) t245)∧Aside0 (Kd.N (Kd.slice 3 (Kd.int .i64)) 27 w' w.heap.size (fun k_=>(w.heap.size≤k_)∧some k_≠(v3:Value).ownBlock) (.slice Ao8 t245.length co8) t245)∧Aside0 (Below w.heap.size w w'))
  case atStart=>exact ⟨(y242),(0),qc_,H',⟨nA_ _⟩,⟨by (with_reducible repeat (first | apply Kd.N_alloc | apply Kd.N_drewN | apply Kd.N_drew));exact Kd.N_mono HO244.out (fun _ hk=>⟨hk.1,⟨hk.2,hk.2⟩⟩)⟩,⟨by (with_reducible repeat (first | apply Kd.N_alloc | apply Kd.N_drewN | apply Kd.N_drew));exact HO247.out⟩,⟨by (with_reducible repeat (first | apply Kd.N_alloc | apply Kd.N_drewN | apply Kd.N_drew));exact HO247.out⟩,⟨hB_⟩⟩
  case round =>
   clear H'
   obtain ⟨x3_1,x18_1,rfl,HA,HK1,HO_3,HO_4,HO_16,HB⟩:=hrel
   cases gk with
   | zero=>exact absurd HA.out (by simp [Z13.l0])
   | succ k1 =>
    have H:=HA.out
    clear HA
    simp only [Z13.l0] at H
    by_cases c9:x18_1 < (t245.length:Int)
    ·rw [if_pos c9] at H
     have c9b0:=oC_ c9
     clear c9
     have c10:=cp_ H
     replace H:=ca_ H
     have c10b0:=oC_ c10
     clear c10
     have c11:=cp_ H
     replace H:=ca_ H
     have c11b0:=oC_ c11
     clear c11
     have H':=A_ H
     clear H
     have p248:0≤(x18_1:Int):=oB_ qe_
     have q248:x18_1 < (t245.length:Int):=oB_ qe_
     obtain ⟨ad248,A248_0,c248_0,e248,hx248_0,hl248_0,hi248_0⟩:=at_L1 (Kd.N_reads' HO_16.out).2.2 x18_1 p248 q248
     cases e248
     obtain ⟨ce248,hce248,hMe248,hcc248⟩:=Kd.N_get HO_16.out [] x18_1 p248 (by first | exact q248 | exact oB_ qe_ | (have e_:=(Kd.N_reads' HO_16.out).1;omega))
     obtain ⟨ua248_0,uc248_0,rfl,ul248_0,ge248_0⟩:=Kd.FK_slice_open hMe248
     have hv248_0:=hcc248 0 _ rfl
     rw [Nat.add_zero,show ((Kd.slice 3 (Kd.int .i64))).sz = 1 from rfl,Nat.mul_one] at hv248_0
     replace hv248_0:=Option.some.inj (hv248_0.symm.trans hx248_0)
     injection hv248_0 with hva_ hvn_ hvc_
     rw [hva_] at ge248_0
     rw [hvc_] at ul248_0
     have HL248_0:=A_ (show Kd.V (Kd.int .i64) 3 _ w.heap.size _ _ (rd_L1 t245 x18_1) from Kd.V_mk ul248_0 ge248_0)
     clear hva_ hvn_ hvc_ ge248_0 ul248_0
     clear hcc248 hce248
     have HR248_0:=A_ hi248_0
     have HC248_0:=A_ hl248_0
     clear hi248_0 hl248_0
     replace p248:=eq_true p248
     replace q248:=eq_true q248
     go_wp2
     go_loopg [3,24] k1 (fun kq v3 v24 w'=>∃ (x3_2:List (S38)) (x24_2:Int),v24 = .int .i64 x24_2∧Aside0 (Z13.l1 kq x3_2 t245 (rd_L1 t245 x18_1) t245 (t245.length:Int) x18_1 t245 (t245.length:Int) x24_2 = some r)∧Aside0 (kq≤k1)∧Aside0 (Kd.N k38 38 w' w.heap.size (fun k_=>(w.heap.size≤k_)∧some k_≠((.slice (some ad248) t245.length co8):Value).ownBlock∧some k_≠((.slice (some ad248) t245.length co8):Value).ownBlock∧some k_≠((.slice (some ad248) t245.length co8):Value).ownBlock) v3 x3_2)∧Aside0 (Kd.N (Kd.slice 3 (Kd.int .i64)) 27 w' w.heap.size (fun k_=>(w.heap.size≤k_)∧some k_≠(v3:Value).ownBlock) (.slice (some ad248) t245.length co8) t245)∧Aside0 (Kd.V (Kd.int .i64) 3 w' w.heap.size (fun k_=>(w.heap.size≤k_)∧some k_≠(v3:Value).ownBlock∧some k_≠((.slice (some ad248) t245.length co8):Value).ownBlock) (.slice A248_0 (rd_L1 t245 x18_1).length c248_0) (rd_L1 t245 x18_1))∧Aside0 (Kd.N (Kd.slice 3 (Kd.int .i64)) 27 w' w.heap.size (fun k_=>(w.heap.size≤k_)∧some k_≠(v3:Value).ownBlock) (.slice (some ad248) t245.length co8) t245)∧Aside0 (Kd.N (Kd.slice 3 (Kd.int .i64)) 27 w' w.heap.size (fun k_=>(w.heap.size≤k_)∧some k_≠(v3:Value).ownBlock) (.slice (some ad248) t245.length co8) t245)∧Aside0 (Below w.heap.size w w'))
     case atStart=>exact ⟨(x3_1),(0),qc_,H',⟨nA_ _⟩,⟨by (with_reducible repeat (first | apply Kd.N_alloc | apply Kd.N_drewN | apply Kd.N_drew));exact Kd.N_mono HO_3.out (fun _ hk=>⟨hk.1,⟨hk.2.1,⟨hk.2.2,hk.2.1⟩⟩⟩)⟩,⟨by (with_reducible repeat (first | apply Kd.N_alloc | apply Kd.N_drewN | apply Kd.N_drew));exact HO_4.out⟩,⟨by (with_reducible repeat (first | apply Kd.V_alloc | apply Kd.V_drewN | apply Kd.V_drew));exact Kd.V_mono HL248_0.out (fun _ hk=>⟨hk.1.1,⟨hk.1.2,hk.2⟩⟩)⟩,⟨by (with_reducible repeat (first | apply Kd.N_alloc | apply Kd.N_drewN | apply Kd.N_drew));exact HO_16.out⟩,⟨by (with_reducible repeat (first | apply Kd.N_alloc | apply Kd.N_drewN | apply Kd.N_drew));exact HO_4.out⟩,⟨hB_⟩⟩
     case round =>
      clear H'
      obtain ⟨x3_2,x24_2,rfl,HA,HK2,HO_3,HO_4,HO_6,HO_16,HO_22,HB⟩:=hrel
      cases gk with
      | zero=>exact absurd HA.out (by simp [Z13.l1])
      | succ k2 =>
       have H:=HA.out
       clear HA
       simp only [Z13.l1] at H
       by_cases c12:x24_2 < (t245.length:Int)
       ·rw [if_pos c12] at H
        have c12b0:=oC_ c12
        clear c12
        have c13:=cp_ H
        replace H:=ca_ H
        have c13b0:=oC_ c13
        clear c13
        have c14:=cp_ H
        replace H:=ca_ H
        have c14b0:=oC_ c14
        clear c14
        obtain ⟨t251,A15,H⟩:=bi_ H
        by_cases c16:t251 = true
        ·subst c16
         rw [if_pos rfl] at H
         obtain ⟨⟨t252,t255⟩,A17,H⟩:=bi_ H
         try dsimp only at H
         obtain ⟨t258,A18,H⟩:=bi_ H
         have H':=A_ H
         clear H
         have p249:0≤(x24_2:Int):=oB_ qe_
         have q249:x24_2 < (t245.length:Int):=oB_ qe_
         obtain ⟨ad249,A249_0,c249_0,e249,hx249_0,hl249_0,hi249_0⟩:=at_L1 (Kd.N_reads' HO_22.out).2.2 x24_2 p249 q249
         obtain rfl:ad248 = ad249:=(by injection e249)
         obtain ⟨ce249,hce249,hMe249,hcc249⟩:=Kd.N_get HO_22.out [] x24_2 p249 (by first | exact q249 | exact oB_ qe_ | (have e_:=(Kd.N_reads' HO_22.out).1;omega))
         obtain ⟨ua249_0,uc249_0,rfl,ul249_0,ge249_0⟩:=Kd.FK_slice_open hMe249
         have hv249_0:=hcc249 0 _ rfl
         rw [Nat.add_zero,show ((Kd.slice 3 (Kd.int .i64))).sz = 1 from rfl,Nat.mul_one] at hv249_0
         replace hv249_0:=Option.some.inj (hv249_0.symm.trans hx249_0)
         injection hv249_0 with hva_ hvn_ hvc_
         rw [hva_] at ge249_0
         rw [hvc_] at ul249_0
         have HL249_0:=A_ (show Kd.V (Kd.int .i64) 3 _ w.heap.size _ _ (rd_L1 t245 x24_2) from Kd.V_mk ul249_0 ge249_0)
         clear hva_ hvn_ hvc_ ge249_0 ul249_0
         clear hcc249 hce249
         have HR249_0:=A_ hi249_0
         have HC249_0:=A_ hl249_0
         clear hi249_0 hl249_0
         replace p249:=eq_true p249
         replace q249:=eq_true q249
         go_wp2_with (first | ((with_reducible refine gB_ (N:=9) rfl ?_);refine bx_ 9 #[.slice none 0 0,.slice none 0 0] 38 ?_;intro gb250 hg w19 hbox hb;replace HO_3:=A_ (Kd.N_below (Kd.N_elderB (by (with_reducible repeat (first | apply Kd.N_alloc | apply Kd.N_drewN | apply Kd.N_drew));exact HO_3.out) gb250 (Nat.le_of_eq hg.symm)) hb);replace HO_4:=A_ (Kd.N_below (Kd.N_elderB (by (with_reducible repeat (first | apply Kd.N_alloc | apply Kd.N_drewN | apply Kd.N_drew));exact HO_4.out) gb250 (Nat.le_of_eq hg.symm)) hb);replace HO_6:=A_ (Kd.V_below (Kd.V_elderB (by (with_reducible repeat (first | apply Kd.V_alloc | apply Kd.V_drewN | apply Kd.V_drew));exact HO_6.out) gb250 (Nat.le_of_eq hg.symm)) hb);replace HO_16:=A_ (Kd.N_below (Kd.N_elderB (by (with_reducible repeat (first | apply Kd.N_alloc | apply Kd.N_drewN | apply Kd.N_drew));exact HO_16.out) gb250 (Nat.le_of_eq hg.symm)) hb);replace HO_22:=A_ (Kd.N_below (Kd.N_elderB (by (with_reducible repeat (first | apply Kd.N_alloc | apply Kd.N_drewN | apply Kd.N_drew));exact HO_22.out) gb250 (Nat.le_of_eq hg.symm)) hb);replace HL249_0:=A_ (Kd.V_below (Kd.V_elderB (by (with_reducible repeat (first | apply Kd.V_alloc | apply Kd.V_drewN | apply Kd.V_drew));exact HL249_0.out) gb250 (Nat.le_of_eq hg.symm)) hb);replace HR249_0:=A_ (cD_ (by repeat (first | (with_reducible exact HR249_0.out) | (with_reducible refine cA_ ?_ _) | (with_reducible refine cB_ ?_ _) | (with_reducible refine cC_ ?_) | exact HR249_0.out)) hb);have BK250:=A_ hbox;have GW250:=gw_ w hg;have GE250:=GW250;replace HB:=b1_ hb;clear hb hbox hg;obtain ⟨hcz20_0,hcz20_1,hfz20_0,hfz20_1⟩:=c2_ BK250) | ((with_reducible refine gA_ (f:=33) rfl ?_);refine gL_ (some 32) Tryz.func33 #[.agg #[.slice A248_0 (rd_L1 t245 x18_1).length c248_0,.slice A249_0 (rd_L1 t245 x24_2).length c249_0]] rfl qa_ ?_;(with_reducible refine (Z32.calls k2 _ _ (rd_L1 t245 x18_1) _ _ (rd_L1 t245 x24_2) true _ ?side1 ?side2 ?side3 ?side4 A15.out).mono ?_);(case side1=>refine (Kd.V_reads' (e:=3) (base:=w.heap.size) (ok:=fun k_=>(((w.heap.size≤k_)∧(some k_≠(u3:Value).ownBlock∧some k_≠(.slice (some ad248) t245.length co8:Value).ownBlock))∧k_≠gb250)) (n:=(rd_L1 t245 x18_1).length) (c:=c248_0) ?_).2.2;exact (by (with_reducible repeat (first | apply Kd.V_alloc | apply Kd.V_drewN | apply Kd.V_drew));exact (Kd.V_mono (Kd.V_far (p:=⟨gb250,1,none⟩) (Kd.V_far (p:=⟨gb250,0,none⟩) (Kd.V_mono HO_6.out (fun k_ hk=>(⟨hk,hk.2⟩:_∧k_≠gb250))) (fun _ hk=>hk.2) (.slice A248_0 (rd_L1 t245 x18_1).length c248_0)) (fun _ hk=>hk.2) (.slice A249_0 (rd_L1 t245 x24_2).length c249_0)) (fun _ h_=>h_.1))));(case side2=>exact (Kd.V_reads' HO_6.out).2.1);(case side3=>repeat (first | exact ((Kd.V_reads' (by (with_reducible repeat (first | apply Kd.V_alloc | apply Kd.V_drewN | apply Kd.V_drew));exact (Kd.V_mono (Kd.V_far (p:=⟨gb250,1,none⟩) (Kd.V_far (p:=⟨gb250,0,none⟩) (Kd.V_mono HL249_0.out (fun k_ hk=>(⟨hk,hk.2⟩:_∧k_≠gb250))) (fun _ hk=>hk.2) (.slice A248_0 (rd_L1 t245 x18_1).length c248_0)) (fun _ hk=>hk.2) (.slice A249_0 (rd_L1 t245 x24_2).length c249_0)) (fun _ h_=>h_.1)))).2.2) | (with_reducible first | refine cA_ ?_ _ | refine cB_ ?_ _ | refine cC_ ?_)));(case side4=>exact HC249_0.out);rintro e w21 ⟨rfl,hb⟩;refine ⟨_,rfl,?_⟩;replace HO_3:=A_ (Kd.N_below (by (with_reducible repeat (first | apply Kd.N_alloc | apply Kd.N_drewN | apply Kd.N_drew));exact (Kd.N_mono (Kd.N_far (p:=⟨gb250,1,none⟩) (Kd.N_far (p:=⟨gb250,0,none⟩) (Kd.N_mono HO_3.out (fun k_ hk=>(⟨hk,hk.2⟩:_∧k_≠gb250))) (fun _ hk=>hk.2) (.slice A248_0 (rd_L1 t245 x18_1).length c248_0)) (fun _ hk=>hk.2) (.slice A249_0 (rd_L1 t245 x24_2).length c249_0)) (fun _ h_=>h_.1))) hb);replace HO_4:=A_ (Kd.N_below (by (with_reducible repeat (first | apply Kd.N_alloc | apply Kd.N_drewN | apply Kd.N_drew));exact (Kd.N_mono (Kd.N_far (p:=⟨gb250,1,none⟩) (Kd.N_far (p:=⟨gb250,0,none⟩) (Kd.N_mono HO_4.out (fun k_ hk=>(⟨hk,hk.2⟩:_∧k_≠gb250))) (fun _ hk=>hk.2) (.slice A248_0 (rd_L1 t245 x18_1).length c248_0)) (fun _ hk=>hk.2) (.slice A249_0 (rd_L1 t245 x24_2).length c249_0)) (fun _ h_=>h_.1))) hb);replace HO_6:=A_ (Kd.V_below (by (with_reducible repeat (first | apply Kd.V_alloc | apply Kd.V_drewN | apply Kd.V_drew));exact (Kd.V_mono (Kd.V_far (p:=⟨gb250,1,none⟩) (Kd.V_far (p:=⟨gb250,0,none⟩) (Kd.V_mono HO_6.out (fun k_ hk=>(⟨hk,hk.2⟩:_∧k_≠gb250))) (fun _ hk=>hk.2) (.slice A248_0 (rd_L1 t245 x18_1).length c248_0)) (fun _ hk=>hk.2) (.slice A249_0 (rd_L1 t245 x24_2).length c249_0)) (fun _ h_=>h_.1))) hb);replace HO_16:=A_ (Kd.N_below (by (with_reducible repeat (first | apply Kd.N_alloc | apply Kd.N_drewN | apply Kd.N_drew));exact (Kd.N_mono (Kd.N_far (p:=⟨gb250,1,none⟩) (Kd.N_far (p:=⟨gb250,0,none⟩) (Kd.N_mono HO_16.out (fun k_ hk=>(⟨hk,hk.2⟩:_∧k_≠gb250))) (fun _ hk=>hk.2) (.slice A248_0 (rd_L1 t245 x18_1).length c248_0)) (fun _ hk=>hk.2) (.slice A249_0 (rd_L1 t245 x24_2).length c249_0)) (fun _ h_=>h_.1))) hb);replace HO_22:=A_ (Kd.N_below (by (with_reducible repeat (first | apply Kd.N_alloc | apply Kd.N_drewN | apply Kd.N_drew));exact (Kd.N_mono (Kd.N_far (p:=⟨gb250,1,none⟩) (Kd.N_far (p:=⟨gb250,0,none⟩) (Kd.N_mono HO_22.out (fun k_ hk=>(⟨hk,hk.2⟩:_∧k_≠gb250))) (fun _ hk=>hk.2) (.slice A248_0 (rd_L1 t245 x18_1).length c248_0)) (fun _ hk=>hk.2) (.slice A249_0 (rd_L1 t245 x24_2).length c249_0)) (fun _ h_=>h_.1))) hb);replace HR249_0:=A_ (cD_ ((Kd.V_reads' (by (with_reducible repeat (first | apply Kd.V_alloc | apply Kd.V_drewN | apply Kd.V_drew));exact (Kd.V_mono (Kd.V_far (p:=⟨gb250,1,none⟩) (Kd.V_far (p:=⟨gb250,0,none⟩) (Kd.V_mono HL249_0.out (fun k_ hk=>(⟨hk,hk.2⟩:_∧k_≠gb250))) (fun _ hk=>hk.2) (.slice A248_0 (rd_L1 t245 x18_1).length c248_0)) (fun _ hk=>hk.2) (.slice A249_0 (rd_L1 t245 x24_2).length c249_0)) (fun _ h_=>h_.1)))).2.2) hb);replace HL249_0:=A_ (Kd.V_below (by (with_reducible repeat (first | apply Kd.V_alloc | apply Kd.V_drewN | apply Kd.V_drew));exact (Kd.V_mono (Kd.V_far (p:=⟨gb250,1,none⟩) (Kd.V_far (p:=⟨gb250,0,none⟩) (Kd.V_mono HL249_0.out (fun k_ hk=>(⟨hk,hk.2⟩:_∧k_≠gb250))) (fun _ hk=>hk.2) (.slice A248_0 (rd_L1 t245 x18_1).length c248_0)) (fun _ hk=>hk.2) (.slice A249_0 (rd_L1 t245 x24_2).length c249_0)) (fun _ h_=>h_.1))) hb);replace BK250:=A_ (kE_ (g:=gb250) (o:=.cells #[.slice A248_0 (rd_L1 t245 x18_1).length c248_0,.slice A249_0 (rd_L1 t245 x24_2).length c249_0] 38 (0,0)) qp_ hb);replace HB:=b1_ hb;clear hb;obtain ⟨hcz22_0,hcz22_1,hfz22_0,hfz22_1⟩:=c2_ BK250) | ((with_reducible refine gA_ (f:=35) rfl ?_);refine gL_ (some 35) Tryz.func35 #[.agg #[.slice A248_0 (rd_L1 t245 x18_1).length c248_0,.slice A249_0 (rd_L1 t245 x24_2).length c249_0]] rfl qa_ ?_;(with_reducible refine (Z52.calls k2 _ _ (rd_L1 t245 x18_1) _ _ (rd_L1 t245 x24_2) t252 t255 _ ?side1 ?side2 ?side3 ?side4 A17.out).mono ?_);(case side1=>exact cw_ ((Kd.V_reads' HO_6.out).2.2));(case side2=>exact (Kd.V_reads' HO_6.out).2.1);(case side3=>repeat (first | exact (by repeat (first | (with_reducible exact HR249_0.out) | (with_reducible refine cA_ ?_ _) | (with_reducible refine cB_ ?_ _) | (with_reducible refine cC_ ?_) | exact HR249_0.out)) | (with_reducible first | refine cA_ ?_ _ | refine cB_ ?_ _ | refine cC_ ?_)));(case side4=>exact HC249_0.out);rintro e w23 ⟨v253,v256,rfl,ho0,ho1,hb⟩;refine ⟨_,rfl,?_⟩;replace HO_3:=A_ (Kd.N_mono (Kd.N_told (Kd.N_told (Kd.N_old (by (with_reducible repeat (first | apply Kd.N_alloc | apply Kd.N_drewN | apply Kd.N_drew));exact HO_3.out) hb) (Kd.R_base ho0)) (Kd.R_base ho1)) (fun _ h_=>h_.1));replace HO_4:=A_ (Kd.N_mono (Kd.N_told (Kd.N_told (Kd.N_old (by (with_reducible repeat (first | apply Kd.N_alloc | apply Kd.N_drewN | apply Kd.N_drew));exact HO_4.out) hb) (Kd.R_base ho0)) (Kd.R_base ho1)) (fun _ h_=>h_.1));replace HO_6:=A_ (Kd.V_mono (Kd.V_told (Kd.V_told (Kd.V_old (by (with_reducible repeat (first | apply Kd.V_alloc | apply Kd.V_drewN | apply Kd.V_drew));exact HO_6.out) hb) (Kd.R_base ho0)) (Kd.R_base ho1)) (fun _ h_=>h_.1));replace HO_16:=A_ (Kd.N_mono (Kd.N_told (Kd.N_told (Kd.N_old (by (with_reducible repeat (first | apply Kd.N_alloc | apply Kd.N_drewN | apply Kd.N_drew));exact HO_16.out) hb) (Kd.R_base ho0)) (Kd.R_base ho1)) (fun _ h_=>h_.1));replace HO_22:=A_ (Kd.N_mono (Kd.N_told (Kd.N_told (Kd.N_old (by (with_reducible repeat (first | apply Kd.N_alloc | apply Kd.N_drewN | apply Kd.N_drew));exact HO_22.out) hb) (Kd.R_base ho0)) (Kd.R_base ho1)) (fun _ h_=>h_.1));replace HL249_0:=A_ (Kd.V_mono (Kd.V_told (Kd.V_told (Kd.V_old (by (with_reducible repeat (first | apply Kd.V_alloc | apply Kd.V_drewN | apply Kd.V_drew));exact HL249_0.out) hb) (Kd.R_base ho0)) (Kd.R_base ho1)) (fun _ h_=>h_.1));have HO254:=A_ (rE_ (Kd.R_newM (M:=fun k_=>(w.heap.size≤k_)) ho0 (bF_ hB_) (fun k_ h_=>h_)) (bF_ hB_));have HO257:=A_ (rE_ (Kd.R_newM (M:=fun k_=>(w.heap.size≤k_)) ho1 (bF_ hB_) (fun k_ h_=>h_)) (bF_ hB_));replace HR249_0:=A_ (cD_ (by repeat (first | (with_reducible exact HR249_0.out) | (with_reducible refine cA_ ?_ _) | (with_reducible refine cB_ ?_ _) | (with_reducible refine cC_ ?_) | exact HR249_0.out)) hb);replace BK250:=bb_ BK250 hb;replace HB:=b1_ hb;clear hb ho0 ho1;obtain ⟨Ao24,co24,eo24⟩:=Kd.N_slice HO_3.out;subst eo24;obtain ⟨Ao25,co25,eo25⟩:=Kd.R_slice HO254.out;subst eo25;obtain ⟨Ao26,co26,eo26⟩:=Kd.R_slice HO257.out;subst eo26) | ((with_reducible refine gA_ (f:=34) rfl ?_);refine gL_ (some 36) Tryz.func34 #[.slice Ao24 x3_2.length co24,.agg #[.slice Ao25 t252.length co25,.slice Ao26 t255.length co26]] rfl qa_ ?_;(with_reducible refine (Z37.calls k2 (fun k_=>(((((w.heap.size≤k_)∧(some k_≠(.slice (some ad248) t245.length co8:Value).ownBlock∧(some k_≠(.slice (some ad248) t245.length co8:Value).ownBlock∧some k_≠(.slice (some ad248) t245.length co8:Value).ownBlock)))∧k_≠gb250)∧some k_≠(.slice Ao25 t252.length co25:Value).ownBlock)∧some k_≠(.slice Ao26 t255.length co26:Value).ownBlock)) _ _ x3_2 (fun k_=>some k_ = (.slice Ao25 t252.length co25:Value).ownBlock) _ _ t252 (fun k_=>some k_ = (.slice Ao26 t255.length co26:Value).ownBlock) _ _ t255 t258 _ (Kd.N_V (HO_3.out)) (Kd.R_V (Kd.R_tight rfl (Kd.R_types (Kd.R_apart' (Kd.R_apart' (Kd.R_apart' (Kd.R_apart' (HO254.out) (Kd.N_typed HO_3.out) (by decide)) (Kd.N_typed HO_4.out) (by decide)) (Kd.N_typed HO_16.out) (by decide)) (Kd.N_typed HO_22.out) (by decide)) BK250.out (by decide)))) (Kd.R_V (Kd.R_tight rfl (Kd.R_types (Kd.R_apart' (Kd.R_apart' (Kd.R_apart' (Kd.R_apart' (HO257.out) (Kd.N_typed HO_3.out) (by decide)) (Kd.N_typed HO_4.out) (by decide)) (Kd.N_typed HO_16.out) (by decide)) (Kd.N_typed HO_22.out) (by decide)) BK250.out (by decide)))) A18.out).mono ?_);rintro e w27 ⟨v259,rfl,ho0,hb⟩;refine ⟨_,rfl,?_⟩;replace HO_6:=A_ (Kd.V_elder' (by (with_reducible repeat (first | apply Kd.V_alloc | apply Kd.V_drewN | apply Kd.V_drew));exact HO_6.out) (Kd.N_base ho0) hb);replace HL249_0:=A_ (Kd.V_elder' (by (with_reducible repeat (first | apply Kd.V_alloc | apply Kd.V_drewN | apply Kd.V_drew));exact HL249_0.out) (Kd.N_base ho0) hb);have HO260:=A_ (Kd.N_lower (Kd.N_mono (ok':=fun k_=>(w.heap.size≤k_)∧some k_≠(.slice (some ad248) t245.length co8:Value).ownBlock∧some k_≠(.slice (some ad248) t245.length co8:Value).ownBlock∧some k_≠(.slice (some ad248) t245.length co8:Value).ownBlock∧k_≠gb250) ho0 (fun k_ hk_=>⟨Or.elim hk_ (fun hs_=>Or.elim hs_ (fun hs_=>hs_.1.1.1.1) (fun hs_=>Or.elim hs_ (fun hs_=>((Kd.R_types (Kd.R_apart' (Kd.R_apart' (Kd.R_apart' (Kd.R_apart' (HO254.out) (Kd.N_typed HO_3.out) (by decide)) (Kd.N_typed HO_4.out) (by decide)) (Kd.N_typed HO_16.out) (by decide)) (Kd.N_typed HO_22.out) (by decide)) BK250.out (by decide)).1 k_ hs_.symm).1.1.1.1.1.1) (fun hs_=>((Kd.R_types (Kd.R_apart' (Kd.R_apart' (Kd.R_apart' (Kd.R_apart' (HO257.out) (Kd.N_typed HO_3.out) (by decide)) (Kd.N_typed HO_4.out) (by decide)) (Kd.N_typed HO_16.out) (by decide)) (Kd.N_typed HO_22.out) (by decide)) BK250.out (by decide)).1 k_ hs_.symm).1.1.1.1.1.1))) (fun hn_=>(Nat.le_trans (bF_ hB_) hn_)),Or.elim hk_ (fun hs_=>Or.elim hs_ (fun hs_=>hs_.1.1.1.2.1) (fun hs_=>Or.elim hs_ (fun hs_=>((Kd.R_types (Kd.R_apart' (Kd.R_apart' (Kd.R_apart' (Kd.R_apart' (HO254.out) (Kd.N_typed HO_3.out) (by decide)) (Kd.N_typed HO_4.out) (by decide)) (Kd.N_typed HO_16.out) (by decide)) (Kd.N_typed HO_22.out) (by decide)) BK250.out (by decide)).1 k_ hs_.symm).1.1.1.2) (fun hs_=>((Kd.R_types (Kd.R_apart' (Kd.R_apart' (Kd.R_apart' (Kd.R_apart' (HO257.out) (Kd.N_typed HO_3.out) (by decide)) (Kd.N_typed HO_4.out) (by decide)) (Kd.N_typed HO_16.out) (by decide)) (Kd.N_typed HO_22.out) (by decide)) BK250.out (by decide)).1 k_ hs_.symm).1.1.1.2))) (fun hn_=>(Kd.fresh' (Kd.N_lt (by (with_reducible repeat (first | apply Kd.N_alloc | apply Kd.N_drewN | apply Kd.N_drew));exact HO_4.out)) k_ hn_)),Or.elim hk_ (fun hs_=>Or.elim hs_ (fun hs_=>hs_.1.1.1.2.2.1) (fun hs_=>Or.elim hs_ (fun hs_=>((Kd.R_types (Kd.R_apart' (Kd.R_apart' (Kd.R_apart' (Kd.R_apart' (HO254.out) (Kd.N_typed HO_3.out) (by decide)) (Kd.N_typed HO_4.out) (by decide)) (Kd.N_typed HO_16.out) (by decide)) (Kd.N_typed HO_22.out) (by decide)) BK250.out (by decide)).1 k_ hs_.symm).1.1.2) (fun hs_=>((Kd.R_types (Kd.R_apart' (Kd.R_apart' (Kd.R_apart' (Kd.R_apart' (HO257.out) (Kd.N_typed HO_3.out) (by decide)) (Kd.N_typed HO_4.out) (by decide)) (Kd.N_typed HO_16.out) (by decide)) (Kd.N_typed HO_22.out) (by decide)) BK250.out (by decide)).1 k_ hs_.symm).1.1.2))) (fun hn_=>(Kd.fresh' (Kd.N_lt (by (with_reducible repeat (first | apply Kd.N_alloc | apply Kd.N_drewN | apply Kd.N_drew));exact HO_16.out)) k_ hn_)),Or.elim hk_ (fun hs_=>Or.elim hs_ (fun hs_=>hs_.1.1.1.2.2.2) (fun hs_=>Or.elim hs_ (fun hs_=>((Kd.R_types (Kd.R_apart' (Kd.R_apart' (Kd.R_apart' (Kd.R_apart' (HO254.out) (Kd.N_typed HO_3.out) (by decide)) (Kd.N_typed HO_4.out) (by decide)) (Kd.N_typed HO_16.out) (by decide)) (Kd.N_typed HO_22.out) (by decide)) BK250.out (by decide)).1 k_ hs_.symm).1.2) (fun hs_=>((Kd.R_types (Kd.R_apart' (Kd.R_apart' (Kd.R_apart' (Kd.R_apart' (HO257.out) (Kd.N_typed HO_3.out) (by decide)) (Kd.N_typed HO_4.out) (by decide)) (Kd.N_typed HO_16.out) (by decide)) (Kd.N_typed HO_22.out) (by decide)) BK250.out (by decide)).1 k_ hs_.symm).1.2))) (fun hn_=>(Kd.fresh' (Kd.N_lt (by (with_reducible repeat (first | apply Kd.N_alloc | apply Kd.N_drewN | apply Kd.N_drew));exact HO_22.out)) k_ hn_)),Or.elim hk_ (fun hs_=>Or.elim hs_ (fun hs_=>hs_.1.1.2) (fun hs_=>Or.elim hs_ (fun hs_=>((Kd.R_types (Kd.R_apart' (Kd.R_apart' (Kd.R_apart' (Kd.R_apart' (HO254.out) (Kd.N_typed HO_3.out) (by decide)) (Kd.N_typed HO_4.out) (by decide)) (Kd.N_typed HO_16.out) (by decide)) (Kd.N_typed HO_22.out) (by decide)) BK250.out (by decide)).1 k_ hs_.symm).2) (fun hs_=>((Kd.R_types (Kd.R_apart' (Kd.R_apart' (Kd.R_apart' (Kd.R_apart' (HO257.out) (Kd.N_typed HO_3.out) (by decide)) (Kd.N_typed HO_4.out) (by decide)) (Kd.N_typed HO_16.out) (by decide)) (Kd.N_typed HO_22.out) (by decide)) BK250.out (by decide)).1 k_ hs_.symm).2))) (fun hn_=>(Kd.freshB (kk_ BK250) k_ hn_))⟩)) (bF_ hB_));replace HO_3:=A_ (Kd.N_elder' (by (with_reducible repeat (first | apply Kd.N_alloc | apply Kd.N_drewN | apply Kd.N_drew));exact HO_3.out) (Kd.N_base ho0) hb);replace HO_4:=A_ (Kd.N_elder' (by (with_reducible repeat (first | apply Kd.N_alloc | apply Kd.N_drewN | apply Kd.N_drew));exact HO_4.out) (Kd.N_base ho0) hb);replace HO_16:=A_ (Kd.N_elder' (by (with_reducible repeat (first | apply Kd.N_alloc | apply Kd.N_drewN | apply Kd.N_drew));exact HO_16.out) (Kd.N_base ho0) hb);replace HO_22:=A_ (Kd.N_elder' (by (with_reducible repeat (first | apply Kd.N_alloc | apply Kd.N_drewN | apply Kd.N_drew));exact HO_22.out) (Kd.N_base ho0) hb);replace HO254:=rb_ HO254 hb;replace HO257:=rb_ HO257 hb;replace HR249_0:=A_ (cD_ (by repeat (first | (with_reducible exact HR249_0.out) | (with_reducible refine cA_ ?_ _) | (with_reducible refine cB_ ?_ _) | (with_reducible refine cC_ ?_) | exact HR249_0.out)) hb);replace BK250:=bb_ BK250 hb;replace HB:=b1_ hb;clear hb ho0))
         go_roundg k2
         case measure=>have:=HK1.out;have:=HK2.out;omega
         case rel=>exact ⟨(t258),(wrap64 (x24_2 + 1)),qc_,H',⟨by have:=HK1.out;have:=HK2.out;omega⟩,⟨by (with_reducible repeat (first | apply Kd.N_alloc | apply Kd.N_drewN | apply Kd.N_drew));exact Kd.N_mono HO260.out (fun _ hk=>⟨hk.1,⟨hk.2.1,⟨hk.2.2.1,hk.2.2.2.1⟩⟩⟩)⟩,⟨by (with_reducible repeat (first | apply Kd.N_alloc | apply Kd.N_drewN | apply Kd.N_drew));exact Kd.N_mono HO_4.out (fun _ hk=>⟨hk.1.1.1.1.1,hk.2⟩)⟩,⟨by (with_reducible repeat (first | apply Kd.V_alloc | apply Kd.V_drewN | apply Kd.V_drew));exact Kd.V_mono HO_6.out (fun _ hk=>⟨hk.1.1.1.1.1,⟨hk.2,hk.1.1.1.1.2.2⟩⟩)⟩,⟨by (with_reducible repeat (first | apply Kd.N_alloc | apply Kd.N_drewN | apply Kd.N_drew));exact Kd.N_mono HO_16.out (fun _ hk=>⟨hk.1.1.1.1.1,hk.2⟩)⟩,⟨by (with_reducible repeat (first | apply Kd.N_alloc | apply Kd.N_drewN | apply Kd.N_drew));exact Kd.N_mono HO_22.out (fun _ hk=>⟨hk.1.1.1.1.1,hk.2⟩)⟩,⟨hB_⟩⟩
        ·replace c16:=Bool.eq_false_iff.mpr c16
         subst c16
         have H1:(Z13.l1 k2 x3_2 t245 (rd_L1 t245 x18_1) t245 (t245.length:Int) x18_1 t245 (t245.length:Int) (wrap64 (x24_2 + 1))) = some r:=by rw [if_neg (show ¬ (false = true) by decide)] at H;exact H
         clear H
         have H:=H1
         clear H1
         have H':=A_ H
         clear H
         have p249:0≤(x24_2:Int):=oB_ qe_
         have q249:x24_2 < (t245.length:Int):=oB_ qe_
         obtain ⟨ad249,A249_0,c249_0,e249,hx249_0,hl249_0,hi249_0⟩:=at_L1 (Kd.N_reads' HO_22.out).2.2 x24_2 p249 q249
         obtain rfl:ad248 = ad249:=(by injection e249)
         obtain ⟨ce249,hce249,hMe249,hcc249⟩:=Kd.N_get HO_22.out [] x24_2 p249 (by first | exact q249 | exact oB_ qe_ | (have e_:=(Kd.N_reads' HO_22.out).1;omega))
         obtain ⟨ua249_0,uc249_0,rfl,ul249_0,ge249_0⟩:=Kd.FK_slice_open hMe249
         have hv249_0:=hcc249 0 _ rfl
         rw [Nat.add_zero,show ((Kd.slice 3 (Kd.int .i64))).sz = 1 from rfl,Nat.mul_one] at hv249_0
         replace hv249_0:=Option.some.inj (hv249_0.symm.trans hx249_0)
         injection hv249_0 with hva_ hvn_ hvc_
         rw [hva_] at ge249_0
         rw [hvc_] at ul249_0
         have HL249_0:=A_ (show Kd.V (Kd.int .i64) 3 _ w.heap.size _ _ (rd_L1 t245 x24_2) from Kd.V_mk ul249_0 ge249_0)
         clear hva_ hvn_ hvc_ ge249_0 ul249_0
         clear hcc249 hce249
         have HR249_0:=A_ hi249_0
         have HC249_0:=A_ hl249_0
         clear hi249_0 hl249_0
         replace p249:=eq_true p249
         replace q249:=eq_true q249
         go_wp2_with (first | ((with_reducible refine gB_ (N:=9) rfl ?_);refine bx_ 9 #[.slice none 0 0,.slice none 0 0] 38 ?_;intro gb250 hg w28 hbox hb;replace HO_3:=A_ (Kd.N_below (Kd.N_elderB (by (with_reducible repeat (first | apply Kd.N_alloc | apply Kd.N_drewN | apply Kd.N_drew));exact HO_3.out) gb250 (Nat.le_of_eq hg.symm)) hb);replace HO_4:=A_ (Kd.N_below (Kd.N_elderB (by (with_reducible repeat (first | apply Kd.N_alloc | apply Kd.N_drewN | apply Kd.N_drew));exact HO_4.out) gb250 (Nat.le_of_eq hg.symm)) hb);replace HO_6:=A_ (Kd.V_below (Kd.V_elderB (by (with_reducible repeat (first | apply Kd.V_alloc | apply Kd.V_drewN | apply Kd.V_drew));exact HO_6.out) gb250 (Nat.le_of_eq hg.symm)) hb);replace HO_16:=A_ (Kd.N_below (Kd.N_elderB (by (with_reducible repeat (first | apply Kd.N_alloc | apply Kd.N_drewN | apply Kd.N_drew));exact HO_16.out) gb250 (Nat.le_of_eq hg.symm)) hb);replace HO_22:=A_ (Kd.N_below (Kd.N_elderB (by (with_reducible repeat (first | apply Kd.N_alloc | apply Kd.N_drewN | apply Kd.N_drew));exact HO_22.out) gb250 (Nat.le_of_eq hg.symm)) hb);replace HL249_0:=A_ (Kd.V_below (Kd.V_elderB (by (with_reducible repeat (first | apply Kd.V_alloc | apply Kd.V_drewN | apply Kd.V_drew));exact HL249_0.out) gb250 (Nat.le_of_eq hg.symm)) hb);replace HR249_0:=A_ (cD_ (by repeat (first | (with_reducible exact HR249_0.out) | (with_reducible refine cA_ ?_ _) | (with_reducible refine cB_ ?_ _) | (with_reducible refine cC_ ?_) | exact HR249_0.out)) hb);have BK250:=A_ hbox;have GW250:=gw_ w hg;have GE250:=GW250;replace HB:=b1_ hb;clear hb hbox hg;obtain ⟨hcz29_0,hcz29_1,hfz29_0,hfz29_1⟩:=c2_ BK250) | ((with_reducible refine gA_ (f:=33) rfl ?_);refine gL_ (some 32) Tryz.func33 #[.agg #[.slice A248_0 (rd_L1 t245 x18_1).length c248_0,.slice A249_0 (rd_L1 t245 x24_2).length c249_0]] rfl qa_ ?_;(with_reducible refine (Z32.calls k2 _ _ (rd_L1 t245 x18_1) _ _ (rd_L1 t245 x24_2) false _ ?side1 ?side2 ?side3 ?side4 A15.out).mono ?_);(case side1=>refine (Kd.V_reads' (e:=3) (base:=w.heap.size) (ok:=fun k_=>(((w.heap.size≤k_)∧(some k_≠(u3:Value).ownBlock∧some k_≠(.slice (some ad248) t245.length co8:Value).ownBlock))∧k_≠gb250)) (n:=(rd_L1 t245 x18_1).length) (c:=c248_0) ?_).2.2;exact (by (with_reducible repeat (first | apply Kd.V_alloc | apply Kd.V_drewN | apply Kd.V_drew));exact (Kd.V_mono (Kd.V_far (p:=⟨gb250,1,none⟩) (Kd.V_far (p:=⟨gb250,0,none⟩) (Kd.V_mono HO_6.out (fun k_ hk=>(⟨hk,hk.2⟩:_∧k_≠gb250))) (fun _ hk=>hk.2) (.slice A248_0 (rd_L1 t245 x18_1).length c248_0)) (fun _ hk=>hk.2) (.slice A249_0 (rd_L1 t245 x24_2).length c249_0)) (fun _ h_=>h_.1))));(case side2=>exact (Kd.V_reads' HO_6.out).2.1);(case side3=>repeat (first | exact ((Kd.V_reads' (by (with_reducible repeat (first | apply Kd.V_alloc | apply Kd.V_drewN | apply Kd.V_drew));exact (Kd.V_mono (Kd.V_far (p:=⟨gb250,1,none⟩) (Kd.V_far (p:=⟨gb250,0,none⟩) (Kd.V_mono HL249_0.out (fun k_ hk=>(⟨hk,hk.2⟩:_∧k_≠gb250))) (fun _ hk=>hk.2) (.slice A248_0 (rd_L1 t245 x18_1).length c248_0)) (fun _ hk=>hk.2) (.slice A249_0 (rd_L1 t245 x24_2).length c249_0)) (fun _ h_=>h_.1)))).2.2) | (with_reducible first | refine cA_ ?_ _ | refine cB_ ?_ _ | refine cC_ ?_)));(case side4=>exact HC249_0.out);rintro e w30 ⟨rfl,hb⟩;refine ⟨_,rfl,?_⟩;replace HO_3:=A_ (Kd.N_below (by (with_reducible repeat (first | apply Kd.N_alloc | apply Kd.N_drewN | apply Kd.N_drew));exact (Kd.N_mono (Kd.N_far (p:=⟨gb250,1,none⟩) (Kd.N_far (p:=⟨gb250,0,none⟩) (Kd.N_mono HO_3.out (fun k_ hk=>(⟨hk,hk.2⟩:_∧k_≠gb250))) (fun _ hk=>hk.2) (.slice A248_0 (rd_L1 t245 x18_1).length c248_0)) (fun _ hk=>hk.2) (.slice A249_0 (rd_L1 t245 x24_2).length c249_0)) (fun _ h_=>h_.1))) hb);replace HO_4:=A_ (Kd.N_below (by (with_reducible repeat (first | apply Kd.N_alloc | apply Kd.N_drewN | apply Kd.N_drew));exact (Kd.N_mono (Kd.N_far (p:=⟨gb250,1,none⟩) (Kd.N_far (p:=⟨gb250,0,none⟩) (Kd.N_mono HO_4.out (fun k_ hk=>(⟨hk,hk.2⟩:_∧k_≠gb250))) (fun _ hk=>hk.2) (.slice A248_0 (rd_L1 t245 x18_1).length c248_0)) (fun _ hk=>hk.2) (.slice A249_0 (rd_L1 t245 x24_2).length c249_0)) (fun _ h_=>h_.1))) hb);replace HO_6:=A_ (Kd.V_below (by (with_reducible repeat (first | apply Kd.V_alloc | apply Kd.V_drewN | apply Kd.V_drew));exact (Kd.V_mono (Kd.V_far (p:=⟨gb250,1,none⟩) (Kd.V_far (p:=⟨gb250,0,none⟩) (Kd.V_mono HO_6.out (fun k_ hk=>(⟨hk,hk.2⟩:_∧k_≠gb250))) (fun _ hk=>hk.2) (.slice A248_0 (rd_L1 t245 x18_1).length c248_0)) (fun _ hk=>hk.2) (.slice A249_0 (rd_L1 t245 x24_2).length c249_0)) (fun _ h_=>h_.1))) hb);replace HO_16:=A_ (Kd.N_below (by (with_reducible repeat (first | apply Kd.N_alloc | apply Kd.N_drewN | apply Kd.N_drew));exact (Kd.N_mono (Kd.N_far (p:=⟨gb250,1,none⟩) (Kd.N_far (p:=⟨gb250,0,none⟩) (Kd.N_mono HO_16.out (fun k_ hk=>(⟨hk,hk.2⟩:_∧k_≠gb250))) (fun _ hk=>hk.2) (.slice A248_0 (rd_L1 t245 x18_1).length c248_0)) (fun _ hk=>hk.2) (.slice A249_0 (rd_L1 t245 x24_2).length c249_0)) (fun _ h_=>h_.1))) hb);replace HO_22:=A_ (Kd.N_below (by (with_reducible repeat (first | apply Kd.N_alloc | apply Kd.N_drewN | apply Kd.N_drew));exact (Kd.N_mono (Kd.N_far (p:=⟨gb250,1,none⟩) (Kd.N_far (p:=⟨gb250,0,none⟩) (Kd.N_mono HO_22.out (fun k_ hk=>(⟨hk,hk.2⟩:_∧k_≠gb250))) (fun _ hk=>hk.2) (.slice A248_0 (rd_L1 t245 x18_1).length c248_0)) (fun _ hk=>hk.2) (.slice A249_0 (rd_L1 t245 x24_2).length c249_0)) (fun _ h_=>h_.1))) hb);replace HR249_0:=A_ (cD_ ((Kd.V_reads' (by (with_reducible repeat (first | apply Kd.V_alloc | apply Kd.V_drewN | apply Kd.V_drew));exact (Kd.V_mono (Kd.V_far (p:=⟨gb250,1,none⟩) (Kd.V_far (p:=⟨gb250,0,none⟩) (Kd.V_mono HL249_0.out (fun k_ hk=>(⟨hk,hk.2⟩:_∧k_≠gb250))) (fun _ hk=>hk.2) (.slice A248_0 (rd_L1 t245 x18_1).length c248_0)) (fun _ hk=>hk.2) (.slice A249_0 (rd_L1 t245 x24_2).length c249_0)) (fun _ h_=>h_.1)))).2.2) hb);replace HL249_0:=A_ (Kd.V_below (by (with_reducible repeat (first | apply Kd.V_alloc | apply Kd.V_drewN | apply Kd.V_drew));exact (Kd.V_mono (Kd.V_far (p:=⟨gb250,1,none⟩) (Kd.V_far (p:=⟨gb250,0,none⟩) (Kd.V_mono HL249_0.out (fun k_ hk=>(⟨hk,hk.2⟩:_∧k_≠gb250))) (fun _ hk=>hk.2) (.slice A248_0 (rd_L1 t245 x18_1).length c248_0)) (fun _ hk=>hk.2) (.slice A249_0 (rd_L1 t245 x24_2).length c249_0)) (fun _ h_=>h_.1))) hb);replace BK250:=A_ (kE_ (g:=gb250) (o:=.cells #[.slice A248_0 (rd_L1 t245 x18_1).length c248_0,.slice A249_0 (rd_L1 t245 x24_2).length c249_0] 38 (0,0)) qp_ hb);replace HB:=b1_ hb;clear hb))
         go_roundg k2
         case measure=>have:=HK1.out;have:=HK2.out;omega
         case rel=>exact ⟨(x3_2),(wrap64 (x24_2 + 1)),qc_,H',⟨by have:=HK1.out;have:=HK2.out;omega⟩,⟨by (with_reducible repeat (first | apply Kd.N_alloc | apply Kd.N_drewN | apply Kd.N_drew));exact Kd.N_mono HO_3.out (fun _ hk=>⟨hk.1.1,⟨hk.1.2.1,⟨hk.1.2.2.1,hk.1.2.2.2⟩⟩⟩)⟩,⟨by (with_reducible repeat (first | apply Kd.N_alloc | apply Kd.N_drewN | apply Kd.N_drew));exact Kd.N_mono HO_4.out (fun _ hk=>⟨hk.1.1,hk.1.2⟩)⟩,⟨by (with_reducible repeat (first | apply Kd.V_alloc | apply Kd.V_drewN | apply Kd.V_drew));exact Kd.V_mono HO_6.out (fun _ hk=>⟨hk.1.1,⟨hk.1.2.1,hk.1.2.2⟩⟩)⟩,⟨by (with_reducible repeat (first | apply Kd.N_alloc | apply Kd.N_drewN | apply Kd.N_drew));exact Kd.N_mono HO_16.out (fun _ hk=>⟨hk.1.1,hk.1.2⟩)⟩,⟨by (with_reducible repeat (first | apply Kd.N_alloc | apply Kd.N_drewN | apply Kd.N_drew));exact Kd.N_mono HO_22.out (fun _ hk=>⟨hk.1.1,hk.1.2⟩)⟩,⟨hB_⟩⟩
       ·rw [if_neg c12] at H
        have c12b0:=oD_ c12
        clear c12
        have H':=A_ H
        clear H
        go_wp2
        go_roundg k2
        case measure=>have:=HK1.out;have:=HK2.out;omega
        case rel=>exact ⟨(x3_2),(wrap64 (x18_1 + 1)),qc_,H',⟨by have:=HK1.out;have:=HK2.out;omega⟩,⟨by (with_reducible repeat (first | apply Kd.N_alloc | apply Kd.N_drewN | apply Kd.N_drew));exact Kd.N_mono HO_3.out (fun _ hk=>⟨hk.1,⟨hk.2.1,hk.2.2.1⟩⟩)⟩,⟨by (with_reducible repeat (first | apply Kd.N_alloc | apply Kd.N_drewN | apply Kd.N_drew));exact HO_4.out⟩,⟨by (with_reducible repeat (first | apply Kd.N_alloc | apply Kd.N_drewN | apply Kd.N_drew));exact HO_16.out⟩,⟨hB_⟩⟩
    ·rw [if_neg c9] at H
     have c9b0:=oD_ c9
     clear c9
     obtain rfl:=Option.some.inj H
     go_wp2
     go_ret
     exact ⟨_,qb_,by (with_reducible repeat (first | apply Kd.N_alloc | apply Kd.N_drewN | apply Kd.N_drew));exact Kd.N_mono HO_3.out (fun _ hk=>hk.1),hB_⟩
 ·replace c3:=Bool.eq_false_iff.mpr c3
  subst c3
  have H1:(some ([]:List (S38))) = some r:=by rw [if_neg (show ¬ (false = true) by decide)] at H;exact H
  clear H
  have H:=H1
  clear H1
  obtain rfl:=Option.some.inj H
  go_enter Tryz.func18,Tryz.ntmps18
  go_wp2_with (first | ((with_reducible refine gA_ (f:=31) rfl ?_);refine gL_ (some 11) Tryz.func31 #[.int .i64 a0,.int .i64 1,.int .i64 4] rfl qa_ ?_;(with_reducible refine (Z65.calls a0 1 4 false _ A2.out).mono ?_);rintro e w' ⟨rfl,⟨nd,rfl⟩⟩;refine ⟨_,rfl,?_⟩))
  go_ret
  exact ⟨_,qb_,by first | exact Kd.S_nil _ _ _ _ _ | exact Kd.N_nil _ _ _ _ _ | exact Kd.V_nil _ _ _ _ _ | exact Kd.Q_nil _ _ _ _ _ | exact Kd.R_nil _ _ _ _ _,hB_⟩
end Go.Proofs.YtoijcallajegfaaGreat.A
end
section
namespace Go.Proofs.YtoijcallajegfaaGreat.A
open Go.RowKit Go.Proofs.YtoijcallajegfaaGreatW.PrintWords Go.Proofs.YtoijcallajegfaaGreatW.PrintLast Go.Proofs.YtoijcallajegfaaGreatW.PrintMore
attribute [local go_sem] max2_int min2_int max_two min_two max_three min_three max_four min_four
set_option linter.unusedVariables false
set_option linter.unusedSimpArgs false
mutual
def Z59.l0:Nat→List Int→List Int→Int→Int→Option (List Int)
 | 0,_,_,_,_=>none
 | k + 1,x3,x8,x9,x10=>if x10 < x9 then (if 0≤x10 then (if x10 < (x8.length:Int) then (if x3.length < 17592186044416 then ((some (x3 ++ [0]:List Int)).bind fun y265=>(Z59.l1 k y265 (rd x8 x10) (wrap64 ((y265.length:Int) - 1)) x8 x9 x10)) else (none)) else (none)) else (none)) else (some x3)
def Z59.l1:Nat→List Int→Int→Int→List Int→Int→Int→Option (List Int)
 | 0,_,_,_,_,_,_=>none
 | k + 1,x3,x5,x6,x8,x9,x10=>if x6 > 0 then (if 0≤(wrap64 (x6 - 1)) then (if (wrap64 (x6 - 1)) < (x3.length:Int) then (if (rd x3 (wrap64 (x6 - 1))) < x5 then (if 0≤x6 then (if x6 < (x3.length:Int) then (Z59.l1 k (x3.set (x6:Int).toNat (rd x3 (wrap64 (x6 - 1)))) x5 (wrap64 (x6 - 1)) x8 x9 x10) else (none)) else (none)) else (if 0≤x6 then (if x6 < (x3.length:Int) then (Z59.l0 k (x3.set (x6:Int).toNat x5) x8 x9 (wrap64 (x10 + 1))) else (none)) else (none))) else (none)) else (none)) else (if 0≤x6 then (if x6 < (x3.length:Int) then (Z59.l0 k (x3.set (x6:Int).toNat x5) x8 x9 (wrap64 (x10 + 1))) else (none)) else (none))
end
def Z59.f (k:Nat) (l0:List Int):Option (List Int):=Z59.l0 k (([]:List Int)) l0 (l0.length:Int) 0
theorem Z59.mono_l:∀ k,(∀ y0 y1 y2 y3,LeO (Z59.l0 k y0 y1 y2 y3) (Z59.l0 (k + 1) y0 y1 y2 y3))∧(∀ y0 y1 y2 y3 y4 y5,LeO (Z59.l1 k y0 y1 y2 y3 y4 y5) (Z59.l1 (k + 1) y0 y1 y2 y3 y4 y5))
 | 0=>⟨fun _ _ _ _ r h=>by simp [Z59.l0] at h,fun _ _ _ _ _ _ r h=>by simp [Z59.l1] at h⟩
 | k + 1=>by
  obtain ⟨ih0,ih1⟩:=Z59.mono_l k
  refine ⟨?_,?_⟩
  ·intro y0 y1 y2 y3
   unfold Z59.l0
   repeat' first|exact ih0 _ _ _ _|exact ih1 _ _ _ _ _ _|exact lo_|refine LeO.ite ?_ ?_|refine LeO.bind ?_ (fun _=>?_)
  ·intro y0 y1 y2 y3 y4 y5
   unfold Z59.l1
   repeat' first|exact ih0 _ _ _ _|exact ih1 _ _ _ _ _ _|exact lo_|refine LeO.ite ?_ ?_|refine LeO.bind ?_ (fun _=>?_)
theorem Z59.mono:∀ a0 k,LeO (Z59.f k a0) (Z59.f (k + 1) a0):=by
 intro a0 k
 obtain ⟨ih0,ih1⟩:=Z59.mono_l k
 unfold Z59.f
 repeat' first|exact ih0 _ _ _ _|exact ih1 _ _ _ _ _ _|exact lo_|refine LeO.ite ?_ ?_|refine LeO.bind ?_ (fun _=>?_)
set_option maxHeartbeats 8000000 in
set_option maxRecDepth 100000 in
theorem Z59.calls (k:Nat) (A0:Option Addr) (c0:Nat) (l0:List Int) (r:List Int) (w:World) (hr0:Kd.C (Kd.int .i64) w A0 l0.length l0) (hc0:l0.length≤c0) (h:Z59.f k l0 = some r) :
  Calls Tryz.prog 80 #[.slice A0 l0.length c0] w fun e w'=>∃ v0_:Value,e = .returned (v0_)∧Kd.R (Kd.int .i64) 3 w' w.heap.size (fun _=>True) v0_ r∧Below w.heap.size w w':=by
 have HR0:=A_ hr0
 have HC0:=A_ hc0
 clear hr0 hc0
 have HB:=A_ (Below.refl w.heap.size w)
 have H:=h
 unfold Z59.f at H
 clear h
 obtain ⟨y261,hy261⟩:∃ y_:List Int,y_ = (([]:List Int)):=⟨_,rfl⟩
 replace H:(Z59.l0 k y261 l0 (l0.length:Int) 0) = some r:=by first | (rw [hy261];exact H) | exact H
 have Ny261:=A_ hy261
 clear hy261
 have H':=A_ H
 clear H
 go_enter Tryz.func80,Tryz.ntmps80
 go_wp2_with (first | ((with_reducible refine gB_ (N:=7) rfl ?_);refine Kd.R_lit (Kd.int .i64) _ 3 ?hg (N:=7) ?hd (xs:=([]:List Int)) (inner:=[]) (ok:=fun _=>True) (okp:=fun _=>True) ?hr ?hp (fun _ hk=>hk) trivial (Below.refl _ _) (nA_ _) (by simp) ?_;(case hd=>rfl);(case hg=>rfl);(case hr=>first | (go_simp;done) | (go_simp;rfl));(case hp=>exact (Reps.none _ _));intro v262 w2 ho3 hb hg_ hnew_;clear hg_ hnew_;(first | rw [← Ny261.out] at ho3 | (simp only [Int.reduceToNat] at ho3;rw [← Ny261.out] at ho3));have HO263:=rl_ w ho3;replace HB:=b1_ hb;clear hb ho3))
 go_loopg [3,10] k (fun kq v3 v10 w'=>∃ (x3_1:List Int) (x10_1:Int),v10 = .int .i64 x10_1∧Aside0 (Z59.l0 kq x3_1 l0 (l0.length:Int) x10_1 = some r)∧Aside0 (kq≤k)∧Aside0 (Kd.R (Kd.int .i64) 3 w' w.heap.size (fun _=>True) v3 x3_1)∧Aside0 (Below w.heap.size w w'))
 case atStart=>exact ⟨(y261),(0),qc_,H',⟨nA_ _⟩,⟨(rr_ HO263)⟩,⟨hB_⟩⟩
 case round =>
  clear H'
  obtain ⟨x3_1,x10_1,rfl,HA,HK1,HO_3,HB⟩:=hrel
  cases gk with
  | zero=>exact absurd HA.out (by simp [Z59.l0])
  | succ k1 =>
   have H:=HA.out
   clear HA
   simp only [Z59.l0] at H
   by_cases c4:x10_1 < (l0.length:Int)
   ·rw [if_pos c4] at H
    have c4b0:=oC_ c4
    clear c4
    have c5:=cp_ H
    replace H:=ca_ H
    have c5b0:=oC_ c5
    clear c5
    have c6:=cp_ H
    replace H:=ca_ H
    have c6b0:=oC_ c6
    clear c6
    have c7:=cp_ H
    replace H:=ca_ H
    have LMc7:=A_ c7
    clear c7
    obtain ⟨y265,hy265⟩:∃ y_:List Int,y_ = (x3_1 ++ [0]):=⟨_,rfl⟩
    replace H:(Z59.l1 k1 y265 (rd l0 x10_1) (wrap64 ((y265.length:Int) - 1)) l0 (l0.length:Int) x10_1) = some r:=by first | (rw [hy265];exact H) | exact H
    have Ny265:=A_ hy265
    clear hy265
    have H':=A_ H
    clear H
    have p264:0≤(x10_1:Int):=oB_ qe_
    have q264:x10_1 < (l0.length:Int):=oB_ qe_
    obtain ⟨ad264,e264,hx264_0⟩:=Kd.at_int HR0.out x10_1 p264 q264
    cases e264
    replace hx264_0:=(HB.out.cell (World.block_lt_of_cell? w _ hx264_0)).trans hx264_0
    replace p264:=eq_true p264
    replace q264:=eq_true q264
    go_wp2_with (first | ((with_reducible refine gate_builtin (b:=.append) (xs:=#[.tmp 14,.tmp 15]) rfl ?_);at_builtin;refine Kd.R_append (Kd.int .i64) (w0:=w) w.heap.size rfl (.tmp 14) (.tmp 15) 27 3 (.int .i64 0) 8 rfl Tryz.underlying27 info3 rfl (by decide) (by omega) u3 x3_1 0 [.int .i64 0] (fun _=>True) (fun _=>False) rfl rfl ?aP (fun _ hk=>hk.elim) ?aF ?aO ?aB ?aS ?aL ?_;(case aP=>exact rfl);(case aB=>exact hB_);(case aF=>exact (fun _ _=>trivial));(case aO=>exact (rr_ HO_3));(case aS=>exact (bF_ hB_));(case aL=>have:=LMc7.out;omega);intro v266 w8 ho hb hg hat;rw [← Ny265.out] at ho;replace HB:=A_ hb;have HO267:=A_ ho;clear HO_3;clear ho hb hg hat;obtain ⟨Ao9,co9,eo9⟩:=Kd.R_slice HO267.out;subst eo9))
    go_loopg [6] k1 (fun kq v6 w'=>∃ (x3_2:List Int) (x6_2:Int),v6 = .int .i64 x6_2∧Aside0 (Z59.l1 kq x3_2 (rd l0 x10_1) x6_2 l0 (l0.length:Int) x10_1 = some r)∧Aside0 (kq≤k1)∧Aside0 (Kd.R (Kd.int .i64) 3 w' w.heap.size (fun _=>True) (.slice Ao9 y265.length co9) x3_2)∧Aside0 (Below w.heap.size w w'))
    case atStart=>exact ⟨(y265),(wrap64 ((y265.length:Int) - 1)),qc_,H',⟨nA_ _⟩,⟨(rr_ HO267)⟩,⟨hB_⟩⟩
    case round =>
     clear H'
     obtain ⟨x3_2,x6_2,rfl,HA,HK2,HO_3,HB⟩:=hrel
     have hl3_2:=(Kd.R_reads' HO_3.out).1
     rw [hl3_2] at HO_3
     (try simp only [hl3_2])
     cases gk with
     | zero=>exact absurd HA.out (by simp [Z59.l1])
     | succ k2 =>
      have H:=HA.out
      clear HA
      simp only [Z59.l1] at H
      by_cases c10:x6_2 > 0
      ·rw [if_pos c10] at H
       have c10b0:decide (0 < x6_2) = true:=oC_ c10
       clear c10
       obtain ⟨ji11,hji11⟩:∃ j_:Int,(wrap64 (x6_2 - 1)) = j_:=⟨_,rfl⟩
       replace H:(if 0≤(ji11) then (if (ji11) < (x3_2.length:Int) then (if (rd x3_2 (ji11)) < (rd l0 x10_1) then (if 0≤x6_2 then (if x6_2 < (x3_2.length:Int) then (Z59.l1 k2 (x3_2.set (x6_2:Int).toNat (rd x3_2 (ji11))) (rd l0 x10_1) ji11 l0 (l0.length:Int) x10_1) else (none)) else (none)) else (if 0≤x6_2 then (if x6_2 < (x3_2.length:Int) then (Z59.l0 k2 (x3_2.set (x6_2:Int).toNat (rd l0 x10_1)) l0 (l0.length:Int) (wrap64 (x10_1 + 1))) else (none)) else (none))) else (none)) else (none)) = some r:=by first | (rw [hji11] at H;exact H) | (simp only [hji11] at H ⊢;exact H)
       have hji11w:(IntKind.i64.wrap (x6_2 - 1)) = ji11:=(i64_w _).trans hji11
       have c12:=cp_ H
       replace H:=ca_ H
       have c12b0:=oC_ c12
       clear c12
       have c13:=cp_ H
       replace H:=ca_ H
       have c13b0:=oC_ c13
       clear c13
       by_cases c14:(rd x3_2 (ji11)) < (rd l0 x10_1)
       ·rw [if_pos c14] at H
        have c14b0:=oC_ c14
        clear c14
        have c15:=cp_ H
        replace H:=ca_ H
        have c15b0:=oC_ c15
        clear c15
        have c16:=cp_ H
        replace H:=ca_ H
        have c16b0:=oC_ c16
        clear c16
        obtain ⟨y270,hy270⟩:∃ y_:List Int,y_ = (x3_2.set (x6_2:Int).toNat (rd x3_2 (ji11))):=⟨_,rfl⟩
        replace H:(Z59.l1 k2 y270 (rd l0 x10_1) ji11 l0 (l0.length:Int) x10_1) = some r:=by first | (rw [hy270];exact H) | exact H
        have Ny270:=A_ hy270
        clear hy270
        have H':=A_ H
        clear H
        have p268:0≤((ji11):Int):=oB_ qe_
        have q268:(ji11) < (x3_2.length:Int):=oB_ qe_
        obtain ⟨ad268,e268,hx268_0⟩:=Kd.at_int (Kd.R_reads' HO_3.out).2.2 (ji11) p268 q268
        cases e268
        replace p268:=eq_true p268
        replace q268:=eq_true q268
        have p269:0≤((ji11):Int):=oB_ qe_
        have q269:(ji11) < (x3_2.length:Int):=oB_ qe_
        obtain ⟨ad269,e269,hx269_0⟩:=Kd.at_int (Kd.R_reads' HO_3.out).2.2 (ji11) p269 q269
        obtain rfl:ad268 = ad269:=(by injection e269)
        replace p269:=eq_true p269
        replace q269:=eq_true q269
        have p17:0≤(x6_2:Int):=oB_ qe_
        have q17:(x6_2:Int) < ((x3_2.length:Int):Int):=oB_ qe_
        obtain ⟨go17,co17,eo17,gb17,gl17,cl17,HG17⟩:=Kd.R_form HO_3.out (by omega)
        (first | cases eo17 | (injection eo17 with ea_ en_ ec_;(first | subst ea_ | (injection ea_ with ea_;subst ea_));subst ec_;clear en_))
        have GB17:=A_ gb17
        have GG17:=A_ HG17
        clear gb17 gl17 HG17
        (first | simp only [add_plain] at hx268_0 | skip)
        (first | simp only [add_plain] at hx269_0 | skip)
        obtain ⟨hx17_0,hf17_0⟩:=Kd.R_celln 0 HO_3.out (x6_2:Int) p17 q17
        replace p17:=eq_true p17
        replace q17:=eq_true q17
        have HP18:=Kd.R_putg HO_3.out (x6_2:Int) (rd x3_2 (ji11))
        go_wp2_with (first | ((with_reducible refine gate_store (t:=3) (p:=38) rfl ?_);refine store_event (t:=3) (p:=38) (v:=?vo_w19) (w1:=(wr.setCell ⟨go17,(x6_2:Int).toNat,none⟩ (.int .i64 (rd x3_2 (ji11))))) ?hg ?ho ?hn ?hr ?_;(case ho=>rfl);(case hg=>rfl);(case hn=>rfl);(case hr=>first | (go_simp;done) | (go_simp;rfl));intro w19 hw;have hg:wr.grownBy w19 (some go17):=(by rw [hw];exact HP18.2);have hp_:Kd.R (Kd.int .i64) 3 w19 w.heap.size (fun _=>True) (.slice (some ⟨go17,0,none⟩) x3_2.length co9) y270:=(by rw [hw,Ny270.out];exact HP18.1);clear HP18;replace HO_3:=A_ (hp_);replace HB:=A_ ((by rw [hw];exact bD_ (HB.out) GB17.out:Below w.heap.size w w19));clear hg hw hp_))
        (try simp only [← hl3_2])
        go_roundg k2
        case measure=>have:=HK1.out;have:=HK2.out;omega
        case rel=>exact ⟨(y270),(ji11),(by first | rfl | (simp;done) | (simp only [← hji11] <;> (first | rfl | simp)) | (simp [*];done)),H',⟨by have:=HK1.out;have:=HK2.out;omega⟩,⟨by (try simp only [hl3_2]);(with_reducible repeat (first | apply rA_ | apply rB_ | apply rC_));exact HO_3.out⟩,⟨hB_⟩⟩
       ·rw [if_neg c14] at H
        have c14b0:=oD_ c14
        clear c14
        have c20:=cp_ H
        replace H:=ca_ H
        have c20b0:=oC_ c20
        clear c20
        have c21:=cp_ H
        replace H:=ca_ H
        have c21b0:=oC_ c21
        clear c21
        obtain ⟨y271,hy271⟩:∃ y_:List Int,y_ = (x3_2.set (x6_2:Int).toNat (rd l0 x10_1)):=⟨_,rfl⟩
        replace H:(Z59.l0 k2 y271 l0 (l0.length:Int) (wrap64 (x10_1 + 1))) = some r:=by first | (rw [hy271];exact H) | exact H
        have Ny271:=A_ hy271
        clear hy271
        have H':=A_ H
        clear H
        have p268:0≤((ji11):Int):=oB_ qe_
        have q268:(ji11) < (x3_2.length:Int):=oB_ qe_
        obtain ⟨ad268,e268,hx268_0⟩:=Kd.at_int (Kd.R_reads' HO_3.out).2.2 (ji11) p268 q268
        cases e268
        replace p268:=eq_true p268
        replace q268:=eq_true q268
        have p22:0≤(x6_2:Int):=oB_ qe_
        have q22:(x6_2:Int) < ((x3_2.length:Int):Int):=oB_ qe_
        obtain ⟨go22,co22,eo22,gb22,gl22,cl22,HG22⟩:=Kd.R_form HO_3.out (by omega)
        (first | cases eo22 | (injection eo22 with ea_ en_ ec_;(first | subst ea_ | (injection ea_ with ea_;subst ea_));subst ec_;clear en_))
        have GB22:=A_ gb22
        have GG22:=A_ HG22
        clear gb22 gl22 HG22
        (first | simp only [add_plain] at hx268_0 | skip)
        obtain ⟨hx22_0,hf22_0⟩:=Kd.R_celln 0 HO_3.out (x6_2:Int) p22 q22
        replace p22:=eq_true p22
        replace q22:=eq_true q22
        have HP23:=Kd.R_putg HO_3.out (x6_2:Int) (rd l0 x10_1)
        go_wp2_with (first | ((with_reducible refine gate_store (t:=3) (p:=44) rfl ?_);refine store_event (t:=3) (p:=44) (v:=?vo_w24) (w1:=(wr.setCell ⟨go22,(x6_2:Int).toNat,none⟩ (.int .i64 (rd l0 x10_1)))) ?hg ?ho ?hn ?hr ?_;(case ho=>rfl);(case hg=>rfl);(case hn=>rfl);(case hr=>first | (go_simp;done) | (go_simp;rfl));intro w24 hw;have hg:wr.grownBy w24 (some go22):=(by rw [hw];exact HP23.2);have hp_:Kd.R (Kd.int .i64) 3 w24 w.heap.size (fun _=>True) (.slice (some ⟨go22,0,none⟩) x3_2.length co9) y271:=(by rw [hw,Ny271.out];exact HP23.1);clear HP23;replace HO_3:=A_ (hp_);replace HB:=A_ ((by rw [hw];exact bD_ (HB.out) GB22.out:Below w.heap.size w w24));clear hg hw hp_))
        (try simp only [← hl3_2])
        go_roundg k2
        case measure=>have:=HK1.out;have:=HK2.out;omega
        case rel=>exact ⟨(y271),(wrap64 (x10_1 + 1)),qc_,H',⟨by have:=HK1.out;have:=HK2.out;omega⟩,⟨by (try simp only [hl3_2]);(with_reducible repeat (first | apply rA_ | apply rB_ | apply rC_));exact HO_3.out⟩,⟨hB_⟩⟩
      ·rw [if_neg c10] at H
       have c10b0:decide (0 < x6_2) = false:=oD_ c10
       clear c10
       have c25:=cp_ H
       replace H:=ca_ H
       have c25b0:=oC_ c25
       clear c25
       have c26:=cp_ H
       replace H:=ca_ H
       have c26b0:=oC_ c26
       clear c26
       obtain ⟨y272,hy272⟩:∃ y_:List Int,y_ = (x3_2.set (x6_2:Int).toNat (rd l0 x10_1)):=⟨_,rfl⟩
       replace H:(Z59.l0 k2 y272 l0 (l0.length:Int) (wrap64 (x10_1 + 1))) = some r:=by first | (rw [hy272];exact H) | exact H
       have Ny272:=A_ hy272
       clear hy272
       have H':=A_ H
       clear H
       have p27:0≤(x6_2:Int):=oB_ qe_
       have q27:(x6_2:Int) < ((x3_2.length:Int):Int):=oB_ qe_
       obtain ⟨go27,co27,eo27,gb27,gl27,cl27,HG27⟩:=Kd.R_form HO_3.out (by omega)
       (first | cases eo27 | (injection eo27 with ea_ en_ ec_;(first | subst ea_ | (injection ea_ with ea_;subst ea_));subst ec_;clear en_))
       have GB27:=A_ gb27
       have GG27:=A_ HG27
       clear gb27 gl27 HG27
       obtain ⟨hx27_0,hf27_0⟩:=Kd.R_celln 0 HO_3.out (x6_2:Int) p27 q27
       replace p27:=eq_true p27
       replace q27:=eq_true q27
       have HP28:=Kd.R_putg HO_3.out (x6_2:Int) (rd l0 x10_1)
       go_wp2_with (first | ((with_reducible refine gate_store (t:=3) (p:=44) rfl ?_);refine store_event (t:=3) (p:=44) (v:=?vo_w29) (w1:=(wr.setCell ⟨go27,(x6_2:Int).toNat,none⟩ (.int .i64 (rd l0 x10_1)))) ?hg ?ho ?hn ?hr ?_;(case ho=>rfl);(case hg=>rfl);(case hn=>rfl);(case hr=>first | (go_simp;done) | (go_simp;rfl));intro w29 hw;have hg:wr.grownBy w29 (some go27):=(by rw [hw];exact HP28.2);have hp_:Kd.R (Kd.int .i64) 3 w29 w.heap.size (fun _=>True) (.slice (some ⟨go27,0,none⟩) x3_2.length co9) y272:=(by rw [hw,Ny272.out];exact HP28.1);clear HP28;replace HO_3:=A_ (hp_);replace HB:=A_ ((by rw [hw];exact bD_ (HB.out) GB27.out:Below w.heap.size w w29));clear hg hw hp_))
       (try simp only [← hl3_2])
       go_roundg k2
       case measure=>have:=HK1.out;have:=HK2.out;omega
       case rel=>exact ⟨(y272),(wrap64 (x10_1 + 1)),qc_,H',⟨by have:=HK1.out;have:=HK2.out;omega⟩,⟨by (try simp only [hl3_2]);(with_reducible repeat (first | apply rA_ | apply rB_ | apply rC_));exact HO_3.out⟩,⟨hB_⟩⟩
   ·rw [if_neg c4] at H
    have c4b0:=oD_ c4
    clear c4
    obtain rfl:=Option.some.inj H
    go_wp2
    go_ret
    exact ⟨_,qb_,(rr_ HO_3),hB_⟩
end Go.Proofs.YtoijcallajegfaaGreat.A
end
section
namespace Go.Proofs.YtoijcallajegfaaGreat.A
open Go.RowKit Go.Proofs.YtoijcallajegfaaGreatW.PrintWords Go.Proofs.YtoijcallajegfaaGreatW.PrintLast Go.Proofs.YtoijcallajegfaaGreatW.PrintMore
attribute [local go_sem] max2_int min2_int max_two min_two max_three min_three max_four min_four
set_option linter.unusedVariables false
set_option linter.unusedSimpArgs false
def Z22.l0:Nat→List Int→List (List Int)→Int→Int→Option (List Int)
 | 0,_,_,_,_=>none
 | k + 1,x3,x7,x8,x9=>if x9 < x8 then (if 0≤x9 then (if x9 < (x7.length:Int) then (if x3.length < 17592186044416 then (Z22.l0 k (x3 ++ [((rd_L1 x7 x9).length:Int)]) x7 x8 (wrap64 (x9 + 1))) else (none)) else (none)) else (none)) else ((Z59.f k x3).bind fun t280=>(some t280))
def Z22.f (k:Nat) (l0:List (List Int)):Option (List Int):=Z22.l0 k (([]:List Int)) l0 (l0.length:Int) 0
theorem Z22.mono_l:∀ k,(∀ y0 y1 y2 y3,LeO (Z22.l0 k y0 y1 y2 y3) (Z22.l0 (k + 1) y0 y1 y2 y3))
 | 0=>fun _ _ _ _ r h=>by simp [Z22.l0] at h
 | k + 1=>by
  have ih0:=Z22.mono_l k
  ·intro y0 y1 y2 y3
   unfold Z22.l0
   repeat' first|exact ih0 _ _ _ _|exact Z59.mono _ _|exact lo_|refine LeO.ite ?_ ?_|refine LeO.bind ?_ (fun _=>?_)
theorem Z22.mono:∀ a0 k,LeO (Z22.f k a0) (Z22.f (k + 1) a0):=by
 intro a0 k
 have ih0:=Z22.mono_l k
 unfold Z22.f
 repeat' first|exact ih0 _ _ _ _|exact Z59.mono _ _|exact lo_|refine LeO.ite ?_ ?_|refine LeO.bind ?_ (fun _=>?_)
set_option maxHeartbeats 8000000 in
set_option maxRecDepth 100000 in
theorem Z22.calls (k:Nat) (A0:Option Addr) (c0:Nat) (l0:List (List Int)) (r:List Int) (w:World) (hr0:Kd.C (Kd.slice 3 (Kd.int .i64)) w A0 l0.length l0) (hc0:l0.length≤c0) (h:Z22.f k l0 = some r) :
  Calls Tryz.prog 51 #[.slice A0 l0.length c0] w fun e w'=>∃ v0_:Value,e = .returned (v0_)∧Kd.R (Kd.int .i64) 3 w' w.heap.size (fun _=>True) v0_ r∧Below w.heap.size w w':=by
 have HR0:=A_ hr0
 have HC0:=A_ hc0
 clear hr0 hc0
 have HB:=A_ (Below.refl w.heap.size w)
 have H:=h
 unfold Z22.f at H
 clear h
 obtain ⟨y273,hy273⟩:∃ y_:List Int,y_ = (([]:List Int)):=⟨_,rfl⟩
 replace H:(Z22.l0 k y273 l0 (l0.length:Int) 0) = some r:=by first | (rw [hy273];exact H) | exact H
 have Ny273:=A_ hy273
 clear hy273
 have H':=A_ H
 clear H
 go_enter Tryz.func51,Tryz.ntmps51
 go_wp2_with (first | ((with_reducible refine gB_ (N:=6) rfl ?_);refine Kd.R_lit (Kd.int .i64) _ 3 ?hg (N:=6) ?hd (xs:=([]:List Int)) (inner:=[]) (ok:=fun _=>True) (okp:=fun _=>True) ?hr ?hp (fun _ hk=>hk) trivial (Below.refl _ _) (nA_ _) (by simp) ?_;(case hd=>rfl);(case hg=>rfl);(case hr=>first | (go_simp;done) | (go_simp;rfl));(case hp=>exact (Reps.none _ _));intro v274 w2 ho3 hb hg_ hnew_;clear hg_ hnew_;(first | rw [← Ny273.out] at ho3 | (simp only [Int.reduceToNat] at ho3;rw [← Ny273.out] at ho3));have HO275:=rl_ w ho3;replace HB:=b1_ hb;clear hb ho3))
 go_loopg [3,9] k (fun kq v3 v9 w'=>∃ (x3_1:List Int) (x9_1:Int),v9 = .int .i64 x9_1∧Aside0 (Z22.l0 kq x3_1 l0 (l0.length:Int) x9_1 = some r)∧Aside0 (kq≤k)∧Aside0 (Kd.R (Kd.int .i64) 3 w' w.heap.size (fun _=>True) v3 x3_1)∧Aside0 (Below w.heap.size w w'))
 case atStart=>exact ⟨(y273),(0),qc_,H',⟨nA_ _⟩,⟨(rr_ HO275)⟩,⟨hB_⟩⟩
 case round =>
  clear H'
  obtain ⟨x3_1,x9_1,rfl,HA,HK1,HO_3,HB⟩:=hrel
  cases gk with
  | zero=>exact absurd HA.out (by simp [Z22.l0])
  | succ k1 =>
   have H:=HA.out
   clear HA
   simp only [Z22.l0] at H
   by_cases c4:x9_1 < (l0.length:Int)
   ·rw [if_pos c4] at H
    have c4b0:=oC_ c4
    clear c4
    have c5:=cp_ H
    replace H:=ca_ H
    have c5b0:=oC_ c5
    clear c5
    have c6:=cp_ H
    replace H:=ca_ H
    have c6b0:=oC_ c6
    clear c6
    have c7:=cp_ H
    replace H:=ca_ H
    have LMc7:=A_ c7
    clear c7
    obtain ⟨y277,hy277⟩:∃ y_:List Int,y_ = (x3_1 ++ [((rd_L1 l0 x9_1).length:Int)]):=⟨_,rfl⟩
    replace H:(Z22.l0 k1 y277 l0 (l0.length:Int) (wrap64 (x9_1 + 1))) = some r:=by first | (rw [hy277];exact H) | exact H
    have Ny277:=A_ hy277
    clear hy277
    have H':=A_ H
    clear H
    have p276:0≤(x9_1:Int):=oB_ qe_
    have q276:x9_1 < (l0.length:Int):=oB_ qe_
    obtain ⟨ad276,A276_0,c276_0,e276,hx276_0,hl276_0,hi276_0⟩:=at_L1 HR0.out x9_1 p276 q276
    cases e276
    replace hx276_0:=(HB.out.cell (World.block_lt_of_cell? w _ hx276_0)).trans hx276_0
    have HR276_0:=A_ hi276_0
    have HC276_0:=A_ hl276_0
    clear hi276_0 hl276_0
    replace p276:=eq_true p276
    replace q276:=eq_true q276
    go_wp2_with (first | ((with_reducible refine gate_builtin (b:=.append) (xs:=#[.tmp 13,.tmp 16]) rfl ?_);at_builtin;refine Kd.R_append (Kd.int .i64) (w0:=w) w.heap.size rfl (.tmp 13) (.tmp 16) 27 3 (.int .i64 0) 8 rfl Tryz.underlying27 info3 rfl (by decide) (by omega) u3 x3_1 ((rd_L1 l0 x9_1).length:Int) [.int .i64 ((rd_L1 l0 x9_1).length:Int)] (fun _=>True) (fun _=>False) rfl rfl ?aP (fun _ hk=>hk.elim) ?aF ?aO ?aB ?aS ?aL ?_;(case aP=>exact rfl);(case aB=>exact hB_);(case aF=>exact (fun _ _=>trivial));(case aO=>exact (rr_ HO_3));(case aS=>exact (bF_ hB_));(case aL=>have:=LMc7.out;omega);intro v278 w8 ho hb hg hat;rw [← Ny277.out] at ho;replace HB:=A_ hb;have HO279:=A_ ho;clear HO_3;clear ho hb hg hat))
    go_roundg k1
    case measure=>have:=HK1.out;omega
    case rel=>exact ⟨(y277),(wrap64 (x9_1 + 1)),qc_,H',⟨by have:=HK1.out;omega⟩,⟨(rr_ HO279)⟩,⟨hB_⟩⟩
   ·rw [if_neg c4] at H
    have c4b0:=oD_ c4
    clear c4
    obtain ⟨t280,A9,H⟩:=bi_ H
    obtain rfl:=Option.some.inj H
    obtain ⟨Ao10,co10,eo10⟩:=Kd.R_slice HO_3.out
    subst eo10
    go_wp2_with (first | ((with_reducible refine gA_ (f:=80) rfl ?_);refine gL_ (some 20) Tryz.func80 #[.slice Ao10 x3_1.length co10] rfl qa_ ?_;(with_reducible refine (Z59.calls k1 _ _ x3_1 t280 _ (cr_ HO_3) ((Kd.R_reads' HO_3.out).2.1) A9.out).mono ?_);rintro e w11 ⟨v281,rfl,ho0,hb⟩;refine ⟨_,rfl,?_⟩;have HO282:=A_ (rE_ (Kd.R_new' ho0 (Kd.R_lt (rr_ HO_3))) (bF_ hB_));replace HO_3:=A_ (Kd.R_elder' (rr_ HO_3) (Kd.R_base ho0) hb);replace HB:=b1_ hb;clear hb ho0))
    go_ret
    exact ⟨_,qb_,(rw_ (Kd.R_mono HO282.out (fun _ hk=>trivial))),hB_⟩
end Go.Proofs.YtoijcallajegfaaGreat.A
end
section
namespace Go.Proofs.YtoijcallajegfaaGreat.A
open Go.RowKit Go.Proofs.YtoijcallajegfaaGreatW.PrintWords Go.Proofs.YtoijcallajegfaaGreatW.PrintLast Go.Proofs.YtoijcallajegfaaGreatW.PrintMore
attribute [local go_sem] max2_int min2_int max_two min_two max_three min_three max_four min_four
set_option linter.unusedVariables false
set_option linter.unusedSimpArgs false
mutual
def Z49.l0:Nat→List Int→List (List Int)→List Bool→Int→Int→Option ((List (List Int)))
 | 0,_,_,_,_,_=>none
 | k + 1,x0,x3,x4,x16,x17=>if x17 < x16 then (Z49.l1 k x0 x3 x4 (([]:List Int)) x17 x16 x17) else (some x3)
def Z49.l1:Nat→List Int→List (List Int)→List Bool→List Int→Int→Int→Int→Option ((List (List Int)))
 | 0,_,_,_,_,_,_,_=>none
 | k + 1,x0,x3,x4,x6,x7,x16,x17=>if 0≤x7 then (if x7 < (x4.length:Int) then (if rdOf false x4 x7 = true then (if (x6.length:Int) > 0 then (if x3.length < 5864062014805 then (Z49.l0 k x0 (x3 ++ [x6]) x4 x16 (wrap64 (x17 + 1))) else (none)) else (Z49.l0 k x0 x3 x4 x16 (wrap64 (x17 + 1)))) else (if x6.length < 17592186044416 then (if x7 < (x0.length:Int) then (Z49.l1 k x0 x3 (x4.set (x7:Int).toNat true) (x6 ++ [x7]) (rd x0 x7) x16 x17) else (none)) else (none))) else (none)) else (none)
end
def Z49.f (k:Nat) (l0:List Int):Option ((List (List Int))):=(Z63.f k l0).bind fun t283=>(if t283 = true then (if 0≤(l0.length:Int) then (if ((l0.length:Int):Int).toNat≤281474976710656 then (Z49.l0 k l0 (([]:List (List Int))) (List.replicate ((l0.length:Int):Int).toNat false) (l0.length:Int) 0) else (none)) else (none)) else (some ([]:List (List Int))))
theorem Z49.mono_l:∀ k,(∀ y0 y1 y2 y3 y4,LeO (Z49.l0 k y0 y1 y2 y3 y4) (Z49.l0 (k + 1) y0 y1 y2 y3 y4))∧(∀ y0 y1 y2 y3 y4 y5 y6,LeO (Z49.l1 k y0 y1 y2 y3 y4 y5 y6) (Z49.l1 (k + 1) y0 y1 y2 y3 y4 y5 y6))
 | 0=>⟨fun _ _ _ _ _ r h=>by simp [Z49.l0] at h,fun _ _ _ _ _ _ _ r h=>by simp [Z49.l1] at h⟩
 | k + 1=>by
  obtain ⟨ih0,ih1⟩:=Z49.mono_l k
  refine ⟨?_,?_⟩
  ·intro y0 y1 y2 y3 y4
   unfold Z49.l0
   repeat' first|exact ih0 _ _ _ _ _|exact ih1 _ _ _ _ _ _ _|exact Z63.mono _ _|exact lo_|refine LeO.ite ?_ ?_|refine LeO.bind ?_ (fun _=>?_)
  ·intro y0 y1 y2 y3 y4 y5 y6
   unfold Z49.l1
   repeat' first|exact ih0 _ _ _ _ _|exact ih1 _ _ _ _ _ _ _|exact Z63.mono _ _|exact lo_|refine LeO.ite ?_ ?_|refine LeO.bind ?_ (fun _=>?_)
theorem Z49.mono:∀ a0 k,LeO (Z49.f k a0) (Z49.f (k + 1) a0):=by
 intro a0 k
 obtain ⟨ih0,ih1⟩:=Z49.mono_l k
 unfold Z49.f
 repeat' first|exact ih0 _ _ _ _ _|exact ih1 _ _ _ _ _ _ _|exact Z63.mono _ _|exact lo_|refine LeO.ite ?_ ?_|refine LeO.bind ?_ (fun _=>?_)
set_option maxHeartbeats 8000000 in
set_option maxRecDepth 100000 in
theorem Z49.calls (k:Nat) (A0:Option Addr) (c0:Nat) (l0:List Int) (r:List (List Int)) (w:World) (hr0:Kd.C (Kd.int .i64) w A0 l0.length l0) (hc0:l0.length≤c0) (h:Z49.f k l0 = some r) :
  Calls Tryz.prog 81 #[.slice A0 l0.length c0] w fun e w'=>∃ v0_:Value,e = .returned (v0_)∧Kd.S (Kd.slice 3 (Kd.int .i64)) 27 w' w.heap.size (fun _=>True) v0_ r∧Below w.heap.size w w':=by
 have HR0:=A_ hr0
 have HC0:=A_ hc0
 clear hr0 hc0
 have HB:=A_ (Below.refl w.heap.size w)
 have H:=h
 unfold Z49.f at H
 clear h
 obtain ⟨t283,A2,H⟩:=bi_ H
 by_cases c3:t283 = true
 ·subst c3
  rw [if_pos rfl] at H
  obtain ⟨y284,hy284⟩:∃ y_:List (List Int),y_ = (([]:List (List Int))):=⟨_,rfl⟩
  replace H:(if 0≤(l0.length:Int) then (if ((l0.length:Int):Int).toNat≤281474976710656 then (Z49.l0 k l0 y284 (List.replicate ((l0.length:Int):Int).toNat false) (l0.length:Int) 0) else (none)) else (none)) = some r:=by first | (rw [hy284];exact H) | exact H
  have Ny284:=A_ hy284
  clear hy284
  have c4:=cp_ H
  replace H:=ca_ H
  have c4b0:=eq_true c4
  have c4b1:=oC_ c4
  clear c4
  have c5:=cp_ H
  replace H:=ca_ H
  have c5b0:=eq_true c5
  have c5b1:=oC_ c5
  clear c5
  obtain ⟨y287,hy287⟩:∃ y_:List Bool,y_ = (List.replicate ((l0.length:Int):Int).toNat false):=⟨_,rfl⟩
  replace H:(Z49.l0 k l0 y284 y287 (l0.length:Int) 0) = some r:=by first | (rw [hy287];exact H) | exact H
  have Ny287:=A_ hy287
  clear hy287
  have H':=A_ H
  clear H
  go_enter Tryz.func81,Tryz.ntmps81
  go_wp2_with (first | ((with_reducible refine gA_ (f:=75) rfl ?_);refine gL_ (some 9) Tryz.func75 #[.slice A0 l0.length c0] rfl qa_ ?_;(with_reducible refine (Z63.calls k _ _ l0 true _ (cc_ HR0) HC0.out A2.out).mono ?_);rintro e w' ⟨rfl,⟨nd,rfl⟩⟩;refine ⟨_,rfl,?_⟩) | ((with_reducible refine gB_ (N:=11) rfl ?_);refine Kd.S_lit (Kd.slice 3 (Kd.int .i64)) _ 27 ?hg (N:=11) ?hd (xs:=([]:List (List Int))) (inner:=[]) (ok:=fun _=>True) (okp:=fun _=>True) ?hr ?hp (fun _ hk=>hk) trivial (Below.refl _ _) (nA_ _) (by simp) ?_;(case hd=>rfl);(case hg=>rfl);(case hr=>first | (go_simp;done) | (go_simp;rfl));(case hp=>exact (Reps.none _ _));intro v285 w6 ho7 hb hg_ hnew_;clear hg_ hnew_;(first | rw [← Ny284.out] at ho7 | (simp only [Int.reduceToNat] at ho7;rw [← Ny284.out] at ho7));have HO286:=A_ (Kd.S_lower ho7 (bF_ hB_));replace HB:=b1_ hb;clear hb ho7) | ((with_reducible refine gB_ (N:=14) rfl ?_);refine Kd.R_make Kd.bool _ 4 rfl (N:=14) rfl 92 _ _ rfl (l0.length:Int) rfl rfl Tryz.underlying92 (.bool false) 1 info4 rfl (by decide) (by omega) false (ok:=fun _=>True) (okp:=fun _=>True) rfl (fun _ hk=>hk) trivial (oB_ qe_) (Nat.le_trans (Nat.mul_le_mul_right _ (oB_ qe_:(l0.length:Int).toNat≤281474976710656)) (by omega)) (Below.refl _ _) (nA_ _) ?_;intro v288 w8 ho9 hb hg_ hnew_;clear hg_ hnew_;(first | rw [← Ny287.out] at ho9 | (simp only [Int.reduceToNat] at ho9;rw [← Ny287.out] at ho9));replace HO286:=sb_ HO286 hb;have HO289:=rl_ w ho9;replace HB:=b1_ hb;clear hb ho9))
  go_loopg [3,17] k (fun kq v3 v17 w'=>∃ (x3_1:List (List Int)) (x4_1:List Bool) (x17_1:Int),v17 = .int .i64 x17_1∧Aside0 (Z49.l0 kq l0 x3_1 x4_1 (l0.length:Int) x17_1 = some r)∧Aside0 (kq≤k)∧Aside0 (Kd.S (Kd.slice 3 (Kd.int .i64)) 27 w' w.heap.size (fun _=>True) v3 x3_1)∧Aside0 (Kd.R Kd.bool 4 w' w.heap.size (fun _=>True) v288 x4_1)∧Aside0 (Below w.heap.size w w'))
  case atStart=>exact ⟨(y284),(y287),(0),qc_,H',⟨nA_ _⟩,⟨(ss_ HO286)⟩,⟨(rr_ HO289)⟩,⟨hB_⟩⟩
  case round =>
   clear H'
   obtain ⟨x3_1,x4_1,x17_1,rfl,HA,HK1,HO_3,HO_4,HB⟩:=hrel
   cases gk with
   | zero=>exact absurd HA.out (by simp [Z49.l0])
   | succ k1 =>
    have H:=HA.out
    clear HA
    simp only [Z49.l0] at H
    by_cases c10:x17_1 < (l0.length:Int)
    ·rw [if_pos c10] at H
     have c10b0:=oC_ c10
     clear c10
     obtain ⟨y290,hy290⟩:∃ y_:List Int,y_ = (([]:List Int)):=⟨_,rfl⟩
     replace H:(Z49.l1 k1 l0 x3_1 x4_1 y290 x17_1 (l0.length:Int) x17_1) = some r:=by first | (rw [hy290];exact H) | exact H
     have Ny290:=A_ hy290
     clear hy290
     have H':=A_ H
     clear H
     go_wp2_with (first | ((with_reducible refine gB_ (N:=20) rfl ?_);refine Kd.R_lit (Kd.int .i64) _ 3 ?hg (N:=20) ?hd (xs:=([]:List Int)) (inner:=[]) (ok:=fun _=>True) (okp:=fun _=>True) ?hr ?hp (fun _ hk=>hk) trivial (Below.refl _ _) (nA_ _) (by simp) ?_;(case hd=>rfl);(case hg=>rfl);(case hr=>first | (go_simp;done) | (go_simp;rfl));(case hp=>exact (Reps.none _ _));intro v291 w11 ho12 hb hg_ hnew_;clear hg_ hnew_;(first | rw [← Ny290.out] at ho12 | (simp only [Int.reduceToNat] at ho12;rw [← Ny290.out] at ho12));replace HO_3:=A_ (Kd.S_elder' (ss_ HO_3) (Kd.R_base ho12) hb);replace HO_4:=rb_ HO_4 hb;have HO292:=rl_ w ho12;replace HB:=b1_ hb;clear hb ho12))
     go_loopg [6,7] k1 (fun kq v6 v7 w'=>∃ (x4_2:List Bool) (x6_2:List Int) (x7_2:Int),v7 = .int .i64 x7_2∧Aside0 (Z49.l1 kq l0 x3_1 x4_2 x6_2 x7_2 (l0.length:Int) x17_1 = some r)∧Aside0 (kq≤k1)∧Aside0 (Kd.S (Kd.slice 3 (Kd.int .i64)) 27 w' w.heap.size (fun k_=>some k_≠(v6:Value).ownBlock) u3 x3_1)∧Aside0 (Kd.R Kd.bool 4 w' w.heap.size (fun _=>True) v288 x4_2)∧Aside0 (Kd.R (Kd.int .i64) 3 w' w.heap.size (fun _=>True) v6 x6_2)∧Aside0 (Below w.heap.size w w'))
     case atStart=>exact ⟨(x4_1),(y290),(x17_1),qc_,H',⟨nA_ _⟩,⟨(sw_ (Kd.S_mono HO_3.out (fun _ hk=>hk.2)))⟩,⟨(rr_ HO_4)⟩,⟨(rr_ HO292)⟩,⟨hB_⟩⟩
     case round =>
      clear H'
      obtain ⟨x4_2,x6_2,x7_2,rfl,HA,HK2,HO_3,HO_4,HO_6,HB⟩:=hrel
      cases gk with
      | zero=>exact absurd HA.out (by simp [Z49.l1])
      | succ k2 =>
       have H:=HA.out
       clear HA
       simp only [Z49.l1] at H
       have c13:=cp_ H
       replace H:=ca_ H
       have c13b0:=oC_ c13
       clear c13
       have c14:=cp_ H
       replace H:=ca_ H
       have c14b0:=oC_ c14
       clear c14
       obtain ⟨bq15,hbq15⟩:∃ b_:Bool,b_ = (rdOf false x4_2 x7_2):=⟨_,rfl⟩
       replace H:(if bq15 = true then (if (x6_2.length:Int) > 0 then (if x3_1.length < 5864062014805 then (Z49.l0 k2 l0 (x3_1 ++ [x6_2]) x4_2 (l0.length:Int) (wrap64 (x17_1 + 1))) else (none)) else (Z49.l0 k2 l0 x3_1 x4_2 (l0.length:Int) (wrap64 (x17_1 + 1)))) else (if x6_2.length < 17592186044416 then (if x7_2 < (l0.length:Int) then (Z49.l1 k2 l0 x3_1 (x4_2.set (x7_2:Int).toNat true) (x6_2 ++ [x7_2]) (rd l0 x7_2) (l0.length:Int) x17_1) else (none)) else (none))) = some r:=by rw [← hbq15] at H;exact H
       have Nbq15:=A_ hbq15
       clear hbq15
       by_cases c16:bq15 = true
       ·subst c16
        rw [if_pos rfl] at H
        by_cases c17:(x6_2.length:Int) > 0
        ·rw [if_pos c17] at H
         have c17b0:decide (0 < (x6_2.length:Int)) = true:=oC_ c17
         have c17b1:decide (0 < x6_2.length) = true:=oC_ (by omega)
         clear c17
         have c18:=cp_ H
         replace H:=ca_ H
         have LMc18:=A_ c18
         clear c18
         obtain ⟨y294,hy294⟩:∃ y_:List (List Int),y_ = (x3_1 ++ [x6_2]):=⟨_,rfl⟩
         replace H:(Z49.l0 k2 l0 y294 x4_2 (l0.length:Int) (wrap64 (x17_1 + 1))) = some r:=by first | (rw [hy294];exact H) | exact H
         have Ny294:=A_ hy294
         clear hy294
         have H':=A_ H
         clear H
         obtain ⟨Ao19,co19,eo19⟩:=Kd.R_slice HO_4.out
         subst eo19
         have p293:0≤(x7_2:Int):=oB_ qe_
         have q293:x7_2 < (x4_2.length:Int):=oB_ qe_
         obtain ⟨ad293,e293,hx293_0⟩:=Kd.at_bool (Kd.R_reads' HO_4.out).2.2 x7_2 p293 q293
         (try rw [← Nbq15.out] at hx293_0)
         cases e293
         replace p293:=eq_true p293
         replace q293:=eq_true q293
         obtain ⟨Ao20,co20,eo20⟩:=Kd.R_slice HO_6.out
         subst eo20
         go_wp2_with (first | ((with_reducible refine gate_builtin (b:=.append) (xs:=#[.tmp 41,.tmp 43]) rfl ?_);at_builtin;refine Kd.S_append (Kd.slice 3 (Kd.int .i64)) (w0:=w) w.heap.size rfl (.tmp 41) (.tmp 43) 22 27 (.slice none 0 0) 24 rfl Tryz.underlying22 info27 rfl (by decide) (by omega) u3 x3_1 x6_2 [.slice Ao20 x6_2.length co20] (fun _=>True) (fun k_=>some k_ = (.slice Ao20 x6_2.length co20:Value).ownBlock) rfl rfl ?aP (fun k_ hk_=>((Kd.R_mono (ok':=fun k_=>((fun _=>True)) k_∧some k_≠(u3:Value).ownBlock) (Kd.R_apart' (HO_6.out) (Kd.S_typed HO_3.out) (by decide)) (fun k_ hk=>⟨trivial,hk.2⟩))).1 k_ hk_.symm) ?aF ?aO ?aB ?aS ?aL ?_;(case aP=>exact Kd.M_row (Kd.R_mono (Kd.R_tight rfl (Kd.R_mono (ok':=fun k_=>((fun _=>True)) k_∧some k_≠(u3:Value).ownBlock) (Kd.R_apart' (HO_6.out) (Kd.S_typed HO_3.out) (by decide)) (fun k_ hk=>⟨trivial,hk.2⟩))) (fun _ h_=>h_)));(case aB=>exact hB_);(case aF=>exact (fun _ _=>trivial));(case aO=>exact (sw_ (Kd.S_mono HO_3.out (fun k_ hk=>⟨trivial,fun e_=>hk e_⟩))));(case aS=>exact (bF_ hB_));(case aL=>have:=LMc18.out;omega);intro v295 w21 ho hb hg hat;rw [← Ny294.out] at ho;replace HO_4:=A_ (Kd.R_over' (rr_ HO_4) (Kd.S_typed (ss_ HO_3)) (by decide) hg);replace HB:=A_ hb;have HO296:=A_ ho;clear HO_3 HO_6;clear ho hb hg hat))
         go_roundg k2
         case measure=>have:=HK1.out;have:=HK2.out;omega
         case rel=>exact ⟨(y294),(x4_2),(wrap64 (x17_1 + 1)),qc_,H',⟨by have:=HK1.out;have:=HK2.out;omega⟩,⟨(ss_ HO296)⟩,⟨(rr_ HO_4)⟩,⟨hB_⟩⟩
        ·rw [if_neg c17] at H
         have c17b0:decide (0 < (x6_2.length:Int)) = false:=oD_ c17
         have c17b1:decide (0 < x6_2.length) = false:=oD_ (by omega)
         clear c17
         have H':=A_ H
         clear H
         obtain ⟨Ao22,co22,eo22⟩:=Kd.R_slice HO_4.out
         subst eo22
         have p293:0≤(x7_2:Int):=oB_ qe_
         have q293:x7_2 < (x4_2.length:Int):=oB_ qe_
         obtain ⟨ad293,e293,hx293_0⟩:=Kd.at_bool (Kd.R_reads' HO_4.out).2.2 x7_2 p293 q293
         (try rw [← Nbq15.out] at hx293_0)
         cases e293
         replace p293:=eq_true p293
         replace q293:=eq_true q293
         obtain ⟨Ao23,co23,eo23⟩:=Kd.R_slice HO_6.out
         subst eo23
         go_wp2
         go_roundg k2
         case measure=>have:=HK1.out;have:=HK2.out;omega
         case rel=>exact ⟨(x3_1),(x4_2),(wrap64 (x17_1 + 1)),qc_,H',⟨by have:=HK1.out;have:=HK2.out;omega⟩,⟨(sw_ (Kd.S_mono HO_3.out (fun _ hk=>trivial)))⟩,⟨(rr_ HO_4)⟩,⟨hB_⟩⟩
       ·replace c16:=Bool.eq_false_iff.mpr c16
        subst c16
        have H1:(if x6_2.length < 17592186044416 then (if x7_2 < (l0.length:Int) then (Z49.l1 k2 l0 x3_1 (x4_2.set (x7_2:Int).toNat true) (x6_2 ++ [x7_2]) (rd l0 x7_2) (l0.length:Int) x17_1) else (none)) else (none)) = some r:=by rw [if_neg (show ¬ (false = true) by decide)] at H;exact H
        clear H
        have H:=H1
        clear H1
        obtain ⟨y297,hy297⟩:∃ y_:List Bool,y_ = (x4_2.set (x7_2:Int).toNat true):=⟨_,rfl⟩
        replace H:(if x6_2.length < 17592186044416 then (if x7_2 < (l0.length:Int) then (Z49.l1 k2 l0 x3_1 y297 (x6_2 ++ [x7_2]) (rd l0 x7_2) (l0.length:Int) x17_1) else (none)) else (none)) = some r:=by first | (rw [hy297];exact H) | exact H
        have Ny297:=A_ hy297
        clear hy297
        have c25:=cp_ H
        replace H:=ca_ H
        have LMc25:=A_ c25
        clear c25
        obtain ⟨y298,hy298⟩:∃ y_:List Int,y_ = (x6_2 ++ [x7_2]):=⟨_,rfl⟩
        replace H:(if x7_2 < (l0.length:Int) then (Z49.l1 k2 l0 x3_1 y297 y298 (rd l0 x7_2) (l0.length:Int) x17_1) else (none)) = some r:=by first | (rw [hy298];exact H) | exact H
        have Ny298:=A_ hy298
        clear hy298
        have c26:=cp_ H
        replace H:=ca_ H
        have c26b0:=oC_ c26
        clear c26
        have H':=A_ H
        clear H
        obtain ⟨Ao27,co27,eo27⟩:=Kd.R_slice HO_4.out
        subst eo27
        have p293:0≤(x7_2:Int):=oB_ qe_
        have q293:x7_2 < (x4_2.length:Int):=oB_ qe_
        obtain ⟨ad293,e293,hx293_0⟩:=Kd.at_bool (Kd.R_reads' HO_4.out).2.2 x7_2 p293 q293
        (try rw [← Nbq15.out] at hx293_0)
        cases e293
        replace p293:=eq_true p293
        replace q293:=eq_true q293
        have p24:0≤(x7_2:Int):=oB_ qe_
        have q24:(x7_2:Int) < ((x4_2.length:Int):Int):=oB_ qe_
        obtain ⟨go24,co24,eo24,gb24,gl24,cl24,HG24⟩:=Kd.R_form HO_4.out (by omega)
        (first | cases eo24 | (injection eo24 with ea_ en_ ec_;(first | subst ea_ | (injection ea_ with ea_;subst ea_));subst ec_;clear en_))
        have GB24:=A_ gb24
        have GG24:=A_ HG24
        clear gb24 gl24 HG24
        (first | simp only [add_plain] at hx293_0 | skip)
        obtain ⟨hx24_0,hf24_0⟩:=Kd.R_celln false HO_4.out (x7_2:Int) p24 q24
        replace p24:=eq_true p24
        replace q24:=eq_true q24
        have HP28:=Kd.R_putg HO_4.out (x7_2:Int) true
        go_wp2_with (first | ((with_reducible refine gate_store (t:=4) (p:=33) rfl ?_);refine store_event (t:=4) (p:=33) (v:=?vo_w29) (w1:=(wr.setCell ⟨go24,(x7_2:Int).toNat,none⟩ (.bool true))) ?hg ?ho ?hn ?hr ?_;(case ho=>rfl);(case hg=>rfl);(case hn=>rfl);(case hr=>first | (go_simp;done) | (go_simp;rfl));intro w29 hw;have hg:wr.grownBy w29 (some go24):=(by rw [hw];exact HP28.2);have hp_:Kd.R Kd.bool 4 w29 w.heap.size (fun _=>True) (.slice (some ⟨go24,0,none⟩) x4_2.length co27) y297:=(by rw [hw,Ny297.out];exact HP28.1);clear HP28;replace HO_3:=A_ (Kd.S_over' (v:=(.slice (some ⟨go24,0,none⟩) x4_2.length co27)) (ss_ HO_3) (Kd.R_typed HO_4.out) (by decide) hg);replace HO_6:=A_ (Kd.R_over' (v:=(.slice (some ⟨go24,0,none⟩) x4_2.length co27)) (rr_ HO_6) (Kd.R_typed HO_4.out) (by decide) hg);replace HO_4:=A_ (hp_);replace HB:=A_ ((by rw [hw];exact bD_ (HB.out) GB24.out:Below w.heap.size w w29));clear hg hw hp_) | ((with_reducible refine gate_builtin (b:=.append) (xs:=#[.tmp 34,.tmp 36]) rfl ?_);at_builtin;refine Kd.R_append (Kd.int .i64) (w0:=w) w.heap.size rfl (.tmp 34) (.tmp 36) 27 3 (.int .i64 0) 8 rfl Tryz.underlying27 info3 rfl (by decide) (by omega) u6 x6_2 x7_2 [.int .i64 x7_2] (fun _=>True) (fun _=>False) rfl rfl ?aP (fun _ hk=>hk.elim) ?aF ?aO ?aB ?aS ?aL ?_;(case aP=>exact rfl);(case aB=>exact hB_);(case aF=>exact (fun _ _=>trivial));(case aO=>exact (rr_ HO_6));(case aS=>exact (bF_ hB_));(case aL=>have:=LMc25.out;omega);intro v299 w30 ho hb hg hat;rw [← Ny298.out] at ho;replace HO_3:=A_ (Kd.S_after (ok:=(fun _=>True)) (sw_ (Kd.S_mono HO_3.out (fun _ hk=>⟨trivial,hk⟩))) hg hat);replace HO_4:=A_ (Kd.R_over' (rr_ HO_4) (Kd.R_typed (rr_ HO_6)) (by decide) hg);replace HB:=A_ hb;have HO300:=A_ ho;clear HO_6;clear ho hb hg hat;have p301:0≤(x7_2:Int):=oB_ qe_;have q301:x7_2 < (l0.length:Int):=oB_ qe_;obtain ⟨ad301,e301,hx301_0⟩:=Kd.at_int HR0.out x7_2 p301 q301;cases e301;replace hx301_0:=(HB.out.cell (World.block_lt_of_cell? w _ hx301_0)).trans hx301_0;replace p301:=eq_true p301;replace q301:=eq_true q301))
        go_roundg k2
        case measure=>have:=HK1.out;have:=HK2.out;omega
        case rel=>exact ⟨(y297),(y298),(rd l0 x7_2),qc_,H',⟨by have:=HK1.out;have:=HK2.out;omega⟩,⟨(sw_ (Kd.S_mono HO_3.out (fun _ hk=>hk.2)))⟩,⟨(rr_ HO_4)⟩,⟨(rr_ HO300)⟩,⟨hB_⟩⟩
    ·rw [if_neg c10] at H
     have c10b0:=oD_ c10
     clear c10
     obtain rfl:=Option.some.inj H
     go_wp2
     go_ret
     exact ⟨_,qb_,(ss_ HO_3),hB_⟩
 ·replace c3:=Bool.eq_false_iff.mpr c3
  subst c3
  have H1:(some ([]:List (List Int))) = some r:=by rw [if_neg (show ¬ (false = true) by decide)] at H;exact H
  clear H
  have H:=H1
  clear H1
  obtain rfl:=Option.some.inj H
  go_enter Tryz.func81,Tryz.ntmps81
  go_wp2_with (first | ((with_reducible refine gA_ (f:=75) rfl ?_);refine gL_ (some 9) Tryz.func75 #[.slice A0 l0.length c0] rfl qa_ ?_;(with_reducible refine (Z63.calls k _ _ l0 false _ (cc_ HR0) HC0.out A2.out).mono ?_);rintro e w' ⟨rfl,⟨nd,rfl⟩⟩;refine ⟨_,rfl,?_⟩))
  go_ret
  exact ⟨_,qb_,by first | exact Kd.S_nil _ _ _ _ _ | exact Kd.N_nil _ _ _ _ _ | exact Kd.V_nil _ _ _ _ _ | exact Kd.Q_nil _ _ _ _ _ | exact Kd.R_nil _ _ _ _ _,hB_⟩
end Go.Proofs.YtoijcallajegfaaGreat.A
end
section
namespace Go.Proofs.YtoijcallajegfaaGreat.A
open Go.RowKit Go.Proofs.YtoijcallajegfaaGreatW.PrintWords Go.Proofs.YtoijcallajegfaaGreatW.PrintLast Go.Proofs.YtoijcallajegfaaGreatW.PrintMore
attribute [local go_sem] max2_int min2_int max_two min_two max_three min_three max_four min_four
set_option linter.unusedVariables false
set_option linter.unusedSimpArgs false
def Z57.l0:Nat→List Int→List Int→List Int→Int→Int→Option (List Int)
 | 0,_,_,_,_,_=>none
 | k + 1,x1,x5,x9,x10,x11=>if x11 < x10 then (if 0≤x11 then (if x11 < (x9.length:Int) then (if 0≤(rd x9 x11) then (if (rd x9 x11) < (x1.length:Int) then (if x5.length < 17592186044416 then (Z57.l0 k x1 (x5 ++ [rd x1 (rd x9 x11)]) x9 x10 (wrap64 (x11 + 1))) else (none)) else (none)) else (none)) else (none)) else (none)) else (some x5)
def Z57.f (k:Nat) (l0:List Int) (l1:List Int):Option (List Int):=Z57.l0 k l1 (([]:List Int)) l0 (l0.length:Int) 0
theorem Z57.mono_l:∀ k,(∀ y0 y1 y2 y3 y4,LeO (Z57.l0 k y0 y1 y2 y3 y4) (Z57.l0 (k + 1) y0 y1 y2 y3 y4))
 | 0=>fun _ _ _ _ _ r h=>by simp [Z57.l0] at h
 | k + 1=>by
  have ih0:=Z57.mono_l k
  ·intro y0 y1 y2 y3 y4
   unfold Z57.l0
   repeat' first|exact ih0 _ _ _ _ _|exact lo_|refine LeO.ite ?_ ?_|refine LeO.bind ?_ (fun _=>?_)
theorem Z57.mono:∀ a0 a1 k,LeO (Z57.f k a0 a1) (Z57.f (k + 1) a0 a1):=by
 intro a0 a1 k
 have ih0:=Z57.mono_l k
 unfold Z57.f
 repeat' first|exact ih0 _ _ _ _ _|exact lo_|refine LeO.ite ?_ ?_|refine LeO.bind ?_ (fun _=>?_)
set_option maxHeartbeats 8000000 in
set_option maxRecDepth 100000 in
theorem Z57.calls (k:Nat) (A0:Option Addr) (c0:Nat) (l0:List Int) (A1:Option Addr) (c1:Nat) (l1:List Int) (r:List Int) (w:World) (hr0:Kd.C (Kd.int .i64) w A0 l0.length l0) (hc0:l0.length≤c0) (hr1:Kd.C (Kd.int .i64) w A1 l1.length l1) (hc1:l1.length≤c1) (h:Z57.f k l0 l1 = some r) :
  Calls Tryz.prog 97 #[.slice A0 l0.length c0,.slice A1 l1.length c1] w fun e w'=>∃ v0_:Value,e = .returned (v0_)∧Kd.R (Kd.int .i64) 3 w' w.heap.size (fun _=>True) v0_ r∧Below w.heap.size w w':=by
 have HR0:=A_ hr0
 have HC0:=A_ hc0
 clear hr0 hc0
 have HR1:=A_ hr1
 have HC1:=A_ hc1
 clear hr1 hc1
 have HB:=A_ (Below.refl w.heap.size w)
 have H:=h
 unfold Z57.f at H
 clear h
 obtain ⟨y302,hy302⟩:∃ y_:List Int,y_ = (([]:List Int)):=⟨_,rfl⟩
 replace H:(Z57.l0 k l1 y302 l0 (l0.length:Int) 0) = some r:=by first | (rw [hy302];exact H) | exact H
 have Ny302:=A_ hy302
 clear hy302
 have H':=A_ H
 clear H
 go_enter Tryz.func97,Tryz.ntmps97
 go_wp2_with (first | ((with_reducible refine gB_ (N:=8) rfl ?_);refine Kd.R_lit (Kd.int .i64) _ 3 ?hg (N:=8) ?hd (xs:=([]:List Int)) (inner:=[]) (ok:=fun _=>True) (okp:=fun _=>True) ?hr ?hp (fun _ hk=>hk) trivial (Below.refl _ _) (nA_ _) (by simp) ?_;(case hd=>rfl);(case hg=>rfl);(case hr=>first | (go_simp;done) | (go_simp;rfl));(case hp=>exact (Reps.none _ _));intro v303 w3 ho4 hb hg_ hnew_;clear hg_ hnew_;(first | rw [← Ny302.out] at ho4 | (simp only [Int.reduceToNat] at ho4;rw [← Ny302.out] at ho4));have HO304:=rl_ w ho4;replace HB:=b1_ hb;clear hb ho4))
 go_loopg [5,11] k (fun kq v5 v11 w'=>∃ (x5_1:List Int) (x11_1:Int),v11 = .int .i64 x11_1∧Aside0 (Z57.l0 kq l1 x5_1 l0 (l0.length:Int) x11_1 = some r)∧Aside0 (kq≤k)∧Aside0 (Kd.R (Kd.int .i64) 3 w' w.heap.size (fun _=>True) v5 x5_1)∧Aside0 (Below w.heap.size w w'))
 case atStart=>exact ⟨(y302),(0),qc_,H',⟨nA_ _⟩,⟨(rr_ HO304)⟩,⟨hB_⟩⟩
 case round =>
  clear H'
  obtain ⟨x5_1,x11_1,rfl,HA,HK1,HO_5,HB⟩:=hrel
  cases gk with
  | zero=>exact absurd HA.out (by simp [Z57.l0])
  | succ k1 =>
   have H:=HA.out
   clear HA
   simp only [Z57.l0] at H
   by_cases c5:x11_1 < (l0.length:Int)
   ·rw [if_pos c5] at H
    have c5b0:=oC_ c5
    clear c5
    have c6:=cp_ H
    replace H:=ca_ H
    have c6b0:=oC_ c6
    clear c6
    have c7:=cp_ H
    replace H:=ca_ H
    have c7b0:=oC_ c7
    clear c7
    have c8:=cp_ H
    replace H:=ca_ H
    have c8b0:=oC_ c8
    clear c8
    have c9:=cp_ H
    replace H:=ca_ H
    have c9b0:=oC_ c9
    clear c9
    have c10:=cp_ H
    replace H:=ca_ H
    have LMc10:=A_ c10
    clear c10
    obtain ⟨y307,hy307⟩:∃ y_:List Int,y_ = (x5_1 ++ [rd l1 (rd l0 x11_1)]):=⟨_,rfl⟩
    replace H:(Z57.l0 k1 l1 y307 l0 (l0.length:Int) (wrap64 (x11_1 + 1))) = some r:=by first | (rw [hy307];exact H) | exact H
    have Ny307:=A_ hy307
    clear hy307
    have H':=A_ H
    clear H
    have p305:0≤(x11_1:Int):=oB_ qe_
    have q305:x11_1 < (l0.length:Int):=oB_ qe_
    obtain ⟨ad305,e305,hx305_0⟩:=Kd.at_int HR0.out x11_1 p305 q305
    cases e305
    replace hx305_0:=(HB.out.cell (World.block_lt_of_cell? w _ hx305_0)).trans hx305_0
    replace p305:=eq_true p305
    replace q305:=eq_true q305
    have p306:0≤((rd l0 x11_1):Int):=oB_ qe_
    have q306:(rd l0 x11_1) < (l1.length:Int):=oB_ qe_
    obtain ⟨ad306,e306,hx306_0⟩:=Kd.at_int HR1.out (rd l0 x11_1) p306 q306
    cases e306
    replace hx306_0:=(HB.out.cell (World.block_lt_of_cell? w _ hx306_0)).trans hx306_0
    replace p306:=eq_true p306
    replace q306:=eq_true q306
    go_wp2_with (first | ((with_reducible refine gate_builtin (b:=.append) (xs:=#[.tmp 15,.tmp 20]) rfl ?_);at_builtin;refine Kd.R_append (Kd.int .i64) (w0:=w) w.heap.size rfl (.tmp 15) (.tmp 20) 27 3 (.int .i64 0) 8 rfl Tryz.underlying27 info3 rfl (by decide) (by omega) u5 x5_1 (rd l1 (rd l0 x11_1)) [.int .i64 (rd l1 (rd l0 x11_1))] (fun _=>True) (fun _=>False) rfl rfl ?aP (fun _ hk=>hk.elim) ?aF ?aO ?aB ?aS ?aL ?_;(case aP=>exact rfl);(case aB=>exact hB_);(case aF=>exact (fun _ _=>trivial));(case aO=>exact (rr_ HO_5));(case aS=>exact (bF_ hB_));(case aL=>have:=LMc10.out;omega);intro v308 w11 ho hb hg hat;rw [← Ny307.out] at ho;replace HB:=A_ hb;have HO309:=A_ ho;clear HO_5;clear ho hb hg hat))
    go_roundg k1
    case measure=>have:=HK1.out;omega
    case rel=>exact ⟨(y307),(wrap64 (x11_1 + 1)),qc_,H',⟨by have:=HK1.out;omega⟩,⟨(rr_ HO309)⟩,⟨hB_⟩⟩
   ·rw [if_neg c5] at H
    have c5b0:=oD_ c5
    clear c5
    obtain rfl:=Option.some.inj H
    go_wp2
    go_ret
    exact ⟨_,qb_,(rr_ HO_5),hB_⟩
def Z36.f (k:Nat) (l0_0:List Int) (l0_1:List Int):Option (List Int):=(Z57.f k l0_0 l0_1).bind fun t311=>((Z21.f k l0_0).bind fun t314=>((Z21.f k l0_1).bind fun t317=>((Z57.f k t314 t317).bind fun t320=>((Z57.f k t311 t320).bind fun t323=>(some t323)))))
theorem Z36.mono:∀ a0 a1 k,LeO (Z36.f k a0 a1) (Z36.f (k + 1) a0 a1):=by
 intro a0 a1 k
 unfold Z36.f
 repeat' first|exact Z21.mono _ _|exact Z57.mono _ _ _|exact lo_|refine LeO.ite ?_ ?_|refine LeO.bind ?_ (fun _=>?_)
def Z36.T2:Bool × List (List Nat × List Nat):=(true,[([],[]),([0],[0]),([1],[1]),([],[]),([3],[3]),([4,2],[4]),([2,5,5],[2,5]),([6,6,0,1,2,3,4,5,6],[6])])
def Z36.B2:List Nat:=[0,1,3,0,8,31,63,127]
theorem Z36.tab2:rtab .any (opsOf Tryz.f82 2) = Z36.T2:=by kernel_rfl
theorem Z36.bits2:waitsOk Z36.T2.2 Z36.B2 = true:=by kernel_rfl
set_option maxHeartbeats 8000000 in
set_option maxRecDepth 100000 in
theorem Z36.calls (k:Nat) (A0_0:Option Addr) (c0_0:Nat) (l0_0:List Int) (A0_1:Option Addr) (c0_1:Nat) (l0_1:List Int) (r:List Int) (w:World) (hr0_0:Kd.C (Kd.int .i64) w A0_0 l0_0.length l0_0) (hc0_0:l0_0.length≤c0_0) (hr0_1:Kd.C (Kd.int .i64) w A0_1 l0_1.length l0_1) (hc0_1:l0_1.length≤c0_1) (h:Z36.f k l0_0 l0_1 = some r) :
  Calls Tryz.prog 82 #[.agg #[.slice A0_0 l0_0.length c0_0,.slice A0_1 l0_1.length c0_1]] w fun e w'=>∃ v0_:Value,e = .returned (v0_)∧Kd.R (Kd.int .i64) 3 w' w.heap.size (fun _=>True) v0_ r∧Below w.heap.size w w':=by
 have hu38:=Tryz.underlying38
 have HR0_0:=A_ hr0_0
 have HC0_0:=A_ hc0_0
 clear hr0_0 hc0_0
 have HR0_1:=A_ hr0_1
 have HC0_1:=A_ hc0_1
 clear hr0_1 hc0_1
 have HB:=A_ (Below.refl w.heap.size w)
 have H:=h
 unfold Z36.f at H
 clear h
 obtain ⟨t311,A2,H⟩:=bi_ H
 obtain ⟨t314,A3,H⟩:=bi_ H
 obtain ⟨t317,A4,H⟩:=bi_ H
 obtain ⟨t320,A5,H⟩:=bi_ H
 obtain ⟨t323,A6,H⟩:=bi_ H
 obtain rfl:=Option.some.inj H
 go_enter Tryz.func82,Tryz.ntmps82
 try go_wp2_with (first | ((with_reducible refine gB_ (N:=1) rfl ?_);refine bx_ 1 #[.slice A0_0 l0_0.length c0_0,.slice A0_1 l0_1.length c0_1] 38 ?_;intro gb310 hg w7 hbox hb;have BK310:=A_ hbox;have GW310:=gw_ w hg;have GE310:=GW310;replace HB:=b1_ hb;clear hb hbox hg;obtain ⟨hcz8_0,hcz8_1,hfz8_0,hfz8_1⟩:=c2_ BK310) | ((with_reducible refine gA_ (f:=97) rfl ?_);refine gL_ (some 9) Tryz.func97 #[.slice A0_0 l0_0.length c0_0,.slice A0_1 l0_1.length c0_1] rfl qa_ ?_;(with_reducible refine (Z57.calls k _ _ l0_0 _ _ l0_1 t311 _ (cb_ HR0_0) HC0_0.out (cb_ HR0_1) HC0_1.out A2.out).mono ?_);rintro e w9 ⟨v312,rfl,ho0,hb⟩;refine ⟨_,rfl,?_⟩;have HO313:=rl_ w ho0;replace BK310:=bb_ BK310 hb;replace HB:=b1_ hb;clear hb ho0))
 replace HO313:=A_ (rC_ HO313.out)
 replace BK310:=A_ (kB_ BK310.out)
 replace HB:=A_ (bC_ HB.out)
 refine start_ (n:=8) (S:=fun w'=>w'.cell? ⟨gb310,0,none⟩ = some (.slice A0_0 l0_0.length c0_0)∧w'.cell? ⟨gb310,1,none⟩ = some (.slice A0_1 l0_1.length c0_1)) (ds:=[]) (bl_ 8 0) (by kernel_rfl) rfl (by kernel_rfl) ⟨cz0_ BK310,cz1_ BK310⟩ (fun hHeld=>?_);refine with_tabW Z36.tab2 Z36.bits2 (fun HT_ HW_=>?_)
 generalize w9.drew = w10 at HO313 BK310 HB hHeld ⊢
 refine pu_ 0 (some 10) (bl_ 8 1) HT_ ?_
 refine pu_ 3 (some 13) (bl_ 8 9) HT_ ?_
 refine ta_ 1 (some 11) (bl_ 8 11) HT_ HW_ hHeld ?_
 refine ta_ 4 (some 14) (bl_ 8 27) HT_ HW_ hHeld ?_
 refine on_ 2 (some 12) (bl_ 8 31) HT_ (fun K hK=>?_)
 refine gO_ Tryz.func79 #[.slice A0_0 l0_0.length c0_0] (by rfl) rfl rfl qa_ ?_
 with_reducible refine (Z21.calls k _ _ l0_0 t314 _ (cb_ HR0_0) HC0_0.out A3.out).mono ?_
 rintro e w11 ⟨v315,rfl,ho0,hb⟩
 refine ⟨_,rfl,?_⟩
 have HO316:=A_ (rE_ (Kd.R_new' ho0 (Kd.R_lt (rr_ HO313))) (bF_ hB_))
 replace HO313:=A_ (Kd.R_elder' (rr_ HO313) (Kd.R_base ho0) hb)
 replace BK310:=bb_ BK310 hb
 replace HB:=b1_ hb
 clear hb ho0
 refine hK.out _ _ ⟨cz0_ BK310,cz1_ BK310⟩ (fun hHeld=>?_)
 clear hK K
 refine no_ (some 12) ?_
 refine on_ 5 (some 15) (bl_ 8 63) HT_ (fun K hK=>?_)
 refine gO_ Tryz.func79 #[.slice A0_1 l0_1.length c0_1] (by rfl) rfl rfl qa_ ?_
 with_reducible refine (Z21.calls k _ _ l0_1 t317 _ (cb_ HR0_1) HC0_1.out A4.out).mono ?_
 rintro e w12 ⟨v318,rfl,ho0,hb⟩
 refine ⟨_,rfl,?_⟩
 have HO319:=A_ (rE_ (Kd.R_new' (Kd.R_new' ho0 (Kd.R_lt (rr_ HO313))) (Kd.R_lt (rr_ HO316))) (bF_ hB_))
 replace HO313:=A_ (Kd.R_elder' (rr_ HO313) (Kd.R_base ho0) hb)
 replace HO316:=A_ (Kd.R_elder' (rr_ HO316) (Kd.R_base ho0) hb)
 replace BK310:=bb_ BK310 hb
 replace HB:=b1_ hb
 clear hb ho0
 obtain ⟨Ao13,co13,eo13⟩:=Kd.R_slice HO316.out
 (first | subst eo13 | (injection eo13 with f1_ f2_ f3_;have f4_:=f1_.symm;have f5_:=f3_.symm;clear f1_ f2_ f3_;subst f4_;subst f5_))
 obtain ⟨Ao14,co14,eo14⟩:=Kd.R_slice HO319.out
 (first | subst eo14 | (injection eo14 with f1_ f2_ f3_;have f4_:=f1_.symm;have f5_:=f3_.symm;clear f1_ f2_ f3_;subst f4_;subst f5_))
 refine hK.out _ _ ⟨cz0_ BK310,cz1_ BK310⟩ (fun hHeld=>?_)
 clear hK K
 refine no_ (some 15) ?_
 refine on_ 6 (some 16) (bl_ 8 127) HT_ (fun K hK=>?_)
 refine gO_ Tryz.func97 #[.slice Ao13 t314.length co13,.slice Ao14 t317.length co14] (by rfl) rfl rfl qa_ ?_
 with_reducible refine (Z57.calls k _ _ t314 _ _ t317 t320 _ (cr_ HO316) ((Kd.R_reads' HO316.out).2.1) (cr_ HO319) ((Kd.R_reads' HO319.out).2.1) A5.out).mono ?_
 rintro e w15 ⟨v321,rfl,ho0,hb⟩
 refine ⟨_,rfl,?_⟩
 have HO322:=A_ (rE_ (Kd.R_new' (Kd.R_new' (Kd.R_new' ho0 (Kd.R_lt (rr_ HO313))) (Kd.R_lt (rr_ HO316))) (Kd.R_lt (rr_ HO319))) (bF_ hB_))
 replace HO313:=A_ (Kd.R_elder' (rr_ HO313) (Kd.R_base ho0) hb)
 replace HO316:=A_ (Kd.R_elder' (rr_ HO316) (Kd.R_base ho0) hb)
 replace HO319:=A_ (Kd.R_elder' (rr_ HO319) (Kd.R_base ho0) hb)
 replace BK310:=bb_ BK310 hb
 replace HB:=b1_ hb
 clear hb ho0
 refine hK.out _ _ ⟨cz0_ BK310,cz1_ BK310⟩ (fun hHeld=>?_)
 clear hK K
 refine no_ (some 16) ?_
 refine pu_ 7 (some 4) (bl_ 8 255) HT_ ?_
 refine done_ (done_of HT_.out (by kernel_rfl)) ?_
 obtain ⟨Ao16,co16,eo16⟩:=Kd.R_slice HO313.out
 subst eo16
 obtain ⟨Ao17,co17,eo17⟩:=Kd.R_slice HO322.out
 subst eo17
 try go_wp2_with (first | ((with_reducible refine gA_ (f:=97) rfl ?_);refine gL_ (some 19) Tryz.func97 #[.slice Ao16 t311.length co16,.slice Ao17 t320.length co17] rfl qa_ ?_;(with_reducible refine (Z57.calls k _ _ t311 _ _ t320 t323 _ (cr_ HO313) ((Kd.R_reads' HO313.out).2.1) (cr_ HO322) ((Kd.R_reads' HO322.out).2.1) A6.out).mono ?_);rintro e w18 ⟨v324,rfl,ho0,hb⟩;refine ⟨_,rfl,?_⟩;have HO325:=A_ (rE_ (Kd.R_new' (Kd.R_new' (Kd.R_new' (Kd.R_new' ho0 (Kd.R_lt (rr_ HO313))) (Kd.R_lt (rr_ HO316))) (Kd.R_lt (rr_ HO319))) (Kd.R_lt (rr_ HO322))) (bF_ hB_));replace HO313:=A_ (Kd.R_elder' (rr_ HO313) (Kd.R_base ho0) hb);replace HO316:=A_ (Kd.R_elder' (rr_ HO316) (Kd.R_base ho0) hb);replace HO319:=A_ (Kd.R_elder' (rr_ HO319) (Kd.R_base ho0) hb);replace HO322:=A_ (Kd.R_elder' (rr_ HO322) (Kd.R_base ho0) hb);replace BK310:=bb_ BK310 hb;replace HB:=b1_ hb;clear hb ho0))
 go_ret
 exact ⟨_,qb_,(rw_ (Kd.R_mono HO325.out (fun _ hk=>trivial))),hB_⟩
def Z30.f (k:Nat) (l0_0:List Int) (l0_1:List Int):Option ((List (List Int))):=(Z32.f k l0_0 l0_1).bind fun t327=>(if t327 = true then ((Z36.f k l0_0 l0_1).bind fun t328=>((Z49.f k t328).bind fun t331=>(some t331))) else (some ([]:List (List Int))))
theorem Z30.mono:∀ a0 a1 k,LeO (Z30.f k a0 a1) (Z30.f (k + 1) a0 a1):=by
 intro a0 a1 k
 unfold Z30.f
 repeat' first|exact Z49.mono _ _|exact Z32.mono _ _ _|exact Z36.mono _ _ _|exact lo_|refine LeO.ite ?_ ?_|refine LeO.bind ?_ (fun _=>?_)
set_option maxHeartbeats 8000000 in
set_option maxRecDepth 100000 in
theorem Z30.calls (k:Nat) (A0_0:Option Addr) (c0_0:Nat) (l0_0:List Int) (A0_1:Option Addr) (c0_1:Nat) (l0_1:List Int) (r:List (List Int)) (w:World) (hr0_0:Kd.C (Kd.int .i64) w A0_0 l0_0.length l0_0) (hc0_0:l0_0.length≤c0_0) (hr0_1:Kd.C (Kd.int .i64) w A0_1 l0_1.length l0_1) (hc0_1:l0_1.length≤c0_1) (h:Z30.f k l0_0 l0_1 = some r) :
  Calls Tryz.prog 52 #[.agg #[.slice A0_0 l0_0.length c0_0,.slice A0_1 l0_1.length c0_1]] w fun e w'=>∃ v0_:Value,e = .returned (v0_)∧Kd.S (Kd.slice 3 (Kd.int .i64)) 27 w' w.heap.size (fun _=>True) v0_ r∧Below w.heap.size w w':=by
 have hu38:=Tryz.underlying38
 have HR0_0:=A_ hr0_0
 have HC0_0:=A_ hc0_0
 clear hr0_0 hc0_0
 have HR0_1:=A_ hr0_1
 have HC0_1:=A_ hc0_1
 clear hr0_1 hc0_1
 have HB:=A_ (Below.refl w.heap.size w)
 have H:=h
 unfold Z30.f at H
 clear h
 obtain ⟨t327,A2,H⟩:=bi_ H
 by_cases c3:t327 = true
 ·subst c3
  rw [if_pos rfl] at H
  obtain ⟨t328,A4,H⟩:=bi_ H
  obtain ⟨t331,A5,H⟩:=bi_ H
  obtain rfl:=Option.some.inj H
  go_enter Tryz.func52,Tryz.ntmps52
  go_wp2_with (first | ((with_reducible refine gB_ (N:=1) rfl ?_);refine bx_ 1 #[.slice A0_0 l0_0.length c0_0,.slice A0_1 l0_1.length c0_1] 38 ?_;intro gb326 hg w6 hbox hb;have BK326:=A_ hbox;have GW326:=gw_ w hg;have GE326:=GW326;replace HB:=b1_ hb;clear hb hbox hg;obtain ⟨hcz7_0,hcz7_1,hfz7_0,hfz7_1⟩:=c2_ BK326) | ((with_reducible refine gA_ (f:=33) rfl ?_);refine gL_ (some 4) Tryz.func33 #[.agg #[.slice A0_0 l0_0.length c0_0,.slice A0_1 l0_1.length c0_1]] rfl qa_ ?_;(with_reducible refine (Z32.calls k _ _ l0_0 _ _ l0_1 true _ (cb_ HR0_0) HC0_0.out (cb_ HR0_1) HC0_1.out A2.out).mono ?_);rintro e w8 ⟨rfl,hb⟩;refine ⟨_,rfl,?_⟩;replace BK326:=bb_ BK326 hb;replace HB:=b1_ hb;clear hb;obtain ⟨hcz9_0,hcz9_1,hfz9_0,hfz9_1⟩:=c2_ BK326) | ((with_reducible refine gA_ (f:=82) rfl ?_);refine gL_ (some 7) Tryz.func82 #[.agg #[.slice A0_0 l0_0.length c0_0,.slice A0_1 l0_1.length c0_1]] rfl qa_ ?_;(with_reducible refine (Z36.calls k _ _ l0_0 _ _ l0_1 t328 _ (cb_ HR0_0) HC0_0.out (cb_ HR0_1) HC0_1.out A4.out).mono ?_);rintro e w10 ⟨v329,rfl,ho0,hb⟩;refine ⟨_,rfl,?_⟩;have HO330:=rl_ w ho0;replace BK326:=bb_ BK326 hb;replace HB:=b1_ hb;clear hb ho0;obtain ⟨Ao11,co11,eo11⟩:=Kd.R_slice HO330.out;subst eo11) | ((with_reducible refine gA_ (f:=81) rfl ?_);refine gL_ (some 8) Tryz.func81 #[.slice Ao11 t328.length co11] rfl qa_ ?_;(with_reducible refine (Z49.calls k _ _ t328 t331 _ (cr_ HO330) ((Kd.R_reads' HO330.out).2.1) A5.out).mono ?_);rintro e w12 ⟨v332,rfl,ho0,hb⟩;refine ⟨_,rfl,?_⟩;have HO333:=A_ (Kd.S_lower (Kd.S_new' ho0 (Kd.R_lt (rr_ HO330))) (bF_ hB_));replace HO330:=rb_ HO330 hb;replace BK326:=bb_ BK326 hb;replace HB:=b1_ hb;clear hb ho0))
  go_ret
  exact ⟨_,qb_,(sw_ (Kd.S_mono HO333.out (fun _ hk=>trivial))),hB_⟩
 ·replace c3:=Bool.eq_false_iff.mpr c3
  subst c3
  have H1:(some ([]:List (List Int))) = some r:=by rw [if_neg (show ¬ (false = true) by decide)] at H;exact H
  clear H
  have H:=H1
  clear H1
  obtain rfl:=Option.some.inj H
  go_enter Tryz.func52,Tryz.ntmps52
  go_wp2_with (first | ((with_reducible refine gB_ (N:=1) rfl ?_);refine bx_ 1 #[.slice A0_0 l0_0.length c0_0,.slice A0_1 l0_1.length c0_1] 38 ?_;intro gb326 hg w13 hbox hb;have BK326:=A_ hbox;have GW326:=gw_ w hg;have GE326:=GW326;replace HB:=b1_ hb;clear hb hbox hg;obtain ⟨hcz14_0,hcz14_1,hfz14_0,hfz14_1⟩:=c2_ BK326) | ((with_reducible refine gA_ (f:=33) rfl ?_);refine gL_ (some 4) Tryz.func33 #[.agg #[.slice A0_0 l0_0.length c0_0,.slice A0_1 l0_1.length c0_1]] rfl qa_ ?_;(with_reducible refine (Z32.calls k _ _ l0_0 _ _ l0_1 false _ (cb_ HR0_0) HC0_0.out (cb_ HR0_1) HC0_1.out A2.out).mono ?_);rintro e w15 ⟨rfl,hb⟩;refine ⟨_,rfl,?_⟩;replace BK326:=bb_ BK326 hb;replace HB:=b1_ hb;clear hb))
  go_ret
  exact ⟨_,qb_,by first | exact Kd.S_nil _ _ _ _ _ | exact Kd.N_nil _ _ _ _ _ | exact Kd.V_nil _ _ _ _ _ | exact Kd.Q_nil _ _ _ _ _ | exact Kd.R_nil _ _ _ _ _,hB_⟩
def Z48.f (k:Nat) (l0_0:List Int) (l0_1:List Int):Option (List Int):=(Z30.f k l0_0 l0_1).bind fun t335=>((Z22.f k t335).bind fun t338=>(some t338))
theorem Z48.mono:∀ a0 a1 k,LeO (Z48.f k a0 a1) (Z48.f (k + 1) a0 a1):=by
 intro a0 a1 k
 unfold Z48.f
 repeat' first|exact Z30.mono _ _ _|exact Z22.mono _ _|exact lo_|refine LeO.ite ?_ ?_|refine LeO.bind ?_ (fun _=>?_)
set_option maxHeartbeats 8000000 in
set_option maxRecDepth 100000 in
theorem Z48.calls (k:Nat) (A0_0:Option Addr) (c0_0:Nat) (l0_0:List Int) (A0_1:Option Addr) (c0_1:Nat) (l0_1:List Int) (r:List Int) (w:World) (hr0_0:Kd.C (Kd.int .i64) w A0_0 l0_0.length l0_0) (hc0_0:l0_0.length≤c0_0) (hr0_1:Kd.C (Kd.int .i64) w A0_1 l0_1.length l0_1) (hc0_1:l0_1.length≤c0_1) (h:Z48.f k l0_0 l0_1 = some r) :
  Calls Tryz.prog 36 #[.agg #[.slice A0_0 l0_0.length c0_0,.slice A0_1 l0_1.length c0_1]] w fun e w'=>∃ v0_:Value,e = .returned (v0_)∧Kd.R (Kd.int .i64) 3 w' w.heap.size (fun _=>True) v0_ r∧Below w.heap.size w w':=by
 have hu38:=Tryz.underlying38
 have HR0_0:=A_ hr0_0
 have HC0_0:=A_ hc0_0
 clear hr0_0 hc0_0
 have HR0_1:=A_ hr0_1
 have HC0_1:=A_ hc0_1
 clear hr0_1 hc0_1
 have HB:=A_ (Below.refl w.heap.size w)
 have H:=h
 unfold Z48.f at H
 clear h
 obtain ⟨t335,A2,H⟩:=bi_ H
 obtain ⟨t338,A3,H⟩:=bi_ H
 obtain rfl:=Option.some.inj H
 go_enter Tryz.func36,Tryz.ntmps36
 go_wp2_with (first | ((with_reducible refine gB_ (N:=1) rfl ?_);refine bx_ 1 #[.slice A0_0 l0_0.length c0_0,.slice A0_1 l0_1.length c0_1] 38 ?_;intro gb334 hg w4 hbox hb;have BK334:=A_ hbox;have GW334:=gw_ w hg;have GE334:=GW334;replace HB:=b1_ hb;clear hb hbox hg;obtain ⟨hcz5_0,hcz5_1,hfz5_0,hfz5_1⟩:=c2_ BK334) | ((with_reducible refine gA_ (f:=52) rfl ?_);refine gL_ (some 4) Tryz.func52 #[.agg #[.slice A0_0 l0_0.length c0_0,.slice A0_1 l0_1.length c0_1]] rfl qa_ ?_;(with_reducible refine (Z30.calls k _ _ l0_0 _ _ l0_1 t335 _ (cb_ HR0_0) HC0_0.out (cb_ HR0_1) HC0_1.out A2.out).mono ?_);rintro e w6 ⟨v336,rfl,ho0,hb⟩;refine ⟨_,rfl,?_⟩;have HO337:=A_ (Kd.S_lower ho0 (bF_ hB_));replace BK334:=bb_ BK334 hb;replace HB:=b1_ hb;clear hb ho0;obtain ⟨Ao7,co7,eo7⟩:=Kd.S_slice HO337.out;subst eo7) | ((with_reducible refine gA_ (f:=51) rfl ?_);refine gL_ (some 5) Tryz.func51 #[.slice Ao7 t335.length co7] rfl qa_ ?_;(with_reducible refine (Z22.calls k _ _ t335 t338 _ (cw_ ((Kd.S_reads' HO337.out).2.2)) ((Kd.S_reads' HO337.out).2.1) A3.out).mono ?_);rintro e w8 ⟨v339,rfl,ho0,hb⟩;refine ⟨_,rfl,?_⟩;replace HO337:=A_ (Kd.S_elder' (ss_ HO337) (Kd.R_base ho0) hb);have HO340:=rl_ w ho0;replace BK334:=bb_ BK334 hb;replace HB:=b1_ hb;clear hb ho0))
 go_ret
 exact ⟨_,qb_,(rr_ HO340),hB_⟩
def Z31.l0:Nat→List Int→List Int→Int→Int→Option (List Int)
 | 0,_,_,_,_=>none
 | k + 1,x3,x8,x9,x10=>if x10 < x9 then (if 0≤x10 then (if x10 < (x8.length:Int) then (if (rd x8 x10) > 1 then (if x3.length < 17592186044416 then (Z31.l0 k (x3 ++ [wrap64 ((rd x8 x10) - 1)]) x8 x9 (wrap64 (x10 + 1))) else (none)) else (Z31.l0 k x3 x8 x9 (wrap64 (x10 + 1)))) else (none)) else (none)) else (some x3)
def Z31.f (k:Nat) (l0_0:List Int) (l0_1:List Int):Option (List Int):=(Z48.f k l0_0 l0_1).bind fun t345=>(Z31.l0 k (([]:List Int)) t345 (t345.length:Int) 0)
theorem Z31.mono_l:∀ k,(∀ y0 y1 y2 y3,LeO (Z31.l0 k y0 y1 y2 y3) (Z31.l0 (k + 1) y0 y1 y2 y3))
 | 0=>fun _ _ _ _ r h=>by simp [Z31.l0] at h
 | k + 1=>by
  have ih0:=Z31.mono_l k
  ·intro y0 y1 y2 y3
   unfold Z31.l0
   repeat' first|exact ih0 _ _ _ _|exact Z48.mono _ _ _|exact lo_|refine LeO.ite ?_ ?_|refine LeO.bind ?_ (fun _=>?_)
theorem Z31.mono:∀ a0 a1 k,LeO (Z31.f k a0 a1) (Z31.f (k + 1) a0 a1):=by
 intro a0 a1 k
 have ih0:=Z31.mono_l k
 unfold Z31.f
 repeat' first|exact ih0 _ _ _ _|exact Z48.mono _ _ _|exact lo_|refine LeO.ite ?_ ?_|refine LeO.bind ?_ (fun _=>?_)
set_option maxHeartbeats 8000000 in
set_option maxRecDepth 100000 in
theorem Z31.calls (k:Nat) (A0_0:Option Addr) (c0_0:Nat) (l0_0:List Int) (A0_1:Option Addr) (c0_1:Nat) (l0_1:List Int) (r:List Int) (w:World) (hr0_0:Kd.C (Kd.int .i64) w A0_0 l0_0.length l0_0) (hc0_0:l0_0.length≤c0_0) (hr0_1:Kd.C (Kd.int .i64) w A0_1 l0_1.length l0_1) (hc0_1:l0_1.length≤c0_1) (h:Z31.f k l0_0 l0_1 = some r) :
  Calls Tryz.prog 19 #[.agg #[.slice A0_0 l0_0.length c0_0,.slice A0_1 l0_1.length c0_1]] w fun e w'=>∃ v0_:Value,e = .returned (v0_)∧Kd.R (Kd.int .i64) 3 w' w.heap.size (fun _=>True) v0_ r∧Below w.heap.size w w':=by
 have hu38:=Tryz.underlying38
 have HR0_0:=A_ hr0_0
 have HC0_0:=A_ hc0_0
 clear hr0_0 hc0_0
 have HR0_1:=A_ hr0_1
 have HC0_1:=A_ hc0_1
 clear hr0_1 hc0_1
 have HB:=A_ (Below.refl w.heap.size w)
 have H:=h
 unfold Z31.f at H
 clear h
 obtain ⟨y342,hy342⟩:∃ y_:List Int,y_ = (([]:List Int)):=⟨_,rfl⟩
 replace H:((Z48.f k l0_0 l0_1).bind fun t345=>(Z31.l0 k y342 t345 (t345.length:Int) 0)) = some r:=by first | (rw [hy342];exact H) | exact H
 have Ny342:=A_ hy342
 clear hy342
 obtain ⟨t345,A2,H⟩:=bi_ H
 have H':=A_ H
 clear H
 go_enter Tryz.func19,Tryz.ntmps19
 go_wp2_with (first | ((with_reducible refine gB_ (N:=1) rfl ?_);refine bx_ 1 #[.slice A0_0 l0_0.length c0_0,.slice A0_1 l0_1.length c0_1] 38 ?_;intro gb341 hg w3 hbox hb;have BK341:=A_ hbox;have GW341:=gw_ w hg;have GE341:=GW341;replace HB:=b1_ hb;clear hb hbox hg) | ((with_reducible refine gB_ (N:=6) rfl ?_);refine Kd.R_lit (Kd.int .i64) _ 3 ?hg (N:=6) ?hd (xs:=([]:List Int)) (inner:=[]) (ok:=fun _=>True) (okp:=fun _=>True) ?hr ?hp (fun _ hk=>hk) trivial (Below.refl _ _) (nA_ _) (by simp) ?_;(case hd=>rfl);(case hg=>rfl);(case hr=>first | (go_simp;done) | (go_simp;rfl));(case hp=>exact (Reps.none _ _));intro v343 w4 ho5 hb hg_ hnew_;clear hg_ hnew_;(first | rw [← Ny342.out] at ho5 | (simp only [Int.reduceToNat] at ho5;rw [← Ny342.out] at ho5));have HO344:=rl_ w ho5;replace BK341:=bb_ BK341 hb;replace HB:=b1_ hb;clear hb ho5;obtain ⟨hcz6_0,hcz6_1,hfz6_0,hfz6_1⟩:=c2_ BK341) | ((with_reducible refine gA_ (f:=36) rfl ?_);refine gL_ (some 8) Tryz.func36 #[.agg #[.slice A0_0 l0_0.length c0_0,.slice A0_1 l0_1.length c0_1]] rfl qa_ ?_;(with_reducible refine (Z48.calls k _ _ l0_0 _ _ l0_1 t345 _ (cb_ HR0_0) HC0_0.out (cb_ HR0_1) HC0_1.out A2.out).mono ?_);rintro e w7 ⟨v346,rfl,ho0,hb⟩;refine ⟨_,rfl,?_⟩;have HO347:=A_ (rE_ (Kd.R_new' ho0 (Kd.R_lt (rr_ HO344))) (bF_ hB_));replace HO344:=A_ (Kd.R_elder' (rr_ HO344) (Kd.R_base ho0) hb);replace BK341:=bb_ BK341 hb;replace HB:=b1_ hb;clear hb ho0;obtain ⟨Ao8,co8,eo8⟩:=Kd.R_slice HO347.out;subst eo8))
 go_loopg [3,10] k (fun kq v3 v10 w'=>∃ (x3_1:List Int) (x10_1:Int),v10 = .int .i64 x10_1∧Aside0 (Z31.l0 kq x3_1 t345 (t345.length:Int) x10_1 = some r)∧Aside0 (kq≤k)∧Aside0 (Kd.R (Kd.int .i64) 3 w' w.heap.size (fun k_=>some k_≠((.slice Ao8 t345.length co8):Value).ownBlock) v3 x3_1)∧Aside0 (Kd.R (Kd.int .i64) 3 w' w.heap.size (fun k_=>some k_≠(v3:Value).ownBlock) (.slice Ao8 t345.length co8) t345)∧Aside0 (w'.heap[gb341]? = some (.cells #[(.slice A0_0 l0_0.length c0_0),(.slice A0_1 l0_1.length c0_1)] 38 (0,0)))∧Aside0 (Below w.heap.size w w'))
 case atStart=>exact ⟨(y342),(0),qc_,H',⟨nA_ _⟩,⟨(rw_ (Kd.R_mono HO344.out (fun _ hk=>hk.2)))⟩,⟨(rw_ (Kd.R_mono HO347.out (fun _ hk=>hk.2)))⟩,⟨(kk_ BK341)⟩,⟨hB_⟩⟩
 case round =>
  clear H'
  obtain ⟨x3_1,x10_1,rfl,HA,HK1,HO_3,HO_8,BK341,HB⟩:=hrel
  cases gk with
  | zero=>exact absurd HA.out (by simp [Z31.l0])
  | succ k1 =>
   have H:=HA.out
   clear HA
   simp only [Z31.l0] at H
   by_cases c9:x10_1 < (t345.length:Int)
   ·rw [if_pos c9] at H
    have c9b0:=oC_ c9
    clear c9
    have c10:=cp_ H
    replace H:=ca_ H
    have c10b0:=oC_ c10
    clear c10
    have c11:=cp_ H
    replace H:=ca_ H
    have c11b0:=oC_ c11
    clear c11
    by_cases c12:(rd t345 x10_1) > 1
    ·rw [if_pos c12] at H
     have c12b0:decide (1 < (rd t345 x10_1)) = true:=oC_ c12
     clear c12
     have c13:=cp_ H
     replace H:=ca_ H
     have LMc13:=A_ c13
     clear c13
     obtain ⟨y349,hy349⟩:∃ y_:List Int,y_ = (x3_1 ++ [wrap64 ((rd t345 x10_1) - 1)]):=⟨_,rfl⟩
     replace H:(Z31.l0 k1 y349 t345 (t345.length:Int) (wrap64 (x10_1 + 1))) = some r:=by first | (rw [hy349];exact H) | exact H
     have Ny349:=A_ hy349
     clear hy349
     have H':=A_ H
     clear H
     have p348:0≤(x10_1:Int):=oB_ qe_
     have q348:x10_1 < (t345.length:Int):=oB_ qe_
     obtain ⟨ad348,e348,hx348_0⟩:=Kd.at_int (Kd.R_reads' HO_8.out).2.2 x10_1 p348 q348
     cases e348
     replace p348:=eq_true p348
     replace q348:=eq_true q348
     go_wp2_with (first | ((with_reducible refine gate_builtin (b:=.append) (xs:=#[.tmp 16,.tmp 19]) rfl ?_);at_builtin;refine Kd.R_append (Kd.int .i64) (w0:=w) w.heap.size rfl (.tmp 16) (.tmp 19) 27 3 (.int .i64 0) 8 rfl Tryz.underlying27 info3 rfl (by decide) (by omega) u3 x3_1 (wrap64 ((rd t345 x10_1) - 1)) [.int .i64 (wrap64 ((rd t345 x10_1) - 1))] (fun k_=>some k_≠(.slice (some ad348) t345.length co8:Value).ownBlock) (fun _=>False) rfl rfl ?aP (fun _ hk=>hk.elim) ?aF ?aO ?aB ?aS ?aL ?_;(case aP=>exact rfl);(case aB=>exact hB_);(case aF=>exact (fun k_ hk=>Kd.fresh' (Kd.R_lt (rr_ HO_8)) k_ hk));(case aO=>exact (rr_ HO_3));(case aS=>exact (bF_ hB_));(case aL=>have:=LMc13.out;omega);intro v350 w14 ho hb hg hat;rw [← Ny349.out] at ho;replace HO_8:=A_ (Kd.R_after (ok:=(fun _=>True)) (rw_ (Kd.R_mono HO_8.out (fun _ hk=>⟨trivial,hk⟩))) hg hat);replace BK341:=A_ (blk_grown (kk_ BK341) hg (Kd.R_ne HO_3.out BK341.out (by decide)));replace HB:=A_ hb;have HO351:=A_ ho;clear HO_3;clear ho hb hg hat))
     go_roundg k1
     case measure=>have:=HK1.out;omega
     case rel=>exact ⟨(y349),(wrap64 (x10_1 + 1)),qc_,H',⟨by have:=HK1.out;omega⟩,⟨(rr_ HO351)⟩,⟨(rw_ (Kd.R_mono HO_8.out (fun _ hk=>hk.2)))⟩,⟨(kk_ BK341)⟩,⟨hB_⟩⟩
    ·rw [if_neg c12] at H
     have c12b0:decide (1 < (rd t345 x10_1)) = false:=oD_ c12
     clear c12
     have H':=A_ H
     clear H
     have p348:0≤(x10_1:Int):=oB_ qe_
     have q348:x10_1 < (t345.length:Int):=oB_ qe_
     obtain ⟨ad348,e348,hx348_0⟩:=Kd.at_int (Kd.R_reads' HO_8.out).2.2 x10_1 p348 q348
     cases e348
     replace p348:=eq_true p348
     replace q348:=eq_true q348
     go_wp2
     go_roundg k1
     case measure=>have:=HK1.out;omega
     case rel=>exact ⟨(x3_1),(wrap64 (x10_1 + 1)),qc_,H',⟨by have:=HK1.out;omega⟩,⟨(rr_ HO_3)⟩,⟨(rr_ HO_8)⟩,⟨(kk_ BK341)⟩,⟨hB_⟩⟩
   ·rw [if_neg c9] at H
    have c9b0:=oD_ c9
    clear c9
    obtain rfl:=Option.some.inj H
    go_wp2
    go_ret
    exact ⟨_,qb_,(rw_ (Kd.R_mono HO_3.out (fun _ hk=>trivial))),hB_⟩
def Z60.l0:Nat→List Int→List Int→List Int→Int→Int→Option (Bool)
 | 0,_,_,_,_,_=>none
 | k + 1,x0,x1,x7,x8,x9=>if x9 < x8 then (if 0≤x9 then (if x9 < (x7.length:Int) then (if x9 ≥ (x1.length:Int) then (some false) else (if x9 < (x1.length:Int) then (if (rd x7 x9) = (rd x1 x9) then (Z60.l0 k x0 x1 x7 x8 (wrap64 (x9 + 1))) else (some (decide ((rd x7 x9) < (rd x1 x9))))) else (none))) else (none)) else (none)) else (some (decide ((x0.length:Int) < (x1.length:Int))))
def Z60.f (k:Nat) (l0:List Int) (l1:List Int):Option (Bool):=Z60.l0 k l0 l1 l0 (l0.length:Int) 0
theorem Z60.mono_l:∀ k,(∀ y0 y1 y2 y3 y4,LeO (Z60.l0 k y0 y1 y2 y3 y4) (Z60.l0 (k + 1) y0 y1 y2 y3 y4))
 | 0=>fun _ _ _ _ _ r h=>by simp [Z60.l0] at h
 | k + 1=>by
  have ih0:=Z60.mono_l k
  ·intro y0 y1 y2 y3 y4
   unfold Z60.l0
   repeat' first|exact ih0 _ _ _ _ _|exact lo_|refine LeO.ite ?_ ?_|refine LeO.bind ?_ (fun _=>?_)
theorem Z60.mono:∀ a0 a1 k,LeO (Z60.f k a0 a1) (Z60.f (k + 1) a0 a1):=by
 intro a0 a1 k
 have ih0:=Z60.mono_l k
 unfold Z60.f
 repeat' first|exact ih0 _ _ _ _ _|exact lo_|refine LeO.ite ?_ ?_|refine LeO.bind ?_ (fun _=>?_)
set_option maxHeartbeats 8000000 in
set_option maxRecDepth 100000 in
theorem Z60.calls (k:Nat) (A0:Option Addr) (c0:Nat) (l0:List Int) (A1:Option Addr) (c1:Nat) (l1:List Int) (r:Bool) (w:World) (hr0:Kd.C (Kd.int .i64) w A0 l0.length l0) (hc0:l0.length≤c0) (hr1:Kd.C (Kd.int .i64) w A1 l1.length l1) (hc1:l1.length≤c1) (h:Z60.f k l0 l1 = some r) :
  Calls Tryz.prog 20 #[.slice A0 l0.length c0,.slice A1 l1.length c1] w fun e w'=>e = .returned (.bool r)∧Drawn0 w w':=by
 have HR0:=A_ hr0
 have HC0:=A_ hc0
 clear hr0 hc0
 have HR1:=A_ hr1
 have HC1:=A_ hc1
 clear hr1 hc1
 have H:=h
 unfold Z60.f at H
 clear h
 have H':=A_ H
 clear H
 go_enter Tryz.func20,Tryz.ntmps20
 go_wp2
 go_loopg [9] k (fun kq v9 w'=>∃ (x9_1:Int),v9 = .int .i64 x9_1∧Aside0 (Z60.l0 kq l0 l1 l0 (l0.length:Int) x9_1 = some r)∧Aside0 (kq≤k)∧Drawn0 w w')
 case atStart=>exact ⟨(0),qc_,H',⟨nA_ _⟩,by repeat (first | exact Drawn0.refl _ | apply Drawn0.step)⟩
 case round =>
  clear H'
  obtain ⟨x9_1,rfl,HA,HK1,⟨m1,rfl⟩⟩:=hrel
  cases gk with
  | zero=>exact absurd HA.out (by simp [Z60.l0])
  | succ k1 =>
   have H:=HA.out
   clear HA
   simp only [Z60.l0] at H
   by_cases c3:x9_1 < (l0.length:Int)
   ·rw [if_pos c3] at H
    have c3b0:=oC_ c3
    clear c3
    have c4:=cp_ H
    replace H:=ca_ H
    have c4b0:=oC_ c4
    clear c4
    have c5:=cp_ H
    replace H:=ca_ H
    have c5b0:=oC_ c5
    clear c5
    by_cases c6:x9_1 ≥ (l1.length:Int)
    ·rw [if_pos c6] at H
     have c6b0:decide ((l1.length:Int)≤x9_1) = true:=oC_ c6
     clear c6
     obtain rfl:=Option.some.inj H
     have p352:0≤(x9_1:Int):=oB_ qe_
     have q352:x9_1 < (l0.length:Int):=oB_ qe_
     obtain ⟨ad352,e352,hx352_0⟩:=Kd.at_int HR0.out x9_1 p352 q352
     cases e352
     replace p352:=eq_true p352
     replace q352:=eq_true q352
     go_wp2
     go_ret
     exact ⟨qc_,by repeat (first | exact Drawn0.refl _ | apply Drawn0.step)⟩
    ·rw [if_neg c6] at H
     have c6b0:decide ((l1.length:Int)≤x9_1) = false:=oD_ c6
     clear c6
     have c7:=cp_ H
     replace H:=ca_ H
     have c7b0:=oC_ c7
     clear c7
     by_cases c8:(rd l0 x9_1) = (rd l1 x9_1)
     ·rw [if_pos c8] at H
      have c8b0:((rd l0 x9_1) == (rd l1 x9_1)) = true:=beq_iff_eq.mpr c8
      have c8b1:((rd l0 x9_1) != (rd l1 x9_1)) = false:=bne_eq_false_iff_eq.mpr c8
      clear c8
      have H':=A_ H
      clear H
      have p352:0≤(x9_1:Int):=oB_ qe_
      have q352:x9_1 < (l0.length:Int):=oB_ qe_
      obtain ⟨ad352,e352,hx352_0⟩:=Kd.at_int HR0.out x9_1 p352 q352
      cases e352
      replace p352:=eq_true p352
      replace q352:=eq_true q352
      have p353:0≤(x9_1:Int):=oB_ qe_
      have q353:x9_1 < (l1.length:Int):=oB_ qe_
      obtain ⟨ad353,e353,hx353_0⟩:=Kd.at_int HR1.out x9_1 p353 q353
      cases e353
      replace p353:=eq_true p353
      replace q353:=eq_true q353
      go_wp2
      go_roundg k1
      case measure=>have:=HK1.out;omega
      case rel=>exact ⟨(wrap64 (x9_1 + 1)),qc_,H',⟨by have:=HK1.out;omega⟩,by repeat (first | exact Drawn0.refl _ | apply Drawn0.step)⟩
     ·rw [if_neg c8] at H
      have c8b0:((rd l0 x9_1) == (rd l1 x9_1)) = false:=beq_eq_false_iff_ne.mpr c8
      have c8b1:((rd l0 x9_1) != (rd l1 x9_1)) = true:=bne_iff_ne.mpr c8
      obtain rfl:=Option.some.inj H
      have p352:0≤(x9_1:Int):=oB_ qe_
      have q352:x9_1 < (l0.length:Int):=oB_ qe_
      obtain ⟨ad352,e352,hx352_0⟩:=Kd.at_int HR0.out x9_1 p352 q352
      cases e352
      replace p352:=eq_true p352
      replace q352:=eq_true q352
      have p353:0≤(x9_1:Int):=oB_ qe_
      have q353:x9_1 < (l1.length:Int):=oB_ qe_
      obtain ⟨ad353,e353,hx353_0⟩:=Kd.at_int HR1.out x9_1 p353 q353
      cases e353
      replace p353:=eq_true p353
      replace q353:=eq_true q353
      have p354:0≤(x9_1:Int):=oB_ qe_
      have q354:x9_1 < (l1.length:Int):=oB_ qe_
      obtain ⟨ad354,e354,hx354_0⟩:=Kd.at_int HR1.out x9_1 p354 q354
      obtain rfl:ad353 = ad354:=(by injection e354)
      replace p354:=eq_true p354
      replace q354:=eq_true q354
      go_wp2
      go_ret
      exact ⟨qc_,by repeat (first | exact Drawn0.refl _ | apply Drawn0.step)⟩
   ·rw [if_neg c3] at H
    have c3b0:=oD_ c3
    clear c3
    obtain rfl:=Option.some.inj H
    go_wp2
    go_ret
    exact ⟨qc_,by repeat (first | exact Drawn0.refl _ | apply Drawn0.step)⟩
end Go.Proofs.YtoijcallajegfaaGreat.A
end
