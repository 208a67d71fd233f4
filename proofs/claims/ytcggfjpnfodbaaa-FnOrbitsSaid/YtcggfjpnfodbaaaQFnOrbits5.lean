/- Lemmas for the row FnOrbits: the program's functions told as plain functions, and plain mathematics. No conditions. -/
import Derived.Test.YtcggfjpnfodbaaaQFnOrbits4
section
namespace Go.Proofs.Ytcggfjpnfodbaaa.A
open Go.RowKit Go.Proofs.YtcggfjpnfodbaaaW.PrintWords Go.Proofs.YtcggfjpnfodbaaaW.PrintLast Go.Proofs.YtcggfjpnfodbaaaW.PrintMore
attribute [local go_sem] max2_int min2_int max_two min_two max_three min_three max_four min_four
set_option linter.unusedVariables false
set_option linter.unusedSimpArgs false
def Z46.l0:Nat→Int→List Int→List Int→List Int→List Int→Option (List Int × List Int)
 | 0,_,_,_,_,_=>none
 | k + 1,x4,x766000,x766001,x777000,x777001=>if x4 < (x766000.length:Int) then ((Z47.f k x766000 x766001 x4).bind fun t777=>((Z34.f k x766000 x766001 t777).bind fun bt780=>((Z33.f k bt780.1 bt780.2 x777000 x777001).bind fun t787=>(if t787 = true then (Z46.l0 k (wrap64 (x4 + 1)) x766000 x766001 bt780.1 bt780.2) else (Z46.l0 k (wrap64 (x4 + 1)) x766000 x766001 x777000 x777001))))) else (some (x777000,x777001))
def Z46.f (k:Nat) (l0_0:List Int) (l0_1:List Int):Option (List Int × List Int):=(Z47.f k l0_0 l0_1 0).bind fun t767=>((Z34.f k l0_0 l0_1 t767).bind fun bt770=>(Z46.l0 k 1 l0_0 l0_1 bt770.1 bt770.2))
theorem Z46.mono_l:∀ k,(∀ y0 y1 y2 y3 y4,LeO (Z46.l0 k y0 y1 y2 y3 y4) (Z46.l0 (k + 1) y0 y1 y2 y3 y4))
 | 0=>fun _ _ _ _ _ r h=>by simp [Z46.l0] at h
 | k + 1=>by
  have ih0:=Z46.mono_l k
  ·intro y0 y1 y2 y3 y4
   unfold Z46.l0
   repeat' first|exact ih0 _ _ _ _ _|exact Z33.mono _ _ _ _ _|exact Z47.mono _ _ _ _|exact Z34.mono _ _ _ _|exact lo_|refine LeO.ite ?_ ?_|refine LeO.bind ?_ (fun _=>?_)
theorem Z46.mono:∀ a0 a1 k,LeO (Z46.f k a0 a1) (Z46.f (k + 1) a0 a1):=by
 intro a0 a1 k
 have ih0:=Z46.mono_l k
 unfold Z46.f
 repeat' first|exact ih0 _ _ _ _ _|exact Z33.mono _ _ _ _ _|exact Z47.mono _ _ _ _|exact Z34.mono _ _ _ _|exact lo_|refine LeO.ite ?_ ?_|refine LeO.bind ?_ (fun _=>?_)
set_option maxHeartbeats 8000000 in
set_option maxRecDepth 100000 in
theorem Z46.calls (k:Nat) (A0_0:Option Addr) (c0_0:Nat) (l0_0:List Int) (A0_1:Option Addr) (c0_1:Nat) (l0_1:List Int) (r1:List Int) (r2:List Int) (w:World) (hr0_0:Kd.C (Kd.int .i64) w A0_0 l0_0.length l0_0) (hc0_0:l0_0.length≤c0_0) (hr0_1:Kd.C (Kd.int .i64) w A0_1 l0_1.length l0_1) (hc0_1:l0_1.length≤c0_1) (h:Z46.f k l0_0 l0_1 = some (r1,r2)) :
  Calls Try.prog 82 #[.agg #[.slice A0_0 l0_0.length c0_0,.slice A0_1 l0_1.length c0_1]] w fun e w'=>∃ v0_ v1_:Value,e = .returned (.agg #[v0_,v1_])∧Kd.R (Kd.int .i64) 3 w' w.heap.size (fun k_=>some k_≠(v1_:Value).ownBlock) v0_ r1∧Kd.R (Kd.int .i64) 3 w' w.heap.size (fun k_=>some k_≠(v0_:Value).ownBlock) v1_ r2∧Below w.heap.size w w':=by
 have hu25:=Try.underlying25
 have HR0_0:=A_ hr0_0
 have HC0_0:=A_ hc0_0
 clear hr0_0 hc0_0
 have HR0_1:=A_ hr0_1
 have HC0_1:=A_ hc0_1
 clear hr0_1 hc0_1
 have HB:=A_ (Below.refl w.heap.size w)
 have H:=h
 unfold Z46.f at H
 clear h
 obtain ⟨t767,A2,H⟩:=bi_ H
 obtain ⟨⟨t770,t773⟩,A3,H⟩:=bi_ H
 try dsimp only at H
 have H':=A_ H
 clear H
 go_enter Try.func82,Try.ntmps82
 try go_wp2_with (first | ((with_reducible refine gB_ (N:=1) rfl ?_);refine bx_ 1 #[.slice A0_0 l0_0.length c0_0,.slice A0_1 l0_1.length c0_1] 25 ?_;intro gb765 hg w4 hbox hb;have BK765:=A_ hbox;have GW765:=gw_ w hg;have GE765:=GW765;replace HB:=b1_ hb;clear hb hbox hg) | ((with_reducible refine gB_ (N:=2) rfl ?_);refine bx_ 2 #[.slice none 0 0,.slice none 0 0] 25 ?_;intro gb766 hg w5 hbox hb;have BK766:=A_ hbox;have GW766:=gw_ w hg;have GE766:=GW766;replace HB:=b1_ hb;have NB765_766:=gN_ BK765 hg;have NB766_765:=gP_ BK765 hg;replace BK765:=bb_ BK765 hb;clear hb hbox hg))
 replace BK765:=A_ (kB_ BK765.out)
 replace BK766:=A_ (kB_ BK766.out)
 replace HB:=A_ (bC_ HB.out)
 refine start_ (n:=6) (S:=fun w'=>w'.cell? ⟨gb765,0,none⟩ = some (.slice A0_0 l0_0.length c0_0)∧w'.cell? ⟨gb765,1,none⟩ = some (.slice A0_1 l0_1.length c0_1)) (ds:=[]) (bl_ 6 0) (by kernel_rfl) rfl (by kernel_rfl) ⟨cz0_ BK765,cz1_ BK765⟩ (fun hHeld=>?_)
 generalize w5.drew = w6 at BK765 BK766 HB hHeld ⊢
 refine take_ (i:=0) (N:=some 6) (v:=?_) (a':=?_) (bl_ 6 1) rfl rfl (by kernel_rfl) (fun _ _ _ h=>h) (Or.inl ⟨by rfl,?_⟩) hHeld ?_ ?_
 rotate_left
 ·rintro w' ⟨s0,s1⟩
  go_simp
  with_reducible rfl
 rotate_left
 ·simp only [Act.put,sA_,sB_,sC_,i64_w,i32_w]
  rfl
 refine take_ (i:=1) (N:=some 7) (v:=?_) (a':=?_) (bl_ 6 3) rfl rfl (by kernel_rfl) (fun _ _ _ h=>h) (Or.inl ⟨by rfl,?_⟩) hHeld ?_ ?_
 rotate_left
 ·rintro w' ⟨s0,s1⟩
  go_simp
  with_reducible rfl
 rotate_left
 ·simp only [Act.put,sA_,sB_,sC_,i64_w,i32_w]
  rfl
 refine join_ (σ:=Value × Value × Value × Nat) 1 (bl_ 6 31) (fun s_=>[(8,s_.1),(9,.agg #[s_.2.1,s_.2.2.1]),(3,.pointer (some ⟨s_.2.2.2,0,none⟩))]) (fun s_ w'=>(w'.cell? ⟨gb765,0,none⟩ = some (.slice A0_0 l0_0.length c0_0)∧w'.cell? ⟨gb765,1,none⟩ = some (.slice A0_1 l0_1.length c0_1))∧(Kd.R (Kd.int .i64) 3 w' w.heap.size (fun k_=>some k_≠(s_.2.1:Value).ownBlock∧some k_≠(s_.2.2.1:Value).ownBlock) s_.1 t767)∧(Kd.R (Kd.int .i64) 3 w' w.heap.size (fun k_=>some k_≠(s_.1:Value).ownBlock∧some k_≠(s_.2.2.1:Value).ownBlock) s_.2.1 t770)∧(Kd.R (Kd.int .i64) 3 w' w.heap.size (fun k_=>some k_≠(s_.1:Value).ownBlock∧some k_≠(s_.2.1:Value).ownBlock) s_.2.2.1 t773)∧(w'.heap[gb765]? = some (.cells #[.slice A0_0 l0_0.length c0_0,.slice A0_1 l0_1.length c0_1] 25 (0,0)))∧(w'.heap[gb766]? = some (.cells #[.slice none 0 0,.slice none 0 0] 25 (0,0)))∧(w'.heap[s_.2.2.2]? = some (.cells #[.slice none 0 0,.slice none 0 0] 25 (0,0)))∧(w.heap.size≤s_.2.2.2)∧(w.heap.size≤s_.2.2.2)∧(gb765≠s_.2.2.2)∧(s_.2.2.2≠gb765)∧(gb766≠s_.2.2.2)∧(s_.2.2.2≠gb766)∧(Below w.heap.size w w')) ?_ ?_
 rotate_left
 ·intro hCont
  refine two_ (i:=2) (j:=4) (Ni:=some 8) (Nj:=some 3) (bl_ 6 7) (bl_ 6 19) rfl rfl rfl rfl (by kernel_rfl) (by decide) (by decide) (fun K hK=>?_) (fun K hK=>?_)
  ·skip
   refine gO_ Try.func120 #[.agg #[.slice A0_0 l0_0.length c0_0,.slice A0_1 l0_1.length c0_1],.int .i64 0] (by rfl) rfl rfl qa_ ?_
   with_reducible refine (Z47.calls k _ _ l0_0 _ _ l0_1 0 t767 _ (cb_ HR0_0) HC0_0.out (cb_ HR0_1) HC0_1.out A2.out).mono ?_
   rintro e w7 ⟨v768,rfl,ho0,hb⟩
   refine ⟨_,rfl,?_⟩
   have HO769:=rl_ w ho0
   replace BK765:=bb_ BK765 hb
   replace BK766:=bb_ BK766 hb
   replace HB:=b1_ hb
   clear hb ho0
   obtain ⟨Ao8,co8,eo8⟩:=Kd.R_slice HO769.out
   (first|subst eo8|(injection eo8 with a_ b_ c_;have a_:=a_.symm;have c_:=c_.symm;clear b_;subst a_;subst c_))
   refine hK.out _ _ ⟨cz0_ BK765,cz1_ BK765⟩ (fun hHeld=>?_)
   clear hK K
   refine no_ (some 8) ?_
   refine two_ (i:=3) (j:=4) (Ni:=some 9) (Nj:=some 3) (bl_ 6 15) (bl_ 6 23) rfl rfl rfl rfl (by kernel_rfl) (by decide) (by decide) (fun K hK=>?_) (fun K hK=>?_)
   ·skip
    refine gO_ Try.func119 #[.agg #[.slice A0_0 l0_0.length c0_0,.slice A0_1 l0_1.length c0_1],.slice Ao8 t767.length co8] (by rfl) rfl rfl qa_ ?_
    with_reducible refine (Z34.calls k _ _ l0_0 _ _ l0_1 _ _ t767 t770 t773 _ (cb_ HR0_0) HC0_0.out (cb_ HR0_1) HC0_1.out (cr_ HO769) ((Kd.R_reads' HO769.out).2.1) A3.out).mono ?_
    rintro e w9 ⟨v771,v774,rfl,ho0,ho1,hb⟩
    refine ⟨_,rfl,?_⟩
    have HO772:=A_ (rE_ (Kd.R_new' ho0 (Kd.R_lt (rr_ HO769))) (bF_ hB_))
    have HO775:=A_ (rE_ (Kd.R_new' ho1 (Kd.R_lt (rr_ HO769))) (bF_ hB_))
    replace HO769:=A_ (Kd.R_mono (Kd.R_told (Kd.R_told (Kd.R_old (rr_ HO769) hb) (Kd.R_base ho0)) (Kd.R_base ho1)) (fun _ h_=>h_.1))
    replace BK765:=bb_ BK765 hb
    replace BK766:=bb_ BK766 hb
    replace HB:=b1_ hb
    clear hb ho0 ho1
    refine hK.out _ _ ⟨cz0_ BK765,cz1_ BK765⟩ (fun hHeld=>?_)
    clear hK K
    refine no_ (some 9) ?_
    refine one_ (i:=4) (N:=some 3) (bl_ 6 31) rfl rfl (by kernel_rfl) (by decide) (fun K hK=>?_)
    refine box_step ?hg (N:=3) ?hd (cs:=#[.slice none 0 0,.slice none 0 0]) (t:=25) ?hr ?_;(case hd=>rfl);(case hg=>rfl);(case hr=>first | (go_simp;done) | (go_simp;rfl))
    intro gb776 hg w10 hbox hb
    replace HO769:=rb_ HO769 hb
    replace HO772:=rb_ HO772 hb
    replace HO775:=rb_ HO775 hb
    have BK776:=A_ hbox
    have GW776:=gw_ w hg
    have GE776:=GW776
    replace HB:=b1_ hb
    have NB765_776:=gN_ BK765 hg
    have NB776_765:=gP_ BK765 hg
    replace BK765:=bb_ BK765 hb
    have NB766_776:=gN_ BK766 hg
    have NB776_766:=gP_ BK766 hg
    replace BK766:=bb_ BK766 hb
    clear hb hbox hg
    refine hK.out _ _ ⟨cz0_ BK765,cz1_ BK765⟩ (fun hHeld=>?_)
    clear hK K
    refine no_ (some 3) ?_
    exact norm_ (by simp only [putAll,Act.put,sA_,sB_,sC_]) (hCont (.slice Ao8 t767.length co8,v771,v774,gb776) _ ⟨hHeld,(rw_ (Kd.R_mono HO769.out (fun _ hk=>⟨hk.1.2,hk.2⟩))),(rw_ (Kd.R_mono HO772.out (fun _ hk=>⟨hk.2,hk.1⟩))),(rw_ (Kd.R_mono HO775.out (fun _ hk=>⟨hk.2,hk.1⟩))),(kk_ BK765),(kk_ BK766),(kk_ BK776),GW776.out,GE776.out,NB765_776.out,NB776_765.out,NB766_776.out,NB776_766.out,hB_⟩)
   ·skip
    refine box_step ?hg (N:=3) ?hd (cs:=#[.slice none 0 0,.slice none 0 0]) (t:=25) ?hr ?_;(case hd=>rfl);(case hg=>rfl);(case hr=>first | (go_simp;done) | (go_simp;rfl))
    intro gb776 hg w8 hbox hb
    replace HO769:=rb_ HO769 hb
    have BK776:=A_ hbox
    have GW776:=gw_ w hg
    have GE776:=GW776
    replace HB:=b1_ hb
    have NB765_776:=gN_ BK765 hg
    have NB776_765:=gP_ BK765 hg
    replace BK765:=bb_ BK765 hb
    have NB766_776:=gN_ BK766 hg
    have NB776_766:=gP_ BK766 hg
    replace BK766:=bb_ BK766 hb
    clear hb hbox hg
    obtain ⟨Ao9,co9,eo9⟩:=Kd.R_slice HO769.out
    (first|subst eo9|(injection eo9 with a_ b_ c_;have a_:=a_.symm;have c_:=c_.symm;clear b_;subst a_;subst c_))
    refine hK.out _ _ ⟨cz0_ BK765,cz1_ BK765⟩ (fun hHeld=>?_)
    clear hK K
    refine no_ (some 3) ?_
    refine one_ (i:=3) (N:=some 9) (bl_ 6 31) rfl rfl (by kernel_rfl) (by decide) (fun K hK=>?_)
    refine gO_ Try.func119 #[.agg #[.slice A0_0 l0_0.length c0_0,.slice A0_1 l0_1.length c0_1],.slice Ao9 t767.length co9] (by rfl) rfl rfl qa_ ?_
    with_reducible refine (Z34.calls k _ _ l0_0 _ _ l0_1 _ _ t767 t770 t773 _ (cb_ HR0_0) HC0_0.out (cb_ HR0_1) HC0_1.out (cr_ HO769) ((Kd.R_reads' HO769.out).2.1) A3.out).mono ?_
    rintro e w10 ⟨v771,v774,rfl,ho0,ho1,hb⟩
    refine ⟨_,rfl,?_⟩
    have HO772:=A_ (rE_ (Kd.R_new' ho0 (Kd.R_lt (rr_ HO769))) (bF_ hB_))
    have HO775:=A_ (rE_ (Kd.R_new' ho1 (Kd.R_lt (rr_ HO769))) (bF_ hB_))
    replace HO769:=A_ (Kd.R_mono (Kd.R_told (Kd.R_told (Kd.R_old (rr_ HO769) hb) (Kd.R_base ho0)) (Kd.R_base ho1)) (fun _ h_=>h_.1))
    replace BK765:=bb_ BK765 hb
    replace BK766:=bb_ BK766 hb
    replace BK776:=bb_ BK776 hb
    replace HB:=b1_ hb
    clear hb ho0 ho1
    refine hK.out _ _ ⟨cz0_ BK765,cz1_ BK765⟩ (fun hHeld=>?_)
    clear hK K
    refine no_ (some 9) ?_
    exact norm_ (by simp only [putAll,Act.put,sA_,sB_,sC_]) (hCont (.slice Ao9 t767.length co9,v771,v774,gb776) _ ⟨hHeld,(rw_ (Kd.R_mono HO769.out (fun _ hk=>⟨hk.1.2,hk.2⟩))),(rw_ (Kd.R_mono HO772.out (fun _ hk=>⟨hk.2,hk.1⟩))),(rw_ (Kd.R_mono HO775.out (fun _ hk=>⟨hk.2,hk.1⟩))),(kk_ BK765),(kk_ BK766),(kk_ BK776),GW776.out,GE776.out,NB765_776.out,NB776_765.out,NB766_776.out,NB776_766.out,hB_⟩)
  ·skip
   refine box_step ?hg (N:=3) ?hd (cs:=#[.slice none 0 0,.slice none 0 0]) (t:=25) ?hr ?_;(case hd=>rfl);(case hg=>rfl);(case hr=>first | (go_simp;done) | (go_simp;rfl))
   intro gb776 hg w7 hbox hb
   have BK776:=A_ hbox
   have GW776:=gw_ w hg
   have GE776:=GW776
   replace HB:=b1_ hb
   have NB765_776:=gN_ BK765 hg
   have NB776_765:=gP_ BK765 hg
   replace BK765:=bb_ BK765 hb
   have NB766_776:=gN_ BK766 hg
   have NB776_766:=gP_ BK766 hg
   replace BK766:=bb_ BK766 hb
   clear hb hbox hg
   refine hK.out _ _ ⟨cz0_ BK765,cz1_ BK765⟩ (fun hHeld=>?_)
   clear hK K
   refine no_ (some 3) ?_
   refine one_ (i:=2) (N:=some 8) (bl_ 6 23) rfl rfl (by kernel_rfl) (by decide) (fun K hK=>?_)
   refine gO_ Try.func120 #[.agg #[.slice A0_0 l0_0.length c0_0,.slice A0_1 l0_1.length c0_1],.int .i64 0] (by rfl) rfl rfl qa_ ?_
   with_reducible refine (Z47.calls k _ _ l0_0 _ _ l0_1 0 t767 _ (cb_ HR0_0) HC0_0.out (cb_ HR0_1) HC0_1.out A2.out).mono ?_
   rintro e w8 ⟨v768,rfl,ho0,hb⟩
   refine ⟨_,rfl,?_⟩
   have HO769:=rl_ w ho0
   replace BK765:=bb_ BK765 hb
   replace BK766:=bb_ BK766 hb
   replace BK776:=bb_ BK776 hb
   replace HB:=b1_ hb
   clear hb ho0
   obtain ⟨Ao9,co9,eo9⟩:=Kd.R_slice HO769.out
   (first|subst eo9|(injection eo9 with a_ b_ c_;have a_:=a_.symm;have c_:=c_.symm;clear b_;subst a_;subst c_))
   refine hK.out _ _ ⟨cz0_ BK765,cz1_ BK765⟩ (fun hHeld=>?_)
   clear hK K
   refine no_ (some 8) ?_
   refine one_ (i:=3) (N:=some 9) (bl_ 6 31) rfl rfl (by kernel_rfl) (by decide) (fun K hK=>?_)
   refine gO_ Try.func119 #[.agg #[.slice A0_0 l0_0.length c0_0,.slice A0_1 l0_1.length c0_1],.slice Ao9 t767.length co9] (by rfl) rfl rfl qa_ ?_
   with_reducible refine (Z34.calls k _ _ l0_0 _ _ l0_1 _ _ t767 t770 t773 _ (cb_ HR0_0) HC0_0.out (cb_ HR0_1) HC0_1.out (cr_ HO769) ((Kd.R_reads' HO769.out).2.1) A3.out).mono ?_
   rintro e w10 ⟨v771,v774,rfl,ho0,ho1,hb⟩
   refine ⟨_,rfl,?_⟩
   have HO772:=A_ (rE_ (Kd.R_new' ho0 (Kd.R_lt (rr_ HO769))) (bF_ hB_))
   have HO775:=A_ (rE_ (Kd.R_new' ho1 (Kd.R_lt (rr_ HO769))) (bF_ hB_))
   replace HO769:=A_ (Kd.R_mono (Kd.R_told (Kd.R_told (Kd.R_old (rr_ HO769) hb) (Kd.R_base ho0)) (Kd.R_base ho1)) (fun _ h_=>h_.1))
   replace BK765:=bb_ BK765 hb
   replace BK766:=bb_ BK766 hb
   replace BK776:=bb_ BK776 hb
   replace HB:=b1_ hb
   clear hb ho0 ho1
   refine hK.out _ _ ⟨cz0_ BK765,cz1_ BK765⟩ (fun hHeld=>?_)
   clear hK K
   refine no_ (some 9) ?_
   exact norm_ (by simp only [putAll,Act.put,sA_,sB_,sC_]) (hCont (.slice Ao9 t767.length co9,v771,v774,gb776) _ ⟨hHeld,(rw_ (Kd.R_mono HO769.out (fun _ hk=>⟨hk.1.2,hk.2⟩))),(rw_ (Kd.R_mono HO772.out (fun _ hk=>⟨hk.2,hk.1⟩))),(rw_ (Kd.R_mono HO775.out (fun _ hk=>⟨hk.2,hk.1⟩))),(kk_ BK765),(kk_ BK766),(kk_ BK776),GW776.out,GE776.out,NB765_776.out,NB776_765.out,NB766_776.out,NB776_766.out,hB_⟩)
 rintro ⟨v768,v771,v774,gb776⟩ w11 ⟨hS_,h0_,h1_,h2_,h3_,h4_,h5_,h6_,h7_,h8_,h9_,h10_,h11_,h12_⟩
 have n0_:Aside0 (Kd.R (Kd.int .i64) 3 w11 w.heap.size (fun k_=>some k_≠(v771:Value).ownBlock∧some k_≠(v774:Value).ownBlock) v768 t767):=⟨h0_⟩
 have n1_:Aside0 (Kd.R (Kd.int .i64) 3 w11 w.heap.size (fun k_=>some k_≠(v768:Value).ownBlock∧some k_≠(v774:Value).ownBlock) v771 t770):=⟨h1_⟩
 have n2_:Aside0 (Kd.R (Kd.int .i64) 3 w11 w.heap.size (fun k_=>some k_≠(v768:Value).ownBlock∧some k_≠(v771:Value).ownBlock) v774 t773):=⟨h2_⟩
 have n3_:Aside0 (w11.heap[gb765]? = some (.cells #[.slice A0_0 l0_0.length c0_0,.slice A0_1 l0_1.length c0_1] 25 (0,0))):=⟨h3_⟩
 have n4_:Aside0 (w11.heap[gb766]? = some (.cells #[.slice none 0 0,.slice none 0 0] 25 (0,0))):=⟨h4_⟩
 have n5_:Aside0 (w11.heap[gb776]? = some (.cells #[.slice none 0 0,.slice none 0 0] 25 (0,0))):=⟨h5_⟩
 have n6_:Aside0 (w.heap.size≤gb776):=⟨h6_⟩
 have n7_:Aside0 (w.heap.size≤gb776):=⟨h7_⟩
 have n8_:Aside0 (gb765≠gb776):=⟨h8_⟩
 have n9_:Aside0 (gb776≠gb765):=⟨h9_⟩
 have n10_:Aside0 (gb766≠gb776):=⟨h10_⟩
 have n11_:Aside0 (gb776≠gb766):=⟨h11_⟩
 have n12_:Aside0 (Below w.heap.size w w11):=⟨h12_⟩
 clear BK765
 clear BK766
 clear HB
 clear h0_ h1_ h2_ h3_ h4_ h5_ h6_ h7_ h8_ h9_ h10_ h11_ h12_
 have HO769:=n0_
 have HO772:=n1_
 have HO775:=n2_
 have BK765:=n3_
 have BK766:=n4_
 have BK776:=n5_
 have GW776:=n6_
 have GE776:=n7_
 have NB765_776:=n8_
 have NB776_765:=n9_
 have NB766_776:=n10_
 have NB776_766:=n11_
 have HB:=n12_
 clear n0_ n1_ n2_ n3_ n4_ n5_ n6_ n7_ n8_ n9_ n10_ n11_ n12_
 have hHeld:w11.cell? ⟨gb765,0,none⟩ = some (.slice A0_0 l0_0.length c0_0)∧w11.cell? ⟨gb765,1,none⟩ = some (.slice A0_1 l0_1.length c0_1):=hS_
 obtain ⟨Ao12,co12,eo12⟩:=Kd.R_slice HO772.out
 (first|subst eo12|(injection eo12 with a_ b_ c_;have a_:=a_.symm;have c_:=c_.symm;clear b_;subst a_;subst c_))
 obtain ⟨Ao14,co14,eo14⟩:=Kd.R_slice HO775.out
 (first|subst eo14|(injection eo14 with a_ b_ c_;have a_:=a_.symm;have c_:=c_.symm;clear b_;subst a_;subst c_))
 refine norm_ (a':=?_) ?_ ?_
 rotate_left
 ·simp only [putAll,Act.put,sA_,sB_,sC_]
  rfl
 refine one_ (i:=5) (N:=none) (bl_ 6 63) rfl rfl (by kernel_rfl) (by decide) (fun K hK=>?_)
 have hs13:w11.cell? ⟨gb776,0,none⟩ = some (.slice none 0 0):=cz0_ BK776
 have hfs13:=kD_ BK776.out 0
 have hns13_0:=NB765_776.out
 have hns13_1:=NB766_776.out
 have hms13_0:=NB776_765.out
 have hms13_1:=NB776_766.out
 have hs15:w11.cell? ⟨gb776,1,none⟩ = some (.slice none 0 0):=cz1_ BK776
 have hfs15:=kD_ BK776.out 1
 have hns15_0:=NB765_776.out
 have hns15_1:=NB766_776.out
 have hms15_0:=NB776_765.out
 have hms15_1:=NB776_766.out
 refine skip_ (w1:=?_) (by rfl) rfl ?_ ?_
 rotate_left
 ·go_simp
  rfl
 refine hK.out _ _ ⟨((cell_far (p:=⟨gb776,_,none⟩) NB765_776.out _).trans (((cell_far (p:=⟨gb776,_,none⟩) NB765_776.out _).trans (hHeld.1)))),((cell_far (p:=⟨gb776,_,none⟩) NB765_776.out _).trans (((cell_far (p:=⟨gb776,_,none⟩) NB765_776.out _).trans (hHeld.2))))⟩ (fun hHeld=>?_)
 clear hK K
 refine done_ (by kernel_rfl) ?_
 try go_wp2
 go_loopg [4] k (fun kq v4 w'=>∃ (x4_1:Int) (x777000_1:List Int) (x777001_1:List Int) (u777000:Value) (u777001:Value),v4 = .int .i64 x4_1∧Aside0 (Z46.l0 kq x4_1 l0_0 l0_1 x777000_1 x777001_1 = some (r1,r2))∧Aside0 (kq≤k)∧Aside0 (Kd.R (Kd.int .i64) 3 w' w.heap.size (fun k_=>some k_≠(u777001:Value).ownBlock) u777000 x777000_1)∧Aside0 (Kd.R (Kd.int .i64) 3 w' w.heap.size (fun k_=>some k_≠(u777000:Value).ownBlock) u777001 x777001_1)∧Aside0 (w'.heap[gb765]? = some (.cells #[(.slice A0_0 l0_0.length c0_0),(.slice A0_1 l0_1.length c0_1)] 25 (0,0)))∧Aside0 (w'.heap[gb766]? = some (.cells #[(.slice none 0 0),(.slice none 0 0)] 25 (0,0)))∧Aside0 (w'.heap[gb776]? = some (.cells #[u777000,u777001] 25 (0,0)))∧Aside0 (Below w.heap.size w w'))
 case atStart=>exact ⟨(1),(t770),(t773),(.slice Ao12 t770.length co12),(.slice Ao14 t773.length co14),qc_,H',⟨nA_ _⟩,⟨(rw_ (Kd.R_mono (fa_ HO772 BK776) (fun _ hk=>hk.2)))⟩,⟨(rw_ (Kd.R_mono (fa_ HO775 BK776) (fun _ hk=>hk.2)))⟩,⟨by (with_reducible repeat (first | refine kA_ ?_ _ | refine kB_ ?_ | refine kC_ ?_ _));refine blk_far ?_ NB765_776.out _;(with_reducible repeat (first | refine kA_ ?_ _ | refine kB_ ?_ | refine kC_ ?_ _));refine blk_far ?_ NB765_776.out _;(with_reducible repeat (first | refine kA_ ?_ _ | refine kB_ ?_ | refine kC_ ?_ _));exact BK765.out⟩,⟨by (with_reducible repeat (first | refine kA_ ?_ _ | refine kB_ ?_ | refine kC_ ?_ _));refine blk_far ?_ NB766_776.out _;(with_reducible repeat (first | refine kA_ ?_ _ | refine kB_ ?_ | refine kC_ ?_ _));refine blk_far ?_ NB766_776.out _;(with_reducible repeat (first | refine kA_ ?_ _ | refine kB_ ?_ | refine kC_ ?_ _));exact BK766.out⟩,⟨qp_⟩,⟨hB_⟩⟩
 case round =>
  clear H'
  obtain ⟨x4_1,x777000_1,x777001_1,u777000,u777001,rfl,HA,HK1,HO_777000,HO_777001,BK765,BK766,BK776,HB⟩:=hrel
  cases gk with
  | zero=>exact absurd HA.out (by simp [Z46.l0])
  | succ k1 =>
   have H:=HA.out
   clear HA
   simp only [Z46.l0] at H
   by_cases c16:x4_1 < (l0_0.length:Int)
   ·rw [if_pos c16] at H
    have c16b0:=oC_ c16
    clear c16
    obtain ⟨t777,A17,H⟩:=bi_ H
    obtain ⟨⟨t780,t783⟩,A18,H⟩:=bi_ H
    try dsimp only at H
    obtain ⟨t787,A19,H⟩:=bi_ H
    by_cases c20:t787 = true
    ·subst c20
     rw [if_pos rfl] at H
     have H':=A_ H
     clear H
     have hnb21:=NB765_766.out
     have hnc21:=NB766_765.out
     have hnb22:=NB765_776.out
     have hnc22:=NB776_765.out
     obtain ⟨hcz23_0,hcz23_1,hfz23_0,hfz23_1⟩:=c2_ BK765
     try go_wp2
     replace HO_777000:=A_ (rC_ HO_777000.out)
     replace HO_777001:=A_ (rC_ HO_777001.out)
     replace BK765:=A_ (kB_ BK765.out)
     replace BK766:=A_ (kB_ BK766.out)
     replace BK776:=A_ (kB_ BK776.out)
     replace HB:=A_ (bC_ HB.out)
     refine start_ (n:=7) (S:=fun w'=>w'.cell? ⟨gb765,0,none⟩ = some (.slice A0_0 l0_0.length c0_0)∧w'.cell? ⟨gb765,1,none⟩ = some (.slice A0_1 l0_1.length c0_1)) (ds:=[]) (bl_ 7 0) (by kernel_rfl) rfl (by kernel_rfl) ⟨cz0_ BK765,cz1_ BK765⟩ (fun hHeld=>?_)
     generalize wr.drew = w24 at HO_777000 HO_777001 BK765 BK766 BK776 HB hHeld ⊢
     refine pure_ (i:=2) (N:=some 19) (v:=?_) (a':=?_) (bl_ 7 4) rfl rfl (by kernel_rfl) (fun _ _ _ h=>h) (Or.inl ⟨by rfl,?_⟩) ?_ ?_
     rotate_left
     ·intro w'
      go_simp
      with_reducible rfl
     rotate_left
     ·simp only [Act.put,sA_,sB_,sC_,i64_w,i32_w]
      rfl
     refine take_ (i:=0) (N:=some 17) (v:=?_) (a':=?_) (bl_ 7 5) rfl rfl (by kernel_rfl) (fun _ _ _ h=>h) (Or.inl ⟨by rfl,?_⟩) hHeld ?_ ?_
     rotate_left
     ·rintro w' ⟨s0,s1⟩
      go_simp
      with_reducible rfl
     rotate_left
     ·simp only [Act.put,sA_,sB_,sC_,i64_w,i32_w]
      rfl
     refine take_ (i:=1) (N:=some 18) (v:=?_) (a':=?_) (bl_ 7 7) rfl rfl (by kernel_rfl) (fun _ _ _ h=>h) (Or.inl ⟨by rfl,?_⟩) hHeld ?_ ?_
     rotate_left
     ·rintro w' ⟨s0,s1⟩
      go_simp
      with_reducible rfl
     rotate_left
     ·simp only [Act.put,sA_,sB_,sC_,i64_w,i32_w]
      rfl
     refine join_ (σ:=Value × Value × Value × Nat) 1 (bl_ 7 63) (fun s_=>[(20,s_.1),(21,.agg #[s_.2.1,s_.2.2.1]),(5,.pointer (some ⟨s_.2.2.2,0,none⟩))]) (fun s_ w'=>(w'.cell? ⟨gb765,0,none⟩ = some (.slice A0_0 l0_0.length c0_0)∧w'.cell? ⟨gb765,1,none⟩ = some (.slice A0_1 l0_1.length c0_1))∧(Kd.R (Kd.int .i64) 3 w' w.heap.size (fun k_=>some k_≠(s_.2.1:Value).ownBlock∧some k_≠(s_.2.2.1:Value).ownBlock∧some k_≠(u777000:Value).ownBlock∧some k_≠(u777001:Value).ownBlock) s_.1 t777)∧(Kd.R (Kd.int .i64) 3 w' w.heap.size (fun k_=>some k_≠(s_.1:Value).ownBlock∧some k_≠(s_.2.2.1:Value).ownBlock∧some k_≠(u777000:Value).ownBlock∧some k_≠(u777001:Value).ownBlock) s_.2.1 t780)∧(Kd.R (Kd.int .i64) 3 w' w.heap.size (fun k_=>some k_≠(s_.1:Value).ownBlock∧some k_≠(s_.2.1:Value).ownBlock∧some k_≠(u777000:Value).ownBlock∧some k_≠(u777001:Value).ownBlock) s_.2.2.1 t783)∧(Kd.R (Kd.int .i64) 3 w' w.heap.size (fun k_=>some k_≠(s_.1:Value).ownBlock∧some k_≠(s_.2.1:Value).ownBlock∧some k_≠(s_.2.2.1:Value).ownBlock∧some k_≠(u777001:Value).ownBlock) u777000 x777000_1)∧(Kd.R (Kd.int .i64) 3 w' w.heap.size (fun k_=>some k_≠(s_.1:Value).ownBlock∧some k_≠(s_.2.1:Value).ownBlock∧some k_≠(s_.2.2.1:Value).ownBlock∧some k_≠(u777000:Value).ownBlock) u777001 x777001_1)∧(w'.heap[gb765]? = some (.cells #[.slice A0_0 l0_0.length c0_0,.slice A0_1 l0_1.length c0_1] 25 (0,0)))∧(w'.heap[gb766]? = some (.cells #[.slice none 0 0,.slice none 0 0] 25 (0,0)))∧(w'.heap[gb776]? = some (.cells #[u777000,u777001] 25 (0,0)))∧(w'.heap[s_.2.2.2]? = some (.cells #[.slice none 0 0,.slice none 0 0] 25 (0,0)))∧(w.heap.size≤s_.2.2.2)∧(w.heap.size≤s_.2.2.2)∧(gb765≠s_.2.2.2)∧(s_.2.2.2≠gb765)∧(gb766≠s_.2.2.2)∧(s_.2.2.2≠gb766)∧(gb776≠s_.2.2.2)∧(s_.2.2.2≠gb776)∧(Below w.heap.size w w')) ?_ ?_
     rotate_left
     ·intro hCont
      refine two_ (i:=3) (j:=5) (Ni:=some 20) (Nj:=some 5) (bl_ 7 15) (bl_ 7 39) rfl rfl rfl rfl (by kernel_rfl) (by decide) (by decide) (fun K hK=>?_) (fun K hK=>?_)
      ·skip
       refine gO_ Try.func120 #[.agg #[.slice A0_0 l0_0.length c0_0,.slice A0_1 l0_1.length c0_1],.int .i64 x4_1] (by rfl) rfl rfl qa_ ?_
       with_reducible refine (Z47.calls k1 _ _ l0_0 _ _ l0_1 x4_1 t777 _ (cb_ HR0_0) HC0_0.out (cb_ HR0_1) HC0_1.out A17.out).mono ?_
       rintro e w25 ⟨v778,rfl,ho0,hb⟩
       refine ⟨_,rfl,?_⟩
       have HO779:=A_ (rE_ (Kd.R_new' (Kd.R_new' ho0 (Kd.R_lt (rr_ HO_777000))) (Kd.R_lt (rr_ HO_777001))) (bF_ hB_))
       replace HO_777000:=A_ (Kd.R_elder' (rr_ HO_777000) (Kd.R_base ho0) hb)
       replace HO_777001:=A_ (Kd.R_elder' (rr_ HO_777001) (Kd.R_base ho0) hb)
       replace BK765:=bb_ BK765 hb
       replace BK766:=bb_ BK766 hb
       replace BK776:=bb_ BK776 hb
       replace HB:=b1_ hb
       clear hb ho0
       obtain ⟨Ao26,co26,eo26⟩:=Kd.R_slice HO779.out
       (first|subst eo26|(injection eo26 with a_ b_ c_;have a_:=a_.symm;have c_:=c_.symm;clear b_;subst a_;subst c_))
       refine hK.out _ _ ⟨cz0_ BK765,cz1_ BK765⟩ (fun hHeld=>?_)
       clear hK K
       refine no_ (some 20) ?_
       refine two_ (i:=4) (j:=5) (Ni:=some 21) (Nj:=some 5) (bl_ 7 31) (bl_ 7 47) rfl rfl rfl rfl (by kernel_rfl) (by decide) (by decide) (fun K hK=>?_) (fun K hK=>?_)
       ·skip
        refine gO_ Try.func119 #[.agg #[.slice A0_0 l0_0.length c0_0,.slice A0_1 l0_1.length c0_1],.slice Ao26 t777.length co26] (by rfl) rfl rfl qa_ ?_
        with_reducible refine (Z34.calls k1 _ _ l0_0 _ _ l0_1 _ _ t777 t780 t783 _ (cb_ HR0_0) HC0_0.out (cb_ HR0_1) HC0_1.out (cr_ HO779) ((Kd.R_reads' HO779.out).2.1) A18.out).mono ?_
        rintro e w27 ⟨v781,v784,rfl,ho0,ho1,hb⟩
        refine ⟨_,rfl,?_⟩
        have HO782:=A_ (rE_ (Kd.R_new' (Kd.R_new' (Kd.R_new' ho0 (Kd.R_lt (rr_ HO_777000))) (Kd.R_lt (rr_ HO_777001))) (Kd.R_lt (rr_ HO779))) (bF_ hB_))
        have HO785:=A_ (rE_ (Kd.R_new' (Kd.R_new' (Kd.R_new' ho1 (Kd.R_lt (rr_ HO_777000))) (Kd.R_lt (rr_ HO_777001))) (Kd.R_lt (rr_ HO779))) (bF_ hB_))
        replace HO_777000:=A_ (Kd.R_mono (Kd.R_told (Kd.R_told (Kd.R_old (rr_ HO_777000) hb) (Kd.R_base ho0)) (Kd.R_base ho1)) (fun _ h_=>h_.1))
        replace HO_777001:=A_ (Kd.R_mono (Kd.R_told (Kd.R_told (Kd.R_old (rr_ HO_777001) hb) (Kd.R_base ho0)) (Kd.R_base ho1)) (fun _ h_=>h_.1))
        replace HO779:=A_ (Kd.R_mono (Kd.R_told (Kd.R_told (Kd.R_old (rr_ HO779) hb) (Kd.R_base ho0)) (Kd.R_base ho1)) (fun _ h_=>h_.1))
        replace BK765:=bb_ BK765 hb
        replace BK766:=bb_ BK766 hb
        replace BK776:=bb_ BK776 hb
        replace HB:=b1_ hb
        clear hb ho0 ho1
        refine hK.out _ _ ⟨cz0_ BK765,cz1_ BK765⟩ (fun hHeld=>?_)
        clear hK K
        refine no_ (some 21) ?_
        refine one_ (i:=5) (N:=some 5) (bl_ 7 63) rfl rfl (by kernel_rfl) (by decide) (fun K hK=>?_)
        refine box_step ?hg (N:=5) ?hd (cs:=#[.slice none 0 0,.slice none 0 0]) (t:=25) ?hr ?_;(case hd=>rfl);(case hg=>rfl);(case hr=>first | (go_simp;done) | (go_simp;rfl))
        intro gb786 hg w28 hbox hb
        replace HO_777000:=rb_ HO_777000 hb
        replace HO_777001:=rb_ HO_777001 hb
        replace HO779:=rb_ HO779 hb
        replace HO782:=rb_ HO782 hb
        replace HO785:=rb_ HO785 hb
        have BK786:=A_ hbox
        have GW786:=gw_ w hg
        have GE786:=GW786
        replace HB:=b1_ hb
        have NB765_786:=gN_ BK765 hg
        have NB786_765:=gP_ BK765 hg
        replace BK765:=bb_ BK765 hb
        have NB766_786:=gN_ BK766 hg
        have NB786_766:=gP_ BK766 hg
        replace BK766:=bb_ BK766 hb
        have NB776_786:=gN_ BK776 hg
        have NB786_776:=gP_ BK776 hg
        replace BK776:=bb_ BK776 hb
        clear hb hbox hg
        refine hK.out _ _ ⟨cz0_ BK765,cz1_ BK765⟩ (fun hHeld=>?_)
        clear hK K
        refine no_ (some 5) ?_
        exact norm_ (by simp only [putAll,Act.put,sA_,sB_,sC_]) (hCont (.slice Ao26 t777.length co26,v781,v784,gb786) _ ⟨hHeld,(rw_ (Kd.R_mono HO779.out (fun _ hk=>⟨hk.1.2,⟨hk.2,⟨hk.1.1.1.2,hk.1.1.2⟩⟩⟩))),(rw_ (Kd.R_mono HO782.out (fun _ hk=>⟨hk.2,⟨hk.1.1.1,⟨hk.1.1.2,hk.1.2⟩⟩⟩))),(rw_ (Kd.R_mono HO785.out (fun _ hk=>⟨hk.2,⟨hk.1.1.1,⟨hk.1.1.2,hk.1.2⟩⟩⟩))),(rw_ (Kd.R_mono HO_777000.out (fun _ hk=>⟨hk.1.1.2,⟨hk.1.2,⟨hk.2,hk.1.1.1⟩⟩⟩))),(rw_ (Kd.R_mono HO_777001.out (fun _ hk=>⟨hk.1.1.2,⟨hk.1.2,⟨hk.2,hk.1.1.1⟩⟩⟩))),(kk_ BK765),(kk_ BK766),(kk_ BK776),(kk_ BK786),GW786.out,GE786.out,NB765_786.out,NB786_765.out,NB766_786.out,NB786_766.out,NB776_786.out,NB786_776.out,hB_⟩)
       ·skip
        refine box_step ?hg (N:=5) ?hd (cs:=#[.slice none 0 0,.slice none 0 0]) (t:=25) ?hr ?_;(case hd=>rfl);(case hg=>rfl);(case hr=>first | (go_simp;done) | (go_simp;rfl))
        intro gb786 hg w26 hbox hb
        replace HO_777000:=rb_ HO_777000 hb
        replace HO_777001:=rb_ HO_777001 hb
        replace HO779:=rb_ HO779 hb
        have BK786:=A_ hbox
        have GW786:=gw_ w hg
        have GE786:=GW786
        replace HB:=b1_ hb
        have NB765_786:=gN_ BK765 hg
        have NB786_765:=gP_ BK765 hg
        replace BK765:=bb_ BK765 hb
        have NB766_786:=gN_ BK766 hg
        have NB786_766:=gP_ BK766 hg
        replace BK766:=bb_ BK766 hb
        have NB776_786:=gN_ BK776 hg
        have NB786_776:=gP_ BK776 hg
        replace BK776:=bb_ BK776 hb
        clear hb hbox hg
        obtain ⟨Ao27,co27,eo27⟩:=Kd.R_slice HO779.out
        (first|subst eo27|(injection eo27 with a_ b_ c_;have a_:=a_.symm;have c_:=c_.symm;clear b_;subst a_;subst c_))
        refine hK.out _ _ ⟨cz0_ BK765,cz1_ BK765⟩ (fun hHeld=>?_)
        clear hK K
        refine no_ (some 5) ?_
        refine one_ (i:=4) (N:=some 21) (bl_ 7 63) rfl rfl (by kernel_rfl) (by decide) (fun K hK=>?_)
        refine gO_ Try.func119 #[.agg #[.slice A0_0 l0_0.length c0_0,.slice A0_1 l0_1.length c0_1],.slice Ao27 t777.length co27] (by rfl) rfl rfl qa_ ?_
        with_reducible refine (Z34.calls k1 _ _ l0_0 _ _ l0_1 _ _ t777 t780 t783 _ (cb_ HR0_0) HC0_0.out (cb_ HR0_1) HC0_1.out (cr_ HO779) ((Kd.R_reads' HO779.out).2.1) A18.out).mono ?_
        rintro e w28 ⟨v781,v784,rfl,ho0,ho1,hb⟩
        refine ⟨_,rfl,?_⟩
        have HO782:=A_ (rE_ (Kd.R_new' (Kd.R_new' (Kd.R_new' ho0 (Kd.R_lt (rr_ HO_777000))) (Kd.R_lt (rr_ HO_777001))) (Kd.R_lt (rr_ HO779))) (bF_ hB_))
        have HO785:=A_ (rE_ (Kd.R_new' (Kd.R_new' (Kd.R_new' ho1 (Kd.R_lt (rr_ HO_777000))) (Kd.R_lt (rr_ HO_777001))) (Kd.R_lt (rr_ HO779))) (bF_ hB_))
        replace HO_777000:=A_ (Kd.R_mono (Kd.R_told (Kd.R_told (Kd.R_old (rr_ HO_777000) hb) (Kd.R_base ho0)) (Kd.R_base ho1)) (fun _ h_=>h_.1))
        replace HO_777001:=A_ (Kd.R_mono (Kd.R_told (Kd.R_told (Kd.R_old (rr_ HO_777001) hb) (Kd.R_base ho0)) (Kd.R_base ho1)) (fun _ h_=>h_.1))
        replace HO779:=A_ (Kd.R_mono (Kd.R_told (Kd.R_told (Kd.R_old (rr_ HO779) hb) (Kd.R_base ho0)) (Kd.R_base ho1)) (fun _ h_=>h_.1))
        replace BK765:=bb_ BK765 hb
        replace BK766:=bb_ BK766 hb
        replace BK776:=bb_ BK776 hb
        replace BK786:=bb_ BK786 hb
        replace HB:=b1_ hb
        clear hb ho0 ho1
        refine hK.out _ _ ⟨cz0_ BK765,cz1_ BK765⟩ (fun hHeld=>?_)
        clear hK K
        refine no_ (some 21) ?_
        exact norm_ (by simp only [putAll,Act.put,sA_,sB_,sC_]) (hCont (.slice Ao27 t777.length co27,v781,v784,gb786) _ ⟨hHeld,(rw_ (Kd.R_mono HO779.out (fun _ hk=>⟨hk.1.2,⟨hk.2,⟨hk.1.1.1.2,hk.1.1.2⟩⟩⟩))),(rw_ (Kd.R_mono HO782.out (fun _ hk=>⟨hk.2,⟨hk.1.1.1,⟨hk.1.1.2,hk.1.2⟩⟩⟩))),(rw_ (Kd.R_mono HO785.out (fun _ hk=>⟨hk.2,⟨hk.1.1.1,⟨hk.1.1.2,hk.1.2⟩⟩⟩))),(rw_ (Kd.R_mono HO_777000.out (fun _ hk=>⟨hk.1.1.2,⟨hk.1.2,⟨hk.2,hk.1.1.1⟩⟩⟩))),(rw_ (Kd.R_mono HO_777001.out (fun _ hk=>⟨hk.1.1.2,⟨hk.1.2,⟨hk.2,hk.1.1.1⟩⟩⟩))),(kk_ BK765),(kk_ BK766),(kk_ BK776),(kk_ BK786),GW786.out,GE786.out,NB765_786.out,NB786_765.out,NB766_786.out,NB786_766.out,NB776_786.out,NB786_776.out,hB_⟩)
      ·skip
       refine box_step ?hg (N:=5) ?hd (cs:=#[.slice none 0 0,.slice none 0 0]) (t:=25) ?hr ?_;(case hd=>rfl);(case hg=>rfl);(case hr=>first | (go_simp;done) | (go_simp;rfl))
       intro gb786 hg w25 hbox hb
       replace HO_777000:=rb_ HO_777000 hb
       replace HO_777001:=rb_ HO_777001 hb
       have BK786:=A_ hbox
       have GW786:=gw_ w hg
       have GE786:=GW786
       replace HB:=b1_ hb
       have NB765_786:=gN_ BK765 hg
       have NB786_765:=gP_ BK765 hg
       replace BK765:=bb_ BK765 hb
       have NB766_786:=gN_ BK766 hg
       have NB786_766:=gP_ BK766 hg
       replace BK766:=bb_ BK766 hb
       have NB776_786:=gN_ BK776 hg
       have NB786_776:=gP_ BK776 hg
       replace BK776:=bb_ BK776 hb
       clear hb hbox hg
       refine hK.out _ _ ⟨cz0_ BK765,cz1_ BK765⟩ (fun hHeld=>?_)
       clear hK K
       refine no_ (some 5) ?_
       refine one_ (i:=3) (N:=some 20) (bl_ 7 47) rfl rfl (by kernel_rfl) (by decide) (fun K hK=>?_)
       refine gO_ Try.func120 #[.agg #[.slice A0_0 l0_0.length c0_0,.slice A0_1 l0_1.length c0_1],.int .i64 x4_1] (by rfl) rfl rfl qa_ ?_
       with_reducible refine (Z47.calls k1 _ _ l0_0 _ _ l0_1 x4_1 t777 _ (cb_ HR0_0) HC0_0.out (cb_ HR0_1) HC0_1.out A17.out).mono ?_
       rintro e w26 ⟨v778,rfl,ho0,hb⟩
       refine ⟨_,rfl,?_⟩
       have HO779:=A_ (rE_ (Kd.R_new' (Kd.R_new' ho0 (Kd.R_lt (rr_ HO_777000))) (Kd.R_lt (rr_ HO_777001))) (bF_ hB_))
       replace HO_777000:=A_ (Kd.R_elder' (rr_ HO_777000) (Kd.R_base ho0) hb)
       replace HO_777001:=A_ (Kd.R_elder' (rr_ HO_777001) (Kd.R_base ho0) hb)
       replace BK765:=bb_ BK765 hb
       replace BK766:=bb_ BK766 hb
       replace BK776:=bb_ BK776 hb
       replace BK786:=bb_ BK786 hb
       replace HB:=b1_ hb
       clear hb ho0
       obtain ⟨Ao27,co27,eo27⟩:=Kd.R_slice HO779.out
       (first|subst eo27|(injection eo27 with a_ b_ c_;have a_:=a_.symm;have c_:=c_.symm;clear b_;subst a_;subst c_))
       refine hK.out _ _ ⟨cz0_ BK765,cz1_ BK765⟩ (fun hHeld=>?_)
       clear hK K
       refine no_ (some 20) ?_
       refine one_ (i:=4) (N:=some 21) (bl_ 7 63) rfl rfl (by kernel_rfl) (by decide) (fun K hK=>?_)
       refine gO_ Try.func119 #[.agg #[.slice A0_0 l0_0.length c0_0,.slice A0_1 l0_1.length c0_1],.slice Ao27 t777.length co27] (by rfl) rfl rfl qa_ ?_
       with_reducible refine (Z34.calls k1 _ _ l0_0 _ _ l0_1 _ _ t777 t780 t783 _ (cb_ HR0_0) HC0_0.out (cb_ HR0_1) HC0_1.out (cr_ HO779) ((Kd.R_reads' HO779.out).2.1) A18.out).mono ?_
       rintro e w28 ⟨v781,v784,rfl,ho0,ho1,hb⟩
       refine ⟨_,rfl,?_⟩
       have HO782:=A_ (rE_ (Kd.R_new' (Kd.R_new' (Kd.R_new' ho0 (Kd.R_lt (rr_ HO_777000))) (Kd.R_lt (rr_ HO_777001))) (Kd.R_lt (rr_ HO779))) (bF_ hB_))
       have HO785:=A_ (rE_ (Kd.R_new' (Kd.R_new' (Kd.R_new' ho1 (Kd.R_lt (rr_ HO_777000))) (Kd.R_lt (rr_ HO_777001))) (Kd.R_lt (rr_ HO779))) (bF_ hB_))
       replace HO_777000:=A_ (Kd.R_mono (Kd.R_told (Kd.R_told (Kd.R_old (rr_ HO_777000) hb) (Kd.R_base ho0)) (Kd.R_base ho1)) (fun _ h_=>h_.1))
       replace HO_777001:=A_ (Kd.R_mono (Kd.R_told (Kd.R_told (Kd.R_old (rr_ HO_777001) hb) (Kd.R_base ho0)) (Kd.R_base ho1)) (fun _ h_=>h_.1))
       replace HO779:=A_ (Kd.R_mono (Kd.R_told (Kd.R_told (Kd.R_old (rr_ HO779) hb) (Kd.R_base ho0)) (Kd.R_base ho1)) (fun _ h_=>h_.1))
       replace BK765:=bb_ BK765 hb
       replace BK766:=bb_ BK766 hb
       replace BK776:=bb_ BK776 hb
       replace BK786:=bb_ BK786 hb
       replace HB:=b1_ hb
       clear hb ho0 ho1
       refine hK.out _ _ ⟨cz0_ BK765,cz1_ BK765⟩ (fun hHeld=>?_)
       clear hK K
       refine no_ (some 21) ?_
       exact norm_ (by simp only [putAll,Act.put,sA_,sB_,sC_]) (hCont (.slice Ao27 t777.length co27,v781,v784,gb786) _ ⟨hHeld,(rw_ (Kd.R_mono HO779.out (fun _ hk=>⟨hk.1.2,⟨hk.2,⟨hk.1.1.1.2,hk.1.1.2⟩⟩⟩))),(rw_ (Kd.R_mono HO782.out (fun _ hk=>⟨hk.2,⟨hk.1.1.1,⟨hk.1.1.2,hk.1.2⟩⟩⟩))),(rw_ (Kd.R_mono HO785.out (fun _ hk=>⟨hk.2,⟨hk.1.1.1,⟨hk.1.1.2,hk.1.2⟩⟩⟩))),(rw_ (Kd.R_mono HO_777000.out (fun _ hk=>⟨hk.1.1.2,⟨hk.1.2,⟨hk.2,hk.1.1.1⟩⟩⟩))),(rw_ (Kd.R_mono HO_777001.out (fun _ hk=>⟨hk.1.1.2,⟨hk.1.2,⟨hk.2,hk.1.1.1⟩⟩⟩))),(kk_ BK765),(kk_ BK766),(kk_ BK776),(kk_ BK786),GW786.out,GE786.out,NB765_786.out,NB786_765.out,NB766_786.out,NB786_766.out,NB776_786.out,NB786_776.out,hB_⟩)
     rintro ⟨v778,v781,v784,gb786⟩ w29 ⟨hS_,h0_,h1_,h2_,h3_,h4_,h5_,h6_,h7_,h8_,h9_,h10_,h11_,h12_,h13_,h14_,h15_,h16_,h17_⟩
     have n0_:Aside0 (Kd.R (Kd.int .i64) 3 w29 w.heap.size (fun k_=>some k_≠(v781:Value).ownBlock∧some k_≠(v784:Value).ownBlock∧some k_≠(u777000:Value).ownBlock∧some k_≠(u777001:Value).ownBlock) v778 t777):=⟨h0_⟩
     have n1_:Aside0 (Kd.R (Kd.int .i64) 3 w29 w.heap.size (fun k_=>some k_≠(v778:Value).ownBlock∧some k_≠(v784:Value).ownBlock∧some k_≠(u777000:Value).ownBlock∧some k_≠(u777001:Value).ownBlock) v781 t780):=⟨h1_⟩
     have n2_:Aside0 (Kd.R (Kd.int .i64) 3 w29 w.heap.size (fun k_=>some k_≠(v778:Value).ownBlock∧some k_≠(v781:Value).ownBlock∧some k_≠(u777000:Value).ownBlock∧some k_≠(u777001:Value).ownBlock) v784 t783):=⟨h2_⟩
     have n3_:Aside0 (Kd.R (Kd.int .i64) 3 w29 w.heap.size (fun k_=>some k_≠(v778:Value).ownBlock∧some k_≠(v781:Value).ownBlock∧some k_≠(v784:Value).ownBlock∧some k_≠(u777001:Value).ownBlock) u777000 x777000_1):=⟨h3_⟩
     have n4_:Aside0 (Kd.R (Kd.int .i64) 3 w29 w.heap.size (fun k_=>some k_≠(v778:Value).ownBlock∧some k_≠(v781:Value).ownBlock∧some k_≠(v784:Value).ownBlock∧some k_≠(u777000:Value).ownBlock) u777001 x777001_1):=⟨h4_⟩
     have n5_:Aside0 (w29.heap[gb765]? = some (.cells #[.slice A0_0 l0_0.length c0_0,.slice A0_1 l0_1.length c0_1] 25 (0,0))):=⟨h5_⟩
     have n6_:Aside0 (w29.heap[gb766]? = some (.cells #[.slice none 0 0,.slice none 0 0] 25 (0,0))):=⟨h6_⟩
     have n7_:Aside0 (w29.heap[gb776]? = some (.cells #[u777000,u777001] 25 (0,0))):=⟨h7_⟩
     have n8_:Aside0 (w29.heap[gb786]? = some (.cells #[.slice none 0 0,.slice none 0 0] 25 (0,0))):=⟨h8_⟩
     have n9_:Aside0 (w.heap.size≤gb786):=⟨h9_⟩
     have n10_:Aside0 (w.heap.size≤gb786):=⟨h10_⟩
     have n11_:Aside0 (gb765≠gb786):=⟨h11_⟩
     have n12_:Aside0 (gb786≠gb765):=⟨h12_⟩
     have n13_:Aside0 (gb766≠gb786):=⟨h13_⟩
     have n14_:Aside0 (gb786≠gb766):=⟨h14_⟩
     have n15_:Aside0 (gb776≠gb786):=⟨h15_⟩
     have n16_:Aside0 (gb786≠gb776):=⟨h16_⟩
     have n17_:Aside0 (Below w.heap.size w w29):=⟨h17_⟩
     clear HO_777000
     clear HO_777001
     clear BK765
     clear BK766
     clear BK776
     clear HB
     clear h0_ h1_ h2_ h3_ h4_ h5_ h6_ h7_ h8_ h9_ h10_ h11_ h12_ h13_ h14_ h15_ h16_ h17_
     have HO779:=n0_
     have HO782:=n1_
     have HO785:=n2_
     have HO_777000:=n3_
     have HO_777001:=n4_
     have BK765:=n5_
     have BK766:=n6_
     have BK776:=n7_
     have BK786:=n8_
     have GW786:=n9_
     have GE786:=n10_
     have NB765_786:=n11_
     have NB786_765:=n12_
     have NB766_786:=n13_
     have NB786_766:=n14_
     have NB776_786:=n15_
     have NB786_776:=n16_
     have HB:=n17_
     clear n0_ n1_ n2_ n3_ n4_ n5_ n6_ n7_ n8_ n9_ n10_ n11_ n12_ n13_ n14_ n15_ n16_ n17_
     have hHeld:w29.cell? ⟨gb765,0,none⟩ = some (.slice A0_0 l0_0.length c0_0)∧w29.cell? ⟨gb765,1,none⟩ = some (.slice A0_1 l0_1.length c0_1):=hS_
     obtain ⟨Ao30,co30,eo30⟩:=Kd.R_slice HO782.out
     (first|subst eo30|(injection eo30 with a_ b_ c_;have a_:=a_.symm;have c_:=c_.symm;clear b_;subst a_;subst c_))
     obtain ⟨Ao32,co32,eo32⟩:=Kd.R_slice HO785.out
     (first|subst eo32|(injection eo32 with a_ b_ c_;have a_:=a_.symm;have c_:=c_.symm;clear b_;subst a_;subst c_))
     refine norm_ (a':=?_) ?_ ?_
     rotate_left
     ·simp only [putAll,Act.put,sA_,sB_,sC_]
      rfl
     refine one_ (i:=6) (N:=none) (bl_ 7 127) rfl rfl (by kernel_rfl) (by decide) (fun K hK=>?_)
     have hs31:w29.cell? ⟨gb786,0,none⟩ = some (.slice none 0 0):=cz0_ BK786
     have hfs31:=kD_ BK786.out 0
     have hns31_0:=NB765_786.out
     have hns31_1:=NB766_786.out
     have hns31_2:=NB776_786.out
     have hms31_0:=NB786_765.out
     have hms31_1:=NB786_766.out
     have hms31_2:=NB786_776.out
     have hs33:w29.cell? ⟨gb786,1,none⟩ = some (.slice none 0 0):=cz1_ BK786
     have hfs33:=kD_ BK786.out 1
     have hns33_0:=NB765_786.out
     have hns33_1:=NB766_786.out
     have hns33_2:=NB776_786.out
     have hms33_0:=NB786_765.out
     have hms33_1:=NB786_766.out
     have hms33_2:=NB786_776.out
     refine skip_ (w1:=?_) (by rfl) rfl ?_ ?_
     rotate_left
     ·go_simp
      rfl
     refine hK.out _ _ ⟨((cell_far (p:=⟨gb786,_,none⟩) NB765_786.out _).trans (((cell_far (p:=⟨gb786,_,none⟩) NB765_786.out _).trans (hHeld.1)))),((cell_far (p:=⟨gb786,_,none⟩) NB765_786.out _).trans (((cell_far (p:=⟨gb786,_,none⟩) NB765_786.out _).trans (hHeld.2))))⟩ (fun hHeld=>?_)
     clear hK K
     refine done_ (by kernel_rfl) ?_
     have hnb34:=NB786_765.out
     have hnc34:=NB765_786.out
     have hnb35:=NB786_766.out
     have hnc35:=NB766_786.out
     have hnb36:=NB786_776.out
     have hnc36:=NB776_786.out
     obtain ⟨hcz37_0,hcz37_1,hfz37_0,hfz37_1⟩:=c2_ BK786
     have hnb38:=NB776_766.out
     have hnc38:=NB766_776.out
     obtain ⟨hcz39_0,hcz39_1,hfz39_0,hfz39_1⟩:=c2_ BK776
     obtain ⟨Ao40,co40,eo40⟩:=Kd.R_slice HO_777000.out
     subst eo40
     obtain ⟨Ao41,co41,eo41⟩:=Kd.R_slice HO_777001.out
     subst eo41
     try go_wp2_with (first | ((with_reducible refine gA_ (f:=121) rfl ?_);refine gL_ (some 24) Try.func121 #[.agg #[.slice Ao30 t780.length co30,.slice Ao32 t783.length co32],.agg #[.slice Ao40 x777000_1.length co40,.slice Ao41 x777001_1.length co41]] rfl qa_ ?_;(with_reducible refine (Z33.calls k1 _ _ t780 _ _ t783 _ _ x777000_1 _ _ x777001_1 true _ ?side1 ?side2 ?side3 ?side4 ?side5 ?side6 ?side7 ?side8 A19.out).mono ?_);(case side1=>refine (Kd.R_reads' (e:=3) (base:=w.heap.size) (ok:=fun k_=>(some k_≠(v778:Value).ownBlock∧(some k_≠(.slice Ao32 t783.length co32:Value).ownBlock∧(some k_≠(.slice Ao40 x777000_1.length co40:Value).ownBlock∧some k_≠(.slice Ao41 x777001_1.length co41:Value).ownBlock)))) (n:=t780.length) (c:=co30) ?_).2.2;exact (rw_ (fa_ HO782 BK786)));(case side2=>exact (Kd.R_reads' HO782.out).2.1);(case side3=>refine (Kd.R_reads' (e:=3) (base:=w.heap.size) (ok:=fun k_=>(some k_≠(v778:Value).ownBlock∧(some k_≠(.slice Ao30 t780.length co30:Value).ownBlock∧(some k_≠(.slice Ao40 x777000_1.length co40:Value).ownBlock∧some k_≠(.slice Ao41 x777001_1.length co41:Value).ownBlock)))) (n:=t783.length) (c:=co32) ?_).2.2;exact (rw_ (fa_ HO785 BK786)));(case side4=>exact (Kd.R_reads' HO785.out).2.1);(case side5=>refine (Kd.R_reads' (e:=3) (base:=w.heap.size) (ok:=fun k_=>(some k_≠(v778:Value).ownBlock∧(some k_≠(.slice Ao30 t780.length co30:Value).ownBlock∧(some k_≠(.slice Ao32 t783.length co32:Value).ownBlock∧some k_≠(.slice Ao41 x777001_1.length co41:Value).ownBlock)))) (n:=x777000_1.length) (c:=co40) ?_).2.2;exact (rw_ (fa_ HO_777000 BK786)));(case side6=>exact (Kd.R_reads' HO_777000.out).2.1);(case side7=>refine (Kd.R_reads' (e:=3) (base:=w.heap.size) (ok:=fun k_=>(some k_≠(v778:Value).ownBlock∧(some k_≠(.slice Ao30 t780.length co30:Value).ownBlock∧(some k_≠(.slice Ao32 t783.length co32:Value).ownBlock∧some k_≠(.slice Ao40 x777000_1.length co40:Value).ownBlock)))) (n:=x777001_1.length) (c:=co41) ?_).2.2;exact (rw_ (fa_ HO_777001 BK786)));(case side8=>exact (Kd.R_reads' HO_777001.out).2.1);rintro e w42 ⟨rfl,hb⟩;refine ⟨_,rfl,?_⟩;replace HO_777000:=A_ (rD_ (rw_ (fa_ HO_777000 BK786)) hb);replace HO_777001:=A_ (rD_ (rw_ (fa_ HO_777001 BK786)) hb);replace HO779:=A_ (rD_ (rw_ (fa_ HO779 BK786)) hb);replace HO782:=A_ (rD_ (rw_ (fa_ HO782 BK786)) hb);replace HO785:=A_ (rD_ (rw_ (fa_ HO785 BK786)) hb);replace BK765:=A_ (kE_ (g:=gb765) (o:=.cells #[.slice A0_0 l0_0.length c0_0,.slice A0_1 l0_1.length c0_1] 25 (0,0)) (by (with_reducible repeat (first | refine kA_ ?_ _ | refine kB_ ?_ | refine kC_ ?_ _));refine blk_far ?_ NB765_786.out _;(with_reducible repeat (first | refine kA_ ?_ _ | refine kB_ ?_ | refine kC_ ?_ _));refine blk_far ?_ NB765_786.out _;(with_reducible repeat (first | refine kA_ ?_ _ | refine kB_ ?_ | refine kC_ ?_ _));exact BK765.out) hb);replace BK766:=A_ (kE_ (g:=gb766) (o:=.cells #[.slice none 0 0,.slice none 0 0] 25 (0,0)) (by (with_reducible repeat (first | refine kA_ ?_ _ | refine kB_ ?_ | refine kC_ ?_ _));refine blk_far ?_ NB766_786.out _;(with_reducible repeat (first | refine kA_ ?_ _ | refine kB_ ?_ | refine kC_ ?_ _));refine blk_far ?_ NB766_786.out _;(with_reducible repeat (first | refine kA_ ?_ _ | refine kB_ ?_ | refine kC_ ?_ _));exact BK766.out) hb);replace BK776:=A_ (kE_ (g:=gb776) (o:=.cells #[.slice Ao40 x777000_1.length co40,.slice Ao41 x777001_1.length co41] 25 (0,0)) (by (with_reducible repeat (first | refine kA_ ?_ _ | refine kB_ ?_ | refine kC_ ?_ _));refine blk_far ?_ NB776_786.out _;(with_reducible repeat (first | refine kA_ ?_ _ | refine kB_ ?_ | refine kC_ ?_ _));refine blk_far ?_ NB776_786.out _;(with_reducible repeat (first | refine kA_ ?_ _ | refine kB_ ?_ | refine kC_ ?_ _));exact BK776.out) hb);replace BK786:=A_ (kE_ (g:=gb786) (o:=.cells #[.slice Ao30 t780.length co30,.slice Ao32 t783.length co32] 25 (0,0)) qp_ hb);replace HB:=b1_ hb;clear hb;obtain ⟨hcz43_0,hcz43_1,hfz43_0,hfz43_1⟩:=c2_ BK786;obtain ⟨hcz44_0,hcz44_1,hfz44_0,hfz44_1⟩:=c2_ BK776))
     go_roundg k1
     case measure=>have:=HK1.out;omega
     case rel=>exact ⟨(wrap64 (x4_1 + 1)),(t780),(t783),(.slice Ao30 t780.length co30),(.slice Ao32 t783.length co32),qc_,H',⟨by have:=HK1.out;omega⟩,⟨(rw_ (Kd.R_mono (fa_ HO782 BK776) (fun _ hk=>hk.2.1)))⟩,⟨(rw_ (Kd.R_mono (fa_ HO785 BK776) (fun _ hk=>hk.2.1)))⟩,⟨by (with_reducible repeat (first | refine kA_ ?_ _ | refine kB_ ?_ | refine kC_ ?_ _));refine blk_far ?_ NB765_776.out _;(with_reducible repeat (first | refine kA_ ?_ _ | refine kB_ ?_ | refine kC_ ?_ _));refine blk_far ?_ NB765_776.out _;(with_reducible repeat (first | refine kA_ ?_ _ | refine kB_ ?_ | refine kC_ ?_ _));exact BK765.out⟩,⟨by (with_reducible repeat (first | refine kA_ ?_ _ | refine kB_ ?_ | refine kC_ ?_ _));refine blk_far ?_ NB766_776.out _;(with_reducible repeat (first | refine kA_ ?_ _ | refine kB_ ?_ | refine kC_ ?_ _));refine blk_far ?_ NB766_776.out _;(with_reducible repeat (first | refine kA_ ?_ _ | refine kB_ ?_ | refine kC_ ?_ _));exact BK766.out⟩,⟨qp_⟩,⟨hB_⟩⟩
    ·replace c20:=Bool.eq_false_iff.mpr c20
     subst c20
     have H1:(Z46.l0 k1 (wrap64 (x4_1 + 1)) l0_0 l0_1 x777000_1 x777001_1) = some (r1,r2):=by rw [if_neg (show ¬ (false = true) by decide)] at H;exact H
     clear H
     have H:=H1
     clear H1
     have H':=A_ H
     clear H
     have hnb45:=NB765_766.out
     have hnc45:=NB766_765.out
     have hnb46:=NB765_776.out
     have hnc46:=NB776_765.out
     obtain ⟨hcz47_0,hcz47_1,hfz47_0,hfz47_1⟩:=c2_ BK765
     try go_wp2
     replace HO_777000:=A_ (rC_ HO_777000.out)
     replace HO_777001:=A_ (rC_ HO_777001.out)
     replace BK765:=A_ (kB_ BK765.out)
     replace BK766:=A_ (kB_ BK766.out)
     replace BK776:=A_ (kB_ BK776.out)
     replace HB:=A_ (bC_ HB.out)
     refine start_ (n:=7) (S:=fun w'=>w'.cell? ⟨gb765,0,none⟩ = some (.slice A0_0 l0_0.length c0_0)∧w'.cell? ⟨gb765,1,none⟩ = some (.slice A0_1 l0_1.length c0_1)) (ds:=[]) (bl_ 7 0) (by kernel_rfl) rfl (by kernel_rfl) ⟨cz0_ BK765,cz1_ BK765⟩ (fun hHeld=>?_)
     generalize wr.drew = w48 at HO_777000 HO_777001 BK765 BK766 BK776 HB hHeld ⊢
     refine pure_ (i:=2) (N:=some 19) (v:=?_) (a':=?_) (bl_ 7 4) rfl rfl (by kernel_rfl) (fun _ _ _ h=>h) (Or.inl ⟨by rfl,?_⟩) ?_ ?_
     rotate_left
     ·intro w'
      go_simp
      with_reducible rfl
     rotate_left
     ·simp only [Act.put,sA_,sB_,sC_,i64_w,i32_w]
      rfl
     refine take_ (i:=0) (N:=some 17) (v:=?_) (a':=?_) (bl_ 7 5) rfl rfl (by kernel_rfl) (fun _ _ _ h=>h) (Or.inl ⟨by rfl,?_⟩) hHeld ?_ ?_
     rotate_left
     ·rintro w' ⟨s0,s1⟩
      go_simp
      with_reducible rfl
     rotate_left
     ·simp only [Act.put,sA_,sB_,sC_,i64_w,i32_w]
      rfl
     refine take_ (i:=1) (N:=some 18) (v:=?_) (a':=?_) (bl_ 7 7) rfl rfl (by kernel_rfl) (fun _ _ _ h=>h) (Or.inl ⟨by rfl,?_⟩) hHeld ?_ ?_
     rotate_left
     ·rintro w' ⟨s0,s1⟩
      go_simp
      with_reducible rfl
     rotate_left
     ·simp only [Act.put,sA_,sB_,sC_,i64_w,i32_w]
      rfl
     refine join_ (σ:=Value × Value × Value × Nat) 1 (bl_ 7 63) (fun s_=>[(20,s_.1),(21,.agg #[s_.2.1,s_.2.2.1]),(5,.pointer (some ⟨s_.2.2.2,0,none⟩))]) (fun s_ w'=>(w'.cell? ⟨gb765,0,none⟩ = some (.slice A0_0 l0_0.length c0_0)∧w'.cell? ⟨gb765,1,none⟩ = some (.slice A0_1 l0_1.length c0_1))∧(Kd.R (Kd.int .i64) 3 w' w.heap.size (fun k_=>some k_≠(s_.2.1:Value).ownBlock∧some k_≠(s_.2.2.1:Value).ownBlock∧some k_≠(u777000:Value).ownBlock∧some k_≠(u777001:Value).ownBlock) s_.1 t777)∧(Kd.R (Kd.int .i64) 3 w' w.heap.size (fun k_=>some k_≠(s_.1:Value).ownBlock∧some k_≠(s_.2.2.1:Value).ownBlock∧some k_≠(u777000:Value).ownBlock∧some k_≠(u777001:Value).ownBlock) s_.2.1 t780)∧(Kd.R (Kd.int .i64) 3 w' w.heap.size (fun k_=>some k_≠(s_.1:Value).ownBlock∧some k_≠(s_.2.1:Value).ownBlock∧some k_≠(u777000:Value).ownBlock∧some k_≠(u777001:Value).ownBlock) s_.2.2.1 t783)∧(Kd.R (Kd.int .i64) 3 w' w.heap.size (fun k_=>some k_≠(s_.1:Value).ownBlock∧some k_≠(s_.2.1:Value).ownBlock∧some k_≠(s_.2.2.1:Value).ownBlock∧some k_≠(u777001:Value).ownBlock) u777000 x777000_1)∧(Kd.R (Kd.int .i64) 3 w' w.heap.size (fun k_=>some k_≠(s_.1:Value).ownBlock∧some k_≠(s_.2.1:Value).ownBlock∧some k_≠(s_.2.2.1:Value).ownBlock∧some k_≠(u777000:Value).ownBlock) u777001 x777001_1)∧(w'.heap[gb765]? = some (.cells #[.slice A0_0 l0_0.length c0_0,.slice A0_1 l0_1.length c0_1] 25 (0,0)))∧(w'.heap[gb766]? = some (.cells #[.slice none 0 0,.slice none 0 0] 25 (0,0)))∧(w'.heap[gb776]? = some (.cells #[u777000,u777001] 25 (0,0)))∧(w'.heap[s_.2.2.2]? = some (.cells #[.slice none 0 0,.slice none 0 0] 25 (0,0)))∧(w.heap.size≤s_.2.2.2)∧(w.heap.size≤s_.2.2.2)∧(gb765≠s_.2.2.2)∧(s_.2.2.2≠gb765)∧(gb766≠s_.2.2.2)∧(s_.2.2.2≠gb766)∧(gb776≠s_.2.2.2)∧(s_.2.2.2≠gb776)∧(Below w.heap.size w w')) ?_ ?_
     rotate_left
     ·intro hCont
      refine two_ (i:=3) (j:=5) (Ni:=some 20) (Nj:=some 5) (bl_ 7 15) (bl_ 7 39) rfl rfl rfl rfl (by kernel_rfl) (by decide) (by decide) (fun K hK=>?_) (fun K hK=>?_)
      ·skip
       refine gO_ Try.func120 #[.agg #[.slice A0_0 l0_0.length c0_0,.slice A0_1 l0_1.length c0_1],.int .i64 x4_1] (by rfl) rfl rfl qa_ ?_
       with_reducible refine (Z47.calls k1 _ _ l0_0 _ _ l0_1 x4_1 t777 _ (cb_ HR0_0) HC0_0.out (cb_ HR0_1) HC0_1.out A17.out).mono ?_
       rintro e w49 ⟨v778,rfl,ho0,hb⟩
       refine ⟨_,rfl,?_⟩
       have HO779:=A_ (rE_ (Kd.R_new' (Kd.R_new' ho0 (Kd.R_lt (rr_ HO_777000))) (Kd.R_lt (rr_ HO_777001))) (bF_ hB_))
       replace HO_777000:=A_ (Kd.R_elder' (rr_ HO_777000) (Kd.R_base ho0) hb)
       replace HO_777001:=A_ (Kd.R_elder' (rr_ HO_777001) (Kd.R_base ho0) hb)
       replace BK765:=bb_ BK765 hb
       replace BK766:=bb_ BK766 hb
       replace BK776:=bb_ BK776 hb
       replace HB:=b1_ hb
       clear hb ho0
       obtain ⟨Ao50,co50,eo50⟩:=Kd.R_slice HO779.out
       (first|subst eo50|(injection eo50 with a_ b_ c_;have a_:=a_.symm;have c_:=c_.symm;clear b_;subst a_;subst c_))
       refine hK.out _ _ ⟨cz0_ BK765,cz1_ BK765⟩ (fun hHeld=>?_)
       clear hK K
       refine no_ (some 20) ?_
       refine two_ (i:=4) (j:=5) (Ni:=some 21) (Nj:=some 5) (bl_ 7 31) (bl_ 7 47) rfl rfl rfl rfl (by kernel_rfl) (by decide) (by decide) (fun K hK=>?_) (fun K hK=>?_)
       ·skip
        refine gO_ Try.func119 #[.agg #[.slice A0_0 l0_0.length c0_0,.slice A0_1 l0_1.length c0_1],.slice Ao50 t777.length co50] (by rfl) rfl rfl qa_ ?_
        with_reducible refine (Z34.calls k1 _ _ l0_0 _ _ l0_1 _ _ t777 t780 t783 _ (cb_ HR0_0) HC0_0.out (cb_ HR0_1) HC0_1.out (cr_ HO779) ((Kd.R_reads' HO779.out).2.1) A18.out).mono ?_
        rintro e w51 ⟨v781,v784,rfl,ho0,ho1,hb⟩
        refine ⟨_,rfl,?_⟩
        have HO782:=A_ (rE_ (Kd.R_new' (Kd.R_new' (Kd.R_new' ho0 (Kd.R_lt (rr_ HO_777000))) (Kd.R_lt (rr_ HO_777001))) (Kd.R_lt (rr_ HO779))) (bF_ hB_))
        have HO785:=A_ (rE_ (Kd.R_new' (Kd.R_new' (Kd.R_new' ho1 (Kd.R_lt (rr_ HO_777000))) (Kd.R_lt (rr_ HO_777001))) (Kd.R_lt (rr_ HO779))) (bF_ hB_))
        replace HO_777000:=A_ (Kd.R_mono (Kd.R_told (Kd.R_told (Kd.R_old (rr_ HO_777000) hb) (Kd.R_base ho0)) (Kd.R_base ho1)) (fun _ h_=>h_.1))
        replace HO_777001:=A_ (Kd.R_mono (Kd.R_told (Kd.R_told (Kd.R_old (rr_ HO_777001) hb) (Kd.R_base ho0)) (Kd.R_base ho1)) (fun _ h_=>h_.1))
        replace HO779:=A_ (Kd.R_mono (Kd.R_told (Kd.R_told (Kd.R_old (rr_ HO779) hb) (Kd.R_base ho0)) (Kd.R_base ho1)) (fun _ h_=>h_.1))
        replace BK765:=bb_ BK765 hb
        replace BK766:=bb_ BK766 hb
        replace BK776:=bb_ BK776 hb
        replace HB:=b1_ hb
        clear hb ho0 ho1
        refine hK.out _ _ ⟨cz0_ BK765,cz1_ BK765⟩ (fun hHeld=>?_)
        clear hK K
        refine no_ (some 21) ?_
        refine one_ (i:=5) (N:=some 5) (bl_ 7 63) rfl rfl (by kernel_rfl) (by decide) (fun K hK=>?_)
        refine box_step ?hg (N:=5) ?hd (cs:=#[.slice none 0 0,.slice none 0 0]) (t:=25) ?hr ?_;(case hd=>rfl);(case hg=>rfl);(case hr=>first | (go_simp;done) | (go_simp;rfl))
        intro gb786 hg w52 hbox hb
        replace HO_777000:=rb_ HO_777000 hb
        replace HO_777001:=rb_ HO_777001 hb
        replace HO779:=rb_ HO779 hb
        replace HO782:=rb_ HO782 hb
        replace HO785:=rb_ HO785 hb
        have BK786:=A_ hbox
        have GW786:=gw_ w hg
        have GE786:=GW786
        replace HB:=b1_ hb
        have NB765_786:=gN_ BK765 hg
        have NB786_765:=gP_ BK765 hg
        replace BK765:=bb_ BK765 hb
        have NB766_786:=gN_ BK766 hg
        have NB786_766:=gP_ BK766 hg
        replace BK766:=bb_ BK766 hb
        have NB776_786:=gN_ BK776 hg
        have NB786_776:=gP_ BK776 hg
        replace BK776:=bb_ BK776 hb
        clear hb hbox hg
        refine hK.out _ _ ⟨cz0_ BK765,cz1_ BK765⟩ (fun hHeld=>?_)
        clear hK K
        refine no_ (some 5) ?_
        exact norm_ (by simp only [putAll,Act.put,sA_,sB_,sC_]) (hCont (.slice Ao50 t777.length co50,v781,v784,gb786) _ ⟨hHeld,(rw_ (Kd.R_mono HO779.out (fun _ hk=>⟨hk.1.2,⟨hk.2,⟨hk.1.1.1.2,hk.1.1.2⟩⟩⟩))),(rw_ (Kd.R_mono HO782.out (fun _ hk=>⟨hk.2,⟨hk.1.1.1,⟨hk.1.1.2,hk.1.2⟩⟩⟩))),(rw_ (Kd.R_mono HO785.out (fun _ hk=>⟨hk.2,⟨hk.1.1.1,⟨hk.1.1.2,hk.1.2⟩⟩⟩))),(rw_ (Kd.R_mono HO_777000.out (fun _ hk=>⟨hk.1.1.2,⟨hk.1.2,⟨hk.2,hk.1.1.1⟩⟩⟩))),(rw_ (Kd.R_mono HO_777001.out (fun _ hk=>⟨hk.1.1.2,⟨hk.1.2,⟨hk.2,hk.1.1.1⟩⟩⟩))),(kk_ BK765),(kk_ BK766),(kk_ BK776),(kk_ BK786),GW786.out,GE786.out,NB765_786.out,NB786_765.out,NB766_786.out,NB786_766.out,NB776_786.out,NB786_776.out,hB_⟩)
       ·skip
        refine box_step ?hg (N:=5) ?hd (cs:=#[.slice none 0 0,.slice none 0 0]) (t:=25) ?hr ?_;(case hd=>rfl);(case hg=>rfl);(case hr=>first | (go_simp;done) | (go_simp;rfl))
        intro gb786 hg w50 hbox hb
        replace HO_777000:=rb_ HO_777000 hb
        replace HO_777001:=rb_ HO_777001 hb
        replace HO779:=rb_ HO779 hb
        have BK786:=A_ hbox
        have GW786:=gw_ w hg
        have GE786:=GW786
        replace HB:=b1_ hb
        have NB765_786:=gN_ BK765 hg
        have NB786_765:=gP_ BK765 hg
        replace BK765:=bb_ BK765 hb
        have NB766_786:=gN_ BK766 hg
        have NB786_766:=gP_ BK766 hg
        replace BK766:=bb_ BK766 hb
        have NB776_786:=gN_ BK776 hg
        have NB786_776:=gP_ BK776 hg
        replace BK776:=bb_ BK776 hb
        clear hb hbox hg
        obtain ⟨Ao51,co51,eo51⟩:=Kd.R_slice HO779.out
        (first|subst eo51|(injection eo51 with a_ b_ c_;have a_:=a_.symm;have c_:=c_.symm;clear b_;subst a_;subst c_))
        refine hK.out _ _ ⟨cz0_ BK765,cz1_ BK765⟩ (fun hHeld=>?_)
        clear hK K
        refine no_ (some 5) ?_
        refine one_ (i:=4) (N:=some 21) (bl_ 7 63) rfl rfl (by kernel_rfl) (by decide) (fun K hK=>?_)
        refine gO_ Try.func119 #[.agg #[.slice A0_0 l0_0.length c0_0,.slice A0_1 l0_1.length c0_1],.slice Ao51 t777.length co51] (by rfl) rfl rfl qa_ ?_
        with_reducible refine (Z34.calls k1 _ _ l0_0 _ _ l0_1 _ _ t777 t780 t783 _ (cb_ HR0_0) HC0_0.out (cb_ HR0_1) HC0_1.out (cr_ HO779) ((Kd.R_reads' HO779.out).2.1) A18.out).mono ?_
        rintro e w52 ⟨v781,v784,rfl,ho0,ho1,hb⟩
        refine ⟨_,rfl,?_⟩
        have HO782:=A_ (rE_ (Kd.R_new' (Kd.R_new' (Kd.R_new' ho0 (Kd.R_lt (rr_ HO_777000))) (Kd.R_lt (rr_ HO_777001))) (Kd.R_lt (rr_ HO779))) (bF_ hB_))
        have HO785:=A_ (rE_ (Kd.R_new' (Kd.R_new' (Kd.R_new' ho1 (Kd.R_lt (rr_ HO_777000))) (Kd.R_lt (rr_ HO_777001))) (Kd.R_lt (rr_ HO779))) (bF_ hB_))
        replace HO_777000:=A_ (Kd.R_mono (Kd.R_told (Kd.R_told (Kd.R_old (rr_ HO_777000) hb) (Kd.R_base ho0)) (Kd.R_base ho1)) (fun _ h_=>h_.1))
        replace HO_777001:=A_ (Kd.R_mono (Kd.R_told (Kd.R_told (Kd.R_old (rr_ HO_777001) hb) (Kd.R_base ho0)) (Kd.R_base ho1)) (fun _ h_=>h_.1))
        replace HO779:=A_ (Kd.R_mono (Kd.R_told (Kd.R_told (Kd.R_old (rr_ HO779) hb) (Kd.R_base ho0)) (Kd.R_base ho1)) (fun _ h_=>h_.1))
        replace BK765:=bb_ BK765 hb
        replace BK766:=bb_ BK766 hb
        replace BK776:=bb_ BK776 hb
        replace BK786:=bb_ BK786 hb
        replace HB:=b1_ hb
        clear hb ho0 ho1
        refine hK.out _ _ ⟨cz0_ BK765,cz1_ BK765⟩ (fun hHeld=>?_)
        clear hK K
        refine no_ (some 21) ?_
        exact norm_ (by simp only [putAll,Act.put,sA_,sB_,sC_]) (hCont (.slice Ao51 t777.length co51,v781,v784,gb786) _ ⟨hHeld,(rw_ (Kd.R_mono HO779.out (fun _ hk=>⟨hk.1.2,⟨hk.2,⟨hk.1.1.1.2,hk.1.1.2⟩⟩⟩))),(rw_ (Kd.R_mono HO782.out (fun _ hk=>⟨hk.2,⟨hk.1.1.1,⟨hk.1.1.2,hk.1.2⟩⟩⟩))),(rw_ (Kd.R_mono HO785.out (fun _ hk=>⟨hk.2,⟨hk.1.1.1,⟨hk.1.1.2,hk.1.2⟩⟩⟩))),(rw_ (Kd.R_mono HO_777000.out (fun _ hk=>⟨hk.1.1.2,⟨hk.1.2,⟨hk.2,hk.1.1.1⟩⟩⟩))),(rw_ (Kd.R_mono HO_777001.out (fun _ hk=>⟨hk.1.1.2,⟨hk.1.2,⟨hk.2,hk.1.1.1⟩⟩⟩))),(kk_ BK765),(kk_ BK766),(kk_ BK776),(kk_ BK786),GW786.out,GE786.out,NB765_786.out,NB786_765.out,NB766_786.out,NB786_766.out,NB776_786.out,NB786_776.out,hB_⟩)
      ·skip
       refine box_step ?hg (N:=5) ?hd (cs:=#[.slice none 0 0,.slice none 0 0]) (t:=25) ?hr ?_;(case hd=>rfl);(case hg=>rfl);(case hr=>first | (go_simp;done) | (go_simp;rfl))
       intro gb786 hg w49 hbox hb
       replace HO_777000:=rb_ HO_777000 hb
       replace HO_777001:=rb_ HO_777001 hb
       have BK786:=A_ hbox
       have GW786:=gw_ w hg
       have GE786:=GW786
       replace HB:=b1_ hb
       have NB765_786:=gN_ BK765 hg
       have NB786_765:=gP_ BK765 hg
       replace BK765:=bb_ BK765 hb
       have NB766_786:=gN_ BK766 hg
       have NB786_766:=gP_ BK766 hg
       replace BK766:=bb_ BK766 hb
       have NB776_786:=gN_ BK776 hg
       have NB786_776:=gP_ BK776 hg
       replace BK776:=bb_ BK776 hb
       clear hb hbox hg
       refine hK.out _ _ ⟨cz0_ BK765,cz1_ BK765⟩ (fun hHeld=>?_)
       clear hK K
       refine no_ (some 5) ?_
       refine one_ (i:=3) (N:=some 20) (bl_ 7 47) rfl rfl (by kernel_rfl) (by decide) (fun K hK=>?_)
       refine gO_ Try.func120 #[.agg #[.slice A0_0 l0_0.length c0_0,.slice A0_1 l0_1.length c0_1],.int .i64 x4_1] (by rfl) rfl rfl qa_ ?_
       with_reducible refine (Z47.calls k1 _ _ l0_0 _ _ l0_1 x4_1 t777 _ (cb_ HR0_0) HC0_0.out (cb_ HR0_1) HC0_1.out A17.out).mono ?_
       rintro e w50 ⟨v778,rfl,ho0,hb⟩
       refine ⟨_,rfl,?_⟩
       have HO779:=A_ (rE_ (Kd.R_new' (Kd.R_new' ho0 (Kd.R_lt (rr_ HO_777000))) (Kd.R_lt (rr_ HO_777001))) (bF_ hB_))
       replace HO_777000:=A_ (Kd.R_elder' (rr_ HO_777000) (Kd.R_base ho0) hb)
       replace HO_777001:=A_ (Kd.R_elder' (rr_ HO_777001) (Kd.R_base ho0) hb)
       replace BK765:=bb_ BK765 hb
       replace BK766:=bb_ BK766 hb
       replace BK776:=bb_ BK776 hb
       replace BK786:=bb_ BK786 hb
       replace HB:=b1_ hb
       clear hb ho0
       obtain ⟨Ao51,co51,eo51⟩:=Kd.R_slice HO779.out
       (first|subst eo51|(injection eo51 with a_ b_ c_;have a_:=a_.symm;have c_:=c_.symm;clear b_;subst a_;subst c_))
       refine hK.out _ _ ⟨cz0_ BK765,cz1_ BK765⟩ (fun hHeld=>?_)
       clear hK K
       refine no_ (some 20) ?_
       refine one_ (i:=4) (N:=some 21) (bl_ 7 63) rfl rfl (by kernel_rfl) (by decide) (fun K hK=>?_)
       refine gO_ Try.func119 #[.agg #[.slice A0_0 l0_0.length c0_0,.slice A0_1 l0_1.length c0_1],.slice Ao51 t777.length co51] (by rfl) rfl rfl qa_ ?_
       with_reducible refine (Z34.calls k1 _ _ l0_0 _ _ l0_1 _ _ t777 t780 t783 _ (cb_ HR0_0) HC0_0.out (cb_ HR0_1) HC0_1.out (cr_ HO779) ((Kd.R_reads' HO779.out).2.1) A18.out).mono ?_
       rintro e w52 ⟨v781,v784,rfl,ho0,ho1,hb⟩
       refine ⟨_,rfl,?_⟩
       have HO782:=A_ (rE_ (Kd.R_new' (Kd.R_new' (Kd.R_new' ho0 (Kd.R_lt (rr_ HO_777000))) (Kd.R_lt (rr_ HO_777001))) (Kd.R_lt (rr_ HO779))) (bF_ hB_))
       have HO785:=A_ (rE_ (Kd.R_new' (Kd.R_new' (Kd.R_new' ho1 (Kd.R_lt (rr_ HO_777000))) (Kd.R_lt (rr_ HO_777001))) (Kd.R_lt (rr_ HO779))) (bF_ hB_))
       replace HO_777000:=A_ (Kd.R_mono (Kd.R_told (Kd.R_told (Kd.R_old (rr_ HO_777000) hb) (Kd.R_base ho0)) (Kd.R_base ho1)) (fun _ h_=>h_.1))
       replace HO_777001:=A_ (Kd.R_mono (Kd.R_told (Kd.R_told (Kd.R_old (rr_ HO_777001) hb) (Kd.R_base ho0)) (Kd.R_base ho1)) (fun _ h_=>h_.1))
       replace HO779:=A_ (Kd.R_mono (Kd.R_told (Kd.R_told (Kd.R_old (rr_ HO779) hb) (Kd.R_base ho0)) (Kd.R_base ho1)) (fun _ h_=>h_.1))
       replace BK765:=bb_ BK765 hb
       replace BK766:=bb_ BK766 hb
       replace BK776:=bb_ BK776 hb
       replace BK786:=bb_ BK786 hb
       replace HB:=b1_ hb
       clear hb ho0 ho1
       refine hK.out _ _ ⟨cz0_ BK765,cz1_ BK765⟩ (fun hHeld=>?_)
       clear hK K
       refine no_ (some 21) ?_
       exact norm_ (by simp only [putAll,Act.put,sA_,sB_,sC_]) (hCont (.slice Ao51 t777.length co51,v781,v784,gb786) _ ⟨hHeld,(rw_ (Kd.R_mono HO779.out (fun _ hk=>⟨hk.1.2,⟨hk.2,⟨hk.1.1.1.2,hk.1.1.2⟩⟩⟩))),(rw_ (Kd.R_mono HO782.out (fun _ hk=>⟨hk.2,⟨hk.1.1.1,⟨hk.1.1.2,hk.1.2⟩⟩⟩))),(rw_ (Kd.R_mono HO785.out (fun _ hk=>⟨hk.2,⟨hk.1.1.1,⟨hk.1.1.2,hk.1.2⟩⟩⟩))),(rw_ (Kd.R_mono HO_777000.out (fun _ hk=>⟨hk.1.1.2,⟨hk.1.2,⟨hk.2,hk.1.1.1⟩⟩⟩))),(rw_ (Kd.R_mono HO_777001.out (fun _ hk=>⟨hk.1.1.2,⟨hk.1.2,⟨hk.2,hk.1.1.1⟩⟩⟩))),(kk_ BK765),(kk_ BK766),(kk_ BK776),(kk_ BK786),GW786.out,GE786.out,NB765_786.out,NB786_765.out,NB766_786.out,NB786_766.out,NB776_786.out,NB786_776.out,hB_⟩)
     rintro ⟨v778,v781,v784,gb786⟩ w53 ⟨hS_,h0_,h1_,h2_,h3_,h4_,h5_,h6_,h7_,h8_,h9_,h10_,h11_,h12_,h13_,h14_,h15_,h16_,h17_⟩
     have n0_:Aside0 (Kd.R (Kd.int .i64) 3 w53 w.heap.size (fun k_=>some k_≠(v781:Value).ownBlock∧some k_≠(v784:Value).ownBlock∧some k_≠(u777000:Value).ownBlock∧some k_≠(u777001:Value).ownBlock) v778 t777):=⟨h0_⟩
     have n1_:Aside0 (Kd.R (Kd.int .i64) 3 w53 w.heap.size (fun k_=>some k_≠(v778:Value).ownBlock∧some k_≠(v784:Value).ownBlock∧some k_≠(u777000:Value).ownBlock∧some k_≠(u777001:Value).ownBlock) v781 t780):=⟨h1_⟩
     have n2_:Aside0 (Kd.R (Kd.int .i64) 3 w53 w.heap.size (fun k_=>some k_≠(v778:Value).ownBlock∧some k_≠(v781:Value).ownBlock∧some k_≠(u777000:Value).ownBlock∧some k_≠(u777001:Value).ownBlock) v784 t783):=⟨h2_⟩
     have n3_:Aside0 (Kd.R (Kd.int .i64) 3 w53 w.heap.size (fun k_=>some k_≠(v778:Value).ownBlock∧some k_≠(v781:Value).ownBlock∧some k_≠(v784:Value).ownBlock∧some k_≠(u777001:Value).ownBlock) u777000 x777000_1):=⟨h3_⟩
     have n4_:Aside0 (Kd.R (Kd.int .i64) 3 w53 w.heap.size (fun k_=>some k_≠(v778:Value).ownBlock∧some k_≠(v781:Value).ownBlock∧some k_≠(v784:Value).ownBlock∧some k_≠(u777000:Value).ownBlock) u777001 x777001_1):=⟨h4_⟩
     have n5_:Aside0 (w53.heap[gb765]? = some (.cells #[.slice A0_0 l0_0.length c0_0,.slice A0_1 l0_1.length c0_1] 25 (0,0))):=⟨h5_⟩
     have n6_:Aside0 (w53.heap[gb766]? = some (.cells #[.slice none 0 0,.slice none 0 0] 25 (0,0))):=⟨h6_⟩
     have n7_:Aside0 (w53.heap[gb776]? = some (.cells #[u777000,u777001] 25 (0,0))):=⟨h7_⟩
     have n8_:Aside0 (w53.heap[gb786]? = some (.cells #[.slice none 0 0,.slice none 0 0] 25 (0,0))):=⟨h8_⟩
     have n9_:Aside0 (w.heap.size≤gb786):=⟨h9_⟩
     have n10_:Aside0 (w.heap.size≤gb786):=⟨h10_⟩
     have n11_:Aside0 (gb765≠gb786):=⟨h11_⟩
     have n12_:Aside0 (gb786≠gb765):=⟨h12_⟩
     have n13_:Aside0 (gb766≠gb786):=⟨h13_⟩
     have n14_:Aside0 (gb786≠gb766):=⟨h14_⟩
     have n15_:Aside0 (gb776≠gb786):=⟨h15_⟩
     have n16_:Aside0 (gb786≠gb776):=⟨h16_⟩
     have n17_:Aside0 (Below w.heap.size w w53):=⟨h17_⟩
     clear HO_777000
     clear HO_777001
     clear BK765
     clear BK766
     clear BK776
     clear HB
     clear h0_ h1_ h2_ h3_ h4_ h5_ h6_ h7_ h8_ h9_ h10_ h11_ h12_ h13_ h14_ h15_ h16_ h17_
     have HO779:=n0_
     have HO782:=n1_
     have HO785:=n2_
     have HO_777000:=n3_
     have HO_777001:=n4_
     have BK765:=n5_
     have BK766:=n6_
     have BK776:=n7_
     have BK786:=n8_
     have GW786:=n9_
     have GE786:=n10_
     have NB765_786:=n11_
     have NB786_765:=n12_
     have NB766_786:=n13_
     have NB786_766:=n14_
     have NB776_786:=n15_
     have NB786_776:=n16_
     have HB:=n17_
     clear n0_ n1_ n2_ n3_ n4_ n5_ n6_ n7_ n8_ n9_ n10_ n11_ n12_ n13_ n14_ n15_ n16_ n17_
     have hHeld:w53.cell? ⟨gb765,0,none⟩ = some (.slice A0_0 l0_0.length c0_0)∧w53.cell? ⟨gb765,1,none⟩ = some (.slice A0_1 l0_1.length c0_1):=hS_
     obtain ⟨Ao54,co54,eo54⟩:=Kd.R_slice HO782.out
     (first|subst eo54|(injection eo54 with a_ b_ c_;have a_:=a_.symm;have c_:=c_.symm;clear b_;subst a_;subst c_))
     obtain ⟨Ao56,co56,eo56⟩:=Kd.R_slice HO785.out
     (first|subst eo56|(injection eo56 with a_ b_ c_;have a_:=a_.symm;have c_:=c_.symm;clear b_;subst a_;subst c_))
     refine norm_ (a':=?_) ?_ ?_
     rotate_left
     ·simp only [putAll,Act.put,sA_,sB_,sC_]
      rfl
     refine one_ (i:=6) (N:=none) (bl_ 7 127) rfl rfl (by kernel_rfl) (by decide) (fun K hK=>?_)
     have hs55:w53.cell? ⟨gb786,0,none⟩ = some (.slice none 0 0):=cz0_ BK786
     have hfs55:=kD_ BK786.out 0
     have hns55_0:=NB765_786.out
     have hns55_1:=NB766_786.out
     have hns55_2:=NB776_786.out
     have hms55_0:=NB786_765.out
     have hms55_1:=NB786_766.out
     have hms55_2:=NB786_776.out
     have hs57:w53.cell? ⟨gb786,1,none⟩ = some (.slice none 0 0):=cz1_ BK786
     have hfs57:=kD_ BK786.out 1
     have hns57_0:=NB765_786.out
     have hns57_1:=NB766_786.out
     have hns57_2:=NB776_786.out
     have hms57_0:=NB786_765.out
     have hms57_1:=NB786_766.out
     have hms57_2:=NB786_776.out
     refine skip_ (w1:=?_) (by rfl) rfl ?_ ?_
     rotate_left
     ·go_simp
      rfl
     refine hK.out _ _ ⟨((cell_far (p:=⟨gb786,_,none⟩) NB765_786.out _).trans (((cell_far (p:=⟨gb786,_,none⟩) NB765_786.out _).trans (hHeld.1)))),((cell_far (p:=⟨gb786,_,none⟩) NB765_786.out _).trans (((cell_far (p:=⟨gb786,_,none⟩) NB765_786.out _).trans (hHeld.2))))⟩ (fun hHeld=>?_)
     clear hK K
     refine done_ (by kernel_rfl) ?_
     have hnb58:=NB786_765.out
     have hnc58:=NB765_786.out
     have hnb59:=NB786_766.out
     have hnc59:=NB766_786.out
     have hnb60:=NB786_776.out
     have hnc60:=NB776_786.out
     obtain ⟨hcz61_0,hcz61_1,hfz61_0,hfz61_1⟩:=c2_ BK786
     have hnb62:=NB776_766.out
     have hnc62:=NB766_776.out
     obtain ⟨hcz63_0,hcz63_1,hfz63_0,hfz63_1⟩:=c2_ BK776
     obtain ⟨Ao64,co64,eo64⟩:=Kd.R_slice HO_777000.out
     subst eo64
     obtain ⟨Ao65,co65,eo65⟩:=Kd.R_slice HO_777001.out
     subst eo65
     try go_wp2_with (first | ((with_reducible refine gA_ (f:=121) rfl ?_);refine gL_ (some 24) Try.func121 #[.agg #[.slice Ao54 t780.length co54,.slice Ao56 t783.length co56],.agg #[.slice Ao64 x777000_1.length co64,.slice Ao65 x777001_1.length co65]] rfl qa_ ?_;(with_reducible refine (Z33.calls k1 _ _ t780 _ _ t783 _ _ x777000_1 _ _ x777001_1 false _ ?side1 ?side2 ?side3 ?side4 ?side5 ?side6 ?side7 ?side8 A19.out).mono ?_);(case side1=>refine (Kd.R_reads' (e:=3) (base:=w.heap.size) (ok:=fun k_=>(some k_≠(v778:Value).ownBlock∧(some k_≠(.slice Ao56 t783.length co56:Value).ownBlock∧(some k_≠(.slice Ao64 x777000_1.length co64:Value).ownBlock∧some k_≠(.slice Ao65 x777001_1.length co65:Value).ownBlock)))) (n:=t780.length) (c:=co54) ?_).2.2;exact (rw_ (fa_ HO782 BK786)));(case side2=>exact (Kd.R_reads' HO782.out).2.1);(case side3=>refine (Kd.R_reads' (e:=3) (base:=w.heap.size) (ok:=fun k_=>(some k_≠(v778:Value).ownBlock∧(some k_≠(.slice Ao54 t780.length co54:Value).ownBlock∧(some k_≠(.slice Ao64 x777000_1.length co64:Value).ownBlock∧some k_≠(.slice Ao65 x777001_1.length co65:Value).ownBlock)))) (n:=t783.length) (c:=co56) ?_).2.2;exact (rw_ (fa_ HO785 BK786)));(case side4=>exact (Kd.R_reads' HO785.out).2.1);(case side5=>refine (Kd.R_reads' (e:=3) (base:=w.heap.size) (ok:=fun k_=>(some k_≠(v778:Value).ownBlock∧(some k_≠(.slice Ao54 t780.length co54:Value).ownBlock∧(some k_≠(.slice Ao56 t783.length co56:Value).ownBlock∧some k_≠(.slice Ao65 x777001_1.length co65:Value).ownBlock)))) (n:=x777000_1.length) (c:=co64) ?_).2.2;exact (rw_ (fa_ HO_777000 BK786)));(case side6=>exact (Kd.R_reads' HO_777000.out).2.1);(case side7=>refine (Kd.R_reads' (e:=3) (base:=w.heap.size) (ok:=fun k_=>(some k_≠(v778:Value).ownBlock∧(some k_≠(.slice Ao54 t780.length co54:Value).ownBlock∧(some k_≠(.slice Ao56 t783.length co56:Value).ownBlock∧some k_≠(.slice Ao64 x777000_1.length co64:Value).ownBlock)))) (n:=x777001_1.length) (c:=co65) ?_).2.2;exact (rw_ (fa_ HO_777001 BK786)));(case side8=>exact (Kd.R_reads' HO_777001.out).2.1);rintro e w66 ⟨rfl,hb⟩;refine ⟨_,rfl,?_⟩;replace HO_777000:=A_ (rD_ (rw_ (fa_ HO_777000 BK786)) hb);replace HO_777001:=A_ (rD_ (rw_ (fa_ HO_777001 BK786)) hb);replace HO779:=A_ (rD_ (rw_ (fa_ HO779 BK786)) hb);replace HO782:=A_ (rD_ (rw_ (fa_ HO782 BK786)) hb);replace HO785:=A_ (rD_ (rw_ (fa_ HO785 BK786)) hb);replace BK765:=A_ (kE_ (g:=gb765) (o:=.cells #[.slice A0_0 l0_0.length c0_0,.slice A0_1 l0_1.length c0_1] 25 (0,0)) (by (with_reducible repeat (first | refine kA_ ?_ _ | refine kB_ ?_ | refine kC_ ?_ _));refine blk_far ?_ NB765_786.out _;(with_reducible repeat (first | refine kA_ ?_ _ | refine kB_ ?_ | refine kC_ ?_ _));refine blk_far ?_ NB765_786.out _;(with_reducible repeat (first | refine kA_ ?_ _ | refine kB_ ?_ | refine kC_ ?_ _));exact BK765.out) hb);replace BK766:=A_ (kE_ (g:=gb766) (o:=.cells #[.slice none 0 0,.slice none 0 0] 25 (0,0)) (by (with_reducible repeat (first | refine kA_ ?_ _ | refine kB_ ?_ | refine kC_ ?_ _));refine blk_far ?_ NB766_786.out _;(with_reducible repeat (first | refine kA_ ?_ _ | refine kB_ ?_ | refine kC_ ?_ _));refine blk_far ?_ NB766_786.out _;(with_reducible repeat (first | refine kA_ ?_ _ | refine kB_ ?_ | refine kC_ ?_ _));exact BK766.out) hb);replace BK776:=A_ (kE_ (g:=gb776) (o:=.cells #[.slice Ao64 x777000_1.length co64,.slice Ao65 x777001_1.length co65] 25 (0,0)) (by (with_reducible repeat (first | refine kA_ ?_ _ | refine kB_ ?_ | refine kC_ ?_ _));refine blk_far ?_ NB776_786.out _;(with_reducible repeat (first | refine kA_ ?_ _ | refine kB_ ?_ | refine kC_ ?_ _));refine blk_far ?_ NB776_786.out _;(with_reducible repeat (first | refine kA_ ?_ _ | refine kB_ ?_ | refine kC_ ?_ _));exact BK776.out) hb);replace BK786:=A_ (kE_ (g:=gb786) (o:=.cells #[.slice Ao54 t780.length co54,.slice Ao56 t783.length co56] 25 (0,0)) qp_ hb);replace HB:=b1_ hb;clear hb))
     go_roundg k1
     case measure=>have:=HK1.out;omega
     case rel=>exact ⟨(wrap64 (x4_1 + 1)),(x777000_1),(x777001_1),(.slice Ao64 x777000_1.length co64),(.slice Ao65 x777001_1.length co65),qc_,H',⟨by have:=HK1.out;omega⟩,⟨(rw_ (Kd.R_mono HO_777000.out (fun _ hk=>hk.2.2.2)))⟩,⟨(rw_ (Kd.R_mono HO_777001.out (fun _ hk=>hk.2.2.2)))⟩,⟨(kk_ BK765)⟩,⟨(kk_ BK766)⟩,⟨(kk_ BK776)⟩,⟨hB_⟩⟩
   ·rw [if_neg c16] at H
    have c16b0:=oD_ c16
    clear c16
    simp only [Option.some.injEq,Prod.mk.injEq] at H
    obtain ⟨rfl,rfl⟩:=H
    have hnb67:=NB765_766.out
    have hnc67:=NB766_765.out
    have hnb68:=NB765_776.out
    have hnc68:=NB776_765.out
    obtain ⟨hcz69_0,hcz69_1,hfz69_0,hfz69_1⟩:=c2_ BK765
    have hnb70:=NB776_766.out
    have hnc70:=NB766_776.out
    obtain ⟨hcz71_0,hcz71_1,hfz71_0,hfz71_1⟩:=c2_ BK776
    obtain ⟨Ao72,co72,eo72⟩:=Kd.R_slice HO_777000.out
    subst eo72
    obtain ⟨hcz73_0,hcz73_1,hfz73_0,hfz73_1⟩:=c2_ BK766
    obtain ⟨Ao74,co74,eo74⟩:=Kd.R_slice HO_777001.out
    subst eo74
    go_wp2
    refine bodyPost_ret (results_cell_row rfl _ _ gb766 25 #[.slice Ao72 x777000_1.length co72,.slice Ao74 x777001_1.length co74] (0,0) _ rfl qp_ Try.underlying25 rfl (by kernel_rfl)) rfl ?_
    exact ⟨_,_,qb_,(rw_ (fa_ HO_777000 BK766)),(rw_ (fa_ HO_777001 BK766)),hB_⟩
end Go.Proofs.Ytcggfjpnfodbaaa.A
end
section
/- The canonical form: the program and the reference find the same one. No conditions. -/
namespace Go.Proofs.Ytcggfjpnfodbaaa.M
set_option linter.unusedVariables false
set_option linter.unusedSimpArgs false
open Go.RowKit Go.Proofs.YtcggfjpnfodbaaaW.PrintWords Go.Proofs.YtcggfjpnfodbaaaW.PrintLast Go.Proofs.YtcggfjpnfodbaaaW.PrintMore Go.Proofs.Ytcggfjpnfodbaaa.A
def lexC:List Nat→List Nat→Int
 | [],[]=>0
 | [],_ :: _=>-1
 | _ :: _,[]=>1
 | a :: l,b :: m=>if a < b then -1 else if b < a then 1 else lexC l m
theorem cmp_ev (a b:Nat):Z21.f (a:Int) (b:Int) = some (if a < b then -1 else if b < a then 1 else 0):=by
 unfold Z21.f Z37.f
 simp only [bne_self_eq_false,Option.bind_some,Bool.false_eq_true,if_false]
 by_cases h1:a < b
 ·have:(a:Int) < (b:Int):=by omega
  simp only [h1,this,if_true]
 ·have n1:¬ (a:Int) < (b:Int):=by omega
  by_cases h2:b < a
  ·have:(a:Int) > (b:Int):=by omega
   simp only [h1,n1,h2,this,if_true,if_false]
  ·have n2:¬ (a:Int) > (b:Int):=by omega
   simp only [h1,n1,h2,n2,if_false]
theorem lexC_eq:∀ (a b:List Nat),lexC a b = 0 ↔ a = b:=by
 intro a
 induction a with
 | nil=>intro b;cases b <;> simp [lexC]
 | cons x a ih =>
  intro b
  cases b with
  | nil=>simp [lexC]
  | cons y b =>
   unfold lexC
   by_cases h1:x < y
   ·simp [h1];omega
   ·by_cases h2:y < x
    ·simp [h1,h2];omega
    ·have e:x = y:=by omega
     subst e
     simp [h1,ih]
theorem compare_ev (a b:List Nat) (hl:a.length≤1000000):Ev (fun k=>Z0.f k (I a) (I b)) (lexC a b):=by
 unfold Z0.f
 have H:∀ d i:Nat,i + d = a.length→i≤b.length→Ev (fun k=>Z0.l0 k (I a) (I b) (I a) (a.length:Int) (i:Int)) (lexC (a.drop i) (b.drop i)):=by
  intro d
  induction d with
  | zero =>
   intro i hi hb
   refine ev_succ ?_
   have c1:¬ ((i:Int) < (a.length:Int)):=by omega
   rw [List.drop_of_length_le (l:=a) (by omega)]
   simp only [Z0.l0,c1,I_len',if_false]
   by_cases h:(a.length:Int) < (b.length:Int)
   ·have:lexC [] (b.drop i) = -1:=by
     rw [List.drop_eq_getElem_cons (by omega)]
     rfl
    simp only [h,if_true,this]
    exact Ev.now _
   ·have:lexC [] (b.drop i) = 0:=by
     rw [List.drop_of_length_le (by omega)]
     rfl
    simp only [h,if_false,this]
    exact Ev.now _
  | succ d ih =>
   intro i hi hb
   have hia:i < a.length:=by omega
   rw [List.drop_eq_getElem_cons hia,← g_get hia]
   have c1:(i:Int) < (a.length:Int):=by omega
   have c2:(0:Int)≤(i:Int):=by omega
   have c3:=w64s i (by omega)
   refine ev_succ ?_
   by_cases h:i < b.length
   ·rw [List.drop_eq_getElem_cons h,← g_get h]
    have n1:¬ ((i:Int) ≥ (b.length:Int)):=by omega
    have n2:(i:Int) < (b.length:Int):=by omega
    simp only [Z0.l0,c1,c2,c3,n1,n2,I_len',rdI,cmp_ev,Option.bind_some,if_true,if_false]
    unfold lexC
    by_cases h1:g a i < g b i
    ·have z:¬ ((-1:Int) = 0):=by omega
     simp only [h1,z,if_true,if_false]
     exact Ev.now _
    ·by_cases h2:g b i < g a i
     ·have z:¬ ((1:Int) = 0):=by omega
      simp only [h1,h2,z,if_true,if_false]
      exact Ev.now _
     ·simp only [h1,h2,if_true,if_false]
      exact ih (i + 1) (by omega) (by omega)
   ·have n1:(i:Int) ≥ (b.length:Int):=by omega
    rw [List.drop_of_length_le (l:=b) (by omega)]
    simp only [Z0.l0,c1,c2,n1,I_len',if_true]
    exact Ev.now _
 have key:=H a.length 0 (Nat.zero_add _) (Nat.zero_le _)
 rw [List.drop_zero,List.drop_zero] at key
 simp only [I_len']
 exact key
theorem less_ev (a b:List Nat) (hl:a.length≤1000000) (he:b.length = a.length):Ev (fun k=>Z60.f k (I a) (I b)) (decide (lexC a b < 0)):=by
 unfold Z60.f
 have H:∀ d i:Nat,i + d = a.length→Ev (fun k=>Z60.l0 k (I b) (I a) (a.length:Int) (i:Int)) (decide (lexC (a.drop i) (b.drop i) < 0)):=by
  intro d
  induction d with
  | zero =>
   intro i hi
   refine ev_succ ?_
   have c1:¬ ((i:Int) < (a.length:Int)):=by omega
   rw [List.drop_of_length_le (l:=a) (by omega),List.drop_of_length_le (l:=b) (by omega)]
   simp only [Z60.l0,c1,if_false]
   exact Ev.now _
  | succ d ih =>
   intro i hi
   have hia:i < a.length:=by omega
   have hib:i < b.length:=by omega
   rw [List.drop_eq_getElem_cons hia,← g_get hia,List.drop_eq_getElem_cons hib,← g_get hib]
   have c1:(i:Int) < (a.length:Int):=by omega
   have c2:(0:Int)≤(i:Int):=by omega
   have n2:(i:Int) < (b.length:Int):=by omega
   have c3:=w64s i (by omega)
   refine ev_succ ?_
   simp only [Z60.l0,c1,c2,c3,n2,I_len',rdI,if_true]
   unfold lexC
   by_cases h1:g a i < g b i
   ·have z1:¬ (((g a i:Nat):Int) = ((g b i:Nat):Int)):=by omega
    have z2:decide (((g a i:Nat):Int) < ((g b i:Nat):Int)) = true:=by rw [decide_eq_true_iff];omega
    have z3:decide ((-1:Int) < 0) = true:=by decide
    simp only [h1,z1,z2,z3,if_true,if_false]
    exact Ev.now _
   ·by_cases h2:g b i < g a i
    ·have z1:¬ (((g a i:Nat):Int) = ((g b i:Nat):Int)):=by omega
     have z2:decide (((g a i:Nat):Int) < ((g b i:Nat):Int)) = false:=by rw [decide_eq_false_iff_not];omega
     have z3:decide ((1:Int) < 0) = false:=by decide
     simp only [h1,h2,z1,z2,z3,if_true,if_false]
     exact Ev.now _
    ·have z1:((g a i:Nat):Int) = ((g b i:Nat):Int):=by omega
     simp only [h1,h2,z1,if_true,if_false]
     exact ih (i + 1) (by omega)
 have key:=H a.length 0 (Nat.zero_add _)
 rw [List.drop_zero,List.drop_zero] at key
 simp only [I_len']
 exact key
def cmpS (a b:List Nat × List Nat):Int:=if lexC a.1 b.1 = 0 then lexC a.2 b.2 else lexC a.1 b.1
theorem impl_cmpS (a b:List Nat × List Nat) (h1:a.1.length≤1000000) (h2:a.2.length≤1000000):Ev (fun k=>Z2.f k (I a.1) (I a.2) (I b.1) (I b.2)) (cmpS a b):=by
 unfold Z2.f cmpS
 refine Ev.bind (compare_ev a.1 b.1 h1) ?_
 by_cases h:lexC a.1 b.1 = 0
 ·simp only [h,if_true]
  exact Ev.bind (compare_ev a.2 b.2 h2) (Ev.now _)
 ·simp only [h,if_false]
  exact Ev.now _
theorem sameList_nat (a b:List Nat) (h:a.length≤1000000000):Ev (fun k=>Z43.f k (I a) (I b)) (decide (a = b)):=by
 unfold Z43.f
 by_cases hl:(a.length:Int) = (b.length:Int)
 ·have hl':a.length = b.length:=by omega
  simp only [I_len',hl,ne_eq,not_true_eq_false,if_false,if_true]
  have H:∀ d i:Nat,i + d = a.length→Ev (fun k=>Z43.l0 k (I b) (I a) (b.length:Int) (i:Int)) (decide (a.drop i = b.drop i)):=by
   intro d
   induction d with
   | zero =>
    intro i hi
    refine ev_succ ?_
    have c1:¬ ((i:Int) < (b.length:Int)):=by omega
    have e:decide (a.drop i = b.drop i) = true:=by rw [List.drop_of_length_le (by omega),List.drop_of_length_le (by omega)];simp
    simp only [Z43.l0,c1,if_false,e]
    exact Ev.now _
   | succ d ih =>
    intro i hi
    have hia:i < a.length:=by omega
    have hib:i < b.length:=by omega
    rw [List.drop_eq_getElem_cons hia,← g_get hia,List.drop_eq_getElem_cons hib,← g_get hib]
    have c1:(i:Int) < (b.length:Int):=by omega
    have c2:(0:Int)≤(i:Int):=by omega
    have c4:(i:Int) < (a.length:Int):=by omega
    have c3:=w64s i (by omega)
    refine ev_succ ?_
    by_cases he:g a i = g b i
    ·have z:((g a i:Nat):Int) = ((g b i:Nat):Int):=by omega
     have e:decide (g a i :: a.drop (i + 1) = g b i :: b.drop (i + 1)) = decide (a.drop (i + 1) = b.drop (i + 1)):=by simp [he]
     rw [e]
     simp only [Z43.l0,c1,c2,c3,c4,I_len',rdI,z,if_true]
     exact ih (i + 1) (by omega)
    ·have z:¬ (((g a i:Nat):Int) = ((g b i:Nat):Int)):=by omega
     have e:decide (g a i :: a.drop (i + 1) = g b i :: b.drop (i + 1)) = false:=by simp [he]
     rw [e]
     simp only [Z43.l0,c1,c2,c4,I_len',rdI,z,if_true,if_false]
     exact Ev.now _
  have key:=H a.length 0 (Nat.zero_add _)
  rw [List.drop_zero,List.drop_zero] at key
  exact key
 ·have e:decide (a = b) = false:=by
   rw [decide_eq_false_iff_not]
   intro e
   rw [e] at hl
   exact hl rfl
  simp only [I_len',hl,ne_eq,not_false_eq_true,if_true,if_false,e]
  exact Ev.now _
theorem spec_before (a b:List Nat × List Nat) (h1:a.1.length≤1000000) (h2:a.2.length≤1000000) (e1:b.1.length = a.1.length) (e2:b.2.length = a.2.length):Ev (fun k=>Z33.f k (I a.1) (I a.2) (I b.1) (I b.2)) (decide (cmpS a b < 0)):=by
 unfold Z33.f cmpS
 refine Ev.bind (sameList_nat a.1 b.1 (by omega)) ?_
 by_cases h:a.1 = b.1
 ·have z:=(lexC_eq a.1 b.1).mpr h
  rw [z]
  simp only [h,decide_true,if_true]
  exact Ev.bind (less_ev a.2 b.2 h2 e2) (Ev.now _)
 ·have z:¬ lexC a.1 b.1 = 0:=fun k=>h ((lexC_eq _ _).mp k)
  simp only [h,z,decide_false,Bool.false_eq_true,if_false]
  exact Ev.bind (less_ev a.1 b.1 h1 e1) (Ev.now _)
def rS (r u:List Nat) (s:Nat):List Nat × List Nat:=rnS r u (nm r u s)
theorem rS_len {r u:List Nat} (s:Nat):(rS r u s).1.length = r.length∧(rS r u s).2.length = u.length:=⟨ren_len _ _,ren_len _ _⟩
def canK (r u:List Nat):Nat→List Nat × List Nat
 | 0=>rS r u 0
 | k + 1=>if cmpS (rS r u (k + 1)) (canK r u k) < 0 then rS r u (k + 1) else canK r u k
theorem canK_len {r u:List Nat} (k:Nat):(canK r u k).1.length = r.length∧(canK r u k).2.length = u.length:=by
 induction k with
 | zero=>exact rS_len 0
 | succ k ih =>
  unfold canK
  split
  ·exact rS_len _
  ·exact ih
def canS (r u:List Nat):List Nat × List Nat:=canK r u (r.length - 1)
theorem spec_canon {r u:List Nat} (hs:Sf r u):Ev (fun k=>Z46.f k (I r) (I u)) (I (canS r u).1,I (canS r u).2):=by
 have hle:=hs.le
 have heq:=hs.eq
 have hpos:=hs.pos
 unfold Z46.f
 have e0:=spec_names hs hpos
 have q0:=isP_nm hs hpos
 refine Ev.bind e0 (Ev.bind (spec_renS hs q0.1 q0.2) ?_)
 have H:∀ d i:Nat,i + 1 + d = r.length→Ev (fun k=>Z46.l0 k ((i + 1:Nat):Int) (I r) (I u) (I (canK r u i).1) (I (canK r u i).2)) (I (canS r u).1,I (canS r u).2):=by
  intro d
  induction d with
  | zero =>
   intro i hi
   refine ev_succ ?_
   have c1:¬ (((i + 1:Nat):Int) < (r.length:Int)):=by omega
   have e:canS r u = canK r u i:=by
    unfold canS
    congr 1
    omega
   rw [e]
   simp only [Z46.l0,c1,I_len',if_false]
   exact Ev.now _
  | succ d ih =>
   intro i hi
   have hi1:i + 1 < r.length:=by omega
   have q1:=isP_nm hs hi1
   have c1:((i + 1:Nat):Int) < (r.length:Int):=by omega
   have c3:=w64s (i + 1) (by omega)
   have lk:=canK_len (r:=r) (u:=u) i
   have lr:=rS_len (r:=r) (u:=u) (i + 1)
   refine ev_succ ?_
   simp only [Z46.l0,c1,c3,I_len',if_true]
   refine Ev.bind (spec_names hs hi1) (Ev.bind (spec_renS hs q1.1 q1.2) ?_)
   refine Ev.bind (spec_before (rS r u (i + 1)) (canK r u i) (by rw [lr.1];omega) (by rw [lr.2];omega) (by rw [lr.1,lk.1]) (by rw [lr.2,lk.2])) ?_
   have key:=ih (i + 1) (by omega)
   unfold canK at key
   by_cases h:cmpS (rS r u (i + 1)) (canK r u i) < 0
   ·rw [if_pos h] at key
    simp only [h,decide_true,if_true]
    exact key
   ·rw [if_neg h] at key
    simp only [h,decide_false,Bool.false_eq_true,if_false]
    exact key
 have key:=H (r.length - 1) 0 (by omega)
 exact key
def namedL (r u:List Nat) (n:Nat):List S25:=(List.range n).map (fun s=>(⟨I (rS r u s).1,I (rS r u s).2⟩:S25))
theorem namedL_len (r u:List Nat) (n:Nat):(namedL r u n).length = n:=by simp [namedL]
theorem rd_named {r u:List Nat} {n i:Nat} (h:i < n):rd_T25 (namedL r u n) (i:Int) = ⟨I (rS r u i).1,I (rS r u i).2⟩:=by
 unfold rd_T25 namedL
 simp [List.getD_eq_getElem?_getD,h]
theorem count_sq {r u:List Nat} (hs:Sf r u):Ev (fun k=>Z10.f k (I r) (I u)) (r.length:Int):=by
 unfold Z10.f
 refine Ev.bind (impl_surf _ _) ?_
 have h0:=surfB_I.mpr hs
 simp only [h0,I_len',if_true]
 exact Ev.now _
theorem impl_named {r u:List Nat} (hs:Sf r u):Ev (fun k=>Z30.f k (I r) (I u)) (namedL r u r.length):=by
 have hle:=hs.le
 unfold Z30.f
 have H:∀ d i:Nat,i + d = r.length→Ev (fun k=>Z30.l0 k (namedL r u i) (i:Int) (I r) (I u)) (namedL r u r.length):=by
  intro d
  induction d with
  | zero =>
   intro i hi
   obtain rfl:i = r.length:=by omega
   refine ev_succ ?_
   simp only [Z30.l0]
   refine Ev.bind (count_sq hs) ?_
   have c1:¬ ((r.length:Int) < (r.length:Int)):=by omega
   simp only [c1,if_false]
   exact Ev.now _
  | succ d ih =>
   intro i hi
   have hil:i < r.length:=by omega
   have q1:=isP_nm hs hil
   refine ev_succ ?_
   simp only [Z30.l0]
   refine Ev.bind (count_sq hs) ?_
   have c1:(i:Int) < (r.length:Int):=by omega
   have c2:(namedL r u i).length < 2932031007402:=by rw [namedL_len];omega
   have c3:=w64s i (by omega)
   simp only [c1,if_true]
   refine Ev.bind (impl_names hs hil) (Ev.bind (impl_renS hs q1.1 q1.2) ?_)
   have e:namedL r u i ++ [(⟨I (rnS r u (nm r u i)).1,I (rnS r u (nm r u i)).2⟩:S25)] = namedL r u (i + 1):=by
    unfold namedL
    rw [List.range_succ,List.map_append]
    rfl
   simp only [c2,c3,e,if_true]
   exact ih (i + 1) (by omega)
 exact H r.length 0 (Nat.zero_add _)
theorem impl_canon {r u:List Nat} (hs:Sf r u):Ev (fun k=>Z50.f k (I r) (I u)) (I (canS r u).1,I (canS r u).2,true):=by
 have hle:=hs.le
 have heq:=hs.eq
 have hpos:=hs.pos
 unfold Z50.f
 refine Ev.bind (impl_named hs) ?_
 have c0:¬ ((r.length:Int) = 0):=by omega
 simp only [namedL_len,c0,if_false]
 refine Ev.bind (a:=(I (canS r u).1,I (canS r u).2)) ?_ (Ev.now _)
 unfold Z23.f
 have c1:¬ ((r.length:Int) < 1):=by omega
 have c2:(0:Int) < (r.length:Int):=by omega
 have e0:rd_T25 (namedL r u r.length) 0 = ⟨I (canK r u 0).1,I (canK r u 0).2⟩:=rd_named hpos
 simp only [namedL_len,c1,c2,e0,if_true,if_false]
 have H:∀ d i:Nat,i + 1 + d = r.length→Ev (fun k=>Z23.l0 k (namedL r u r.length) ((i + 1:Nat):Int) (I (canK r u i).1) (I (canK r u i).2)) (I (canS r u).1,I (canS r u).2):=by
  intro d
  induction d with
  | zero =>
   intro i hi
   refine ev_succ ?_
   have c1:¬ (((i + 1:Nat):Int) < (r.length:Int)):=by omega
   have e:canS r u = canK r u i:=by
    unfold canS
    congr 1
    omega
   rw [e]
   simp only [Z23.l0,c1,namedL_len,if_false]
   exact Ev.now _
  | succ d ih =>
   intro i hi
   have hi1:i + 1 < r.length:=by omega
   have c1:((i + 1:Nat):Int) < (r.length:Int):=by omega
   have c2:(0:Int)≤((i + 1:Nat):Int):=by omega
   have c4:rd_T25 (namedL r u r.length) ((i + 1:Nat):Int) = ⟨I (rS r u (i + 1)).1,I (rS r u (i + 1)).2⟩:=rd_named hi1
   have c3:=w64s (i + 1) (by omega)
   have lr:=rS_len (r:=r) (u:=u) (i + 1)
   refine ev_succ ?_
   simp only [Z23.l0,c1,c2,c3,c4,namedL_len,if_true]
   refine Ev.bind (impl_cmpS (rS r u (i + 1)) (canK r u i) (by rw [lr.1];omega) (by rw [lr.2];omega)) ?_
   have key:=ih (i + 1) (by omega)
   unfold canK at key
   by_cases h:cmpS (rS r u (i + 1)) (canK r u i) < 0
   ·rw [if_pos h] at key
    simp only [h,if_true]
    exact key
   ·rw [if_neg h] at key
    simp only [h,if_false]
    exact key
 exact H (r.length - 1) 0 (by omega)
theorem impl_canon_no {r u:List Int} (h:¬ surfB r u = true):Ev (fun k=>Z50.f k r u) ([],[],false):=by
 have h':=Bool.eq_false_iff.mpr h
 unfold Z50.f
 refine Ev.bind (a:=([]:List S25)) ?_ ?_
 ·unfold Z30.f
  refine ev_succ ?_
  simp only [Z30.l0]
  refine Ev.bind (a:=(0:Int)) ?_ ?_
  ·unfold Z10.f
   refine Ev.bind (impl_surf _ _) ?_
   simp only [h',Bool.false_eq_true,if_false]
   exact Ev.now _
  ·have c1:¬ ((0:Int) < 0):=by omega
   simp only [c1,if_false]
   exact Ev.now _
 ·simp only [List.length_nil]
  exact Ev.now _
theorem equal_ev (a b:List Nat) (h:a.length≤1000000000):Ev (fun k=>Z38.f k (I a) (I b)) (decide (a = b)):=by
 unfold Z38.f Z3.f
 refine Ev.bind (a:=decide (a = b)) ?_ (Ev.now _)
 by_cases hl:(a.length:Int) = (b.length:Int)
 ·have hl':a.length = b.length:=by omega
  simp only [I_len',hl,if_true]
  have H:∀ d i:Nat,i + d = a.length→Ev (fun k=>Z3.l0 k (I a) (I b) (b.length:Int) (i:Int)) (decide (a.drop i = b.drop i)):=by
   intro d
   induction d with
   | zero =>
    intro i hi
    refine ev_succ ?_
    have c1:¬ ((i:Int) < (b.length:Int)):=by omega
    have e:decide (a.drop i = b.drop i) = true:=by rw [List.drop_of_length_le (by omega),List.drop_of_length_le (by omega)];simp
    simp only [Z3.l0,c1,if_false,e]
    exact Ev.now _
   | succ d ih =>
    intro i hi
    have hia:i < a.length:=by omega
    have hib:i < b.length:=by omega
    rw [List.drop_eq_getElem_cons hia,← g_get hia,List.drop_eq_getElem_cons hib,← g_get hib]
    have c1:(i:Int) < (b.length:Int):=by omega
    have c2:(0:Int)≤(i:Int):=by omega
    have c4:(i:Int) < (a.length:Int):=by omega
    have c3:=w64s i (by omega)
    refine ev_succ ?_
    by_cases he:g a i = g b i
    ·have z:((g a i:Nat):Int) = ((g b i:Nat):Int):=by omega
     have e:decide (g a i :: a.drop (i + 1) = g b i :: b.drop (i + 1)) = decide (a.drop (i + 1) = b.drop (i + 1)):=by simp [he]
     rw [e]
     simp only [Z3.l0,c1,c2,c3,c4,I_len',rdI,z,if_true]
     exact ih (i + 1) (by omega)
    ·have z:¬ (((g a i:Nat):Int) = ((g b i:Nat):Int)):=by omega
     have e:decide (g a i :: a.drop (i + 1) = g b i :: b.drop (i + 1)) = false:=by simp [he]
     rw [e]
     simp only [Z3.l0,c1,c2,c4,I_len',rdI,z,if_true,if_false]
     exact Ev.now _
  have key:=H a.length 0 (Nat.zero_add _)
  rw [List.drop_zero,List.drop_zero] at key
  exact key
 ·have e:decide (a = b) = false:=by
   rw [decide_eq_false_iff_not]
   intro e
   rw [e] at hl
   exact hl rfl
  simp only [I_len',hl,if_false,e]
  exact Ev.now _
end Go.Proofs.Ytcggfjpnfodbaaa.M
end
section
/- The order of surfaces. No conditions. -/
namespace Go.Proofs.Ytcggfjpnfodbaaa.M
set_option linter.unusedVariables false
set_option linter.unusedSimpArgs false
open Go.RowKit Go.Proofs.YtcggfjpnfodbaaaW.PrintWords Go.Proofs.YtcggfjpnfodbaaaW.PrintLast Go.Proofs.YtcggfjpnfodbaaaW.PrintMore Go.Proofs.Ytcggfjpnfodbaaa.A
theorem lexC_neg:∀ (a b:List Nat),lexC b a = - lexC a b:=by
 intro a
 induction a with
 | nil=>intro b;cases b <;> simp [lexC]
 | cons x a ih =>
  intro b
  cases b with
  | nil=>simp [lexC]
  | cons y b =>
   unfold lexC
   by_cases h1:x < y
   ·have h2:¬ y < x:=by omega
    simp [h1,h2]
   ·by_cases h2:y < x
    ·simp [h1,h2]
    ·simp [h1,h2,ih]
theorem lexC_tr:∀ (a b c:List Nat),lexC a b < 0→lexC b c < 0→lexC a c < 0:=by
 intro a
 induction a with
 | nil =>
  intro b c h1 h2
  cases c with
  | nil=>cases b <;> simp [lexC] at h1 h2
  | cons z c=>simp [lexC]
 | cons x a ih =>
  intro b c h1 h2
  cases b with
  | nil=>simp [lexC] at h1
  | cons y b =>
   cases c with
   | nil=>simp [lexC] at h2
   | cons z c =>
    unfold lexC at h1 h2 ⊢
    by_cases p1:x < y
    ·by_cases p2:y < z
     ·have:x < z:=by omega
      simp [this]
     ·by_cases p3:z < y
      ·simp [p2,p3] at h2
      ·have:x < z:=by omega
       simp [this]
    ·by_cases q1:y < x
     ·simp [p1,q1] at h1
     ·have e:x = y:=by omega
      subst e
      by_cases p2:x < z
      ·simp [p2]
      ·by_cases p3:z < x
       ·simp [p2,p3] at h2
       ·simp only [p2,p3,if_false] at h2 ⊢
        simp only [p1,q1,if_false] at h1
        exact ih b c h1 h2
theorem cmpS_eq (a b:List Nat × List Nat):cmpS a b = 0 ↔ a = b:=by
 unfold cmpS
 by_cases h:lexC a.1 b.1 = 0
 ·rw [if_pos h]
  have e:=(lexC_eq _ _).1 h
  constructor
  ·intro h2
   exact Prod.ext e ((lexC_eq _ _).1 h2)
  ·intro h2
   rw [h2]
   exact (lexC_eq _ _).2 rfl
 ·rw [if_neg h]
  constructor
  ·intro h2;exact absurd h2 h
  ·intro h2
   rw [h2] at h
   exact absurd ((lexC_eq _ _).2 rfl) h
theorem cmpS_neg (a b:List Nat × List Nat):cmpS b a = - cmpS a b:=by
 unfold cmpS
 have h1:=lexC_neg a.1 b.1
 have h2:=lexC_neg a.2 b.2
 by_cases h:lexC a.1 b.1 = 0
 ·have h':lexC b.1 a.1 = 0:=by omega
  rw [if_pos h,if_pos h',h2]
 ·have h':¬ lexC b.1 a.1 = 0:=by omega
  rw [if_neg h,if_neg h',h1]
theorem cmpS_tr (a b c:List Nat × List Nat) (h1:cmpS a b < 0) (h2:cmpS b c < 0):cmpS a c < 0:=by
 unfold cmpS at *
 by_cases p:lexC a.1 b.1 = 0
 ·rw [if_pos p] at h1
  have e:=(lexC_eq _ _).1 p
  rw [e]
  by_cases q:lexC b.1 c.1 = 0
  ·rw [if_pos q] at h2 ⊢
   exact lexC_tr _ _ _ h1 h2
  ·rw [if_neg q] at h2 ⊢
   exact h2
 ·rw [if_neg p] at h1
  by_cases q:lexC b.1 c.1 = 0
  ·rw [if_pos q] at h2
   have e:=(lexC_eq _ _).1 q
   rw [← e,if_neg p]
   exact h1
  ·rw [if_neg q] at h2
   have:=lexC_tr _ _ _ h1 h2
   rw [if_neg (by omega)]
   exact this
end Go.Proofs.Ytcggfjpnfodbaaa.M
end
section
/- The canonical form tells which surfaces are alike. No conditions. -/
namespace Go.Proofs.Ytcggfjpnfodbaaa.M
set_option linter.unusedVariables false
set_option linter.unusedSimpArgs false
theorem rS_is {s t:List Nat × List Nat} {f:Nat→Nat} (hs:Sf s.1 s.2) (ht:Sf t.1 t.2) (a:Is s t f) {i:Nat} (hi:i < s.1.length):rS t.1 t.2 (f i) = rS s.1 s.2 i:=by
 have hfi:f i < t.1.length:=by rw [a.len];exact a.lt i hi
 obtain ⟨p1,l1⟩:=isP_reach hs hi
 obtain ⟨p2,l2⟩:=isP_reach ht hfi
 have em:=reach_map hs a hi
 have hle:∀ y ∈ reach s.1 s.2 i,y < s.1.length:=fun y hy=>by rw [← l1];exact p1.lt y hy
 have key:∀ (p q:List Nat),(∀ x,x < s.1.length→g p x < s.1.length)→(∀ x,x < s.1.length→f (g p x) = g q (f x))→p.length = s.1.length→q.length = t.1.length→ren q (nm t.1 t.2 (f i)) = ren p (nm s.1 s.2 i):=by
  intro p q hp hq lp lq
  refine ext_g (by rw [ren_len,ren_len,lp,lq,a.len]) (fun j hj=>?_)
  rw [ren_len,lq] at hj
  have hj':j < s.1.length:=by rw [← a.len];exact hj
  rw [g_ren (by rw [lq];exact hj),g_ren (by rw [lp];exact hj')]
  unfold nm
  rw [ix_inv p2 (by rw [l2];exact hj),ix_inv p1 (by rw [l1];exact hj'),em,g_map (by rw [l1];exact hj')]
  have hz:g (reach s.1 s.2 i) j < s.1.length:=hle _ (g_mem (by rw [l1];exact hj'))
  rw [← hq _ hz,← em,g_inv (by rw [l2,a.len];exact a.lt _ (hp _ hz)),g_inv (by rw [l1];exact hp _ hz),em]
  exact ix_map a.inj hle (hp _ hz)
 exact Prod.ext (key s.1 t.1 (fun x hx=>hs.gr hx) a.r rfl rfl) (key s.2 t.2 (fun x hx=>hs.gu hx) a.u hs.eq ht.eq)
theorem is_rS {s:List Nat × List Nat} (hs:Sf s.1 s.2) {i:Nat} (hi:i < s.1.length):Is s (rS s.1 s.2 i) (g (nm s.1 s.2 i)):=by
 obtain ⟨p,l⟩:=isP_nm hs hi
 refine ⟨(rS_len i).1,fun x hx=>?_,fun x y hx hy e=>g_inj p (by rw [l];exact hx) (by rw [l];exact hy) e,fun x hx=>?_,fun x hx=>?_⟩
 ·have:=g_lt p (i:=x) (by rw [l];exact hx)
  rw [l] at this
  exact this
 ·have h1:=g_lt p (i:=x) (by rw [l];exact hx)
  rw [l] at h1
  show _ = g (ren s.1 (nm s.1 s.2 i)) _
  rw [g_ren h1,ix_g p (by rw [l];exact hx)]
 ·have h1:=g_lt p (i:=x) (by rw [l];exact hx)
  rw [l] at h1
  show _ = g (ren s.2 (nm s.1 s.2 i)) _
  rw [g_ren (by rw [hs.eq];exact h1),ix_g p (by rw [l];exact hx)]
theorem sf_rS {s:List Nat × List Nat} (hs:Sf s.1 s.2) {i:Nat} (hi:i < s.1.length):Sf (rS s.1 s.2 i).1 (rS s.1 s.2 i).2:=by
 obtain ⟨p,l⟩:=isP_nm hs hi
 have h:=rS_len (r:=s.1) (u:=s.2) i
 exact hs.of_is (is_rS hs hi) (isP_ren hs.pr p l.symm) (isP_ren hs.pu p (by rw [l,hs.eq])) (by rw [h.1,h.2,hs.eq])
theorem canK_at (r u:List Nat):∀ k,∃ i,i≤k∧canK r u k = rS r u i:=by
 intro k
 induction k with
 | zero=>exact ⟨0,Nat.le_refl _,rfl⟩
 | succ k ih =>
  obtain ⟨i,hi,e⟩:=ih
  unfold canK
  split
  ·exact ⟨k + 1,Nat.le_refl _,rfl⟩
  ·exact ⟨i,by omega,e⟩
theorem canK_le (r u:List Nat):∀ k i,i≤k→¬ cmpS (rS r u i) (canK r u k) < 0:=by
 intro k
 induction k with
 | zero =>
  intro i hi
  obtain rfl:i = 0:=by omega
  show ¬ cmpS (rS r u 0) (rS r u 0) < 0
  rw [(cmpS_eq _ _).2 rfl];omega
 | succ k ih =>
  intro i hi
  unfold canK
  by_cases h:cmpS (rS r u (k + 1)) (canK r u k) < 0
  ·rw [if_pos h]
   by_cases e:i = k + 1
   ·subst e
    rw [(cmpS_eq _ _).2 rfl];omega
   ·intro h2
    exact ih i (by omega) (cmpS_tr _ _ _ h2 h)
  ·rw [if_neg h]
   by_cases e:i = k + 1
   ·subst e;exact h
   ·exact ih i (by omega)
theorem canS_at {r u:List Nat} (hs:Sf r u):∃ i,i < r.length∧canS r u = rS r u i:=by
 obtain ⟨i,hi,e⟩:=canK_at r u (r.length - 1)
 have:=hs.pos
 exact ⟨i,by omega,e⟩
theorem canS_le {r u:List Nat} {i:Nat} (hi:i < r.length):¬ cmpS (rS r u i) (canS r u) < 0:=canK_le r u _ i (by omega)
theorem sf_canS {s:List Nat × List Nat} (hs:Sf s.1 s.2):Sf (canS s.1 s.2).1 (canS s.1 s.2).2:=by
 obtain ⟨i,hi,e⟩:=canS_at hs
 rw [e]
 exact sf_rS hs hi
theorem is_canS {s:List Nat × List Nat} (hs:Sf s.1 s.2):∃ f,Is s (canS s.1 s.2) f:=by
 obtain ⟨i,hi,e⟩:=canS_at hs
 rw [e]
 exact ⟨_,is_rS hs hi⟩
theorem canS_of_is {s t:List Nat × List Nat} {f:Nat→Nat} (hs:Sf s.1 s.2) (ht:Sf t.1 t.2) (a:Is s t f):canS s.1 s.2 = canS t.1 t.2:=by
 obtain ⟨i,hi,e1⟩:=canS_at hs
 obtain ⟨j,hj,e2⟩:=canS_at ht
 have a':=a.symm hs
 rw [a.len] at hj
 have hb:=bk_lt a.lt a.inj hj
 have q1:=canS_le (r:=t.1) (u:=t.2) (i:=f i) (by rw [a.len];exact a.lt i hi)
 have q2:=canS_le (r:=s.1) (u:=s.2) (i:=bk s.1.length f j) hb
 rw [rS_is hs ht a hi,← e1] at q1
 rw [rS_is ht hs a' (by rw [a.len];exact hj),← e2] at q2
 have:=cmpS_neg (canS s.1 s.2) (canS t.1 t.2)
 exact (cmpS_eq _ _).1 (by omega)
theorem canS_iff {s t:List Nat × List Nat} (hs:Sf s.1 s.2) (ht:Sf t.1 t.2):canS s.1 s.2 = canS t.1 t.2 ↔ ∃ f,Is s t f:=by
 constructor
 ·intro h
  obtain ⟨f1,h1⟩:=is_canS hs
  obtain ⟨f2,h2⟩:=is_canS ht
  rw [h] at h1
  exact ⟨_,h1.trans (h2.symm ht)⟩
 ·rintro ⟨f,h⟩
  exact canS_of_is hs ht h
end Go.Proofs.Ytcggfjpnfodbaaa.M
end
section
/- Marks on lists of lists. No conditions. -/
namespace Go.Proofs.Ytcggfjpnfodbaaa.M
set_option linter.unusedVariables false
set_option linter.unusedSimpArgs false
open Go.RowKit Go.Proofs.YtcggfjpnfodbaaaW.PrintWords Go.Proofs.YtcggfjpnfodbaaaW.PrintLast Go.Proofs.YtcggfjpnfodbaaaW.PrintMore Go.Proofs.Ytcggfjpnfodbaaa.A
theorem getD_mid {α:Type} (p:List α) (x:α) (xs:List α) (d:α):(p ++ x :: xs).getD p.length d = x:=by
 rw [List.getD_eq_getElem?_getD,List.getElem?_append_right (Nat.le_refl _)]
 simp
end Go.Proofs.Ytcggfjpnfodbaaa.M
end
section
namespace Go.Proofs.Ytcggfjpnfodbaaa.A
open Go.RowKit Go.Proofs.YtcggfjpnfodbaaaW.PrintWords Go.Proofs.YtcggfjpnfodbaaaW.PrintLast Go.Proofs.YtcggfjpnfodbaaaW.PrintMore
attribute [local go_sem] max2_int min2_int max_two min_two max_three min_three max_four min_four
set_option linter.unusedVariables false
set_option linter.unusedSimpArgs false
def Z58.l0:Nat→List Int→List Int→List Int→Int→Int→Option (List Int)
 | 0,_,_,_,_,_=>none
 | k + 1,x1,x5,x9,x10,x11=>if x11 < x10 then (if 0≤x11 then (if x11 < (x9.length:Int) then (if 0≤(rd x9 x11) then (if (rd x9 x11) < (x1.length:Int) then (if x5.length < 17592186044416 then (Z58.l0 k x1 (x5 ++ [rd x1 (rd x9 x11)]) x9 x10 (wrap64 (x11 + 1))) else (none)) else (none)) else (none)) else (none)) else (none)) else (some x5)
def Z58.f (k:Nat) (l0:List Int) (l1:List Int):Option (List Int):=Z58.l0 k l1 (([]:List Int)) l0 (l0.length:Int) 0
theorem Z58.mono_l:∀ k,(∀ y0 y1 y2 y3 y4,LeO (Z58.l0 k y0 y1 y2 y3 y4) (Z58.l0 (k + 1) y0 y1 y2 y3 y4))
 | 0=>fun _ _ _ _ _ r h=>by simp [Z58.l0] at h
 | k + 1=>by
  have ih0:=Z58.mono_l k
  ·intro y0 y1 y2 y3 y4
   unfold Z58.l0
   repeat' first|exact ih0 _ _ _ _ _|exact lo_|refine LeO.ite ?_ ?_|refine LeO.bind ?_ (fun _=>?_)
theorem Z58.mono:∀ a0 a1 k,LeO (Z58.f k a0 a1) (Z58.f (k + 1) a0 a1):=by
 intro a0 a1 k
 have ih0:=Z58.mono_l k
 unfold Z58.f
 repeat' first|exact ih0 _ _ _ _ _|exact lo_|refine LeO.ite ?_ ?_|refine LeO.bind ?_ (fun _=>?_)
set_option maxHeartbeats 8000000 in
set_option maxRecDepth 100000 in
theorem Z58.calls (k:Nat) (A0:Option Addr) (c0:Nat) (l0:List Int) (A1:Option Addr) (c1:Nat) (l1:List Int) (r:List Int) (w:World) (hr0:Kd.C (Kd.int .i64) w A0 l0.length l0) (hc0:l0.length≤c0) (hr1:Kd.C (Kd.int .i64) w A1 l1.length l1) (hc1:l1.length≤c1) (h:Z58.f k l0 l1 = some r) :
  Calls Try.prog 154 #[.slice A0 l0.length c0,.slice A1 l1.length c1] w fun e w'=>∃ v0_:Value,e = .returned (v0_)∧Kd.R (Kd.int .i64) 3 w' w.heap.size (fun _=>True) v0_ r∧Below w.heap.size w w':=by
 have HR0:=A_ hr0
 have HC0:=A_ hc0
 clear hr0 hc0
 have HR1:=A_ hr1
 have HC1:=A_ hc1
 clear hr1 hc1
 have HB:=A_ (Below.refl w.heap.size w)
 have H:=h
 unfold Z58.f at H
 clear h
 obtain ⟨y788,hy788⟩:∃ y_:List Int,y_ = (([]:List Int)):=⟨_,rfl⟩
 replace H:(Z58.l0 k l1 y788 l0 (l0.length:Int) 0) = some r:=by first | (rw [hy788];exact H) | exact H
 have Ny788:=A_ hy788
 clear hy788
 have H':=A_ H
 clear H
 go_enter Try.func154,Try.ntmps154
 go_wp2_with (first | ((with_reducible refine gB_ (N:=8) rfl ?_);refine Kd.R_lit (Kd.int .i64) _ 3 ?hg (N:=8) ?hd (xs:=([]:List Int)) (inner:=[]) (ok:=fun _=>True) (okp:=fun _=>True) ?hr ?hp (fun _ hk=>hk) trivial (Below.refl _ _) (nA_ _) (by simp) ?_;(case hd=>rfl);(case hg=>rfl);(case hr=>first | (go_simp;done) | (go_simp;rfl));(case hp=>exact (Reps.none _ _));intro v789 w3 ho4 hb hg_ hnew_;clear hg_ hnew_;(first | rw [← Ny788.out] at ho4 | (simp only [Int.reduceToNat] at ho4;rw [← Ny788.out] at ho4));have HO790:=rl_ w ho4;replace HB:=b1_ hb;clear hb ho4))
 go_loopg [5,11] k (fun kq v5 v11 w'=>∃ (x5_1:List Int) (x11_1:Int),v11 = .int .i64 x11_1∧Aside0 (Z58.l0 kq l1 x5_1 l0 (l0.length:Int) x11_1 = some r)∧Aside0 (kq≤k)∧Aside0 (Kd.R (Kd.int .i64) 3 w' w.heap.size (fun _=>True) v5 x5_1)∧Aside0 (Below w.heap.size w w'))
 case atStart=>exact ⟨(y788),(0),qc_,H',⟨nA_ _⟩,⟨(rr_ HO790)⟩,⟨hB_⟩⟩
 case round =>
  clear H'
  obtain ⟨x5_1,x11_1,rfl,HA,HK1,HO_5,HB⟩:=hrel
  cases gk with
  | zero=>exact absurd HA.out (by simp [Z58.l0])
  | succ k1 =>
   have H:=HA.out
   clear HA
   simp only [Z58.l0] at H
   by_cases c5:x11_1 < (l0.length:Int)
   ·rw [if_pos c5] at H
    have c5b0:=oC_ c5
    clear c5
    replace H:=cx_ H;obtain ⟨c6b0,H⟩:=H
    replace H:=cx_ H;obtain ⟨c7b0,H⟩:=H
    replace H:=cx_ H;obtain ⟨c8b0,H⟩:=H
    replace H:=cx_ H;obtain ⟨c9b0,H⟩:=H
    have c10:=cp_ H
    replace H:=ca_ H
    have LMc10:=A_ c10
    clear c10
    obtain ⟨y793,hy793⟩:∃ y_:List Int,y_ = (x5_1 ++ [rd l1 (rd l0 x11_1)]):=⟨_,rfl⟩
    replace H:(Z58.l0 k1 l1 y793 l0 (l0.length:Int) (wrap64 (x11_1 + 1))) = some r:=by first | (rw [hy793];exact H) | exact H
    have Ny793:=A_ hy793
    clear hy793
    have H':=A_ H
    clear H
    have p791:0≤(x11_1:Int):=oB_ qe_
    have q791:x11_1 < (l0.length:Int):=oB_ qe_
    obtain ⟨ad791,e791,hx791_0⟩:=Kd.at_int HR0.out x11_1 p791 q791
    cases e791
    replace hx791_0:=(HB.out.cell (World.block_lt_of_cell? w _ hx791_0)).trans hx791_0
    replace p791:=eq_true p791
    replace q791:=eq_true q791
    have p792:0≤((rd l0 x11_1):Int):=oB_ qe_
    have q792:(rd l0 x11_1) < (l1.length:Int):=oB_ qe_
    obtain ⟨ad792,e792,hx792_0⟩:=Kd.at_int HR1.out (rd l0 x11_1) p792 q792
    cases e792
    replace hx792_0:=(HB.out.cell (World.block_lt_of_cell? w _ hx792_0)).trans hx792_0
    replace p792:=eq_true p792
    replace q792:=eq_true q792
    go_wp2_with (first | ((with_reducible refine gate_builtin (b:=.append) (xs:=#[.tmp 15,.tmp 20]) rfl ?_);at_builtin;refine Kd.R_append (Kd.int .i64) (w0:=w) w.heap.size rfl (.tmp 15) (.tmp 20) 23 3 (.int .i64 0) 8 rfl Try.underlying23 info3 rfl (by decide) (by omega) u5 x5_1 (rd l1 (rd l0 x11_1)) [.int .i64 (rd l1 (rd l0 x11_1))] (fun _=>True) (fun _=>False) rfl rfl ?aP (fun _ hk=>hk.elim) ?aF ?aO ?aB ?aS ?aL ?_;(case aP=>exact rfl);(case aB=>exact hB_);(case aF=>exact (fun _ _=>trivial));(case aO=>exact (rr_ HO_5));(case aS=>exact (bF_ hB_));(case aL=>have:=LMc10.out;omega);intro v794 w11 ho hb hg hat;rw [← Ny793.out] at ho;replace HB:=A_ hb;have HO795:=A_ ho;clear HO_5;clear ho hb hg hat))
    go_roundg k1
    case measure=>have:=HK1.out;omega
    case rel=>exact ⟨(y793),(wrap64 (x11_1 + 1)),qc_,H',⟨by have:=HK1.out;omega⟩,⟨(rr_ HO795)⟩,⟨hB_⟩⟩
   ·rw [if_neg c5] at H
    have c5b0:=oD_ c5
    clear c5
    obtain rfl:=Option.some.inj H
    go_wp2
    go_ret
    exact ⟨_,qb_,(rr_ HO_5),hB_⟩
end Go.Proofs.Ytcggfjpnfodbaaa.A
end
section
/- One round about a corner; first places in lists. No conditions. -/
namespace Go.Proofs.Ytcggfjpnfodbaaa.M
set_option linter.unusedVariables false
set_option linter.unusedSimpArgs false
open Go.RowKit Go.Proofs.YtcggfjpnfodbaaaW.PrintWords Go.Proofs.YtcggfjpnfodbaaaW.PrintLast Go.Proofs.YtcggfjpnfodbaaaW.PrintMore Go.Proofs.Ytcggfjpnfodbaaa.A
theorem impl_then {p q:List Nat} (hp:IsP p) (hq:IsP q) (hl:p.length = q.length) (h24:p.length≤24):Ev (fun k=>Z39.f k (I p) (I q)) (I (thn p q)):=by
 unfold Z39.f
 refine Ev.bind (impl_permOk (I p)) ?_
 have e1:permB (I p) = true:=permB_I.mpr ⟨hp,h24⟩
 have e2:permB (I q) = true:=permB_I.mpr ⟨hq,by omega⟩
 simp only [e1,if_true]
 refine Ev.bind (impl_permOk (I q)) ?_
 have e3:((p.length:Int) != (q.length:Int)) = false:=by simp [hl]
 simp only [e2,if_true,I_len',e3]
 refine ev_succ ?_
 have h1:(0:Int)≤(p.length:Int):=by omega
 have h2:p.length≤35184372088832:=by omega
 simp only [Z39.j0,Bool.false_eq_true,if_false,I_len',h1,h2,if_true,Int.toNat_natCast]
 have H:∀ (d i:Nat) (c:List Nat),i + d = p.length→c.length = p.length→(∀ j,j < i→g c j = g q (g p j))→Ev (fun k=>Z39.l0 k (I q) (I c) (I p) (p.length:Int) (i:Int)) (I (thn p q)):=by
  intro d
  induction d with
  | zero =>
   intro i c h hc hx
   refine ev_succ ?_
   have h1:¬ ((i:Int) < (p.length:Int)):=by omega
   have e:thn p q = c:=by
    refine (eq_tab hc (fun j hj=>hx j (by omega))).symm
   simp only [Z39.l0,h1,if_false]
   rw [e]
   exact Ev.now _
  | succ d ih =>
   intro i c h hc hx
   refine ev_succ ?_
   have hi:i < p.length:=by omega
   have gp:=g_lt hp hi
   have c1:(i:Int) < (p.length:Int):=by omega
   have c2:(0:Int)≤(i:Int):=by omega
   have c3:(0:Int)≤((g p i:Nat):Int):=by omega
   have c4:((g p i:Nat):Int) < (q.length:Int):=by omega
   have c5:(i:Int) < (c.length:Int):=by omega
   have h3:=w64s i (by omega)
   simp only [Z39.l0,c1,c2,c3,c4,c5,h3,rdI,I_len',I_set,if_true,Int.toNat_natCast]
   refine ih (i + 1) _ (by omega) (by rw [List.length_set];exact hc) (fun j hj=>?_)
   rw [g_set (by omega)]
   by_cases e:i = j
   ·subst e
    simp
   ·rw [if_neg e]
    exact hx j (by omega)
 have:=H p.length 0 (List.replicate p.length 0) (by omega) (by simp) (fun j hj=>by omega)
 rw [I_rep] at this
 exact this
def arnd (r u:List Nat):List Nat:=thn (thn r u) (thn (inv r) (inv u))
end Go.Proofs.Ytcggfjpnfodbaaa.M
end
section
/- Slopes and paths: the program and the reference answer alike. No conditions. -/
namespace Go.Proofs.Ytcggfjpnfodbaaa.M
set_option linter.unusedVariables false
set_option linter.unusedSimpArgs false
open Go.RowKit Go.Proofs.YtcggfjpnfodbaaaW.PrintWords Go.Proofs.YtcggfjpnfodbaaaW.PrintLast Go.Proofs.YtcggfjpnfodbaaaW.PrintMore Go.Proofs.Ytcggfjpnfodbaaa.A
theorem tab_snoc (i:Nat) (f:Nat→Nat):tab i f ++ [f i] = tab (i + 1) f:=by unfold tab;rw [List.range_succ];simp
theorem spec_then {p q:List Nat} (hp:∀ i,i < p.length→g p i < q.length) (h:p.length≤1000):Ev (fun k=>Z58.f k (I p) (I q)) (I (thn p q)):=by
 unfold Z58.f
 have H:∀ d i:Nat,i + d = p.length→Ev (fun k=>Z58.l0 k (I q) (I (tab i (fun i=>g q (g p i)))) (I p) (p.length:Int) (i:Int)) (I (thn p q)):=by
  intro d
  induction d with
  | zero =>
   intro i h
   obtain rfl:i = p.length:=by omega
   refine ev_succ ?_
   have h1:¬ ((p.length:Int) < (p.length:Int)):=by omega
   simp only [Z58.l0,h1,if_false]
   exact Ev.now _
  | succ d ih =>
   intro i h
   have hi:i < p.length:=by omega
   have hg:=hp i hi
   refine ev_succ ?_
   have h1:(i:Int) < (p.length:Int):=by omega
   have h2:=w64s i (by omega)
   have h3:(I (tab i (fun i=>g q (g p i)))).length < 17592186044416:=by rw [I_len,tab_len];omega
   have h4:(0:Int)≤(i:Int):=by omega
   have h5:(0:Int)≤((g p i:Nat):Int):=by omega
   have h6:((g p i:Nat):Int) < (q.length:Int):=by omega
   have e:=tab_snoc i (fun i=>g q (g p i))
   simp only [Z58.l0,h1,h2,h3,h4,h5,h6,rdI,I_len',if_true,I_snoc,e]
   exact ih (i + 1) (by omega)
 have:=H p.length 0 (by omega)
 simp only [I_len']
 exact this
def wk (r u:List Nat) (w:ByteArray):Nat→Nat→Nat
 | 0,x=>x
 | j + 1,x=>if bt w (j:Int) = 114 then g r (wk r u w j x) else g u (wk r u w j x)
end Go.Proofs.Ytcggfjpnfodbaaa.M
end
section
namespace Go.Proofs.Ytcggfjpnfodbaaa.A
open Go.RowKit Go.Proofs.YtcggfjpnfodbaaaW.PrintWords Go.Proofs.YtcggfjpnfodbaaaW.PrintLast Go.Proofs.YtcggfjpnfodbaaaW.PrintMore
attribute [local go_sem] max2_int min2_int max_two min_two max_three min_three max_four min_four
set_option linter.unusedVariables false
set_option linter.unusedSimpArgs false
def Z48.f (k:Nat) (l0_0:List Int) (l0_1:List Int):Option (List Int × List Int):=(some (([]:List Int):List Int)).bind fun y798=>(if y798.length + l0_0.length < 17592186044416 then ((Z24.f k l0_0).bind fun t804=>((Z58.f k t804 l0_1).bind fun t807=>(some ((y798 ++ l0_0),t807)))) else (none))
theorem Z48.mono:∀ a0 a1 k,LeO (Z48.f k a0 a1) (Z48.f (k + 1) a0 a1):=by
 intro a0 a1 k
 unfold Z48.f
 repeat' first|exact Z24.mono _ _|exact Z58.mono _ _ _|exact lo_|refine LeO.ite ?_ ?_|refine LeO.bind ?_ (fun _=>?_)
def Z48.T1:Bool × List (List Nat × List Nat):=(true,[([],[]),([],[]),([1],[1]),([0,2],[0,2]),([],[]),([4],[4]),([5,3],[5]),([],[]),([7],[7]),([6,8,6],[6,8]),([3,9],[3,9]),([10,9,0,1,2,3,4,5,6,7,8,9,10],[10])])
def Z48.B1:List Nat:=[0,0,2,7,0,16,63,0,128,511,1023,2047]
theorem Z48.tab1:rtab .any (opsOf Try.f124 1) = Z48.T1:=by kernel_rfl
theorem Z48.bits1:waitsOk Z48.T1.2 Z48.B1 = true:=by kernel_rfl
set_option maxHeartbeats 8000000 in
set_option maxRecDepth 100000 in
theorem Z48.calls (k:Nat) (A0_0:Option Addr) (c0_0:Nat) (l0_0:List Int) (A0_1:Option Addr) (c0_1:Nat) (l0_1:List Int) (r1:List Int) (r2:List Int) (w:World) (hr0_0:Kd.C (Kd.int .i64) w A0_0 l0_0.length l0_0) (hc0_0:l0_0.length≤c0_0) (hr0_1:Kd.C (Kd.int .i64) w A0_1 l0_1.length l0_1) (hc0_1:l0_1.length≤c0_1) (h:Z48.f k l0_0 l0_1 = some (r1,r2)) :
  Calls Try.prog 124 #[.agg #[.slice A0_0 l0_0.length c0_0,.slice A0_1 l0_1.length c0_1]] w fun e w'=>∃ v0_ v1_:Value,e = .returned (.agg #[v0_,v1_])∧Kd.R (Kd.int .i64) 3 w' w.heap.size (fun k_=>some k_≠(v1_:Value).ownBlock) v0_ r1∧Kd.R (Kd.int .i64) 3 w' w.heap.size (fun k_=>some k_≠(v0_:Value).ownBlock) v1_ r2∧Below w.heap.size w w':=by
 have hu25:=Try.underlying25
 have HR0_0:=A_ hr0_0
 have HC0_0:=A_ hc0_0
 clear hr0_0 hc0_0
 have HR0_1:=A_ hr0_1
 have HC0_1:=A_ hc0_1
 clear hr0_1 hc0_1
 have HB:=A_ (Below.refl w.heap.size w)
 have H:=h
 unfold Z48.f at H
 clear h
 obtain ⟨y798,hy798⟩:∃ y_:List Int,y_ = (([]:List Int)):=⟨_,rfl⟩
 replace H:(if y798.length + l0_0.length < 17592186044416 then ((Z24.f k l0_0).bind fun t804=>((Z58.f k t804 l0_1).bind fun t807=>(some ((y798 ++ l0_0),t807)))) else (none)) = some (r1,r2):=by first | (rw [hy798];exact H) | exact H
 have Ny798:=A_ hy798
 clear hy798
 have c2:=cp_ H
 replace H:=ca_ H
 have LMc2:=A_ c2
 clear c2
 obtain ⟨y801,hy801⟩:∃ y_:List Int,y_ = (y798 ++ l0_0):=⟨_,rfl⟩
 replace H:((Z24.f k l0_0).bind fun t804=>((Z58.f k t804 l0_1).bind fun t807=>(some (y801,t807)))) = some (r1,r2):=by first | (rw [hy801];exact H) | exact H
 have Ny801:=A_ hy801
 clear hy801
 obtain ⟨t804,A3,H⟩:=bi_ H
 obtain ⟨t807,A4,H⟩:=bi_ H
 simp only [Option.some.injEq,Prod.mk.injEq] at H
 obtain ⟨rfl,rfl⟩:=H
 go_enter Try.func124,Try.ntmps124
 try go_wp2_with (first | ((with_reducible refine gB_ (N:=1) rfl ?_);refine bx_ 1 #[.slice A0_0 l0_0.length c0_0,.slice A0_1 l0_1.length c0_1] 25 ?_;intro gb796 hg w5 hbox hb;have BK796:=A_ hbox;have GW796:=gw_ w hg;have GE796:=GW796;replace HB:=b1_ hb;clear hb hbox hg) | ((with_reducible refine gB_ (N:=2) rfl ?_);refine bx_ 2 #[.slice none 0 0,.slice none 0 0] 25 ?_;intro gb797 hg w6 hbox hb;have BK797:=A_ hbox;have GW797:=gw_ w hg;have GE797:=GW797;replace HB:=b1_ hb;have NB796_797:=gN_ BK796 hg;have NB797_796:=gP_ BK796 hg;replace BK796:=bb_ BK796 hb;clear hb hbox hg))
 replace BK796:=A_ (kB_ BK796.out)
 replace BK797:=A_ (kB_ BK797.out)
 replace HB:=A_ (bC_ HB.out)
 refine start_ (n:=12) (S:=fun w'=>w'.cell? ⟨gb796,0,none⟩ = some (.slice A0_0 l0_0.length c0_0)∧w'.cell? ⟨gb796,1,none⟩ = some (.slice A0_1 l0_1.length c0_1)) (ds:=[]) (bl_ 12 0) (by kernel_rfl) rfl (by kernel_rfl) ⟨cz0_ BK796,cz1_ BK796⟩ (fun hHeld=>?_);refine with_tabW Z48.tab1 Z48.bits1 (fun HT_ HW_=>?_)
 generalize w6.drew = w7 at BK796 BK797 HB hHeld ⊢
 refine pu_ 1 (some 4) (bl_ 12 2) HT_ ?_
 refine pu_ 4 (some 7) (bl_ 12 18) HT_ ?_
 refine pu_ 7 (some 10) (bl_ 12 146) HT_ ?_
 refine ta_ 2 (some 5) (bl_ 12 150) HT_ HW_ hHeld ?_
 refine ta_ 5 (some 8) (bl_ 12 182) HT_ HW_ hHeld ?_
 refine ta_ 8 (some 11) (bl_ 12 438) HT_ HW_ hHeld ?_
 refine on_ 0 (some 3) (bl_ 12 439) HT_ (fun K hK=>?_)
 refine Kd.R_lit_step (Kd.int .i64) _ 3 ?hg (N:=3) ?hd (xs:=([]:List Int)) (inner:=[]) (ok:=fun _=>True) (okp:=fun _=>True) ?hr ?hp (fun _ hk=>hk) trivial (Below.refl _ _) (nA_ _) (by simp) ?_;(case hd=>rfl);(case hg=>rfl);(case hr=>first | (go_simp;done) | (go_simp;rfl));(case hp=>exact (Reps.none _ _))
 intro v799 w8 ho9 hb hg_ hnew_
 clear hg_ hnew_
 (first | rw [← Ny798.out] at ho9 | (simp only [Int.reduceToNat] at ho9;rw [← Ny798.out] at ho9))
 have HO800:=rl_ w ho9
 replace BK796:=bb_ BK796 hb
 replace BK797:=bb_ BK797 hb
 replace HB:=b1_ hb
 clear hb ho9
 refine hK.out _ _ ⟨cz0_ BK796,cz1_ BK796⟩ (fun hHeld=>?_)
 clear hK K
 refine no_ (some 3) ?_
 refine on_ 3 (some 6) (bl_ 12 447) HT_ (fun K hK=>?_)
 refine Kd.R_append_rows_step (Kd.int .i64) (w0:=w) w.heap.size (by rfl) (.tmp 3) (.tmp 5) 23 3 (.int .i64 0) 8 rfl Try.underlying23 info3 rfl (by decide) (by omega) v799 y798 l0_0 _ _ _ (fun _=>True) (fun _=>False) rfl rfl ?aO ?aR (fun _ _ h=>h) (fun _ h=>h.elim) ?aF ?aB ?aS ?aL ?_
 (case aR=>exact cb_ HR0_0)
 (case aB=>exact hB_)
 (case aF=>exact (fun _ _=>trivial))
 (case aO=>exact (rr_ HO800))
 (case aS=>exact (bF_ hB_))
 (case aL=>have:=LMc2.out;omega)
 intro v802 w10 ho hb hg hat
 rw [← Ny801.out] at ho
 replace BK796:=A_ (blk_grown (kk_ BK796) hg (Kd.R_ne HO800.out BK796.out (by decide)))
 replace BK797:=A_ (blk_grown (kk_ BK797) hg (Kd.R_ne HO800.out BK797.out (by decide)))
 replace HB:=A_ hb
 have HO803:=A_ ho
 clear HO800
 clear ho hb hg hat
 refine hK.out _ _ ⟨cz0_ BK796,cz1_ BK796⟩ (fun hHeld=>?_)
 clear hK K
 refine no_ (some 6) ?_
 refine on_ 6 (some 9) (bl_ 12 511) HT_ (fun K hK=>?_)
 refine gO_ Try.func150 #[.slice A0_0 l0_0.length c0_0] (by rfl) rfl rfl qa_ ?_
 with_reducible refine (Z24.calls k _ _ l0_0 t804 _ (cb_ HR0_0) HC0_0.out A3.out).mono ?_
 rintro e w11 ⟨v805,rfl,ho0,hb⟩
 refine ⟨_,rfl,?_⟩
 have HO806:=A_ (rE_ (Kd.R_new' ho0 (Kd.R_lt (rr_ HO803))) (bF_ hB_))
 replace HO803:=A_ (Kd.R_elder' (rr_ HO803) (Kd.R_base ho0) hb)
 replace BK796:=bb_ BK796 hb
 replace BK797:=bb_ BK797 hb
 replace HB:=b1_ hb
 clear hb ho0
 obtain ⟨Ao12,co12,eo12⟩:=Kd.R_slice HO806.out
 (first|subst eo12|(injection eo12 with a_ b_ c_;have a_:=a_.symm;have c_:=c_.symm;clear b_;subst a_;subst c_))
 refine hK.out _ _ ⟨cz0_ BK796,cz1_ BK796⟩ (fun hHeld=>?_)
 clear hK K
 refine no_ (some 9) ?_
 refine on_ 9 (some 12) (bl_ 12 1023) HT_ (fun K hK=>?_)
 refine gO_ Try.func154 #[.slice Ao12 t804.length co12,.slice A0_1 l0_1.length c0_1] (by rfl) rfl rfl qa_ ?_
 with_reducible refine (Z58.calls k _ _ t804 _ _ l0_1 t807 _ (cr_ HO806) ((Kd.R_reads' HO806.out).2.1) (cb_ HR0_1) HC0_1.out A4.out).mono ?_
 rintro e w13 ⟨v808,rfl,ho0,hb⟩
 refine ⟨_,rfl,?_⟩
 have HO809:=A_ (rE_ (Kd.R_new' (Kd.R_new' ho0 (Kd.R_lt (rr_ HO803))) (Kd.R_lt (rr_ HO806))) (bF_ hB_))
 replace HO803:=A_ (Kd.R_elder' (rr_ HO803) (Kd.R_base ho0) hb)
 replace HO806:=A_ (Kd.R_elder' (rr_ HO806) (Kd.R_base ho0) hb)
 replace BK796:=bb_ BK796 hb
 replace BK797:=bb_ BK797 hb
 replace HB:=b1_ hb
 clear hb ho0
 obtain ⟨Ao14,co14,eo14⟩:=Kd.R_slice HO809.out
 (first|subst eo14|(injection eo14 with a_ b_ c_;have a_:=a_.symm;have c_:=c_.symm;clear b_;subst a_;subst c_))
 obtain ⟨Ao15,co15,eo15⟩:=Kd.R_slice HO803.out
 (first|subst eo15|(injection eo15 with a_ b_ c_;have a_:=a_.symm;have c_:=c_.symm;clear b_;subst a_;subst c_))
 refine hK.out _ _ ⟨cz0_ BK796,cz1_ BK796⟩ (fun hHeld=>?_)
 clear hK K
 refine no_ (some 12) ?_
 refine pu_ 10 (some 13) (bl_ 12 2047) HT_ ?_
 refine on_ 11 (none) (bl_ 12 4095) HT_ (fun K hK=>?_)
 have hs16:w13.cell? ⟨gb797,0,none⟩ = some (.slice none 0 0):=cz0_ BK797
 have hfs16:=kD_ BK797.out 0
 have hns16_0:=NB796_797.out
 have hms16_0:=NB797_796.out
 have hs17:w13.cell? ⟨gb797,1,none⟩ = some (.slice none 0 0):=cz1_ BK797
 have hfs17:=kD_ BK797.out 1
 have hns17_0:=NB796_797.out
 have hms17_0:=NB797_796.out
 refine skip_ (w1:=?_) (by rfl) rfl ?_ ?_
 rotate_left
 ·go_simp
  rfl
 refine hK.out _ _ ⟨((cell_far (p:=⟨gb797,_,none⟩) NB796_797.out _).trans (((cell_far (p:=⟨gb797,_,none⟩) NB796_797.out _).trans (hHeld.1)))),((cell_far (p:=⟨gb797,_,none⟩) NB796_797.out _).trans (((cell_far (p:=⟨gb797,_,none⟩) NB796_797.out _).trans (hHeld.2))))⟩ (fun hHeld=>?_)
 clear hK K
 refine done_ (done_of HT_.out (by kernel_rfl)) ?_
 try go_wp2
 refine bodyPost_ret (results_cell_row rfl _ _ gb797 25 #[.slice Ao15 y801.length co15,.slice Ao14 t807.length co14] (0,0) _ rfl qp_ Try.underlying25 rfl (by kernel_rfl)) rfl ?_
 exact ⟨_,_,qb_,(rw_ (Kd.R_mono (fa_ HO803 BK797) (fun _ hk=>hk.2))),(rw_ (Kd.R_mono (fa_ HO809 BK797) (fun _ hk=>hk.1.2))),hB_⟩
def Z25.f (k:Nat) (l0_0:List Int) (l0_1:List Int):Option (List Int × List Int):=(some (([]:List Int):List Int)).bind fun y812=>(if y812.length + l0_0.length < 17592186044416 then ((Z58.f k l0_0 l0_1).bind fun t818=>(some ((y812 ++ l0_0),t818))) else (none))
theorem Z25.mono:∀ a0 a1 k,LeO (Z25.f k a0 a1) (Z25.f (k + 1) a0 a1):=by
 intro a0 a1 k
 unfold Z25.f
 repeat' first|exact Z58.mono _ _ _|exact lo_|refine LeO.ite ?_ ?_|refine LeO.bind ?_ (fun _=>?_)
def Z25.T1:Bool × List (List Nat × List Nat):=(true,[([],[]),([],[]),([1],[1]),([0,2],[0,2]),([],[]),([4],[4]),([],[]),([6],[6]),([5,7,3],[5,7]),([3,8],[3,8]),([9,8,0,1,2,3,4,5,6,7,8,9],[9])])
def Z25.B1:List Nat:=[0,0,2,7,0,16,0,64,255,511,1023]
theorem Z25.tab1:rtab .any (opsOf Try.f125 1) = Z25.T1:=by kernel_rfl
theorem Z25.bits1:waitsOk Z25.T1.2 Z25.B1 = true:=by kernel_rfl
set_option maxHeartbeats 8000000 in
set_option maxRecDepth 100000 in
theorem Z25.calls (k:Nat) (A0_0:Option Addr) (c0_0:Nat) (l0_0:List Int) (A0_1:Option Addr) (c0_1:Nat) (l0_1:List Int) (r1:List Int) (r2:List Int) (w:World) (hr0_0:Kd.C (Kd.int .i64) w A0_0 l0_0.length l0_0) (hc0_0:l0_0.length≤c0_0) (hr0_1:Kd.C (Kd.int .i64) w A0_1 l0_1.length l0_1) (hc0_1:l0_1.length≤c0_1) (h:Z25.f k l0_0 l0_1 = some (r1,r2)) :
  Calls Try.prog 125 #[.agg #[.slice A0_0 l0_0.length c0_0,.slice A0_1 l0_1.length c0_1]] w fun e w'=>∃ v0_ v1_:Value,e = .returned (.agg #[v0_,v1_])∧Kd.R (Kd.int .i64) 3 w' w.heap.size (fun k_=>some k_≠(v1_:Value).ownBlock) v0_ r1∧Kd.R (Kd.int .i64) 3 w' w.heap.size (fun k_=>some k_≠(v0_:Value).ownBlock) v1_ r2∧Below w.heap.size w w':=by
 have hu25:=Try.underlying25
 have HR0_0:=A_ hr0_0
 have HC0_0:=A_ hc0_0
 clear hr0_0 hc0_0
 have HR0_1:=A_ hr0_1
 have HC0_1:=A_ hc0_1
 clear hr0_1 hc0_1
 have HB:=A_ (Below.refl w.heap.size w)
 have H:=h
 unfold Z25.f at H
 clear h
 obtain ⟨y812,hy812⟩:∃ y_:List Int,y_ = (([]:List Int)):=⟨_,rfl⟩
 replace H:(if y812.length + l0_0.length < 17592186044416 then ((Z58.f k l0_0 l0_1).bind fun t818=>(some ((y812 ++ l0_0),t818))) else (none)) = some (r1,r2):=by first | (rw [hy812];exact H) | exact H
 have Ny812:=A_ hy812
 clear hy812
 have c2:=cp_ H
 replace H:=ca_ H
 have LMc2:=A_ c2
 clear c2
 obtain ⟨y815,hy815⟩:∃ y_:List Int,y_ = (y812 ++ l0_0):=⟨_,rfl⟩
 replace H:((Z58.f k l0_0 l0_1).bind fun t818=>(some (y815,t818))) = some (r1,r2):=by first | (rw [hy815];exact H) | exact H
 have Ny815:=A_ hy815
 clear hy815
 obtain ⟨t818,A3,H⟩:=bi_ H
 simp only [Option.some.injEq,Prod.mk.injEq] at H
 obtain ⟨rfl,rfl⟩:=H
 go_enter Try.func125,Try.ntmps125
 try go_wp2_with (first | ((with_reducible refine gB_ (N:=1) rfl ?_);refine bx_ 1 #[.slice A0_0 l0_0.length c0_0,.slice A0_1 l0_1.length c0_1] 25 ?_;intro gb810 hg w4 hbox hb;have BK810:=A_ hbox;have GW810:=gw_ w hg;have GE810:=GW810;replace HB:=b1_ hb;clear hb hbox hg) | ((with_reducible refine gB_ (N:=2) rfl ?_);refine bx_ 2 #[.slice none 0 0,.slice none 0 0] 25 ?_;intro gb811 hg w5 hbox hb;have BK811:=A_ hbox;have GW811:=gw_ w hg;have GE811:=GW811;replace HB:=b1_ hb;have NB810_811:=gN_ BK810 hg;have NB811_810:=gP_ BK810 hg;replace BK810:=bb_ BK810 hb;clear hb hbox hg))
 replace BK810:=A_ (kB_ BK810.out)
 replace BK811:=A_ (kB_ BK811.out)
 replace HB:=A_ (bC_ HB.out)
 refine start_ (n:=11) (S:=fun w'=>w'.cell? ⟨gb810,0,none⟩ = some (.slice A0_0 l0_0.length c0_0)∧w'.cell? ⟨gb810,1,none⟩ = some (.slice A0_1 l0_1.length c0_1)) (ds:=[]) (bl_ 11 0) (by kernel_rfl) rfl (by kernel_rfl) ⟨cz0_ BK810,cz1_ BK810⟩ (fun hHeld=>?_);refine with_tabW Z25.tab1 Z25.bits1 (fun HT_ HW_=>?_)
 generalize w5.drew = w6 at BK810 BK811 HB hHeld ⊢
 refine pu_ 1 (some 4) (bl_ 11 2) HT_ ?_
 refine pu_ 4 (some 7) (bl_ 11 18) HT_ ?_
 refine pu_ 6 (some 9) (bl_ 11 82) HT_ ?_
 refine ta_ 2 (some 5) (bl_ 11 86) HT_ HW_ hHeld ?_
 refine ta_ 5 (some 8) (bl_ 11 118) HT_ HW_ hHeld ?_
 refine ta_ 7 (some 10) (bl_ 11 246) HT_ HW_ hHeld ?_
 refine on_ 0 (some 3) (bl_ 11 247) HT_ (fun K hK=>?_)
 refine Kd.R_lit_step (Kd.int .i64) _ 3 ?hg (N:=3) ?hd (xs:=([]:List Int)) (inner:=[]) (ok:=fun _=>True) (okp:=fun _=>True) ?hr ?hp (fun _ hk=>hk) trivial (Below.refl _ _) (nA_ _) (by simp) ?_;(case hd=>rfl);(case hg=>rfl);(case hr=>first | (go_simp;done) | (go_simp;rfl));(case hp=>exact (Reps.none _ _))
 intro v813 w7 ho8 hb hg_ hnew_
 clear hg_ hnew_
 (first | rw [← Ny812.out] at ho8 | (simp only [Int.reduceToNat] at ho8;rw [← Ny812.out] at ho8))
 have HO814:=rl_ w ho8
 replace BK810:=bb_ BK810 hb
 replace BK811:=bb_ BK811 hb
 replace HB:=b1_ hb
 clear hb ho8
 refine hK.out _ _ ⟨cz0_ BK810,cz1_ BK810⟩ (fun hHeld=>?_)
 clear hK K
 refine no_ (some 3) ?_
 refine on_ 3 (some 6) (bl_ 11 255) HT_ (fun K hK=>?_)
 refine Kd.R_append_rows_step (Kd.int .i64) (w0:=w) w.heap.size (by rfl) (.tmp 3) (.tmp 5) 23 3 (.int .i64 0) 8 rfl Try.underlying23 info3 rfl (by decide) (by omega) v813 y812 l0_0 _ _ _ (fun _=>True) (fun _=>False) rfl rfl ?aO ?aR (fun _ _ h=>h) (fun _ h=>h.elim) ?aF ?aB ?aS ?aL ?_
 (case aR=>exact cb_ HR0_0)
 (case aB=>exact hB_)
 (case aF=>exact (fun _ _=>trivial))
 (case aO=>exact (rr_ HO814))
 (case aS=>exact (bF_ hB_))
 (case aL=>have:=LMc2.out;omega)
 intro v816 w9 ho hb hg hat
 rw [← Ny815.out] at ho
 replace BK810:=A_ (blk_grown (kk_ BK810) hg (Kd.R_ne HO814.out BK810.out (by decide)))
 replace BK811:=A_ (blk_grown (kk_ BK811) hg (Kd.R_ne HO814.out BK811.out (by decide)))
 replace HB:=A_ hb
 have HO817:=A_ ho
 clear HO814
 clear ho hb hg hat
 refine hK.out _ _ ⟨cz0_ BK810,cz1_ BK810⟩ (fun hHeld=>?_)
 clear hK K
 refine no_ (some 6) ?_
 refine on_ 8 (some 11) (bl_ 11 511) HT_ (fun K hK=>?_)
 refine gO_ Try.func154 #[.slice A0_0 l0_0.length c0_0,.slice A0_1 l0_1.length c0_1] (by rfl) rfl rfl qa_ ?_
 with_reducible refine (Z58.calls k _ _ l0_0 _ _ l0_1 t818 _ (cb_ HR0_0) HC0_0.out (cb_ HR0_1) HC0_1.out A3.out).mono ?_
 rintro e w10 ⟨v819,rfl,ho0,hb⟩
 refine ⟨_,rfl,?_⟩
 have HO820:=A_ (rE_ (Kd.R_new' ho0 (Kd.R_lt (rr_ HO817))) (bF_ hB_))
 replace HO817:=A_ (Kd.R_elder' (rr_ HO817) (Kd.R_base ho0) hb)
 replace BK810:=bb_ BK810 hb
 replace BK811:=bb_ BK811 hb
 replace HB:=b1_ hb
 clear hb ho0
 obtain ⟨Ao11,co11,eo11⟩:=Kd.R_slice HO820.out
 (first|subst eo11|(injection eo11 with a_ b_ c_;have a_:=a_.symm;have c_:=c_.symm;clear b_;subst a_;subst c_))
 obtain ⟨Ao12,co12,eo12⟩:=Kd.R_slice HO817.out
 (first|subst eo12|(injection eo12 with a_ b_ c_;have a_:=a_.symm;have c_:=c_.symm;clear b_;subst a_;subst c_))
 refine hK.out _ _ ⟨cz0_ BK810,cz1_ BK810⟩ (fun hHeld=>?_)
 clear hK K
 refine no_ (some 11) ?_
 refine pu_ 9 (some 12) (bl_ 11 1023) HT_ ?_
 refine on_ 10 (none) (bl_ 11 2047) HT_ (fun K hK=>?_)
 have hs13:w10.cell? ⟨gb811,0,none⟩ = some (.slice none 0 0):=cz0_ BK811
 have hfs13:=kD_ BK811.out 0
 have hns13_0:=NB810_811.out
 have hms13_0:=NB811_810.out
 have hs14:w10.cell? ⟨gb811,1,none⟩ = some (.slice none 0 0):=cz1_ BK811
 have hfs14:=kD_ BK811.out 1
 have hns14_0:=NB810_811.out
 have hms14_0:=NB811_810.out
 refine skip_ (w1:=?_) (by rfl) rfl ?_ ?_
 rotate_left
 ·go_simp
  rfl
 refine hK.out _ _ ⟨((cell_far (p:=⟨gb811,_,none⟩) NB810_811.out _).trans (((cell_far (p:=⟨gb811,_,none⟩) NB810_811.out _).trans (hHeld.1)))),((cell_far (p:=⟨gb811,_,none⟩) NB810_811.out _).trans (((cell_far (p:=⟨gb811,_,none⟩) NB810_811.out _).trans (hHeld.2))))⟩ (fun hHeld=>?_)
 clear hK K
 refine done_ (done_of HT_.out (by kernel_rfl)) ?_
 try go_wp2
 refine bodyPost_ret (results_cell_row rfl _ _ gb811 25 #[.slice Ao12 y815.length co12,.slice Ao11 t818.length co11] (0,0) _ rfl qp_ Try.underlying25 rfl (by kernel_rfl)) rfl ?_
 exact ⟨_,_,qb_,(rw_ (Kd.R_mono (fa_ HO817 BK811) (fun _ hk=>hk.2))),(rw_ (Kd.R_mono (fa_ HO820 BK811) (fun _ hk=>hk.2))),hB_⟩
def Z61.f (k:Nat) (l0_0:List Int) (l0_1:List Int):Option (List Int × List Int):=(Z24.f k l0_1).bind fun t823=>((some (([]:List Int):List Int)).bind fun y826=>(if y826.length + l0_0.length < 17592186044416 then (some (t823,(y826 ++ l0_0))) else (none)))
theorem Z61.mono:∀ a0 a1 k,LeO (Z61.f k a0 a1) (Z61.f (k + 1) a0 a1):=by
 intro a0 a1 k
 unfold Z61.f
 repeat' first|exact Z24.mono _ _|exact lo_|refine LeO.ite ?_ ?_|refine LeO.bind ?_ (fun _=>?_)
def Z61.T1:Bool × List (List Nat × List Nat):=(true,[([],[]),([0],[0]),([1],[1]),([],[]),([],[]),([4],[4]),([3,5,2],[3,5]),([2,6],[2,6]),([7,6,0,1,2,3,4,5,6,7],[7])])
def Z61.B1:List Nat:=[0,1,3,0,0,16,63,127,255]
theorem Z61.tab1:rtab .any (opsOf Try.f126 1) = Z61.T1:=by kernel_rfl
theorem Z61.bits1:waitsOk Z61.T1.2 Z61.B1 = true:=by kernel_rfl
set_option maxHeartbeats 8000000 in
set_option maxRecDepth 100000 in
theorem Z61.calls (k:Nat) (A0_0:Option Addr) (c0_0:Nat) (l0_0:List Int) (A0_1:Option Addr) (c0_1:Nat) (l0_1:List Int) (r1:List Int) (r2:List Int) (w:World) (hr0_0:Kd.C (Kd.int .i64) w A0_0 l0_0.length l0_0) (hc0_0:l0_0.length≤c0_0) (hr0_1:Kd.C (Kd.int .i64) w A0_1 l0_1.length l0_1) (hc0_1:l0_1.length≤c0_1) (h:Z61.f k l0_0 l0_1 = some (r1,r2)) :
  Calls Try.prog 126 #[.agg #[.slice A0_0 l0_0.length c0_0,.slice A0_1 l0_1.length c0_1]] w fun e w'=>∃ v0_ v1_:Value,e = .returned (.agg #[v0_,v1_])∧Kd.R (Kd.int .i64) 3 w' w.heap.size (fun k_=>some k_≠(v1_:Value).ownBlock) v0_ r1∧Kd.R (Kd.int .i64) 3 w' w.heap.size (fun k_=>some k_≠(v0_:Value).ownBlock) v1_ r2∧Below w.heap.size w w':=by
 have hu25:=Try.underlying25
 have HR0_0:=A_ hr0_0
 have HC0_0:=A_ hc0_0
 clear hr0_0 hc0_0
 have HR0_1:=A_ hr0_1
 have HC0_1:=A_ hc0_1
 clear hr0_1 hc0_1
 have HB:=A_ (Below.refl w.heap.size w)
 have H:=h
 unfold Z61.f at H
 clear h
 obtain ⟨t823,A2,H⟩:=bi_ H
 obtain ⟨y826,hy826⟩:∃ y_:List Int,y_ = (([]:List Int)):=⟨_,rfl⟩
 replace H:(if y826.length + l0_0.length < 17592186044416 then (some (t823,(y826 ++ l0_0))) else (none)) = some (r1,r2):=by first | (rw [hy826];exact H) | exact H
 have Ny826:=A_ hy826
 clear hy826
 have c3:=cp_ H
 replace H:=ca_ H
 have LMc3:=A_ c3
 clear c3
 obtain ⟨y829,hy829⟩:∃ y_:List Int,y_ = (y826 ++ l0_0):=⟨_,rfl⟩
 replace H:(some (t823,y829)) = some (r1,r2):=by first | (rw [hy829];exact H) | exact H
 have Ny829:=A_ hy829
 clear hy829
 simp only [Option.some.injEq,Prod.mk.injEq] at H
 obtain ⟨rfl,rfl⟩:=H
 go_enter Try.func126,Try.ntmps126
 try go_wp2_with (first | ((with_reducible refine gB_ (N:=1) rfl ?_);refine bx_ 1 #[.slice A0_0 l0_0.length c0_0,.slice A0_1 l0_1.length c0_1] 25 ?_;intro gb821 hg w4 hbox hb;have BK821:=A_ hbox;have GW821:=gw_ w hg;have GE821:=GW821;replace HB:=b1_ hb;clear hb hbox hg) | ((with_reducible refine gB_ (N:=2) rfl ?_);refine bx_ 2 #[.slice none 0 0,.slice none 0 0] 25 ?_;intro gb822 hg w5 hbox hb;have BK822:=A_ hbox;have GW822:=gw_ w hg;have GE822:=GW822;replace HB:=b1_ hb;have NB821_822:=gN_ BK821 hg;have NB822_821:=gP_ BK821 hg;replace BK821:=bb_ BK821 hb;clear hb hbox hg))
 replace BK821:=A_ (kB_ BK821.out)
 replace BK822:=A_ (kB_ BK822.out)
 replace HB:=A_ (bC_ HB.out)
 refine start_ (n:=9) (S:=fun w'=>w'.cell? ⟨gb821,0,none⟩ = some (.slice A0_0 l0_0.length c0_0)∧w'.cell? ⟨gb821,1,none⟩ = some (.slice A0_1 l0_1.length c0_1)) (ds:=[]) (bl_ 9 0) (by kernel_rfl) rfl (by kernel_rfl) ⟨cz0_ BK821,cz1_ BK821⟩ (fun hHeld=>?_);refine with_tabW Z61.tab1 Z61.bits1 (fun HT_ HW_=>?_)
 generalize w5.drew = w6 at BK821 BK822 HB hHeld ⊢
 refine pu_ 0 (some 3) (bl_ 9 1) HT_ ?_
 refine pu_ 4 (some 7) (bl_ 9 17) HT_ ?_
 refine ta_ 1 (some 4) (bl_ 9 19) HT_ HW_ hHeld ?_
 refine ta_ 5 (some 8) (bl_ 9 51) HT_ HW_ hHeld ?_
 refine join_ (σ:=Value × Value) 3 (bl_ 9 63) (fun s_=>[(5,s_.1),(6,s_.2)]) (fun s_ w'=>(w'.cell? ⟨gb821,0,none⟩ = some (.slice A0_0 l0_0.length c0_0)∧w'.cell? ⟨gb821,1,none⟩ = some (.slice A0_1 l0_1.length c0_1))∧(Kd.R (Kd.int .i64) 3 w' w.heap.size (fun k_=>some k_≠(s_.2:Value).ownBlock) s_.1 t823)∧(Kd.R (Kd.int .i64) 3 w' w.heap.size (fun k_=>some k_≠(s_.1:Value).ownBlock) s_.2 y826)∧(w'.heap[gb821]? = some (.cells #[.slice A0_0 l0_0.length c0_0,.slice A0_1 l0_1.length c0_1] 25 (0,0)))∧(w'.heap[gb822]? = some (.cells #[.slice none 0 0,.slice none 0 0] 25 (0,0)))∧(Below w.heap.size w w')) ?_ ?_
 rotate_left
 ·intro hCont
  refine two_ (i:=2) (j:=3) (Ni:=some 5) (Nj:=some 6) (bl_ 9 55) (bl_ 9 59) rfl rfl rfl rfl (two_of HT_.out (by kernel_rfl)) (by decide) (by decide) (fun K hK=>?_) (fun K hK=>?_)
  ·skip
   refine gO_ Try.func150 #[.slice A0_1 l0_1.length c0_1] (by rfl) rfl rfl qa_ ?_
   with_reducible refine (Z24.calls k _ _ l0_1 t823 _ (cb_ HR0_1) HC0_1.out A2.out).mono ?_
   rintro e w7 ⟨v824,rfl,ho0,hb⟩
   refine ⟨_,rfl,?_⟩
   have HO825:=rl_ w ho0
   replace BK821:=bb_ BK821 hb
   replace BK822:=bb_ BK822 hb
   replace HB:=b1_ hb
   clear hb ho0
   refine hK.out _ _ ⟨cz0_ BK821,cz1_ BK821⟩ (fun hHeld=>?_)
   clear hK K
   refine no_ (some 5) ?_
   refine on_ 3 (some 6) (bl_ 9 63) HT_ (fun K hK=>?_)
   refine Kd.R_lit_step (Kd.int .i64) _ 3 ?hg (N:=6) ?hd (xs:=([]:List Int)) (inner:=[]) (ok:=fun _=>True) (okp:=fun _=>True) ?hr ?hp (fun _ hk=>hk) trivial (Below.refl _ _) (nA_ _) (by simp) ?_;(case hd=>rfl);(case hg=>rfl);(case hr=>first | (go_simp;done) | (go_simp;rfl));(case hp=>exact (Reps.none _ _))
   intro v827 w8 ho9 hb hg_ hnew_
   clear hg_ hnew_
   (first | rw [← Ny826.out] at ho9 | (simp only [Int.reduceToNat] at ho9;rw [← Ny826.out] at ho9))
   have HO828:=A_ (rE_ (Kd.R_new' ho9 (Kd.R_lt (rr_ HO825))) (bF_ hB_))
   replace HO825:=A_ (Kd.R_elder' (rr_ HO825) (Kd.R_base ho9) hb)
   replace BK821:=bb_ BK821 hb
   replace BK822:=bb_ BK822 hb
   replace HB:=b1_ hb
   clear hb ho9
   refine hK.out _ _ ⟨cz0_ BK821,cz1_ BK821⟩ (fun hHeld=>?_)
   clear hK K
   refine no_ (some 6) ?_
   exact norm_ (by simp only [putAll,Act.put,sA_,sB_,sC_]) (hCont (v824,v827) _ ⟨hHeld,(rw_ (Kd.R_mono HO825.out (fun _ hk=>hk.2))),(rw_ (Kd.R_mono HO828.out (fun _ hk=>hk.2))),(kk_ BK821),(kk_ BK822),hB_⟩)
  ·skip
   refine Kd.R_lit_step (Kd.int .i64) _ 3 ?hg (N:=6) ?hd (xs:=([]:List Int)) (inner:=[]) (ok:=fun _=>True) (okp:=fun _=>True) ?hr ?hp (fun _ hk=>hk) trivial (Below.refl _ _) (nA_ _) (by simp) ?_;(case hd=>rfl);(case hg=>rfl);(case hr=>first | (go_simp;done) | (go_simp;rfl));(case hp=>exact (Reps.none _ _))
   intro v827 w7 ho8 hb hg_ hnew_
   clear hg_ hnew_
   (first | rw [← Ny826.out] at ho8 | (simp only [Int.reduceToNat] at ho8;rw [← Ny826.out] at ho8))
   have HO828:=rl_ w ho8
   replace BK821:=bb_ BK821 hb
   replace BK822:=bb_ BK822 hb
   replace HB:=b1_ hb
   clear hb ho8
   refine hK.out _ _ ⟨cz0_ BK821,cz1_ BK821⟩ (fun hHeld=>?_)
   clear hK K
   refine no_ (some 6) ?_
   refine on_ 2 (some 5) (bl_ 9 63) HT_ (fun K hK=>?_)
   refine gO_ Try.func150 #[.slice A0_1 l0_1.length c0_1] (by rfl) rfl rfl qa_ ?_
   with_reducible refine (Z24.calls k _ _ l0_1 t823 _ (cb_ HR0_1) HC0_1.out A2.out).mono ?_
   rintro e w9 ⟨v824,rfl,ho0,hb⟩
   refine ⟨_,rfl,?_⟩
   have HO825:=A_ (rE_ (Kd.R_new' ho0 (Kd.R_lt (rr_ HO828))) (bF_ hB_))
   replace HO828:=A_ (Kd.R_elder' (rr_ HO828) (Kd.R_base ho0) hb)
   replace BK821:=bb_ BK821 hb
   replace BK822:=bb_ BK822 hb
   replace HB:=b1_ hb
   clear hb ho0
   refine hK.out _ _ ⟨cz0_ BK821,cz1_ BK821⟩ (fun hHeld=>?_)
   clear hK K
   refine no_ (some 5) ?_
   exact norm_ (by simp only [putAll,Act.put,sA_,sB_,sC_]) (hCont (v824,v827) _ ⟨hHeld,(rw_ (Kd.R_mono HO825.out (fun _ hk=>hk.2))),(rw_ (Kd.R_mono HO828.out (fun _ hk=>hk.2))),(kk_ BK821),(kk_ BK822),hB_⟩)
 rintro ⟨v824,v827⟩ w10 ⟨hS_,h0_,h1_,h2_,h3_,h4_⟩
 have n0_:Aside0 (Kd.R (Kd.int .i64) 3 w10 w.heap.size (fun k_=>some k_≠(v827:Value).ownBlock) v824 t823):=⟨h0_⟩
 have n1_:Aside0 (Kd.R (Kd.int .i64) 3 w10 w.heap.size (fun k_=>some k_≠(v824:Value).ownBlock) v827 y826):=⟨h1_⟩
 have n2_:Aside0 (w10.heap[gb821]? = some (.cells #[.slice A0_0 l0_0.length c0_0,.slice A0_1 l0_1.length c0_1] 25 (0,0))):=⟨h2_⟩
 have n3_:Aside0 (w10.heap[gb822]? = some (.cells #[.slice none 0 0,.slice none 0 0] 25 (0,0))):=⟨h3_⟩
 have n4_:Aside0 (Below w.heap.size w w10):=⟨h4_⟩
 clear BK821
 clear BK822
 clear HB
 clear h0_ h1_ h2_ h3_ h4_
 have HO825:=n0_
 have HO828:=n1_
 have BK821:=n2_
 have BK822:=n3_
 have HB:=n4_
 clear n0_ n1_ n2_ n3_ n4_
 have hHeld:w10.cell? ⟨gb821,0,none⟩ = some (.slice A0_0 l0_0.length c0_0)∧w10.cell? ⟨gb821,1,none⟩ = some (.slice A0_1 l0_1.length c0_1):=hS_
 refine norm_ (a':=?_) ?_ ?_
 rotate_left
 ·simp only [putAll,Act.put,sA_,sB_,sC_]
  rfl
 refine on_ 6 (some 9) (bl_ 9 127) HT_ (fun K hK=>?_)
 refine Kd.R_append_rows_step (Kd.int .i64) (w0:=w) w.heap.size (by rfl) (.tmp 6) (.tmp 8) 23 3 (.int .i64 0) 8 rfl Try.underlying23 info3 rfl (by decide) (by omega) v827 y826 l0_0 _ _ _ (fun k_=>some k_≠(v824:Value).ownBlock) (fun _=>False) rfl rfl ?aO ?aR (fun _ _ h=>h) (fun _ h=>h.elim) ?aF ?aB ?aS ?aL ?_
 (case aR=>exact cb_ HR0_0)
 (case aB=>exact hB_)
 (case aF=>exact (fun k_ hk=>Kd.fresh' (Kd.R_lt (rr_ HO825)) k_ hk))
 (case aO=>exact (rr_ HO828))
 (case aS=>exact (bF_ hB_))
 (case aL=>have:=LMc3.out;omega)
 intro v830 w11 ho hb hg hat
 rw [← Ny829.out] at ho
 replace BK821:=A_ (blk_grown (kk_ BK821) hg (Kd.R_ne HO828.out BK821.out (by decide)))
 replace BK822:=A_ (blk_grown (kk_ BK822) hg (Kd.R_ne HO828.out BK822.out (by decide)))
 replace HO825:=A_ (Kd.R_after (ok:=(fun _=>True)) (rw_ (Kd.R_mono HO825.out (fun _ hk=>⟨trivial,hk⟩))) hg hat)
 replace HB:=A_ hb
 have HO831:=A_ ho
 clear HO828
 clear ho hb hg hat
 obtain ⟨Ao12,co12,eo12⟩:=Kd.R_slice HO831.out
 (first|subst eo12|(injection eo12 with a_ b_ c_;have a_:=a_.symm;have c_:=c_.symm;clear b_;subst a_;subst c_))
 obtain ⟨Ao13,co13,eo13⟩:=Kd.R_slice HO825.out
 (first|subst eo13|(injection eo13 with a_ b_ c_;have a_:=a_.symm;have c_:=c_.symm;clear b_;subst a_;subst c_))
 refine hK.out _ _ ⟨cz0_ BK821,cz1_ BK821⟩ (fun hHeld=>?_)
 clear hK K
 refine no_ (some 9) ?_
 refine pu_ 7 (some 10) (bl_ 9 255) HT_ ?_
 refine on_ 8 (none) (bl_ 9 511) HT_ (fun K hK=>?_)
 have hs14:w11.cell? ⟨gb822,0,none⟩ = some (.slice none 0 0):=cz0_ BK822
 have hfs14:=kD_ BK822.out 0
 have hns14_0:=NB821_822.out
 have hms14_0:=NB822_821.out
 have hs15:w11.cell? ⟨gb822,1,none⟩ = some (.slice none 0 0):=cz1_ BK822
 have hfs15:=kD_ BK822.out 1
 have hns15_0:=NB821_822.out
 have hms15_0:=NB822_821.out
 refine skip_ (w1:=?_) (by rfl) rfl ?_ ?_
 rotate_left
 ·go_simp
  rfl
 refine hK.out _ _ ⟨((cell_far (p:=⟨gb822,_,none⟩) NB821_822.out _).trans (((cell_far (p:=⟨gb822,_,none⟩) NB821_822.out _).trans (hHeld.1)))),((cell_far (p:=⟨gb822,_,none⟩) NB821_822.out _).trans (((cell_far (p:=⟨gb822,_,none⟩) NB821_822.out _).trans (hHeld.2))))⟩ (fun hHeld=>?_)
 clear hK K
 refine done_ (done_of HT_.out (by kernel_rfl)) ?_
 try go_wp2
 refine bodyPost_ret (results_cell_row rfl _ _ gb822 25 #[.slice Ao13 t823.length co13,.slice Ao12 y829.length co12] (0,0) _ rfl qp_ Try.underlying25 rfl (by kernel_rfl)) rfl ?_
 exact ⟨_,_,qb_,(rw_ (Kd.R_mono (fa_ HO825 BK822) (fun _ hk=>hk.2))),(rw_ (fa_ HO831 BK822)),hB_⟩
def Z36.f (k:Nat) (l0_0:List Int) (l0_1:List Int):Option (List Int × List Int):=(some (([]:List Int):List Int)).bind fun y834=>(if y834.length + l0_1.length < 17592186044416 then ((Z24.f k l0_0).bind fun t840=>(some ((y834 ++ l0_1),t840))) else (none))
theorem Z36.mono:∀ a0 a1 k,LeO (Z36.f k a0 a1) (Z36.f (k + 1) a0 a1):=by
 intro a0 a1 k
 unfold Z36.f
 repeat' first|exact Z24.mono _ _|exact lo_|refine LeO.ite ?_ ?_|refine LeO.bind ?_ (fun _=>?_)
def Z36.T1:Bool × List (List Nat × List Nat):=(true,[([],[]),([],[]),([1],[1]),([0,2],[0,2]),([],[]),([4],[4]),([5,3],[5]),([3,6],[3,6]),([7,6,0,1,2,3,4,5,6,7],[7])])
def Z36.B1:List Nat:=[0,0,2,7,0,16,63,127,255]
theorem Z36.tab1:rtab .any (opsOf Try.f127 1) = Z36.T1:=by kernel_rfl
theorem Z36.bits1:waitsOk Z36.T1.2 Z36.B1 = true:=by kernel_rfl
set_option maxHeartbeats 8000000 in
set_option maxRecDepth 100000 in
theorem Z36.calls (k:Nat) (A0_0:Option Addr) (c0_0:Nat) (l0_0:List Int) (A0_1:Option Addr) (c0_1:Nat) (l0_1:List Int) (r1:List Int) (r2:List Int) (w:World) (hr0_0:Kd.C (Kd.int .i64) w A0_0 l0_0.length l0_0) (hc0_0:l0_0.length≤c0_0) (hr0_1:Kd.C (Kd.int .i64) w A0_1 l0_1.length l0_1) (hc0_1:l0_1.length≤c0_1) (h:Z36.f k l0_0 l0_1 = some (r1,r2)) :
  Calls Try.prog 127 #[.agg #[.slice A0_0 l0_0.length c0_0,.slice A0_1 l0_1.length c0_1]] w fun e w'=>∃ v0_ v1_:Value,e = .returned (.agg #[v0_,v1_])∧Kd.R (Kd.int .i64) 3 w' w.heap.size (fun k_=>some k_≠(v1_:Value).ownBlock) v0_ r1∧Kd.R (Kd.int .i64) 3 w' w.heap.size (fun k_=>some k_≠(v0_:Value).ownBlock) v1_ r2∧Below w.heap.size w w':=by
 have hu25:=Try.underlying25
 have HR0_0:=A_ hr0_0
 have HC0_0:=A_ hc0_0
 clear hr0_0 hc0_0
 have HR0_1:=A_ hr0_1
 have HC0_1:=A_ hc0_1
 clear hr0_1 hc0_1
 have HB:=A_ (Below.refl w.heap.size w)
 have H:=h
 unfold Z36.f at H
 clear h
 obtain ⟨y834,hy834⟩:∃ y_:List Int,y_ = (([]:List Int)):=⟨_,rfl⟩
 replace H:(if y834.length + l0_1.length < 17592186044416 then ((Z24.f k l0_0).bind fun t840=>(some ((y834 ++ l0_1),t840))) else (none)) = some (r1,r2):=by first | (rw [hy834];exact H) | exact H
 have Ny834:=A_ hy834
 clear hy834
 have c2:=cp_ H
 replace H:=ca_ H
 have LMc2:=A_ c2
 clear c2
 obtain ⟨y837,hy837⟩:∃ y_:List Int,y_ = (y834 ++ l0_1):=⟨_,rfl⟩
 replace H:((Z24.f k l0_0).bind fun t840=>(some (y837,t840))) = some (r1,r2):=by first | (rw [hy837];exact H) | exact H
 have Ny837:=A_ hy837
 clear hy837
 obtain ⟨t840,A3,H⟩:=bi_ H
 simp only [Option.some.injEq,Prod.mk.injEq] at H
 obtain ⟨rfl,rfl⟩:=H
 go_enter Try.func127,Try.ntmps127
 try go_wp2_with (first | ((with_reducible refine gB_ (N:=1) rfl ?_);refine bx_ 1 #[.slice A0_0 l0_0.length c0_0,.slice A0_1 l0_1.length c0_1] 25 ?_;intro gb832 hg w4 hbox hb;have BK832:=A_ hbox;have GW832:=gw_ w hg;have GE832:=GW832;replace HB:=b1_ hb;clear hb hbox hg) | ((with_reducible refine gB_ (N:=2) rfl ?_);refine bx_ 2 #[.slice none 0 0,.slice none 0 0] 25 ?_;intro gb833 hg w5 hbox hb;have BK833:=A_ hbox;have GW833:=gw_ w hg;have GE833:=GW833;replace HB:=b1_ hb;have NB832_833:=gN_ BK832 hg;have NB833_832:=gP_ BK832 hg;replace BK832:=bb_ BK832 hb;clear hb hbox hg))
 replace BK832:=A_ (kB_ BK832.out)
 replace BK833:=A_ (kB_ BK833.out)
 replace HB:=A_ (bC_ HB.out)
 refine start_ (n:=9) (S:=fun w'=>w'.cell? ⟨gb832,0,none⟩ = some (.slice A0_0 l0_0.length c0_0)∧w'.cell? ⟨gb832,1,none⟩ = some (.slice A0_1 l0_1.length c0_1)) (ds:=[]) (bl_ 9 0) (by kernel_rfl) rfl (by kernel_rfl) ⟨cz0_ BK832,cz1_ BK832⟩ (fun hHeld=>?_);refine with_tabW Z36.tab1 Z36.bits1 (fun HT_ HW_=>?_)
 generalize w5.drew = w6 at BK832 BK833 HB hHeld ⊢
 refine pu_ 1 (some 4) (bl_ 9 2) HT_ ?_
 refine pu_ 4 (some 7) (bl_ 9 18) HT_ ?_
 refine ta_ 2 (some 5) (bl_ 9 22) HT_ HW_ hHeld ?_
 refine ta_ 5 (some 8) (bl_ 9 54) HT_ HW_ hHeld ?_
 refine on_ 0 (some 3) (bl_ 9 55) HT_ (fun K hK=>?_)
 refine Kd.R_lit_step (Kd.int .i64) _ 3 ?hg (N:=3) ?hd (xs:=([]:List Int)) (inner:=[]) (ok:=fun _=>True) (okp:=fun _=>True) ?hr ?hp (fun _ hk=>hk) trivial (Below.refl _ _) (nA_ _) (by simp) ?_;(case hd=>rfl);(case hg=>rfl);(case hr=>first | (go_simp;done) | (go_simp;rfl));(case hp=>exact (Reps.none _ _))
 intro v835 w7 ho8 hb hg_ hnew_
 clear hg_ hnew_
 (first | rw [← Ny834.out] at ho8 | (simp only [Int.reduceToNat] at ho8;rw [← Ny834.out] at ho8))
 have HO836:=rl_ w ho8
 replace BK832:=bb_ BK832 hb
 replace BK833:=bb_ BK833 hb
 replace HB:=b1_ hb
 clear hb ho8
 refine hK.out _ _ ⟨cz0_ BK832,cz1_ BK832⟩ (fun hHeld=>?_)
 clear hK K
 refine no_ (some 3) ?_
 refine on_ 3 (some 6) (bl_ 9 63) HT_ (fun K hK=>?_)
 refine Kd.R_append_rows_step (Kd.int .i64) (w0:=w) w.heap.size (by rfl) (.tmp 3) (.tmp 5) 23 3 (.int .i64 0) 8 rfl Try.underlying23 info3 rfl (by decide) (by omega) v835 y834 l0_1 _ _ _ (fun _=>True) (fun _=>False) rfl rfl ?aO ?aR (fun _ _ h=>h) (fun _ h=>h.elim) ?aF ?aB ?aS ?aL ?_
 (case aR=>exact cb_ HR0_1)
 (case aB=>exact hB_)
 (case aF=>exact (fun _ _=>trivial))
 (case aO=>exact (rr_ HO836))
 (case aS=>exact (bF_ hB_))
 (case aL=>have:=LMc2.out;omega)
 intro v838 w9 ho hb hg hat
 rw [← Ny837.out] at ho
 replace BK832:=A_ (blk_grown (kk_ BK832) hg (Kd.R_ne HO836.out BK832.out (by decide)))
 replace BK833:=A_ (blk_grown (kk_ BK833) hg (Kd.R_ne HO836.out BK833.out (by decide)))
 replace HB:=A_ hb
 have HO839:=A_ ho
 clear HO836
 clear ho hb hg hat
 refine hK.out _ _ ⟨cz0_ BK832,cz1_ BK832⟩ (fun hHeld=>?_)
 clear hK K
 refine no_ (some 6) ?_
 refine on_ 6 (some 9) (bl_ 9 127) HT_ (fun K hK=>?_)
 refine gO_ Try.func150 #[.slice A0_0 l0_0.length c0_0] (by rfl) rfl rfl qa_ ?_
 with_reducible refine (Z24.calls k _ _ l0_0 t840 _ (cb_ HR0_0) HC0_0.out A3.out).mono ?_
 rintro e w10 ⟨v841,rfl,ho0,hb⟩
 refine ⟨_,rfl,?_⟩
 have HO842:=A_ (rE_ (Kd.R_new' ho0 (Kd.R_lt (rr_ HO839))) (bF_ hB_))
 replace HO839:=A_ (Kd.R_elder' (rr_ HO839) (Kd.R_base ho0) hb)
 replace BK832:=bb_ BK832 hb
 replace BK833:=bb_ BK833 hb
 replace HB:=b1_ hb
 clear hb ho0
 obtain ⟨Ao11,co11,eo11⟩:=Kd.R_slice HO842.out
 (first|subst eo11|(injection eo11 with a_ b_ c_;have a_:=a_.symm;have c_:=c_.symm;clear b_;subst a_;subst c_))
 obtain ⟨Ao12,co12,eo12⟩:=Kd.R_slice HO839.out
 (first|subst eo12|(injection eo12 with a_ b_ c_;have a_:=a_.symm;have c_:=c_.symm;clear b_;subst a_;subst c_))
 refine hK.out _ _ ⟨cz0_ BK832,cz1_ BK832⟩ (fun hHeld=>?_)
 clear hK K
 refine no_ (some 9) ?_
 refine pu_ 7 (some 10) (bl_ 9 255) HT_ ?_
 refine on_ 8 (none) (bl_ 9 511) HT_ (fun K hK=>?_)
 have hs13:w10.cell? ⟨gb833,0,none⟩ = some (.slice none 0 0):=cz0_ BK833
 have hfs13:=kD_ BK833.out 0
 have hns13_0:=NB832_833.out
 have hms13_0:=NB833_832.out
 have hs14:w10.cell? ⟨gb833,1,none⟩ = some (.slice none 0 0):=cz1_ BK833
 have hfs14:=kD_ BK833.out 1
 have hns14_0:=NB832_833.out
 have hms14_0:=NB833_832.out
 refine skip_ (w1:=?_) (by rfl) rfl ?_ ?_
 rotate_left
 ·go_simp
  rfl
 refine hK.out _ _ ⟨((cell_far (p:=⟨gb833,_,none⟩) NB832_833.out _).trans (((cell_far (p:=⟨gb833,_,none⟩) NB832_833.out _).trans (hHeld.1)))),((cell_far (p:=⟨gb833,_,none⟩) NB832_833.out _).trans (((cell_far (p:=⟨gb833,_,none⟩) NB832_833.out _).trans (hHeld.2))))⟩ (fun hHeld=>?_)
 clear hK K
 refine done_ (done_of HT_.out (by kernel_rfl)) ?_
 try go_wp2
 refine bodyPost_ret (results_cell_row rfl _ _ gb833 25 #[.slice Ao12 y837.length co12,.slice Ao11 t840.length co11] (0,0) _ rfl qp_ Try.underlying25 rfl (by kernel_rfl)) rfl ?_
 exact ⟨_,_,qb_,(rw_ (Kd.R_mono (fa_ HO839 BK833) (fun _ hk=>hk.2))),(rw_ (Kd.R_mono (fa_ HO842 BK833) (fun _ hk=>hk.2))),hB_⟩
def Z35.f (k:Nat) (l0_0:List Int) (l0_1:List Int) (a1:Int):Option (List Int × List Int):=if a1 = 84 then ((Z48.f k l0_0 l0_1).bind fun bt845=>(some (bt845.1,bt845.2))) else (if a1 = 116 then ((Z25.f k l0_0 l0_1).bind fun bt851=>(some (bt851.1,bt851.2))) else (if a1 = 83 then ((Z61.f k l0_0 l0_1).bind fun bt857=>(some (bt857.1,bt857.2))) else ((Z36.f k l0_0 l0_1).bind fun bt863=>(some (bt863.1,bt863.2)))))
theorem Z35.mono:∀ a0 a1 a2 k,LeO (Z35.f k a0 a1 a2) (Z35.f (k + 1) a0 a1 a2):=by
 intro a0 a1 a2 k
 unfold Z35.f
 repeat' first|exact Z48.mono _ _ _|exact Z61.mono _ _ _|exact Z25.mono _ _ _|exact Z36.mono _ _ _|exact lo_|refine LeO.ite ?_ ?_|refine LeO.bind ?_ (fun _=>?_)
set_option maxHeartbeats 8000000 in
set_option maxRecDepth 100000 in
theorem Z35.calls (k:Nat) (A0_0:Option Addr) (c0_0:Nat) (l0_0:List Int) (A0_1:Option Addr) (c0_1:Nat) (l0_1:List Int) (a1:Int) (r1:List Int) (r2:List Int) (w:World) (hr0_0:Kd.C (Kd.int .i64) w A0_0 l0_0.length l0_0) (hc0_0:l0_0.length≤c0_0) (hr0_1:Kd.C (Kd.int .i64) w A0_1 l0_1.length l0_1) (hc0_1:l0_1.length≤c0_1) (h:Z35.f k l0_0 l0_1 a1 = some (r1,r2)) :
  Calls Try.prog 87 #[.agg #[.slice A0_0 l0_0.length c0_0,.slice A0_1 l0_1.length c0_1],.int .u8 a1] w fun e w'=>∃ v0_ v1_:Value,e = .returned (.agg #[v0_,v1_])∧Kd.R (Kd.int .i64) 3 w' w.heap.size (fun k_=>some k_≠(v1_:Value).ownBlock) v0_ r1∧Kd.R (Kd.int .i64) 3 w' w.heap.size (fun k_=>some k_≠(v0_:Value).ownBlock) v1_ r2∧Below w.heap.size w w':=by
 have hu25:=Try.underlying25
 have HR0_0:=A_ hr0_0
 have HC0_0:=A_ hc0_0
 clear hr0_0 hc0_0
 have HR0_1:=A_ hr0_1
 have HC0_1:=A_ hc0_1
 clear hr0_1 hc0_1
 have HB:=A_ (Below.refl w.heap.size w)
 have H:=h
 unfold Z35.f at H
 clear h
 by_cases c3:a1 = 84
 ·rw [if_pos c3] at H
  have c3b0:(a1 == 84) = true:=beq_iff_eq.mpr c3
  have c3b1:(a1 != 84) = false:=bne_eq_false_iff_eq.mpr c3
  clear c3
  obtain ⟨⟨t845,t848⟩,A4,H⟩:=bi_ H
  try dsimp only at H
  simp only [Option.some.injEq,Prod.mk.injEq] at H
  obtain ⟨rfl,rfl⟩:=H
  go_enter Try.func87,Try.ntmps87
  go_wp2_with (first | ((with_reducible refine gB_ (N:=2) rfl ?_);refine bx_ 2 #[.slice A0_0 l0_0.length c0_0,.slice A0_1 l0_1.length c0_1] 25 ?_;intro gb843 hg w5 hbox hb;have BK843:=A_ hbox;have GW843:=gw_ w hg;have GE843:=GW843;replace HB:=b1_ hb;clear hb hbox hg) | ((with_reducible refine gB_ (N:=4) rfl ?_);refine bx_ 4 #[.slice none 0 0,.slice none 0 0] 25 ?_;intro gb844 hg w6 hbox hb;have BK844:=A_ hbox;have GW844:=gw_ w hg;have GE844:=GW844;replace HB:=b1_ hb;have NB843_844:=gN_ BK843 hg;have NB844_843:=gP_ BK843 hg;replace BK843:=bb_ BK843 hb;clear hb hbox hg;have hnb7:=NB843_844.out;have hnc7:=NB844_843.out;obtain ⟨hcz8_0,hcz8_1,hfz8_0,hfz8_1⟩:=c2_ BK843) | ((with_reducible refine gA_ (f:=124) rfl ?_);refine gL_ (some 9) Try.func124 #[.agg #[.slice A0_0 l0_0.length c0_0,.slice A0_1 l0_1.length c0_1]] rfl qa_ ?_;(with_reducible refine (Z48.calls k _ _ l0_0 _ _ l0_1 t845 t848 _ (cb_ HR0_0) HC0_0.out (cb_ HR0_1) HC0_1.out A4.out).mono ?_);rintro e w9 ⟨v846,v849,rfl,ho0,ho1,hb⟩;refine ⟨_,rfl,?_⟩;have HO847:=rl_ w ho0;have HO850:=rl_ w ho1;replace BK843:=bb_ BK843 hb;replace BK844:=bb_ BK844 hb;replace HB:=b1_ hb;clear hb ho0 ho1;obtain ⟨Ao10,co10,eo10⟩:=Kd.R_slice HO847.out;subst eo10;obtain ⟨hcz11_0,hcz11_1,hfz11_0,hfz11_1⟩:=c2_ BK844;obtain ⟨Ao12,co12,eo12⟩:=Kd.R_slice HO850.out;subst eo12))
  refine bodyPost_ret (results_cell_row rfl _ _ gb844 25 #[.slice Ao10 t845.length co10,.slice Ao12 t848.length co12] (0,0) _ rfl qp_ Try.underlying25 rfl (by kernel_rfl)) rfl ?_
  exact ⟨_,_,qb_,(rw_ (fa_ HO847 BK844)),(rw_ (fa_ HO850 BK844)),hB_⟩
 ·rw [if_neg c3] at H
  have c3b0:(a1 == 84) = false:=beq_eq_false_iff_ne.mpr c3
  have c3b1:(a1 != 84) = true:=bne_iff_ne.mpr c3
  by_cases c13:a1 = 116
  ·rw [if_pos c13] at H
   have c13b0:(a1 == 116) = true:=beq_iff_eq.mpr c13
   have c13b1:(a1 != 116) = false:=bne_eq_false_iff_eq.mpr c13
   clear c13
   obtain ⟨⟨t851,t854⟩,A14,H⟩:=bi_ H
   try dsimp only at H
   simp only [Option.some.injEq,Prod.mk.injEq] at H
   obtain ⟨rfl,rfl⟩:=H
   go_enter Try.func87,Try.ntmps87
   go_wp2_with (first | ((with_reducible refine gB_ (N:=2) rfl ?_);refine bx_ 2 #[.slice A0_0 l0_0.length c0_0,.slice A0_1 l0_1.length c0_1] 25 ?_;intro gb843 hg w15 hbox hb;have BK843:=A_ hbox;have GW843:=gw_ w hg;have GE843:=GW843;replace HB:=b1_ hb;clear hb hbox hg) | ((with_reducible refine gB_ (N:=4) rfl ?_);refine bx_ 4 #[.slice none 0 0,.slice none 0 0] 25 ?_;intro gb844 hg w16 hbox hb;have BK844:=A_ hbox;have GW844:=gw_ w hg;have GE844:=GW844;replace HB:=b1_ hb;have NB843_844:=gN_ BK843 hg;have NB844_843:=gP_ BK843 hg;replace BK843:=bb_ BK843 hb;clear hb hbox hg;have hnb17:=NB843_844.out;have hnc17:=NB844_843.out;obtain ⟨hcz18_0,hcz18_1,hfz18_0,hfz18_1⟩:=c2_ BK843) | ((with_reducible refine gA_ (f:=125) rfl ?_);refine gL_ (some 13) Try.func125 #[.agg #[.slice A0_0 l0_0.length c0_0,.slice A0_1 l0_1.length c0_1]] rfl qa_ ?_;(with_reducible refine (Z25.calls k _ _ l0_0 _ _ l0_1 t851 t854 _ (cb_ HR0_0) HC0_0.out (cb_ HR0_1) HC0_1.out A14.out).mono ?_);rintro e w19 ⟨v852,v855,rfl,ho0,ho1,hb⟩;refine ⟨_,rfl,?_⟩;have HO853:=rl_ w ho0;have HO856:=rl_ w ho1;replace BK843:=bb_ BK843 hb;replace BK844:=bb_ BK844 hb;replace HB:=b1_ hb;clear hb ho0 ho1;obtain ⟨Ao20,co20,eo20⟩:=Kd.R_slice HO853.out;subst eo20;obtain ⟨hcz21_0,hcz21_1,hfz21_0,hfz21_1⟩:=c2_ BK844;obtain ⟨Ao22,co22,eo22⟩:=Kd.R_slice HO856.out;subst eo22))
   refine bodyPost_ret (results_cell_row rfl _ _ gb844 25 #[.slice Ao20 t851.length co20,.slice Ao22 t854.length co22] (0,0) _ rfl qp_ Try.underlying25 rfl (by kernel_rfl)) rfl ?_
   exact ⟨_,_,qb_,(rw_ (fa_ HO853 BK844)),(rw_ (fa_ HO856 BK844)),hB_⟩
  ·rw [if_neg c13] at H
   have c13b0:(a1 == 116) = false:=beq_eq_false_iff_ne.mpr c13
   have c13b1:(a1 != 116) = true:=bne_iff_ne.mpr c13
   by_cases c23:a1 = 83
   ·rw [if_pos c23] at H
    have c23b0:(a1 == 83) = true:=beq_iff_eq.mpr c23
    have c23b1:(a1 != 83) = false:=bne_eq_false_iff_eq.mpr c23
    clear c23
    obtain ⟨⟨t857,t860⟩,A24,H⟩:=bi_ H
    try dsimp only at H
    simp only [Option.some.injEq,Prod.mk.injEq] at H
    obtain ⟨rfl,rfl⟩:=H
    go_enter Try.func87,Try.ntmps87
    go_wp2_with (first | ((with_reducible refine gB_ (N:=2) rfl ?_);refine bx_ 2 #[.slice A0_0 l0_0.length c0_0,.slice A0_1 l0_1.length c0_1] 25 ?_;intro gb843 hg w25 hbox hb;have BK843:=A_ hbox;have GW843:=gw_ w hg;have GE843:=GW843;replace HB:=b1_ hb;clear hb hbox hg) | ((with_reducible refine gB_ (N:=4) rfl ?_);refine bx_ 4 #[.slice none 0 0,.slice none 0 0] 25 ?_;intro gb844 hg w26 hbox hb;have BK844:=A_ hbox;have GW844:=gw_ w hg;have GE844:=GW844;replace HB:=b1_ hb;have NB843_844:=gN_ BK843 hg;have NB844_843:=gP_ BK843 hg;replace BK843:=bb_ BK843 hb;clear hb hbox hg;have hnb27:=NB843_844.out;have hnc27:=NB844_843.out;obtain ⟨hcz28_0,hcz28_1,hfz28_0,hfz28_1⟩:=c2_ BK843) | ((with_reducible refine gA_ (f:=126) rfl ?_);refine gL_ (some 17) Try.func126 #[.agg #[.slice A0_0 l0_0.length c0_0,.slice A0_1 l0_1.length c0_1]] rfl qa_ ?_;(with_reducible refine (Z61.calls k _ _ l0_0 _ _ l0_1 t857 t860 _ (cb_ HR0_0) HC0_0.out (cb_ HR0_1) HC0_1.out A24.out).mono ?_);rintro e w29 ⟨v858,v861,rfl,ho0,ho1,hb⟩;refine ⟨_,rfl,?_⟩;have HO859:=rl_ w ho0;have HO862:=rl_ w ho1;replace BK843:=bb_ BK843 hb;replace BK844:=bb_ BK844 hb;replace HB:=b1_ hb;clear hb ho0 ho1;obtain ⟨Ao30,co30,eo30⟩:=Kd.R_slice HO859.out;subst eo30;obtain ⟨hcz31_0,hcz31_1,hfz31_0,hfz31_1⟩:=c2_ BK844;obtain ⟨Ao32,co32,eo32⟩:=Kd.R_slice HO862.out;subst eo32))
    refine bodyPost_ret (results_cell_row rfl _ _ gb844 25 #[.slice Ao30 t857.length co30,.slice Ao32 t860.length co32] (0,0) _ rfl qp_ Try.underlying25 rfl (by kernel_rfl)) rfl ?_
    exact ⟨_,_,qb_,(rw_ (fa_ HO859 BK844)),(rw_ (fa_ HO862 BK844)),hB_⟩
   ·rw [if_neg c23] at H
    have c23b0:(a1 == 83) = false:=beq_eq_false_iff_ne.mpr c23
    have c23b1:(a1 != 83) = true:=bne_iff_ne.mpr c23
    obtain ⟨⟨t863,t866⟩,A33,H⟩:=bi_ H
    try dsimp only at H
    simp only [Option.some.injEq,Prod.mk.injEq] at H
    obtain ⟨rfl,rfl⟩:=H
    go_enter Try.func87,Try.ntmps87
    go_wp2_with (first | ((with_reducible refine gB_ (N:=2) rfl ?_);refine bx_ 2 #[.slice A0_0 l0_0.length c0_0,.slice A0_1 l0_1.length c0_1] 25 ?_;intro gb843 hg w34 hbox hb;have BK843:=A_ hbox;have GW843:=gw_ w hg;have GE843:=GW843;replace HB:=b1_ hb;clear hb hbox hg) | ((with_reducible refine gB_ (N:=4) rfl ?_);refine bx_ 4 #[.slice none 0 0,.slice none 0 0] 25 ?_;intro gb844 hg w35 hbox hb;have BK844:=A_ hbox;have GW844:=gw_ w hg;have GE844:=GW844;replace HB:=b1_ hb;have NB843_844:=gN_ BK843 hg;have NB844_843:=gP_ BK843 hg;replace BK843:=bb_ BK843 hb;clear hb hbox hg;have hnb36:=NB843_844.out;have hnc36:=NB844_843.out;obtain ⟨hcz37_0,hcz37_1,hfz37_0,hfz37_1⟩:=c2_ BK843) | ((with_reducible refine gA_ (f:=127) rfl ?_);refine gL_ (some 19) Try.func127 #[.agg #[.slice A0_0 l0_0.length c0_0,.slice A0_1 l0_1.length c0_1]] rfl qa_ ?_;(with_reducible refine (Z36.calls k _ _ l0_0 _ _ l0_1 t863 t866 _ (cb_ HR0_0) HC0_0.out (cb_ HR0_1) HC0_1.out A33.out).mono ?_);rintro e w38 ⟨v864,v867,rfl,ho0,ho1,hb⟩;refine ⟨_,rfl,?_⟩;have HO865:=rl_ w ho0;have HO868:=rl_ w ho1;replace BK843:=bb_ BK843 hb;replace BK844:=bb_ BK844 hb;replace HB:=b1_ hb;clear hb ho0 ho1;obtain ⟨Ao39,co39,eo39⟩:=Kd.R_slice HO865.out;subst eo39;obtain ⟨hcz40_0,hcz40_1,hfz40_0,hfz40_1⟩:=c2_ BK844;obtain ⟨Ao41,co41,eo41⟩:=Kd.R_slice HO868.out;subst eo41))
    refine bodyPost_ret (results_cell_row rfl _ _ gb844 25 #[.slice Ao39 t863.length co39,.slice Ao41 t866.length co41] (0,0) _ rfl qp_ Try.underlying25 rfl (by kernel_rfl)) rfl ?_
    exact ⟨_,_,qb_,(rw_ (fa_ HO865 BK844)),(rw_ (fa_ HO868 BK844)),hB_⟩
end Go.Proofs.Ytcggfjpnfodbaaa.A
end
section
/- Words of letters: the program and the reference act alike. No conditions. -/
namespace Go.Proofs.Ytcggfjpnfodbaaa.M
set_option linter.unusedVariables false
set_option linter.unusedSimpArgs false
open Go.RowKit Go.Proofs.YtcggfjpnfodbaaaW.PrintWords Go.Proofs.YtcggfjpnfodbaaaW.PrintLast Go.Proofs.YtcggfjpnfodbaaaW.PrintMore Go.Proofs.Ytcggfjpnfodbaaa.A
def lt (c:Int) (s:List Nat × List Nat):List Nat × List Nat:=if c = 84 then (s.1,thn (inv s.1) s.2) else if c = 116 then (s.1,thn s.1 s.2) else if c = 83 then (inv s.2,s.1) else (s.2,inv s.1)
theorem sf_lt {s:List Nat × List Nat} (hs:Sf s.1 s.2) (c:Int):Sf (lt c s).1 (lt c s).2∧(lt c s).1.length = s.1.length:=by
 unfold lt
 split
 ·exact ⟨sf_T hs,rfl⟩
 ·split
  ·exact ⟨sf_t hs,rfl⟩
  ·split
   ·exact ⟨sf_S hs,by show (inv s.2).length = _;rw [inv_len,hs.eq]⟩
   ·exact ⟨sf_s hs,hs.eq⟩
def rn (w:ByteArray) (s:List Nat × List Nat):Nat→List Nat × List Nat
 | 0=>s
 | j + 1=>lt (bt w (j:Int)) (rn w s j)
theorem sf_rn {s:List Nat × List Nat} (hs:Sf s.1 s.2) (w:ByteArray) (j:Nat):Sf (rn w s j).1 (rn w s j).2∧(rn w s j).1.length = s.1.length:=by
 induction j with
 | zero=>exact ⟨hs,rfl⟩
 | succ j ih =>
  have:=sf_lt ih.1 (bt w (j:Int))
  exact ⟨this.1,this.2.trans ih.2⟩
theorem thn_small {r u:List Nat} (hs:Sf r u):(∀ i,i < (inv r).length→g (inv r) i < u.length)∧(∀ i,i < r.length→g r i < u.length):=by
 constructor
 ·intro i hi
  have:=g_lt (isP_inv hs.pr) hi
  rw [inv_len] at this
  rw [hs.eq]
  exact this
 ·intro i hi
  rw [hs.eq]
  exact g_lt hs.pr hi
theorem spec_letter {s:List Nat × List Nat} (hs:Sf s.1 s.2) (c:Int):Ev (fun k=>Z35.f k (I s.1) (I s.2) c) (I (lt c s).1,I (lt c s).2):=by
 have hle:=hs.le
 have heq:=hs.eq
 have c1:([]:List Int).length + (I s.1).length < 17592186044416:=by rw [I_len];simp;omega
 have c2:([]:List Int).length + (I s.2).length < 17592186044416:=by rw [I_len];simp;omega
 obtain ⟨t1,t2⟩:=thn_small hs
 unfold Z35.f lt
 by_cases h1:c = 84
 ·simp only [h1,if_true]
  refine Ev.bind (a:=(I s.1,I (thn (inv s.1) s.2))) ?_ (Ev.now _)
  unfold Z48.f
  simp only [Option.bind_some,c1,if_true,List.nil_append]
  exact Ev.bind (spec_inv hs.pr hs.le) (Ev.bind (spec_then t1 (by rw [inv_len];omega)) (Ev.now _))
 ·by_cases h2:c = 116
  ·have n1:¬ ((116:Int) = 84):=by omega
   simp only [h2,n1,if_true,if_false]
   refine Ev.bind (a:=(I s.1,I (thn s.1 s.2))) ?_ (Ev.now _)
   unfold Z25.f
   simp only [Option.bind_some,c1,if_true,List.nil_append]
   exact Ev.bind (spec_then t2 (by omega)) (Ev.now _)
  ·by_cases h3:c = 83
   ·have n1:¬ ((83:Int) = 84):=by omega
    have n2:¬ ((83:Int) = 116):=by omega
    simp only [h3,n1,n2,if_true,if_false]
    refine Ev.bind (a:=(I (inv s.2),I s.1)) ?_ (Ev.now _)
    unfold Z61.f
    refine Ev.bind (spec_inv hs.pu (by omega)) ?_
    simp only [Option.bind_some,c1,if_true,List.nil_append]
    exact Ev.now _
   ·simp only [h1,h2,h3,if_false]
    refine Ev.bind (a:=(I s.2,I (inv s.1))) ?_ (Ev.now _)
    unfold Z36.f
    simp only [Option.bind_some,c2,if_true,List.nil_append]
    exact Ev.bind (spec_inv hs.pr hs.le) (Ev.now _)
def letB (c:Int):Bool:=decide (c = 84 ∨ c = 116 ∨ c = 83 ∨ c = 115)
theorem idx_ev {c:Int} (h0:0≤c) (h1:c≤255):∃ i,Z14.f (⟨#[84,116,83,115]⟩:ByteArray) c = some i∧decide (i < 0) = !letB c:=by
 have idx_tab:∀ n:Fin 256,decide (Lib.indexByte [84,116,83,115] n.val.toUInt8 < 0) = !letB (n.val:Int):=by decide +kernel
 obtain ⟨n,rfl⟩:∃ n:Nat,c = n:=⟨c.toNat,by omega⟩
 refine ⟨_,rfl,?_⟩
 exact idx_tab ⟨n,by omega⟩
def wordB (w:ByteArray):Bool:=decide ((∀ j,j < w.size→letB (bt w (j:Int)) = true)∧w.size≤40)
theorem impl_wordOk (w:ByteArray) (hw:w.size≤9000000000000000000):Ev (fun k=>Z65.f k w) (wordB w):=by
 unfold Z65.f
 have H:∀ d j:Nat,j + d = w.size→(∀ i,i < j→letB (bt w (i:Int)) = true)→Ev (fun k=>Z65.l0 k w (j:Int)) (wordB w):=by
  intro d
  induction d with
  | zero =>
   intro j hj hl
   obtain rfl:j = w.size:=by omega
   refine ev_succ ?_
   have c1:¬ ((w.size:Int) < (w.size:Int)):=by omega
   have e:decide ((w.size:Int)≤40) = wordB w:=by
    unfold wordB
    rw [decide_eq_decide]
    constructor
    ·intro h
     exact ⟨hl,by omega⟩
    ·intro h
     have:=h.2
     omega
   simp only [Z65.l0,c1,if_false,e]
   exact Ev.now _
  | succ d ih =>
   intro j hj hl
   obtain ⟨b0,b1⟩:=bt_range w (j:Int)
   obtain ⟨i,e,hi⟩:=idx_ev b0 b1
   refine ev_succ ?_
   have c1:(j:Int) < (w.size:Int):=by omega
   have c2:(0:Int)≤(j:Int):=by omega
   have c3:=w64s j (by omega)
   simp only [Z65.l0,c1,c2,c3,e,if_true,Option.bind_some]
   by_cases hb:letB (bt w (j:Int)) = true
   ·have c4:¬ i < 0:=by
     rw [hb] at hi
     exact of_decide_eq_false hi
    simp only [c4,if_false]
    exact ih (j + 1) (by omega) (fun q hq=>by
     by_cases e:q = j
     ·rw [e];exact hb
     ·exact hl q (by omega))
   ·have hb':=Bool.eq_false_iff.mpr hb
    have c4:i < 0:=by
     rw [hb'] at hi
     exact of_decide_eq_true hi
    have e2:wordB w = false:=by
     unfold wordB
     rw [decide_eq_false_iff_not]
     intro h
     exact hb (h.1 j (by omega))
    simp only [c4,if_true,e2]
    exact Ev.now _
 exact H w.size 0 (Nat.zero_add _) (fun i hi=>by omega)
theorem copy_ev (l:List Int) (h:l.length≤1000000):Z40.f l = some l:=by
 unfold Z40.f
 have c1:([]:List Int).length + l.length < 17592186044416:=by simp;omega
 simp only [Option.bind_some,c1,if_true,List.nil_append]
theorem impl_letter {s:List Nat × List Nat} (hs:Sf s.1 s.2) (c:Int) (hc:letB c = true):Ev (fun k=>Z8.f k (I s.1) (I s.2) c) (I (lt c s).1,I (lt c s).2):=by
 have hle:=hs.le
 have heq:=hs.eq
 have h0:=surfB_I.mpr hs
 have k1:=copy_ev (I s.1) (by rw [I_len];omega)
 have k2:=copy_ev (I s.2) (by rw [I_len];omega)
 have hc:=of_decide_eq_true hc
 unfold Z8.f lt
 by_cases h1:c = 84
 ·simp only [h1,if_true]
  refine Ev.bind (a:=(I s.1,I (thn (inv s.1) s.2),true)) ?_ (Ev.now _)
  unfold Z12.f
  refine Ev.bind (impl_surf _ _) ?_
  simp only [h0,k1,if_true,Option.bind_some]
  exact Ev.bind (impl_inv hs.pr hs.le) (Ev.bind (impl_then (isP_inv hs.pr) hs.pu (by rw [inv_len,hs.eq]) (by rw [inv_len];exact hs.le)) (Ev.now _))
 ·by_cases h2:c = 116
  ·have n1:¬ ((116:Int) = 84):=by omega
   simp only [h2,n1,if_true,if_false]
   refine Ev.bind (a:=(I s.1,I (thn s.1 s.2),true)) ?_ (Ev.now _)
   unfold Z4.f
   refine Ev.bind (impl_surf _ _) ?_
   simp only [h0,k1,if_true,Option.bind_some]
   exact Ev.bind (impl_then hs.pr hs.pu hs.eq.symm hs.le) (Ev.now _)
  ·by_cases h3:c = 83
   ·have n1:¬ ((83:Int) = 84):=by omega
    have n2:¬ ((83:Int) = 116):=by omega
    simp only [h3,n1,n2,if_true,if_false]
    refine Ev.bind (a:=(I (inv s.2),I s.1,true)) ?_ (Ev.now _)
    unfold Z17.f
    refine Ev.bind (impl_surf _ _) ?_
    simp only [h0,if_true]
    refine Ev.bind (impl_inv hs.pu (by omega)) ?_
    simp only [k1,Option.bind_some]
    exact Ev.now _
   ·have h4:c = 115:=by omega
    have n1:¬ ((115:Int) = 84):=by omega
    have n2:¬ ((115:Int) = 116):=by omega
    have n3:¬ ((115:Int) = 83):=by omega
    simp only [h4,n1,n2,n3,if_true,if_false]
    refine Ev.bind (a:=(I s.2,I (inv s.1),true)) ?_ (Ev.now _)
    unfold Z7.f
    refine Ev.bind (impl_surf _ _) ?_
    simp only [h0,k2,if_true,Option.bind_some]
    exact Ev.bind (impl_inv hs.pr hs.le) (Ev.now _)
def runP (r u:List Int) (w:ByteArray):List Int × List Int × Bool:=if surfB r u = true∧wordB w = true then (I (rn w (N r,N u) w.size).1,I (rn w (N r,N u) w.size).2,true) else ([],[],false)
theorem runP_yes {s:List Nat × List Nat} (hs:Sf s.1 s.2) {w:ByteArray} (hw:wordB w = true):runP (I s.1) (I s.2) w = (I (rn w s w.size).1,I (rn w s w.size).2,true):=by
 unfold runP
 rw [if_pos ⟨surfB_I.mpr hs,hw⟩,N_I,N_I]
theorem impl_run (r u:List Int) (w:ByteArray) (hw:w.size≤9000000000000000000):Ev (fun k=>Z53.f k r u w) (runP r u w):=by
 unfold Z53.f
 refine Ev.bind (impl_surf _ _) ?_
 by_cases h:surfB r u = true
 ·simp only [h,if_true]
  refine Ev.bind (impl_wordOk w hw) ?_
  by_cases h2:wordB w = true
  ·obtain ⟨r,u,rfl,rfl,hs⟩:=surf_nat h
   rw [runP_yes (s:=(r,u)) hs h2,h2]
   have hd:=of_decide_eq_true h2
   have hle:=hs.le
   have heq:=hs.eq
   have k1:=copy_ev (I r) (by rw [I_len];omega)
   have k2:=copy_ev (I u) (by rw [I_len];omega)
   refine ev_succ ?_
   simp only [Z53.j0,Z18.f,k1,k2,Option.bind_some,Bool.not_true,Bool.false_eq_true,if_false]
   have H:∀ d j:Nat,j + d = w.size→Ev (fun k=>Z53.l0 k w (j:Int) (I (rn w (r,u) j).1) (I (rn w (r,u) j).2)) (I (rn w (r,u) w.size).1,I (rn w (r,u) w.size).2,true):=by
    intro d
    induction d with
    | zero =>
     intro j hj
     obtain rfl:j = w.size:=by omega
     refine ev_succ ?_
     have c1:¬ ((w.size:Int) < (w.size:Int)):=by omega
     simp only [Z53.l0,c1,if_false]
     exact Ev.now _
    | succ d ih =>
     intro j hj
     refine ev_succ ?_
     have c1:(j:Int) < (w.size:Int):=by omega
     have c2:(0:Int)≤(j:Int):=by omega
     have c3:=w64s j (by omega)
     simp only [Z53.l0,c1,c2,c3,if_true]
     exact Ev.bind (impl_letter (sf_rn (s:=(r,u)) hs w j).1 _ (hd.1 j (by omega))) (ih (j + 1) (by omega))
   exact H w.size 0 (Nat.zero_add _)
  ·have h2':=Bool.eq_false_iff.mpr h2
   have e:runP r u w = ([],[],false):=by
    unfold runP
    rw [if_neg (fun h=>h2 h.2)]
   rw [e,h2']
   refine ev_succ ?_
   simp only [Z53.j0,Bool.not_false,if_true]
   exact Ev.now _
 ·have e:runP r u w = ([],[],false):=by
   unfold runP
   rw [if_neg (fun k=>h k.1)]
  have h':=Bool.eq_false_iff.mpr h
  simp only [h',Bool.false_eq_true,if_false]
  rw [e]
  refine ev_succ ?_
  simp only [Z53.j0,if_true]
  exact Ev.now _
end Go.Proofs.Ytcggfjpnfodbaaa.M
end
section
namespace Go.Proofs.Ytcggfjpnfodbaaa.A
open Go.RowKit Go.Proofs.YtcggfjpnfodbaaaW.PrintWords Go.Proofs.YtcggfjpnfodbaaaW.PrintLast Go.Proofs.YtcggfjpnfodbaaaW.PrintMore
attribute [local go_sem] max2_int min2_int max_two min_two max_three min_three max_four min_four
set_option linter.unusedVariables false
set_option linter.unusedSimpArgs false
def Z19.f (k:Nat) (l0_0:List Int) (l0_1:List Int) (l1_0:List Int) (l1_1:List Int):Option (Bool):=(Z43.f k l0_0 l1_0).bind fun t724=>(if t724 = true then ((Z43.f k l0_1 l1_1).bind fun t725=>(some t725)) else (some false))
theorem Z19.mono:∀ a0 a1 a2 a3 k,LeO (Z19.f k a0 a1 a2 a3) (Z19.f (k + 1) a0 a1 a2 a3):=by
 intro a0 a1 a2 a3 k
 unfold Z19.f
 repeat' first|exact Z43.mono _ _ _|exact lo_|refine LeO.ite ?_ ?_|refine LeO.bind ?_ (fun _=>?_)
set_option maxHeartbeats 8000000 in
set_option maxRecDepth 100000 in
theorem Z19.calls (k:Nat) (A0_0:Option Addr) (c0_0:Nat) (l0_0:List Int) (A0_1:Option Addr) (c0_1:Nat) (l0_1:List Int) (A1_0:Option Addr) (c1_0:Nat) (l1_0:List Int) (A1_1:Option Addr) (c1_1:Nat) (l1_1:List Int) (r:Bool) (w:World) (hr0_0:Kd.C (Kd.int .i64) w A0_0 l0_0.length l0_0) (hc0_0:l0_0.length≤c0_0) (hr0_1:Kd.C (Kd.int .i64) w A0_1 l0_1.length l0_1) (hc0_1:l0_1.length≤c0_1) (hr1_0:Kd.C (Kd.int .i64) w A1_0 l1_0.length l1_0) (hc1_0:l1_0.length≤c1_0) (hr1_1:Kd.C (Kd.int .i64) w A1_1 l1_1.length l1_1) (hc1_1:l1_1.length≤c1_1) (h:Z19.f k l0_0 l0_1 l1_0 l1_1 = some r) :
  Calls Try.prog 118 #[.agg #[.slice A0_0 l0_0.length c0_0,.slice A0_1 l0_1.length c0_1],.agg #[.slice A1_0 l1_0.length c1_0,.slice A1_1 l1_1.length c1_1]] w fun e w'=>e = .returned (.bool r)∧Below w.heap.size w w':=by
 have hu25:=Try.underlying25
 have HR0_0:=A_ hr0_0
 have HC0_0:=A_ hc0_0
 clear hr0_0 hc0_0
 have HR0_1:=A_ hr0_1
 have HC0_1:=A_ hc0_1
 clear hr0_1 hc0_1
 have HR1_0:=A_ hr1_0
 have HC1_0:=A_ hc1_0
 clear hr1_0 hc1_0
 have HR1_1:=A_ hr1_1
 have HC1_1:=A_ hc1_1
 clear hr1_1 hc1_1
 have HB:=A_ (Below.refl w.heap.size w)
 have H:=h
 unfold Z19.f at H
 clear h
 obtain ⟨t724,A3,H⟩:=bi_ H
 by_cases c4:t724 = true
 ·subst c4
  rw [if_pos rfl] at H
  obtain ⟨t725,A5,H⟩:=bi_ H
  obtain rfl:=Option.some.inj H
  go_enter Try.func118,Try.ntmps118
  go_wp2_with (first | ((with_reducible refine gB_ (N:=2) rfl ?_);refine bx_ 2 #[.slice A0_0 l0_0.length c0_0,.slice A0_1 l0_1.length c0_1] 25 ?_;intro gb722 hg w6 hbox hb;have BK722:=A_ hbox;have GW722:=gw_ w hg;have GE722:=GW722;replace HB:=b1_ hb;clear hb hbox hg) | ((with_reducible refine gB_ (N:=3) rfl ?_);refine bx_ 3 #[.slice A1_0 l1_0.length c1_0,.slice A1_1 l1_1.length c1_1] 25 ?_;intro gb723 hg w7 hbox hb;have BK723:=A_ hbox;have GW723:=gw_ w hg;have GE723:=GW723;replace HB:=b1_ hb;have NB722_723:=gN_ BK722 hg;have NB723_722:=gP_ BK722 hg;replace BK722:=bb_ BK722 hb;clear hb hbox hg;have hnb8:=NB722_723.out;have hnc8:=NB723_722.out;obtain ⟨hcz9_0,hcz9_1,hfz9_0,hfz9_1⟩:=c2_ BK722;obtain ⟨hcz10_0,hcz10_1,hfz10_0,hfz10_1⟩:=c2_ BK723) | ((with_reducible refine gA_ (f:=148) rfl ?_);refine gL_ (some 9) Try.func148 #[.slice A0_0 l0_0.length c0_0,.slice A1_0 l1_0.length c1_0] rfl qa_ ?_;(with_reducible refine (Z43.calls k _ _ l0_0 _ _ l1_0 true _ (cb_ HR0_0) HC0_0.out (cb_ HR1_0) HC1_0.out A3.out).mono ?_);rintro e w' ⟨rfl,⟨nd,rfl⟩⟩;refine ⟨_,rfl,?_⟩) | (go_at_call 148;(with_reducible refine (Z43.calls k _ _ l0_1 _ _ l1_1 t725 _ (cw_ (cD_ HR0_1.out hB_)) HC0_1.out (cw_ (cD_ HR1_1.out hB_)) HC1_1.out A5.out).mono ?_);rintro e w' ⟨rfl,⟨nd,rfl⟩⟩))
  go_ret
  exact ⟨qb_,hB_⟩
 ·replace c4:=Bool.eq_false_iff.mpr c4
  subst c4
  have H1:(some false) = some r:=by rw [if_neg (show ¬ (false = true) by decide)] at H;exact H
  clear H
  have H:=H1
  clear H1
  obtain rfl:=Option.some.inj H
  go_enter Try.func118,Try.ntmps118
  go_wp2_with (first | ((with_reducible refine gB_ (N:=2) rfl ?_);refine bx_ 2 #[.slice A0_0 l0_0.length c0_0,.slice A0_1 l0_1.length c0_1] 25 ?_;intro gb722 hg w11 hbox hb;have BK722:=A_ hbox;have GW722:=gw_ w hg;have GE722:=GW722;replace HB:=b1_ hb;clear hb hbox hg) | ((with_reducible refine gB_ (N:=3) rfl ?_);refine bx_ 3 #[.slice A1_0 l1_0.length c1_0,.slice A1_1 l1_1.length c1_1] 25 ?_;intro gb723 hg w12 hbox hb;have BK723:=A_ hbox;have GW723:=gw_ w hg;have GE723:=GW723;replace HB:=b1_ hb;have NB722_723:=gN_ BK722 hg;have NB723_722:=gP_ BK722 hg;replace BK722:=bb_ BK722 hb;clear hb hbox hg;have hnb13:=NB722_723.out;have hnc13:=NB723_722.out;obtain ⟨hcz14_0,hcz14_1,hfz14_0,hfz14_1⟩:=c2_ BK722;obtain ⟨hcz15_0,hcz15_1,hfz15_0,hfz15_1⟩:=c2_ BK723) | ((with_reducible refine gA_ (f:=148) rfl ?_);refine gL_ (some 9) Try.func148 #[.slice A0_0 l0_0.length c0_0,.slice A1_0 l1_0.length c1_0] rfl qa_ ?_;(with_reducible refine (Z43.calls k _ _ l0_0 _ _ l1_0 false _ (cb_ HR0_0) HC0_0.out (cb_ HR1_0) HC1_0.out A3.out).mono ?_);rintro e w' ⟨rfl,⟨nd,rfl⟩⟩;refine ⟨_,rfl,?_⟩))
  go_ret
  exact ⟨qb_,hB_⟩
def Z9.f (k:Nat) (l0_0:List Int) (l0_1:List Int) (l1_0:List Int) (l1_1:List Int):Option (Bool):=(Z31.f k l0_0 l0_1).bind fun t1222=>(if t1222 = true then ((Z31.f k l1_0 l1_1).bind fun t1223=>(if t1223 = true then ((Z46.f k l0_0 l0_1).bind fun bt1224=>((Z46.f k l1_0 l1_1).bind fun bt1230=>((Z19.f k bt1224.1 bt1224.2 bt1230.1 bt1230.2).bind fun t1236=>(some t1236)))) else (some false))) else (some false))
theorem Z9.mono:∀ a0 a1 a2 a3 k,LeO (Z9.f k a0 a1 a2 a3) (Z9.f (k + 1) a0 a1 a2 a3):=by
 intro a0 a1 a2 a3 k
 unfold Z9.f
 repeat' first|exact Z19.mono _ _ _ _ _|exact Z31.mono _ _ _|exact Z46.mono _ _ _|exact lo_|refine LeO.ite ?_ ?_|refine LeO.bind ?_ (fun _=>?_)
def Z9.T1:Bool × List (List Nat × List Nat):=(true,[([],[]),([0],[0]),([1,1],[1]),([2],[2]),([3,2,2],[2,3]),([2,4],[2,4]),([5,4],[5]),([6],[6]),([7,6,6],[6,7]),([6],[6]),([9,8,6],[6,9]),([8,10,10,6],[6,8,10]),([6,11],[6,11]),([12,11,0,1,2,3,4,5,6,7,8,9,10,11,12],[12])])
def Z9.B1:List Nat:=[0,1,3,7,15,31,63,127,255,127,1023,2047,4095,8191]
theorem Z9.tab1:rtab .any (opsOf Try.f153 1) = Z9.T1:=by kernel_rfl
theorem Z9.bits1:waitsOk Z9.T1.2 Z9.B1 = true:=by kernel_rfl
set_option maxHeartbeats 8000000 in
set_option maxRecDepth 100000 in
theorem Z9.calls (k:Nat) (A0_0:Option Addr) (c0_0:Nat) (l0_0:List Int) (A0_1:Option Addr) (c0_1:Nat) (l0_1:List Int) (A1_0:Option Addr) (c1_0:Nat) (l1_0:List Int) (A1_1:Option Addr) (c1_1:Nat) (l1_1:List Int) (r:Bool) (w:World) (hr0_0:Kd.C (Kd.int .i64) w A0_0 l0_0.length l0_0) (hc0_0:l0_0.length≤c0_0) (hr0_1:Kd.C (Kd.int .i64) w A0_1 l0_1.length l0_1) (hc0_1:l0_1.length≤c0_1) (hr1_0:Kd.C (Kd.int .i64) w A1_0 l1_0.length l1_0) (hc1_0:l1_0.length≤c1_0) (hr1_1:Kd.C (Kd.int .i64) w A1_1 l1_1.length l1_1) (hc1_1:l1_1.length≤c1_1) (h:Z9.f k l0_0 l0_1 l1_0 l1_1 = some r) :
  Calls Try.prog 153 #[.agg #[.slice A0_0 l0_0.length c0_0,.slice A0_1 l0_1.length c0_1],.agg #[.slice A1_0 l1_0.length c1_0,.slice A1_1 l1_1.length c1_1]] w fun e w'=>e = .returned (.bool r)∧Below w.heap.size w w':=by
 have hu25:=Try.underlying25
 have HR0_0:=A_ hr0_0
 have HC0_0:=A_ hc0_0
 clear hr0_0 hc0_0
 have HR0_1:=A_ hr0_1
 have HC0_1:=A_ hc0_1
 clear hr0_1 hc0_1
 have HR1_0:=A_ hr1_0
 have HC1_0:=A_ hc1_0
 clear hr1_0 hc1_0
 have HR1_1:=A_ hr1_1
 have HC1_1:=A_ hc1_1
 clear hr1_1 hc1_1
 have HB:=A_ (Below.refl w.heap.size w)
 have H:=h
 unfold Z9.f at H
 clear h
 obtain ⟨t1222,A3,H⟩:=bi_ H
 by_cases c4:t1222 = true
 ·subst c4
  rw [if_pos rfl] at H
  obtain ⟨t1223,A5,H⟩:=bi_ H
  by_cases c6:t1223 = true
  ·subst c6
   rw [if_pos rfl] at H
   obtain ⟨⟨t1224,t1227⟩,A7,H⟩:=bi_ H
   try dsimp only at H
   obtain ⟨⟨t1230,t1233⟩,A8,H⟩:=bi_ H
   try dsimp only at H
   obtain ⟨t1236,A9,H⟩:=bi_ H
   obtain rfl:=Option.some.inj H
   go_enter Try.func153,Try.ntmps153
   try go_wp2_with (first | ((with_reducible refine gB_ (N:=2) rfl ?_);refine bx_ 2 #[.slice A0_0 l0_0.length c0_0,.slice A0_1 l0_1.length c0_1] 25 ?_;intro gb1220 hg w10 hbox hb;have BK1220:=A_ hbox;have GW1220:=gw_ w hg;have GE1220:=GW1220;replace HB:=b1_ hb;clear hb hbox hg) | ((with_reducible refine gB_ (N:=3) rfl ?_);refine bx_ 3 #[.slice A1_0 l1_0.length c1_0,.slice A1_1 l1_1.length c1_1] 25 ?_;intro gb1221 hg w11 hbox hb;have BK1221:=A_ hbox;have GW1221:=gw_ w hg;have GE1221:=GW1221;replace HB:=b1_ hb;have NB1220_1221:=gN_ BK1220 hg;have NB1221_1220:=gP_ BK1220 hg;replace BK1220:=bb_ BK1220 hb;clear hb hbox hg))
   replace BK1220:=A_ (kB_ BK1220.out)
   replace BK1221:=A_ (kB_ BK1221.out)
   replace HB:=A_ (bC_ HB.out)
   refine start_ (n:=14) (S:=fun w'=>w'.cell? ⟨gb1220,0,none⟩ = some (.slice A0_0 l0_0.length c0_0)∧w'.cell? ⟨gb1220,1,none⟩ = some (.slice A0_1 l0_1.length c0_1)∧w'.cell? ⟨gb1221,0,none⟩ = some (.slice A1_0 l1_0.length c1_0)∧w'.cell? ⟨gb1221,1,none⟩ = some (.slice A1_1 l1_1.length c1_1)) (ds:=[]) (bl_ 14 0) (by kernel_rfl) rfl (by kernel_rfl) ⟨cz0_ BK1220,cz1_ BK1220,cz0_ BK1221,cz1_ BK1221⟩ (fun hHeld=>?_);refine with_tabW Z9.tab1 Z9.bits1 (fun HT_ HW_=>?_)
   generalize w11.drew = w12 at BK1220 BK1221 HB hHeld ⊢
   refine ta_ 0 (some 5) (bl_ 14 1) HT_ HW_ hHeld ?_
   refine on_ 1 (some 6) (bl_ 14 3) HT_ (fun K hK=>?_)
   refine gO_ Try.func80 #[.agg #[.slice A0_0 l0_0.length c0_0,.slice A0_1 l0_1.length c0_1]] (by rfl) rfl rfl qa_ ?_
   with_reducible refine (Z31.calls k _ _ l0_0 _ _ l0_1 true _ (cb_ HR0_0) HC0_0.out (cb_ HR0_1) HC0_1.out A3.out).mono ?_
   rintro e w13 ⟨rfl,hb⟩
   refine ⟨_,rfl,?_⟩
   replace BK1220:=bb_ BK1220 hb
   replace BK1221:=bb_ BK1221 hb
   replace HB:=b1_ hb
   clear hb
   refine hK.out _ _ ⟨cz0_ BK1220,cz1_ BK1220,cz0_ BK1221,cz1_ BK1221⟩ (fun hHeld=>?_)
   clear hK K
   refine no_ (some 6) ?_
   refine pu_ 2 (some 7) (bl_ 14 7) HT_ ?_
   refine ta_ 3 (some 8) (bl_ 14 15) HT_ HW_ hHeld ?_
   refine on_ 4 (some 9) (bl_ 14 31) HT_ (fun K hK=>?_)
   refine gO_ Try.func80 #[.agg #[.slice A1_0 l1_0.length c1_0,.slice A1_1 l1_1.length c1_1]] (by rfl) rfl rfl qa_ ?_
   with_reducible refine (Z31.calls k _ _ l1_0 _ _ l1_1 true _ (cb_ HR1_0) HC1_0.out (cb_ HR1_1) HC1_1.out A5.out).mono ?_
   rintro e w14 ⟨rfl,hb⟩
   refine ⟨_,rfl,?_⟩
   replace BK1220:=bb_ BK1220 hb
   replace BK1221:=bb_ BK1221 hb
   replace HB:=b1_ hb
   clear hb
   refine hK.out _ _ ⟨cz0_ BK1220,cz1_ BK1220,cz0_ BK1221,cz1_ BK1221⟩ (fun hHeld=>?_)
   clear hK K
   refine no_ (some 9) ?_
   refine pu_ 5 (some 10) (bl_ 14 63) HT_ ?_
   refine pu_ 6 (some 11) (bl_ 14 127) HT_ ?_
   refine ta_ 7 (some 12) (bl_ 14 255) HT_ HW_ hHeld ?_
   refine ta_ 9 (some 14) (bl_ 14 767) HT_ HW_ hHeld ?_
   refine on_ 8 (some 13) (bl_ 14 1023) HT_ (fun K hK=>?_)
   refine gO_ Try.func82 #[.agg #[.slice A0_0 l0_0.length c0_0,.slice A0_1 l0_1.length c0_1]] (by rfl) rfl rfl qa_ ?_
   with_reducible refine (Z46.calls k _ _ l0_0 _ _ l0_1 t1224 t1227 _ (cb_ HR0_0) HC0_0.out (cb_ HR0_1) HC0_1.out A7.out).mono ?_
   rintro e w15 ⟨v1225,v1228,rfl,ho0,ho1,hb⟩
   refine ⟨_,rfl,?_⟩
   have HO1226:=rl_ w ho0
   have HO1229:=rl_ w ho1
   replace BK1220:=bb_ BK1220 hb
   replace BK1221:=bb_ BK1221 hb
   replace HB:=b1_ hb
   clear hb ho0 ho1
   refine hK.out _ _ ⟨cz0_ BK1220,cz1_ BK1220,cz0_ BK1221,cz1_ BK1221⟩ (fun hHeld=>?_)
   clear hK K
   refine no_ (some 13) ?_
   refine on_ 10 (some 15) (bl_ 14 2047) HT_ (fun K hK=>?_)
   refine gO_ Try.func82 #[.agg #[.slice A1_0 l1_0.length c1_0,.slice A1_1 l1_1.length c1_1]] (by rfl) rfl rfl qa_ ?_
   with_reducible refine (Z46.calls k _ _ l1_0 _ _ l1_1 t1230 t1233 _ (cb_ HR1_0) HC1_0.out (cb_ HR1_1) HC1_1.out A8.out).mono ?_
   rintro e w16 ⟨v1231,v1234,rfl,ho0,ho1,hb⟩
   refine ⟨_,rfl,?_⟩
   have HO1232:=A_ (rE_ (Kd.R_new' (Kd.R_new' ho0 (Kd.R_lt (rr_ HO1226))) (Kd.R_lt (rr_ HO1229))) (bF_ hB_))
   have HO1235:=A_ (rE_ (Kd.R_new' (Kd.R_new' ho1 (Kd.R_lt (rr_ HO1226))) (Kd.R_lt (rr_ HO1229))) (bF_ hB_))
   replace HO1226:=A_ (Kd.R_mono (Kd.R_told (Kd.R_told (Kd.R_old (rr_ HO1226) hb) (Kd.R_base ho0)) (Kd.R_base ho1)) (fun _ h_=>h_.1))
   replace HO1229:=A_ (Kd.R_mono (Kd.R_told (Kd.R_told (Kd.R_old (rr_ HO1229) hb) (Kd.R_base ho0)) (Kd.R_base ho1)) (fun _ h_=>h_.1))
   replace BK1220:=bb_ BK1220 hb
   replace BK1221:=bb_ BK1221 hb
   replace HB:=b1_ hb
   clear hb ho0 ho1
   obtain ⟨Ao17,co17,eo17⟩:=Kd.R_slice HO1226.out
   (first|subst eo17|(injection eo17 with a_ b_ c_;have a_:=a_.symm;have c_:=c_.symm;clear b_;subst a_;subst c_))
   obtain ⟨Ao18,co18,eo18⟩:=Kd.R_slice HO1229.out
   (first|subst eo18|(injection eo18 with a_ b_ c_;have a_:=a_.symm;have c_:=c_.symm;clear b_;subst a_;subst c_))
   obtain ⟨Ao19,co19,eo19⟩:=Kd.R_slice HO1232.out
   (first|subst eo19|(injection eo19 with a_ b_ c_;have a_:=a_.symm;have c_:=c_.symm;clear b_;subst a_;subst c_))
   obtain ⟨Ao20,co20,eo20⟩:=Kd.R_slice HO1235.out
   (first|subst eo20|(injection eo20 with a_ b_ c_;have a_:=a_.symm;have c_:=c_.symm;clear b_;subst a_;subst c_))
   refine hK.out _ _ ⟨cz0_ BK1220,cz1_ BK1220,cz0_ BK1221,cz1_ BK1221⟩ (fun hHeld=>?_)
   clear hK K
   refine no_ (some 15) ?_
   refine on_ 11 (some 16) (bl_ 14 4095) HT_ (fun K hK=>?_)
   refine gO_ Try.func118 #[.agg #[.slice Ao17 t1224.length co17,.slice Ao18 t1227.length co18],.agg #[.slice Ao19 t1230.length co19,.slice Ao20 t1233.length co20]] (by rfl) rfl rfl qa_ ?_
   with_reducible refine (Z19.calls k _ _ t1224 _ _ t1227 _ _ t1230 _ _ t1233 t1236 _ (cr_ HO1226) ((Kd.R_reads' HO1226.out).2.1) (cr_ HO1229) ((Kd.R_reads' HO1229.out).2.1) (cr_ HO1232) ((Kd.R_reads' HO1232.out).2.1) (cr_ HO1235) ((Kd.R_reads' HO1235.out).2.1) A9.out).mono ?_
   rintro e w21 ⟨rfl,hb⟩
   refine ⟨_,rfl,?_⟩
   replace HO1226:=rb_ HO1226 hb
   replace HO1229:=rb_ HO1229 hb
   replace HO1232:=rb_ HO1232 hb
   replace HO1235:=rb_ HO1235 hb
   replace BK1220:=bb_ BK1220 hb
   replace BK1221:=bb_ BK1221 hb
   replace HB:=b1_ hb
   clear hb
   refine hK.out _ _ ⟨cz0_ BK1220,cz1_ BK1220,cz0_ BK1221,cz1_ BK1221⟩ (fun hHeld=>?_)
   clear hK K
   refine no_ (some 16) ?_
   refine pu_ 12 (some 17) (bl_ 14 8191) HT_ ?_
   refine pu_ 13 (some 4) (bl_ 14 16383) HT_ ?_
   refine done_ (done_of HT_.out (by kernel_rfl)) ?_
   try go_wp2
   go_ret
   exact ⟨qb_,hB_⟩
  ·replace c6:=Bool.eq_false_iff.mpr c6
   subst c6
   have H1:(some false) = some r:=by rw [if_neg (show ¬ (false = true) by decide)] at H;exact H
   clear H
   have H:=H1
   clear H1
   obtain rfl:=Option.some.inj H
   go_enter Try.func153,Try.ntmps153
   try go_wp2_with (first | ((with_reducible refine gB_ (N:=2) rfl ?_);refine bx_ 2 #[.slice A0_0 l0_0.length c0_0,.slice A0_1 l0_1.length c0_1] 25 ?_;intro gb1220 hg w22 hbox hb;have BK1220:=A_ hbox;have GW1220:=gw_ w hg;have GE1220:=GW1220;replace HB:=b1_ hb;clear hb hbox hg) | ((with_reducible refine gB_ (N:=3) rfl ?_);refine bx_ 3 #[.slice A1_0 l1_0.length c1_0,.slice A1_1 l1_1.length c1_1] 25 ?_;intro gb1221 hg w23 hbox hb;have BK1221:=A_ hbox;have GW1221:=gw_ w hg;have GE1221:=GW1221;replace HB:=b1_ hb;have NB1220_1221:=gN_ BK1220 hg;have NB1221_1220:=gP_ BK1220 hg;replace BK1220:=bb_ BK1220 hb;clear hb hbox hg))
   replace BK1220:=A_ (kB_ BK1220.out)
   replace BK1221:=A_ (kB_ BK1221.out)
   replace HB:=A_ (bC_ HB.out)
   refine start_ (n:=14) (S:=fun w'=>w'.cell? ⟨gb1220,0,none⟩ = some (.slice A0_0 l0_0.length c0_0)∧w'.cell? ⟨gb1220,1,none⟩ = some (.slice A0_1 l0_1.length c0_1)∧w'.cell? ⟨gb1221,0,none⟩ = some (.slice A1_0 l1_0.length c1_0)∧w'.cell? ⟨gb1221,1,none⟩ = some (.slice A1_1 l1_1.length c1_1)) (ds:=[]) (bl_ 14 0) (by kernel_rfl) rfl (by kernel_rfl) ⟨cz0_ BK1220,cz1_ BK1220,cz0_ BK1221,cz1_ BK1221⟩ (fun hHeld=>?_);refine with_tabW Z9.tab1 Z9.bits1 (fun HT_ HW_=>?_)
   generalize w23.drew = w24 at BK1220 BK1221 HB hHeld ⊢
   refine ta_ 0 (some 5) (bl_ 14 1) HT_ HW_ hHeld ?_
   refine on_ 1 (some 6) (bl_ 14 3) HT_ (fun K hK=>?_)
   refine gO_ Try.func80 #[.agg #[.slice A0_0 l0_0.length c0_0,.slice A0_1 l0_1.length c0_1]] (by rfl) rfl rfl qa_ ?_
   with_reducible refine (Z31.calls k _ _ l0_0 _ _ l0_1 true _ (cb_ HR0_0) HC0_0.out (cb_ HR0_1) HC0_1.out A3.out).mono ?_
   rintro e w25 ⟨rfl,hb⟩
   refine ⟨_,rfl,?_⟩
   replace BK1220:=bb_ BK1220 hb
   replace BK1221:=bb_ BK1221 hb
   replace HB:=b1_ hb
   clear hb
   refine hK.out _ _ ⟨cz0_ BK1220,cz1_ BK1220,cz0_ BK1221,cz1_ BK1221⟩ (fun hHeld=>?_)
   clear hK K
   refine no_ (some 6) ?_
   refine pu_ 2 (some 7) (bl_ 14 7) HT_ ?_
   refine ta_ 3 (some 8) (bl_ 14 15) HT_ HW_ hHeld ?_
   refine on_ 4 (some 9) (bl_ 14 31) HT_ (fun K hK=>?_)
   refine gO_ Try.func80 #[.agg #[.slice A1_0 l1_0.length c1_0,.slice A1_1 l1_1.length c1_1]] (by rfl) rfl rfl qa_ ?_
   with_reducible refine (Z31.calls k _ _ l1_0 _ _ l1_1 false _ (cb_ HR1_0) HC1_0.out (cb_ HR1_1) HC1_1.out A5.out).mono ?_
   rintro e w26 ⟨rfl,hb⟩
   refine ⟨_,rfl,?_⟩
   replace BK1220:=bb_ BK1220 hb
   replace BK1221:=bb_ BK1221 hb
   replace HB:=b1_ hb
   clear hb
   refine hK.out _ _ ⟨cz0_ BK1220,cz1_ BK1220,cz0_ BK1221,cz1_ BK1221⟩ (fun hHeld=>?_)
   clear hK K
   refine no_ (some 9) ?_
   refine pu_ 5 (some 10) (bl_ 14 63) HT_ ?_
   refine pu_ 6 (some 11) (bl_ 14 127) HT_ ?_
   refine pure_ (i:=7) (N:=some 12) (v:=undef) (a':=?_) (bl_ 14 255) rfl rfl (any_of HT_.out (by kernel_rfl)) (fun _ _ _ h=>h) (Or.inr ⟨by rfl,rfl⟩) ?_ ?_
   rotate_left
   ·simp only [Act.put,sA_,sB_,sC_,i64_w,i32_w]
    rfl
   refine pure_ (i:=8) (N:=some 13) (v:=undef) (a':=?_) (bl_ 14 511) rfl rfl (any_of HT_.out (by kernel_rfl)) (fun _ _ _ h=>h) (Or.inr ⟨by rfl,rfl⟩) ?_ ?_
   rotate_left
   ·simp only [Act.put,sA_,sB_,sC_,i64_w,i32_w]
    rfl
   refine pure_ (i:=9) (N:=some 14) (v:=undef) (a':=?_) (bl_ 14 1023) rfl rfl (any_of HT_.out (by kernel_rfl)) (fun _ _ _ h=>h) (Or.inr ⟨by rfl,rfl⟩) ?_ ?_
   rotate_left
   ·simp only [Act.put,sA_,sB_,sC_,i64_w,i32_w]
    rfl
   refine pure_ (i:=10) (N:=some 15) (v:=undef) (a':=?_) (bl_ 14 2047) rfl rfl (any_of HT_.out (by kernel_rfl)) (fun _ _ _ h=>h) (Or.inr ⟨by rfl,rfl⟩) ?_ ?_
   rotate_left
   ·simp only [Act.put,sA_,sB_,sC_,i64_w,i32_w]
    rfl
   refine pure_ (i:=11) (N:=some 16) (v:=undef) (a':=?_) (bl_ 14 4095) rfl rfl (any_of HT_.out (by kernel_rfl)) (fun _ _ _ h=>h) (Or.inr ⟨by rfl,rfl⟩) ?_ ?_
   rotate_left
   ·simp only [Act.put,sA_,sB_,sC_,i64_w,i32_w]
    rfl
   refine pu_ 12 (some 17) (bl_ 14 8191) HT_ ?_
   refine pu_ 13 (some 4) (bl_ 14 16383) HT_ ?_
   refine done_ (done_of HT_.out (by kernel_rfl)) ?_
   try go_wp2
   go_ret
   exact ⟨qb_,hB_⟩
 ·replace c4:=Bool.eq_false_iff.mpr c4
  subst c4
  have H1:(some false) = some r:=by rw [if_neg (show ¬ (false = true) by decide)] at H;exact H
  clear H
  have H:=H1
  clear H1
  obtain rfl:=Option.some.inj H
  go_enter Try.func153,Try.ntmps153
  try go_wp2_with (first | ((with_reducible refine gB_ (N:=2) rfl ?_);refine bx_ 2 #[.slice A0_0 l0_0.length c0_0,.slice A0_1 l0_1.length c0_1] 25 ?_;intro gb1220 hg w27 hbox hb;have BK1220:=A_ hbox;have GW1220:=gw_ w hg;have GE1220:=GW1220;replace HB:=b1_ hb;clear hb hbox hg) | ((with_reducible refine gB_ (N:=3) rfl ?_);refine bx_ 3 #[.slice A1_0 l1_0.length c1_0,.slice A1_1 l1_1.length c1_1] 25 ?_;intro gb1221 hg w28 hbox hb;have BK1221:=A_ hbox;have GW1221:=gw_ w hg;have GE1221:=GW1221;replace HB:=b1_ hb;have NB1220_1221:=gN_ BK1220 hg;have NB1221_1220:=gP_ BK1220 hg;replace BK1220:=bb_ BK1220 hb;clear hb hbox hg))
  replace BK1220:=A_ (kB_ BK1220.out)
  replace BK1221:=A_ (kB_ BK1221.out)
  replace HB:=A_ (bC_ HB.out)
  refine start_ (n:=14) (S:=fun w'=>w'.cell? ⟨gb1220,0,none⟩ = some (.slice A0_0 l0_0.length c0_0)∧w'.cell? ⟨gb1220,1,none⟩ = some (.slice A0_1 l0_1.length c0_1)) (ds:=[]) (bl_ 14 0) (by kernel_rfl) rfl (by kernel_rfl) ⟨cz0_ BK1220,cz1_ BK1220⟩ (fun hHeld=>?_);refine with_tabW Z9.tab1 Z9.bits1 (fun HT_ HW_=>?_)
  generalize w28.drew = w29 at BK1220 BK1221 HB hHeld ⊢
  refine ta_ 0 (some 5) (bl_ 14 1) HT_ HW_ hHeld ?_
  refine on_ 1 (some 6) (bl_ 14 3) HT_ (fun K hK=>?_)
  refine gO_ Try.func80 #[.agg #[.slice A0_0 l0_0.length c0_0,.slice A0_1 l0_1.length c0_1]] (by rfl) rfl rfl qa_ ?_
  with_reducible refine (Z31.calls k _ _ l0_0 _ _ l0_1 false _ (cb_ HR0_0) HC0_0.out (cb_ HR0_1) HC0_1.out A3.out).mono ?_
  rintro e w30 ⟨rfl,hb⟩
  refine ⟨_,rfl,?_⟩
  replace BK1220:=bb_ BK1220 hb
  replace BK1221:=bb_ BK1221 hb
  replace HB:=b1_ hb
  clear hb
  refine hK.out _ _ ⟨cz0_ BK1220,cz1_ BK1220⟩ (fun hHeld=>?_)
  clear hK K
  refine no_ (some 6) ?_
  refine pu_ 2 (some 7) (bl_ 14 7) HT_ ?_
  refine pure_ (i:=3) (N:=some 8) (v:=undef) (a':=?_) (bl_ 14 15) rfl rfl (any_of HT_.out (by kernel_rfl)) (fun _ _ _ h=>h) (Or.inr ⟨by rfl,rfl⟩) ?_ ?_
  rotate_left
  ·simp only [Act.put,sA_,sB_,sC_,i64_w,i32_w]
   rfl
  refine pure_ (i:=4) (N:=some 9) (v:=undef) (a':=?_) (bl_ 14 31) rfl rfl (any_of HT_.out (by kernel_rfl)) (fun _ _ _ h=>h) (Or.inr ⟨by rfl,rfl⟩) ?_ ?_
  rotate_left
  ·simp only [Act.put,sA_,sB_,sC_,i64_w,i32_w]
   rfl
  refine pu_ 5 (some 10) (bl_ 14 63) HT_ ?_
  refine pu_ 6 (some 11) (bl_ 14 127) HT_ ?_
  refine pure_ (i:=7) (N:=some 12) (v:=undef) (a':=?_) (bl_ 14 255) rfl rfl (any_of HT_.out (by kernel_rfl)) (fun _ _ _ h=>h) (Or.inr ⟨by rfl,rfl⟩) ?_ ?_
  rotate_left
  ·simp only [Act.put,sA_,sB_,sC_,i64_w,i32_w]
   rfl
  refine pure_ (i:=8) (N:=some 13) (v:=undef) (a':=?_) (bl_ 14 511) rfl rfl (any_of HT_.out (by kernel_rfl)) (fun _ _ _ h=>h) (Or.inr ⟨by rfl,rfl⟩) ?_ ?_
  rotate_left
  ·simp only [Act.put,sA_,sB_,sC_,i64_w,i32_w]
   rfl
  refine pure_ (i:=9) (N:=some 14) (v:=undef) (a':=?_) (bl_ 14 1023) rfl rfl (any_of HT_.out (by kernel_rfl)) (fun _ _ _ h=>h) (Or.inr ⟨by rfl,rfl⟩) ?_ ?_
  rotate_left
  ·simp only [Act.put,sA_,sB_,sC_,i64_w,i32_w]
   rfl
  refine pure_ (i:=10) (N:=some 15) (v:=undef) (a':=?_) (bl_ 14 2047) rfl rfl (any_of HT_.out (by kernel_rfl)) (fun _ _ _ h=>h) (Or.inr ⟨by rfl,rfl⟩) ?_ ?_
  rotate_left
  ·simp only [Act.put,sA_,sB_,sC_,i64_w,i32_w]
   rfl
  refine pure_ (i:=11) (N:=some 16) (v:=undef) (a':=?_) (bl_ 14 4095) rfl rfl (any_of HT_.out (by kernel_rfl)) (fun _ _ _ h=>h) (Or.inr ⟨by rfl,rfl⟩) ?_ ?_
  rotate_left
  ·simp only [Act.put,sA_,sB_,sC_,i64_w,i32_w]
   rfl
  refine pu_ 12 (some 17) (bl_ 14 8191) HT_ ?_
  refine pu_ 13 (some 4) (bl_ 14 16383) HT_ ?_
  refine done_ (done_of HT_.out (by kernel_rfl)) ?_
  try go_wp2
  go_ret
  exact ⟨qb_,hB_⟩
end Go.Proofs.Ytcggfjpnfodbaaa.A
end
section
/- Surfaces that are alike; surfaces that a word keeps. No conditions. -/
namespace Go.Proofs.Ytcggfjpnfodbaaa.M
set_option linter.unusedVariables false
set_option linter.unusedSimpArgs false
open Go.RowKit Go.Proofs.YtcggfjpnfodbaaaW.PrintWords Go.Proofs.YtcggfjpnfodbaaaW.PrintLast Go.Proofs.YtcggfjpnfodbaaaW.PrintMore Go.Proofs.Ytcggfjpnfodbaaa.A
theorem impl_same (a b:List Nat × List Nat) (h1:a.1.length≤1000000) (h2:a.2.length≤1000000):Ev (fun k=>Z16.f k (I a.1) (I a.2) (I b.1) (I b.2)) (decide (a = b)):=by
 unfold Z16.f
 refine Ev.bind (equal_ev a.1 b.1 (by omega)) ?_
 by_cases h:a.1 = b.1
 ·have e:decide (a = b) = decide (a.2 = b.2):=by
   rw [decide_eq_decide,Prod.ext_iff]
   simp [h]
  rw [e]
  simp only [h,decide_true,if_true]
  exact Ev.bind (equal_ev a.2 b.2 (by omega)) (Ev.now _)
 ·have e:decide (a = b) = false:=by
   rw [decide_eq_false_iff_not]
   intro e
   exact h (by rw [e])
  rw [e]
  simp only [h,decide_false,Bool.false_eq_true,if_false]
  exact Ev.now _
theorem spec_same (a b:List Nat × List Nat) (h1:a.1.length≤1000000) (h2:a.2.length≤1000000):Ev (fun k=>Z19.f k (I a.1) (I a.2) (I b.1) (I b.2)) (decide (a = b)):=by
 unfold Z19.f
 refine Ev.bind (sameList_nat a.1 b.1 (by omega)) ?_
 by_cases h:a.1 = b.1
 ·have e:decide (a = b) = decide (a.2 = b.2):=by
   rw [decide_eq_decide,Prod.ext_iff]
   simp [h]
  rw [e]
  simp only [h,decide_true,if_true]
  exact Ev.bind (sameList_nat a.2 b.2 (by omega)) (Ev.now _)
 ·have e:decide (a = b) = false:=by
   rw [decide_eq_false_iff_not]
   intro e
   exact h (by rw [e])
  rw [e]
  simp only [h,decide_false,Bool.false_eq_true,if_false]
  exact Ev.now _
theorem iso_both {s t:List Nat × List Nat} (hs:Sf s.1 s.2) (ht:Sf t.1 t.2):Ev (fun k=>Z9.f k (I s.1) (I s.2) (I t.1) (I t.2)) (decide (canS s.1 s.2 = canS t.1 t.2))∧Ev (fun k=>Z5.f k (I s.1) (I s.2) (I t.1) (I t.2)) (decide (canS s.1 s.2 = canS t.1 t.2)):=by
 have hs0:=surfB_I.mpr hs
 have ht0:=surfB_I.mpr ht
 have h1:=canK_len (r:=s.1) (u:=s.2) (s.1.length - 1)
 have l1:=hs.le
 have l2:=hs.eq
 unfold Z9.f Z5.f
 constructor
 ·refine Ev.bind (spec_surf _ _) ?_
  simp only [hs0,if_true]
  refine Ev.bind (spec_surf _ _) ?_
  simp only [ht0,if_true]
  exact Ev.bind (spec_canon hs) (Ev.bind (spec_canon ht) (Ev.bind (spec_same (canS s.1 s.2) (canS t.1 t.2) (by unfold canS;rw [h1.1];omega) (by unfold canS;rw [h1.2];omega)) (Ev.now _)))
 ·refine Ev.bind (impl_canon hs) (Ev.bind (impl_canon ht) ?_)
  simp only [if_true]
  exact Ev.bind (impl_same (canS s.1 s.2) (canS t.1 t.2) (by unfold canS;rw [h1.1];omega) (by unfold canS;rw [h1.2];omega)) (Ev.now _)
end Go.Proofs.Ytcggfjpnfodbaaa.M
end
section
namespace Go.Proofs.Ytcggfjpnfodbaaa.A
open Go.RowKit Go.Proofs.YtcggfjpnfodbaaaW.PrintWords Go.Proofs.YtcggfjpnfodbaaaW.PrintLast Go.Proofs.YtcggfjpnfodbaaaW.PrintMore
attribute [local go_sem] max2_int min2_int max_two min_two max_three min_three max_four min_four
set_option linter.unusedVariables false
set_option linter.unusedSimpArgs false
def Z63.l0:Nat→List (S25)→Int→Int→List Int→List Int→Option (Int)
 | 0,_,_,_,_,_=>none
 | k + 1,x7,x8,x9,x727000,x727001=>if x9 < x8 then (if 0≤x9 then (if x9 < (x7.length:Int) then ((Z19.f k ((rd_T25 x7 x9).f0) ((rd_T25 x7 x9).f1) x727000 x727001).bind fun t729=>(if t729 = true then (some x9) else (Z63.l0 k x7 x8 (wrap64 (x9 + 1)) x727000 x727001))) else (none)) else (none)) else (some (-1))
def Z63.f (k:Nat) (l0:List (S25)) (l1_0:List Int) (l1_1:List Int):Option (Int):=Z63.l0 k l0 (l0.length:Int) 0 l1_0 l1_1
theorem Z63.mono_l:∀ k,(∀ y0 y1 y2 y3 y4,LeO (Z63.l0 k y0 y1 y2 y3 y4) (Z63.l0 (k + 1) y0 y1 y2 y3 y4))
 | 0=>fun _ _ _ _ _ r h=>by simp [Z63.l0] at h
 | k + 1=>by
  have ih0:=Z63.mono_l k
  ·intro y0 y1 y2 y3 y4
   unfold Z63.l0
   repeat' first|exact ih0 _ _ _ _ _|exact Z19.mono _ _ _ _ _|exact lo_|refine LeO.ite ?_ ?_|refine LeO.bind ?_ (fun _=>?_)
theorem Z63.mono:∀ a0 a1 a2 k,LeO (Z63.f k a0 a1 a2) (Z63.f (k + 1) a0 a1 a2):=by
 intro a0 a1 a2 k
 have ih0:=Z63.mono_l k
 unfold Z63.f
 repeat' first|exact ih0 _ _ _ _ _|exact Z19.mono _ _ _ _ _|exact lo_|refine LeO.ite ?_ ?_|refine LeO.bind ?_ (fun _=>?_)
set_option maxHeartbeats 8000000 in
set_option maxRecDepth 100000 in
theorem Z63.calls (k:Nat) (A0:Option Addr) (c0:Nat) (l0:List (S25)) (A1_0:Option Addr) (c1_0:Nat) (l1_0:List Int) (A1_1:Option Addr) (c1_1:Nat) (l1_1:List Int) (r:Int) (w:World) (hr0:Kd.C k25 w A0 l0.length l0) (hc0:l0.length≤c0) (hr1_0:Kd.C (Kd.int .i64) w A1_0 l1_0.length l1_0) (hc1_0:l1_0.length≤c1_0) (hr1_1:Kd.C (Kd.int .i64) w A1_1 l1_1.length l1_1) (hc1_1:l1_1.length≤c1_1) (h:Z63.f k l0 l1_0 l1_1 = some r) :
  Calls Try.prog 81 #[.slice A0 l0.length c0,.agg #[.slice A1_0 l1_0.length c1_0,.slice A1_1 l1_1.length c1_1]] w fun e w'=>e = .returned (.int .i64 r)∧Below w.heap.size w w':=by
 have hu25:=Try.underlying25
 have HR0:=A_ hr0
 have HC0:=A_ hc0
 clear hr0 hc0
 have HR1_0:=A_ hr1_0
 have HC1_0:=A_ hc1_0
 clear hr1_0 hc1_0
 have HR1_1:=A_ hr1_1
 have HC1_1:=A_ hc1_1
 clear hr1_1 hc1_1
 have HB:=A_ (Below.refl w.heap.size w)
 have H:=h
 unfold Z63.f at H
 clear h
 have H':=A_ H
 clear H
 go_enter Try.func81,Try.ntmps81
 go_wp2_with (first | ((with_reducible refine gB_ (N:=3) rfl ?_);refine bx_ 3 #[.slice A1_0 l1_0.length c1_0,.slice A1_1 l1_1.length c1_1] 25 ?_;intro gb726 hg w3 hbox hb;have BK726:=A_ hbox;have GW726:=gw_ w hg;have GE726:=GW726;replace HB:=b1_ hb;clear hb hbox hg))
 go_loopg [9] k (fun kq v9 w'=>∃ (x9_1:Int),v9 = .int .i64 x9_1∧Aside0 (Z63.l0 kq l0 (l0.length:Int) x9_1 l1_0 l1_1 = some r)∧Aside0 (kq≤k)∧Aside0 (w'.heap[gb726]? = some (.cells #[(.slice A1_0 l1_0.length c1_0),(.slice A1_1 l1_1.length c1_1)] 25 (0,0)))∧Aside0 (Below w.heap.size w w'))
 case atStart=>exact ⟨(0),qc_,H',⟨nA_ _⟩,⟨(kk_ BK726)⟩,⟨hB_⟩⟩
 case round =>
  clear H'
  obtain ⟨x9_1,rfl,HA,HK1,BK726,HB⟩:=hrel
  cases gk with
  | zero=>exact absurd HA.out (by simp [Z63.l0])
  | succ k1 =>
   have H:=HA.out
   clear HA
   simp only [Z63.l0] at H
   by_cases c4:x9_1 < (l0.length:Int)
   ·rw [if_pos c4] at H
    have c4b0:=oC_ c4
    clear c4
    replace H:=cx_ H;obtain ⟨c5b0,H⟩:=H
    replace H:=cx_ H;obtain ⟨c6b0,H⟩:=H
    obtain ⟨t729,A7,H⟩:=bi_ H
    by_cases c8:t729 = true
    ·subst c8
     rw [if_pos rfl] at H
     obtain rfl:=Option.some.inj H
     have p727:0≤(x9_1:Int):=oB_ qe_
     have q727:x9_1 < (l0.length:Int):=oB_ qe_
     obtain ⟨ad727,A727_0,c727_0,A727_1,c727_1,e727,hx727_0,hx727_1,hl727_0,hi727_0,hl727_1,hi727_1⟩:=at_T25 HR0.out x9_1 p727 q727
     cases e727
     replace hx727_0:=(HB.out.cell (World.block_lt_of_cell? w _ hx727_0)).trans hx727_0
     replace hx727_1:=(HB.out.cell (World.block_lt_of_cell? w _ hx727_1)).trans hx727_1
     have HR727_0:=A_ hi727_0
     have HC727_0:=A_ hl727_0
     clear hi727_0 hl727_0
     have HR727_1:=A_ hi727_1
     have HC727_1:=A_ hl727_1
     clear hi727_1 hl727_1
     replace p727:=eq_true p727
     replace q727:=eq_true q727
     go_wp2_with (first | ((with_reducible refine gB_ (N:=6) rfl ?_);refine bx_ 6 #[.slice none 0 0,.slice none 0 0] 25 ?_;intro gb728 hg w9 hbox hb;have BK728:=A_ hbox;have GW728:=gw_ w hg;have GE728:=GW728;replace HB:=b1_ hb;have NB726_728:=gN_ BK726 hg;have NB728_726:=gP_ BK726 hg;replace BK726:=bb_ BK726 hb;clear hb hbox hg;have hnb10:=NB728_726.out;have hnc10:=NB726_728.out;obtain ⟨hcz11_0,hcz11_1,hfz11_0,hfz11_1⟩:=c2_ BK728;obtain ⟨hcz12_0,hcz12_1,hfz12_0,hfz12_1⟩:=c2_ BK726) | ((with_reducible refine gA_ (f:=118) rfl ?_);refine gL_ (some 16) Try.func118 #[.agg #[.slice A727_0 ((rd_T25 l0 x9_1).f0).length c727_0,.slice A727_1 ((rd_T25 l0 x9_1).f1).length c727_1],.agg #[.slice A1_0 l1_0.length c1_0,.slice A1_1 l1_1.length c1_1]] rfl qa_ ?_;(with_reducible refine (Z19.calls k1 _ _ ((rd_T25 l0 x9_1).f0) _ _ ((rd_T25 l0 x9_1).f1) _ _ l1_0 _ _ l1_1 true _ (cD_ HR727_0.out hB_) HC727_0.out (cD_ HR727_1.out hB_) HC727_1.out (cD_ HR1_0.out hB_) HC1_0.out (cD_ HR1_1.out hB_) HC1_1.out A7.out).mono ?_);rintro e w13 ⟨rfl,hb⟩;refine ⟨_,rfl,?_⟩;replace BK726:=A_ (kE_ (g:=gb726) (o:=.cells #[.slice A1_0 l1_0.length c1_0,.slice A1_1 l1_1.length c1_1] 25 (0,0)) (by (with_reducible repeat (first | refine kA_ ?_ _ | refine kB_ ?_ | refine kC_ ?_ _));refine blk_far ?_ NB726_728.out _;(with_reducible repeat (first | refine kA_ ?_ _ | refine kB_ ?_ | refine kC_ ?_ _));refine blk_far ?_ NB726_728.out _;(with_reducible repeat (first | refine kA_ ?_ _ | refine kB_ ?_ | refine kC_ ?_ _));exact BK726.out) hb);replace BK728:=A_ (kE_ (g:=gb728) (o:=.cells #[.slice A727_0 ((rd_T25 l0 x9_1).f0).length c727_0,.slice A727_1 ((rd_T25 l0 x9_1).f1).length c727_1] 25 (0,0)) qp_ hb);replace HB:=b1_ hb;clear hb))
     go_ret
     exact ⟨qb_,hB_⟩
    ·replace c8:=Bool.eq_false_iff.mpr c8
     subst c8
     have H1:(Z63.l0 k1 l0 (l0.length:Int) (wrap64 (x9_1 + 1)) l1_0 l1_1) = some r:=by rw [if_neg (show ¬ (false = true) by decide)] at H;exact H
     clear H
     have H:=H1
     clear H1
     have H':=A_ H
     clear H
     have p727:0≤(x9_1:Int):=oB_ qe_
     have q727:x9_1 < (l0.length:Int):=oB_ qe_
     obtain ⟨ad727,A727_0,c727_0,A727_1,c727_1,e727,hx727_0,hx727_1,hl727_0,hi727_0,hl727_1,hi727_1⟩:=at_T25 HR0.out x9_1 p727 q727
     cases e727
     replace hx727_0:=(HB.out.cell (World.block_lt_of_cell? w _ hx727_0)).trans hx727_0
     replace hx727_1:=(HB.out.cell (World.block_lt_of_cell? w _ hx727_1)).trans hx727_1
     have HR727_0:=A_ hi727_0
     have HC727_0:=A_ hl727_0
     clear hi727_0 hl727_0
     have HR727_1:=A_ hi727_1
     have HC727_1:=A_ hl727_1
     clear hi727_1 hl727_1
     replace p727:=eq_true p727
     replace q727:=eq_true q727
     go_wp2_with (first | ((with_reducible refine gB_ (N:=6) rfl ?_);refine bx_ 6 #[.slice none 0 0,.slice none 0 0] 25 ?_;intro gb728 hg w14 hbox hb;have BK728:=A_ hbox;have GW728:=gw_ w hg;have GE728:=GW728;replace HB:=b1_ hb;have NB726_728:=gN_ BK726 hg;have NB728_726:=gP_ BK726 hg;replace BK726:=bb_ BK726 hb;clear hb hbox hg;have hnb15:=NB728_726.out;have hnc15:=NB726_728.out;obtain ⟨hcz16_0,hcz16_1,hfz16_0,hfz16_1⟩:=c2_ BK728;obtain ⟨hcz17_0,hcz17_1,hfz17_0,hfz17_1⟩:=c2_ BK726) | ((with_reducible refine gA_ (f:=118) rfl ?_);refine gL_ (some 16) Try.func118 #[.agg #[.slice A727_0 ((rd_T25 l0 x9_1).f0).length c727_0,.slice A727_1 ((rd_T25 l0 x9_1).f1).length c727_1],.agg #[.slice A1_0 l1_0.length c1_0,.slice A1_1 l1_1.length c1_1]] rfl qa_ ?_;(with_reducible refine (Z19.calls k1 _ _ ((rd_T25 l0 x9_1).f0) _ _ ((rd_T25 l0 x9_1).f1) _ _ l1_0 _ _ l1_1 false _ (cD_ HR727_0.out hB_) HC727_0.out (cD_ HR727_1.out hB_) HC727_1.out (cD_ HR1_0.out hB_) HC1_0.out (cD_ HR1_1.out hB_) HC1_1.out A7.out).mono ?_);rintro e w18 ⟨rfl,hb⟩;refine ⟨_,rfl,?_⟩;replace BK726:=A_ (kE_ (g:=gb726) (o:=.cells #[.slice A1_0 l1_0.length c1_0,.slice A1_1 l1_1.length c1_1] 25 (0,0)) (by (with_reducible repeat (first | refine kA_ ?_ _ | refine kB_ ?_ | refine kC_ ?_ _));refine blk_far ?_ NB726_728.out _;(with_reducible repeat (first | refine kA_ ?_ _ | refine kB_ ?_ | refine kC_ ?_ _));refine blk_far ?_ NB726_728.out _;(with_reducible repeat (first | refine kA_ ?_ _ | refine kB_ ?_ | refine kC_ ?_ _));exact BK726.out) hb);replace BK728:=A_ (kE_ (g:=gb728) (o:=.cells #[.slice A727_0 ((rd_T25 l0 x9_1).f0).length c727_0,.slice A727_1 ((rd_T25 l0 x9_1).f1).length c727_1] 25 (0,0)) qp_ hb);replace HB:=b1_ hb;clear hb))
     go_roundg k1
     case measure=>have:=HK1.out;omega
     case rel=>exact ⟨(wrap64 (x9_1 + 1)),qc_,H',⟨by have:=HK1.out;omega⟩,⟨(kk_ BK726)⟩,⟨hB_⟩⟩
   ·rw [if_neg c4] at H
    have c4b0:=oD_ c4
    clear c4
    obtain rfl:=Option.some.inj H
    go_wp2
    go_ret
    exact ⟨qb_,hB_⟩
end Go.Proofs.Ytcggfjpnfodbaaa.A
end
section
namespace Go.Proofs.Ytcggfjpnfodbaaa.A
open Go.RowKit Go.Proofs.YtcggfjpnfodbaaaW.PrintWords Go.Proofs.YtcggfjpnfodbaaaW.PrintLast Go.Proofs.YtcggfjpnfodbaaaW.PrintMore
attribute [local go_sem] max2_int min2_int max_two min_two max_three min_three max_four min_four
set_option linter.unusedVariables false
set_option linter.unusedSimpArgs false
mutual
def Z49.l0:Nat→List (S25)→List ByteArray→Int→Option ((List (S25)) × List ByteArray × Bool)
 | 0,_,_,_=>none
 | k + 1,x5,x6,x7=>if x7 < (x5.length:Int) then ((some (([84,83]:List Int):List Int)).bind fun y882=>(Z49.l1 k x5 x6 x7 y882 (y882.length:Int) 0)) else (some (x5,x6,true))
def Z49.l1:Nat→List (S25)→List ByteArray→Int→List Int→Int→Int→Option ((List (S25)) × List ByteArray × Bool)
 | 0,_,_,_,_,_,_=>none
 | k + 1,x5,x6,x7,x21,x22,x23=>if x23 < x22 then (if 0≤x23 then (if x23 < (x21.length:Int) then (if 0≤x7 then (if x7 < (x5.length:Int) then ((Z35.f k ((rd_T25 x5 x7).f0) ((rd_T25 x5 x7).f1) (rd x21 x23)).bind fun bt887=>((Z46.f k bt887.1 bt887.2).bind fun bt893=>((Z63.f k x5 bt893.1 bt893.2).bind fun t900=>(if t900 < 0 then (if x5.length < 2932031007402 then (if x7 < (x6.length:Int) then ((some (([rd x21 x23]:List Int):List Int)).bind fun y905=>(if (rdOf ByteArray.empty x6 x7).size + (strOfNums y905).size≤9223372036854775807 then (if x6.length < 8796093022208 then (Z49.l1 k (x5 ++ [(⟨bt893.1,bt893.2⟩:S25)]) (x6 ++ [(rdOf ByteArray.empty x6 x7) ++ (strOfNums y905)]) x7 x21 x22 (wrap64 (x23 + 1))) else (none)) else (none))) else (none)) else (none)) else (Z49.l1 k x5 x6 x7 x21 x22 (wrap64 (x23 + 1))))))) else (none)) else (none)) else (none)) else (none)) else (if (x5.length:Int) > 120 then (some (([]:List (S25)),([]:List ByteArray),false)) else (Z49.l0 k x5 x6 (wrap64 (x7 + 1))))
end
def Z49.f (k:Nat) (l0_0:List Int) (l0_1:List Int):Option ((List (S25)) × List ByteArray × Bool):=(Z46.f k l0_0 l0_1).bind fun bt870=>(Z49.l0 k (([(⟨bt870.1,bt870.2⟩:S25)]:List (S25))) (([(⟨#[]⟩:ByteArray)]:List ByteArray)) 0)
theorem Z49.mono_l:∀ k,(∀ y0 y1 y2,LeO (Z49.l0 k y0 y1 y2) (Z49.l0 (k + 1) y0 y1 y2))∧(∀ y0 y1 y2 y3 y4 y5,LeO (Z49.l1 k y0 y1 y2 y3 y4 y5) (Z49.l1 (k + 1) y0 y1 y2 y3 y4 y5))
 | 0=>⟨fun _ _ _ r h=>by simp [Z49.l0] at h,fun _ _ _ _ _ _ r h=>by simp [Z49.l1] at h⟩
 | k + 1=>by
  obtain ⟨ih0,ih1⟩:=Z49.mono_l k
  refine ⟨?_,?_⟩
  ·intro y0 y1 y2
   unfold Z49.l0
   repeat' first|exact ih0 _ _ _|exact ih1 _ _ _ _ _ _|exact Z46.mono _ _ _|exact Z35.mono _ _ _ _|exact Z63.mono _ _ _ _|exact lo_|refine LeO.ite ?_ ?_|refine LeO.bind ?_ (fun _=>?_)
  ·intro y0 y1 y2 y3 y4 y5
   unfold Z49.l1
   repeat' first|exact ih0 _ _ _|exact ih1 _ _ _ _ _ _|exact Z46.mono _ _ _|exact Z35.mono _ _ _ _|exact Z63.mono _ _ _ _|exact lo_|refine LeO.ite ?_ ?_|refine LeO.bind ?_ (fun _=>?_)
theorem Z49.mono:∀ a0 a1 k,LeO (Z49.f k a0 a1) (Z49.f (k + 1) a0 a1):=by
 intro a0 a1 k
 obtain ⟨ih0,ih1⟩:=Z49.mono_l k
 unfold Z49.f
 repeat' first|exact ih0 _ _ _|exact ih1 _ _ _ _ _ _|exact Z46.mono _ _ _|exact Z35.mono _ _ _ _|exact Z63.mono _ _ _ _|exact lo_|refine LeO.ite ?_ ?_|refine LeO.bind ?_ (fun _=>?_)
def Z49.T12:Bool × List (List Nat × List Nat):=(true,[([],[]),([],[]),([],[]),([1,2],[1,2]),([3],[3]),([],[]),([5],[5]),([6],[6]),([4,7],[4,7]),([8],[8]),([0,9],[0,9]),([10,10,0,1,2,3,4,5,6,7,8,9,10],[0,1,10])])
def Z49.B12:List Nat:=[0,0,0,6,14,0,32,96,254,510,1023,2047]
theorem Z49.tab12:rtab .any (opsOf Try.f84 12) = Z49.T12:=by kernel_rfl
theorem Z49.bits12:waitsOk Z49.T12.2 Z49.B12 = true:=by kernel_rfl
set_option maxHeartbeats 8000000 in
set_option maxRecDepth 100000 in
theorem Z49.calls (k:Nat) (A0_0:Option Addr) (c0_0:Nat) (l0_0:List Int) (A0_1:Option Addr) (c0_1:Nat) (l0_1:List Int) (r1:List (S25)) (r2:List ByteArray) (r3:Bool) (w:World) (hr0_0:Kd.C (Kd.int .i64) w A0_0 l0_0.length l0_0) (hc0_0:l0_0.length≤c0_0) (hr0_1:Kd.C (Kd.int .i64) w A0_1 l0_1.length l0_1) (hc0_1:l0_1.length≤c0_1) (h:Z49.f k l0_0 l0_1 = some (r1,r2,r3)) :
  Calls Try.prog 84 #[.agg #[.slice A0_0 l0_0.length c0_0,.slice A0_1 l0_1.length c0_1]] w fun e w'=>∃ v0_ v1_:Value,e = .returned (.tuple #[v0_,v1_,.bool r3])∧Kd.N k25 25 w' w.heap.size (fun k_=>(w.heap.size≤k_)∧some k_≠(v1_:Value).ownBlock) v0_ r1∧Kd.R Kd.string 9 w' w.heap.size (fun k_=>(w.heap.size≤k_)) v1_ r2∧Below w.heap.size w w':=by
 have hu25:=Try.underlying25
 have HR0_0:=A_ hr0_0
 have HC0_0:=A_ hc0_0
 clear hr0_0 hc0_0
 have HR0_1:=A_ hr0_1
 have HC0_1:=A_ hc0_1
 clear hr0_1 hc0_1
 have HB:=A_ (Below.refl w.heap.size w)
 have H:=h
 unfold Z49.f at H
 clear h
 obtain ⟨⟨t870,t873⟩,A2,H⟩:=bi_ H
 try dsimp only at H
 obtain ⟨y876,hy876⟩:∃ y_:List (S25),y_ = (([(⟨t870,t873⟩:S25)]:List (S25))):=⟨_,rfl⟩
 replace H:(Z49.l0 k y876 (([(⟨#[]⟩:ByteArray)]:List ByteArray)) 0) = some (r1,r2,r3):=by first | (rw [hy876];exact H) | exact H
 have Ny876:=A_ hy876
 clear hy876
 obtain ⟨y879,hy879⟩:∃ y_:List ByteArray,y_ = (([(⟨#[]⟩:ByteArray)]:List ByteArray)):=⟨_,rfl⟩
 replace H:(Z49.l0 k y876 y879 0) = some (r1,r2,r3):=by first | (rw [hy879];exact H) | exact H
 have Ny879:=A_ hy879
 clear hy879
 have H':=A_ H
 clear H
 go_enter Try.func84,Try.ntmps84
 go_wp2_with (first | ((with_reducible refine gB_ (N:=1) rfl ?_);refine bx_ 1 #[.slice A0_0 l0_0.length c0_0,.slice A0_1 l0_1.length c0_1] 25 ?_;intro gb869 hg w3 hbox hb;have BK869:=A_ hbox;have GW869:=gw_ w hg;have GE869:=GW869;replace HB:=b1_ hb;clear hb hbox hg;obtain ⟨hcz4_0,hcz4_1,hfz4_0,hfz4_1⟩:=c2_ BK869) | ((with_reducible refine gA_ (f:=82) rfl ?_);refine gL_ (some 12) Try.func82 #[.agg #[.slice A0_0 l0_0.length c0_0,.slice A0_1 l0_1.length c0_1]] rfl qa_ ?_;(with_reducible refine (Z46.calls k _ _ l0_0 _ _ l0_1 t870 t873 _ (cb_ HR0_0) HC0_0.out (cb_ HR0_1) HC0_1.out A2.out).mono ?_);rintro e w5 ⟨v871,v874,rfl,ho0,ho1,hb⟩;refine ⟨_,rfl,?_⟩;have HO872:=A_ (rE_ (Kd.R_newM (M:=fun k_=>(w.heap.size≤k_)) ho0 (bF_ hB_) (fun k_ h_=>h_)) (bF_ hB_));have HO875:=A_ (rE_ (Kd.R_newM (M:=fun k_=>(w.heap.size≤k_)) ho1 (bF_ hB_) (fun k_ h_=>h_)) (bF_ hB_));replace BK869:=bb_ BK869 hb;replace HB:=b1_ hb;clear hb ho0 ho1;obtain ⟨Ao6,co6,eo6⟩:=Kd.R_slice HO872.out;subst eo6;obtain ⟨Ao7,co7,eo7⟩:=Kd.R_slice HO875.out;subst eo7) | ((with_reducible refine gB_ (N:=13) rfl ?_);refine Kd.N_lit k25 _ 25 ?hg (N':=13) ?hd (xs:=([(⟨t870,t873⟩:S25)]:List (S25))) (inner:=[.slice Ao6 t870.length co6,.slice Ao7 t873.length co7]) (ok:=(fun k_=>(w.heap.size≤k_)∧k_≠gb869)) (okp:=(fun k_=>(w.heap.size≤k_)∧k_≠gb869)) ?hr ?hp (fun _ hk=>hk) ((show ∀ k_,w5.heap.size≤k_→(fun k_=>(w.heap.size≤k_)∧k_≠gb869) k_ from fun k_ hk=>⟨(Nat.le_trans (bF_ hB_) hk),Kd.freshB (kk_ BK869) k_ hk⟩) _ (nA_ _)) (Below.refl _ _) (nA_ _) (by simp) ?_;(case hd=>rfl);(case hg=>rfl);(case hr=>first | (go_simp;done) | (go_simp;rfl));(case hp=>exact (Reps.c2 (show Kd.FK k25 _ _ (⟨t870,t873⟩:S25) [.slice Ao6 t870.length co6,.slice Ao7 t873.length co7] from (k25_mkF _ _ (⟨t870,t873⟩:S25) (Kd.R_reads' (Kd.R_mono (ok':=(fun k_=>(w.heap.size≤k_)∧k_≠gb869)) (Kd.R_types (HO872.out) BK869.out (by decide)) (fun k_ hk=>⟨hk.1.1,hk.2⟩))).2.1 (Kd.R_F (Kd.R_mono (ok':=(fun k_=>(w.heap.size≤k_)∧k_≠gb869)) (Kd.R_types (HO872.out) BK869.out (by decide)) (fun k_ hk=>⟨hk.1.1,hk.2⟩))) (Kd.R_reads' (Kd.R_mono (ok':=(fun k_=>(w.heap.size≤k_)∧k_≠gb869)) (Kd.R_types (HO875.out) BK869.out (by decide)) (fun k_ hk=>⟨hk.1.1,hk.2⟩))).2.1 (Kd.R_F (Kd.R_mono (ok':=(fun k_=>(w.heap.size≤k_)∧k_≠gb869)) (Kd.R_types (HO875.out) BK869.out (by decide)) (fun k_ hk=>⟨hk.1.1,hk.2⟩))))) (Reps.none _ _)));intro v877 w8 ho9 hb hg_ hnew_;clear hg_ hnew_;(first | rw [← Ny876.out] at ho9 | (simp only [Int.reduceToNat] at ho9;rw [← Ny876.out] at ho9));have HO878:=A_ (Kd.N_lower ho9 (bF_ hB_));replace BK869:=bb_ BK869 hb;replace HB:=b1_ hb;clear HO872 HO875;clear hb ho9) | ((with_reducible refine gB_ (N:=14) rfl ?_);refine Kd.R_lit Kd.string _ 9 ?hg (N:=14) ?hd (xs:=([(⟨#[]⟩:ByteArray)]:List ByteArray)) (inner:=[.string (⟨#[]⟩:ByteArray)]) (ok:=fun _=>True) (okp:=fun _=>True) ?hr ?hp (fun _ hk=>hk) trivial (Below.refl _ _) (nA_ _) (by simp) ?_;(case hd=>rfl);(case hg=>rfl);(case hr=>first | (go_simp;done) | (go_simp;rfl));(case hp=>exact (Reps.one (show Kd.M Kd.string _ _ _ (⟨#[]⟩:ByteArray) [.string (⟨#[]⟩:ByteArray)] from rfl) (Reps.none _ _)));intro v880 w10 ho11 hb hg_ hnew_;clear hg_ hnew_;(first | rw [← Ny879.out] at ho11 | (simp only [Int.reduceToNat] at ho11;rw [← Ny879.out] at ho11));replace HO878:=A_ (Kd.N_elder' (by (with_reducible repeat (first | apply Kd.N_alloc | apply Kd.N_drewN | apply Kd.N_drew));exact HO878.out) (Kd.R_base ho11) hb);have HO881:=A_ (rE_ (Kd.R_newM (M:=fun k_=>(w.heap.size≤k_)) ho11 (bF_ hB_) (fun k_ h_=>h_)) (bF_ hB_));replace BK869:=bb_ BK869 hb;replace HB:=b1_ hb;clear hb ho11))
 go_loopg [5,6,7] k (fun kq v5 v6 v7 w'=>∃ (x5_1:List (S25)) (x6_1:List ByteArray) (x7_1:Int),v7 = .int .i64 x7_1∧Aside0 (Z49.l0 kq x5_1 x6_1 x7_1 = some (r1,r2,r3))∧Aside0 (kq≤k)∧Aside0 (Kd.N k25 25 w' w.heap.size (fun k_=>(w.heap.size≤k_)∧some k_≠(v6:Value).ownBlock∧k_≠gb869) v5 x5_1)∧Aside0 (Kd.R Kd.string 9 w' w.heap.size (fun k_=>(w.heap.size≤k_)) v6 x6_1)∧Aside0 (w'.heap[gb869]? = some (.cells #[(.slice A0_0 l0_0.length c0_0),(.slice A0_1 l0_1.length c0_1)] 25 (0,0)))∧Aside0 (Below w.heap.size w w'))
 case atStart=>exact ⟨(y876),(y879),(0),qc_,H',⟨nA_ _⟩,⟨by (with_reducible repeat (first | apply Kd.N_alloc | apply Kd.N_drewN | apply Kd.N_drew));exact Kd.N_mono HO878.out (fun _ hk=>⟨hk.1.1,⟨hk.2,hk.1.2⟩⟩)⟩,⟨(rw_ (Kd.R_mono HO881.out (fun _ hk=>hk.1)))⟩,⟨(kk_ BK869)⟩,⟨hB_⟩⟩
 case round =>
  clear H'
  obtain ⟨x5_1,x6_1,x7_1,rfl,HA,HK1,HO_5,HO_6,BK869,HB⟩:=hrel
  cases gk with
  | zero=>exact absurd HA.out (by simp [Z49.l0])
  | succ k1 =>
   have H:=HA.out
   clear HA
   simp only [Z49.l0] at H
   by_cases c12:x7_1 < (x5_1.length:Int)
   ·rw [if_pos c12] at H
    have c12b0:=oC_ c12
    clear c12
    obtain ⟨y882,hy882⟩:∃ y_:List Int,y_ = (([84,83]:List Int)):=⟨_,rfl⟩
    replace H:(Z49.l1 k1 x5_1 x6_1 x7_1 y882 (y882.length:Int) 0) = some (r1,r2,r3):=by first | (rw [hy882];exact H) | exact H
    have Ny882:=A_ hy882
    clear hy882
    have H':=A_ H
    clear H
    obtain ⟨Ao13,co13,eo13⟩:=Kd.N_slice HO_5.out
    subst eo13
    go_wp2_with (first | ((with_reducible refine gB_ (N:=21) rfl ?_);refine Kd.R_lit (Kd.int .u8) _ 5 ?hg (N:=21) ?hd (xs:=([84,83]:List Int)) (inner:=[.int .u8 84,.int .u8 83]) (ok:=fun _=>True) (okp:=fun _=>True) ?hr ?hp (fun _ hk=>hk) trivial (Below.refl _ _) (nA_ _) (by simp) ?_;(case hd=>rfl);(case hg=>rfl);(case hr=>first | (go_simp;done) | (go_simp;rfl));(case hp=>exact (Reps.one (show Kd.M (Kd.int .u8) _ _ _ 84 [.int .u8 84] from rfl) (Reps.one (show Kd.M (Kd.int .u8) _ _ _ 83 [.int .u8 83] from rfl) (Reps.none _ _))));intro v883 w14 ho15 hb hg_ hnew_;clear hg_ hnew_;(first | rw [← Ny882.out] at ho15 | (simp only [Int.reduceToNat] at ho15;rw [← Ny882.out] at ho15));replace HO_5:=A_ (Kd.N_elder' (by (with_reducible repeat (first | apply Kd.N_alloc | apply Kd.N_drewN | apply Kd.N_drew));exact HO_5.out) (Kd.R_base ho15) hb);replace HO_6:=rb_ HO_6 hb;have HO884:=A_ (rE_ (Kd.R_newM (M:=fun k_=>(w.heap.size≤k_)) ho15 (bF_ hB_) (fun k_ h_=>h_)) (bF_ hB_));replace BK869:=bb_ BK869 hb;replace HB:=b1_ hb;clear hb ho15;obtain ⟨Ao16,co16,eo16⟩:=Kd.R_slice HO884.out;subst eo16))
    go_loopg [5,6,23] k1 (fun kq v5 v6 v23 w'=>∃ (x5_2:List (S25)) (x6_2:List ByteArray) (x23_2:Int),v23 = .int .i64 x23_2∧Aside0 (Z49.l1 kq x5_2 x6_2 x7_1 y882 (y882.length:Int) x23_2 = some (r1,r2,r3))∧Aside0 (kq≤k1)∧Aside0 (Kd.N k25 25 w' w.heap.size (fun k_=>(w.heap.size≤k_)∧some k_≠(v6:Value).ownBlock∧some k_≠((.slice Ao16 y882.length co16):Value).ownBlock∧k_≠gb869) v5 x5_2)∧Aside0 (Kd.R Kd.string 9 w' w.heap.size (fun k_=>(w.heap.size≤k_)) v6 x6_2)∧Aside0 (Kd.R (Kd.int .u8) 5 w' w.heap.size (fun k_=>(w.heap.size≤k_)) (.slice Ao16 y882.length co16) y882)∧Aside0 (w'.heap[gb869]? = some (.cells #[(.slice A0_0 l0_0.length c0_0),(.slice A0_1 l0_1.length c0_1)] 25 (0,0)))∧Aside0 (Below w.heap.size w w'))
    case atStart=>exact ⟨(x5_1),(x6_1),(0),qc_,H',⟨nA_ _⟩,⟨by (with_reducible repeat (first | apply Kd.N_alloc | apply Kd.N_drewN | apply Kd.N_drew));exact Kd.N_mono HO_5.out (fun _ hk=>⟨hk.1.1,⟨hk.1.2.1,⟨hk.2,hk.1.2.2⟩⟩⟩)⟩,⟨(rr_ HO_6)⟩,⟨(rw_ (Kd.R_mono HO884.out (fun _ hk=>hk.1)))⟩,⟨(kk_ BK869)⟩,⟨hB_⟩⟩
    case round =>
     clear H'
     obtain ⟨x5_2,x6_2,x23_2,rfl,HA,HK2,HO_5,HO_6,HO_21,BK869,HB⟩:=hrel
     cases gk with
     | zero=>exact absurd HA.out (by simp [Z49.l1])
     | succ k2 =>
      have H:=HA.out
      clear HA
      simp only [Z49.l1] at H
      by_cases c17:x23_2 < (y882.length:Int)
      ·rw [if_pos c17] at H
       have c17b0:=oC_ c17
       clear c17
       replace H:=cx_ H;obtain ⟨c18b0,H⟩:=H
       replace H:=cx_ H;obtain ⟨c19b0,H⟩:=H
       replace H:=cx_ H;obtain ⟨c20b0,H⟩:=H
       replace H:=cx_ H;obtain ⟨c21b0,H⟩:=H
       obtain ⟨⟨t887,t890⟩,A22,H⟩:=bi_ H
       try dsimp only at H
       obtain ⟨⟨t893,t896⟩,A23,H⟩:=bi_ H
       try dsimp only at H
       obtain ⟨t900,A24,H⟩:=bi_ H
       by_cases c25:t900 < 0
       ·rw [if_pos c25] at H
        have c25b0:=oC_ c25
        clear c25
        have c26:=cp_ H
        replace H:=ca_ H
        have LMc26:=A_ c26
        clear c26
        obtain ⟨y901,hy901⟩:∃ y_:List (S25),y_ = (x5_2 ++ [(⟨t893,t896⟩:S25)]):=⟨_,rfl⟩
        replace H:(if x7_1 < (x6_2.length:Int) then ((some (([rd y882 x23_2]:List Int):List Int)).bind fun y905=>(if (rdOf ByteArray.empty x6_2 x7_1).size + (strOfNums y905).size≤9223372036854775807 then (if x6_2.length < 8796093022208 then (Z49.l1 k2 y901 (x6_2 ++ [(rdOf ByteArray.empty x6_2 x7_1) ++ (strOfNums y905)]) x7_1 y882 (y882.length:Int) (wrap64 (x23_2 + 1))) else (none)) else (none))) else (none)) = some (r1,r2,r3):=by first | (rw [hy901];exact H) | exact H
        have Ny901:=A_ hy901
        clear hy901
        replace H:=cx_ H;obtain ⟨c27b0,H⟩:=H
        obtain ⟨y905,hy905⟩:∃ y_:List Int,y_ = (([rd y882 x23_2]:List Int)):=⟨_,rfl⟩
        replace H:(if (rdOf ByteArray.empty x6_2 x7_1).size + (strOfNums y905).size≤9223372036854775807 then (if x6_2.length < 8796093022208 then (Z49.l1 k2 y901 (x6_2 ++ [(rdOf ByteArray.empty x6_2 x7_1) ++ (strOfNums y905)]) x7_1 y882 (y882.length:Int) (wrap64 (x23_2 + 1))) else (none)) else (none)) = some (r1,r2,r3):=by first | (rw [hy905];exact H) | exact H
        have Ny905:=A_ hy905
        clear hy905
        have c28:=cp_ H
        replace H:=ca_ H
        have c28b0:=eq_true c28
        have c28b1:=oC_ c28
        try have c28b2:(9223372036854775807 < (rdOf ByteArray.empty x6_2 x7_1).size + (strOfNums y905).size) = False:=eq_false (Nat.not_lt.2 c28)
        have c29:=cp_ H
        replace H:=ca_ H
        have LMc29:=A_ c29
        clear c29
        obtain ⟨y908,hy908⟩:∃ y_:List ByteArray,y_ = (x6_2 ++ [(rdOf ByteArray.empty x6_2 x7_1) ++ (strOfNums y905)]):=⟨_,rfl⟩
        replace H:(Z49.l1 k2 y901 y908 x7_1 y882 (y882.length:Int) (wrap64 (x23_2 + 1))) = some (r1,r2,r3):=by first | (rw [hy908];exact H) | exact H
        have Ny908:=A_ hy908
        clear hy908
        have H':=A_ H
        clear H
        have p885:0≤(x23_2:Int):=oB_ qe_
        have q885:x23_2 < (y882.length:Int):=oB_ qe_
        obtain ⟨ad885,e885,hx885_0⟩:=Kd.at_int (Kd.R_reads' HO_21.out).2.2 x23_2 p885 q885
        cases e885
        replace p885:=eq_true p885
        replace q885:=eq_true q885
        obtain ⟨Ao30,co30,eo30⟩:=Kd.N_slice HO_5.out
        subst eo30
        have p886:0≤(x7_1:Int):=oB_ qe_
        have q886:x7_1 < (x5_2.length:Int):=oB_ qe_
        obtain ⟨ad886,A886_0,c886_0,A886_1,c886_1,e886,hx886_0,hx886_1,hl886_0,hi886_0,hl886_1,hi886_1⟩:=at_T25 (Kd.N_reads' HO_5.out).2.2 x7_1 p886 q886
        cases e886
        obtain ⟨ce886,hce886,hMe886,hcc886⟩:=Kd.N_get HO_5.out z25 x7_1 p886 (by first | exact q886 | exact oB_ qe_ | (have e_:=(Kd.N_reads' HO_5.out).1;omega))
        obtain ⟨ua886_0,uc886_0,ua886_1,uc886_1,rfl,ul886_0,ge886_0,ul886_1,ge886_1⟩:=k25_openF hMe886
        have hv886_0:=hcc886 0 _ rfl
        rw [Nat.add_zero] at hv886_0
        replace hv886_0:=Option.some.inj (hv886_0.symm.trans hx886_0)
        injection hv886_0 with hva_ hvn_ hvc_
        rw [hva_] at ge886_0
        rw [hvc_] at ul886_0
        have HL886_0:=A_ (show Kd.V (Kd.int .i64) 3 _ w.heap.size _ _ ((rd_T25 x5_2 x7_1).f0) from Kd.V_mk ul886_0 ge886_0)
        clear hva_ hvn_ hvc_ ge886_0 ul886_0
        have hv886_1:=hcc886 1 _ rfl
        rw [add_field _ _ 1 (by omega)] at hv886_1
        replace hv886_1:=Option.some.inj (hv886_1.symm.trans hx886_1)
        injection hv886_1 with hva_ hvn_ hvc_
        rw [hva_] at ge886_1
        rw [hvc_] at ul886_1
        have HL886_1:=A_ (show Kd.V (Kd.int .i64) 3 _ w.heap.size _ _ ((rd_T25 x5_2 x7_1).f1) from Kd.V_mk ul886_1 ge886_1)
        clear hva_ hvn_ hvc_ ge886_1 ul886_1
        clear hcc886 hce886
        have HR886_0:=A_ hi886_0
        have HC886_0:=A_ hl886_0
        clear hi886_0 hl886_0
        have HR886_1:=A_ hi886_1
        have HC886_1:=A_ hl886_1
        clear hi886_1 hl886_1
        replace p886:=eq_true p886
        replace q886:=eq_true q886
        try go_wp2_with (first | ((with_reducible refine gA_ (f:=87) rfl ?_);refine gL_ (some 32) Try.func87 #[.agg #[.slice A886_0 ((rd_T25 x5_2 x7_1).f0).length c886_0,.slice A886_1 ((rd_T25 x5_2 x7_1).f1).length c886_1],.int .u8 (rd y882 x23_2)] rfl qa_ ?_;(with_reducible refine (Z35.calls k2 _ _ ((rd_T25 x5_2 x7_1).f0) _ _ ((rd_T25 x5_2 x7_1).f1) (rd y882 x23_2) t887 t890 _ ?side1 ?side2 ?side3 ?side4 A22.out).mono ?_);(case side1=>repeat (first | exact (by repeat (first | (with_reducible exact HR886_0.out) | (with_reducible refine cA_ ?_ _) | (with_reducible refine cB_ ?_ _) | (with_reducible refine cC_ ?_) | exact HR886_0.out)) | (with_reducible first | refine cA_ ?_ _ | refine cB_ ?_ _ | refine cC_ ?_)));(case side2=>exact HC886_0.out);(case side3=>repeat (first | exact (by repeat (first | (with_reducible exact HR886_1.out) | (with_reducible refine cA_ ?_ _) | (with_reducible refine cB_ ?_ _) | (with_reducible refine cC_ ?_) | exact HR886_1.out)) | (with_reducible first | refine cA_ ?_ _ | refine cB_ ?_ _ | refine cC_ ?_)));(case side4=>exact HC886_1.out);rintro e w31 ⟨v888,v891,rfl,ho0,ho1,hb⟩;refine ⟨_,rfl,?_⟩;replace HO_5:=A_ (Kd.N_mono (Kd.N_told (Kd.N_told (Kd.N_old (by (with_reducible repeat (first | apply Kd.N_alloc | apply Kd.N_drewN | apply Kd.N_drew));exact HO_5.out) hb) (Kd.R_base ho0)) (Kd.R_base ho1)) (fun _ h_=>h_.1));replace HO_6:=rb_ HO_6 hb;replace HO_21:=rb_ HO_21 hb;replace HL886_0:=A_ (Kd.V_mono (Kd.V_told (Kd.V_told (Kd.V_old (by (with_reducible repeat (first | apply Kd.V_alloc | apply Kd.V_drewN | apply Kd.V_drew));exact HL886_0.out) hb) (Kd.R_base ho0)) (Kd.R_base ho1)) (fun _ h_=>h_.1));replace HL886_1:=A_ (Kd.V_mono (Kd.V_told (Kd.V_told (Kd.V_old (by (with_reducible repeat (first | apply Kd.V_alloc | apply Kd.V_drewN | apply Kd.V_drew));exact HL886_1.out) hb) (Kd.R_base ho0)) (Kd.R_base ho1)) (fun _ h_=>h_.1));have HO889:=A_ (rE_ (Kd.R_newM (M:=fun k_=>(w.heap.size≤k_)) ho0 (bF_ hB_) (fun k_ h_=>h_)) (bF_ hB_));have HO892:=A_ (rE_ (Kd.R_newM (M:=fun k_=>(w.heap.size≤k_)) ho1 (bF_ hB_) (fun k_ h_=>h_)) (bF_ hB_));replace BK869:=bb_ BK869 hb;replace HR886_0:=A_ (cD_ (by repeat (first | (with_reducible exact HR886_0.out) | (with_reducible refine cA_ ?_ _) | (with_reducible refine cB_ ?_ _) | (with_reducible refine cC_ ?_) | exact HR886_0.out)) hb);replace HR886_1:=A_ (cD_ (by repeat (first | (with_reducible exact HR886_1.out) | (with_reducible refine cA_ ?_ _) | (with_reducible refine cB_ ?_ _) | (with_reducible refine cC_ ?_) | exact HR886_1.out)) hb);replace HB:=b1_ hb;clear hb ho0 ho1;obtain ⟨Ao32,co32,eo32⟩:=Kd.R_slice HO889.out;subst eo32;obtain ⟨Ao33,co33,eo33⟩:=Kd.R_slice HO892.out;subst eo33) | ((with_reducible refine gA_ (f:=82) rfl ?_);refine gL_ (some 33) Try.func82 #[.agg #[.slice Ao32 t887.length co32,.slice Ao33 t890.length co33]] rfl qa_ ?_;(with_reducible refine (Z46.calls k2 _ _ t887 _ _ t890 t893 t896 _ (cr_ HO889) ((Kd.R_reads' HO889.out).2.1) (cr_ HO892) ((Kd.R_reads' HO892.out).2.1) A23.out).mono ?_);rintro e w34 ⟨v894,v897,rfl,ho0,ho1,hb⟩;refine ⟨_,rfl,?_⟩;replace HO_5:=A_ (Kd.N_mono (Kd.N_told (Kd.N_told (Kd.N_old (by (with_reducible repeat (first | apply Kd.N_alloc | apply Kd.N_drewN | apply Kd.N_drew));exact HO_5.out) hb) (Kd.R_base ho0)) (Kd.R_base ho1)) (fun _ h_=>h_.1));replace HO_6:=rb_ HO_6 hb;replace HO_21:=rb_ HO_21 hb;replace HL886_0:=A_ (Kd.V_mono (Kd.V_told (Kd.V_told (Kd.V_old (by (with_reducible repeat (first | apply Kd.V_alloc | apply Kd.V_drewN | apply Kd.V_drew));exact HL886_0.out) hb) (Kd.R_base ho0)) (Kd.R_base ho1)) (fun _ h_=>h_.1));replace HL886_1:=A_ (Kd.V_mono (Kd.V_told (Kd.V_told (Kd.V_old (by (with_reducible repeat (first | apply Kd.V_alloc | apply Kd.V_drewN | apply Kd.V_drew));exact HL886_1.out) hb) (Kd.R_base ho0)) (Kd.R_base ho1)) (fun _ h_=>h_.1));have HO895:=A_ (rE_ (Kd.R_new' (Kd.R_new' (Kd.R_newM (M:=fun k_=>(w.heap.size≤k_)) ho0 (bF_ hB_) (fun k_ h_=>h_)) (Kd.R_lt (rr_ HO889))) (Kd.R_lt (rr_ HO892))) (bF_ hB_));have HO898:=A_ (rE_ (Kd.R_new' (Kd.R_new' (Kd.R_newM (M:=fun k_=>(w.heap.size≤k_)) ho1 (bF_ hB_) (fun k_ h_=>h_)) (Kd.R_lt (rr_ HO889))) (Kd.R_lt (rr_ HO892))) (bF_ hB_));replace HO889:=A_ (Kd.R_mono (Kd.R_told (Kd.R_told (Kd.R_old (rr_ HO889) hb) (Kd.R_base ho0)) (Kd.R_base ho1)) (fun _ h_=>h_.1));replace HO892:=A_ (Kd.R_mono (Kd.R_told (Kd.R_told (Kd.R_old (rr_ HO892) hb) (Kd.R_base ho0)) (Kd.R_base ho1)) (fun _ h_=>h_.1));replace BK869:=bb_ BK869 hb;replace HR886_0:=A_ (cD_ (by repeat (first | (with_reducible exact HR886_0.out) | (with_reducible refine cA_ ?_ _) | (with_reducible refine cB_ ?_ _) | (with_reducible refine cC_ ?_) | exact HR886_0.out)) hb);replace HR886_1:=A_ (cD_ (by repeat (first | (with_reducible exact HR886_1.out) | (with_reducible refine cA_ ?_ _) | (with_reducible refine cB_ ?_ _) | (with_reducible refine cC_ ?_) | exact HR886_1.out)) hb);replace HB:=b1_ hb;clear hb ho0 ho1) | ((with_reducible refine gB_ (N:=10) rfl ?_);refine bx_ 10 #[.slice none 0 0,.slice none 0 0] 25 ?_;intro gb899 hg w35 hbox hb;replace HO_5:=A_ (Kd.N_below (Kd.N_elderB (by (with_reducible repeat (first | apply Kd.N_alloc | apply Kd.N_drewN | apply Kd.N_drew));exact HO_5.out) gb899 (Nat.le_of_eq hg.symm)) hb);replace HO_6:=rb_ HO_6 hb;replace HO_21:=rb_ HO_21 hb;replace HL886_0:=A_ (Kd.V_below (Kd.V_elderB (by (with_reducible repeat (first | apply Kd.V_alloc | apply Kd.V_drewN | apply Kd.V_drew));exact HL886_0.out) gb899 (Nat.le_of_eq hg.symm)) hb);replace HL886_1:=A_ (Kd.V_below (Kd.V_elderB (by (with_reducible repeat (first | apply Kd.V_alloc | apply Kd.V_drewN | apply Kd.V_drew));exact HL886_1.out) gb899 (Nat.le_of_eq hg.symm)) hb);replace HO889:=rb_ HO889 hb;replace HO892:=rb_ HO892 hb;replace HO895:=rb_ HO895 hb;replace HO898:=rb_ HO898 hb;replace HR886_0:=A_ (cD_ (by repeat (first | (with_reducible exact HR886_0.out) | (with_reducible refine cA_ ?_ _) | (with_reducible refine cB_ ?_ _) | (with_reducible refine cC_ ?_) | exact HR886_0.out)) hb);replace HR886_1:=A_ (cD_ (by repeat (first | (with_reducible exact HR886_1.out) | (with_reducible refine cA_ ?_ _) | (with_reducible refine cB_ ?_ _) | (with_reducible refine cC_ ?_) | exact HR886_1.out)) hb);have BK899:=A_ hbox;have GW899:=gw_ w hg;have GE899:=GW899;replace HB:=b1_ hb;have NB869_899:=gN_ BK869 hg;have NB899_869:=gP_ BK869 hg;replace BK869:=bb_ BK869 hb;clear hb hbox hg;obtain ⟨Ao36,co36,eo36⟩:=Kd.R_slice HO895.out;subst eo36;have hnb37:=NB899_869.out;have hnc37:=NB869_899.out;obtain ⟨hcz38_0,hcz38_1,hfz38_0,hfz38_1⟩:=c2_ BK899;obtain ⟨Ao39,co39,eo39⟩:=Kd.R_slice HO898.out;subst eo39) | ((with_reducible refine gA_ (f:=81) rfl ?_);refine gL_ (some 36) Try.func81 #[.slice (some ad886) x5_2.length co30,.agg #[.slice Ao36 t893.length co36,.slice Ao39 t896.length co39]] rfl qa_ ?_;(with_reducible refine (Z63.calls k2 _ _ x5_2 _ _ t893 _ _ t896 t900 _ ?side1 ?side2 ?side3 ?side4 ?side5 ?side6 A24.out).mono ?_);(case side1=>refine (Kd.N_reads' (e:=25) (base:=w.heap.size) (ok:=fun k_=>(((((((w.heap.size≤k_)∧(some k_≠(u6:Value).ownBlock∧(some k_≠(.slice (some ad885) y882.length co16:Value).ownBlock∧k_≠gb869)))∧some k_≠(.slice Ao32 t887.length co32:Value).ownBlock)∧some k_≠(.slice Ao33 t890.length co33:Value).ownBlock)∧some k_≠(.slice Ao36 t893.length co36:Value).ownBlock)∧some k_≠(.slice Ao39 t896.length co39:Value).ownBlock)∧k_≠gb899)) (n:=x5_2.length) (c:=co30) ?_).2.2;exact (by (with_reducible repeat (first | apply Kd.N_alloc | apply Kd.N_drewN | apply Kd.N_drew));exact (Kd.N_mono (Kd.N_far (p:=⟨gb899,1,none⟩) (Kd.N_far (p:=⟨gb899,0,none⟩) (Kd.N_mono HO_5.out (fun k_ hk=>(⟨hk,hk.2⟩:_∧k_≠gb899))) (fun _ hk=>hk.2) (.slice Ao36 t893.length co36)) (fun _ hk=>hk.2) (.slice Ao39 t896.length co39)) (fun _ h_=>h_.1))));(case side2=>exact (Kd.N_reads' HO_5.out).2.1);(case side3=>refine (Kd.R_reads' (e:=3) (base:=w.heap.size) (ok:=fun k_=>((((w.heap.size≤k_)∧some k_≠(.slice Ao39 t896.length co39:Value).ownBlock)∧some k_≠(.slice Ao32 t887.length co32:Value).ownBlock)∧some k_≠(.slice Ao33 t890.length co33:Value).ownBlock)) (n:=t893.length) (c:=co36) ?_).2.2;exact (rw_ (fa_ HO895 BK899)));(case side4=>exact (Kd.R_reads' HO895.out).2.1);(case side5=>refine (Kd.R_reads' (e:=3) (base:=w.heap.size) (ok:=fun k_=>((((w.heap.size≤k_)∧some k_≠(.slice Ao36 t893.length co36:Value).ownBlock)∧some k_≠(.slice Ao32 t887.length co32:Value).ownBlock)∧some k_≠(.slice Ao33 t890.length co33:Value).ownBlock)) (n:=t896.length) (c:=co39) ?_).2.2;exact (rw_ (fa_ HO898 BK899)));(case side6=>exact (Kd.R_reads' HO898.out).2.1);rintro e w40 ⟨rfl,hb⟩;refine ⟨_,rfl,?_⟩;replace HO_5:=A_ (Kd.N_below (by (with_reducible repeat (first | apply Kd.N_alloc | apply Kd.N_drewN | apply Kd.N_drew));exact (Kd.N_mono (Kd.N_far (p:=⟨gb899,1,none⟩) (Kd.N_far (p:=⟨gb899,0,none⟩) (Kd.N_mono HO_5.out (fun k_ hk=>(⟨hk,hk.2⟩:_∧k_≠gb899))) (fun _ hk=>hk.2) (.slice Ao36 t893.length co36)) (fun _ hk=>hk.2) (.slice Ao39 t896.length co39)) (fun _ h_=>h_.1))) hb);replace HO_6:=A_ (rD_ (rw_ (fa_ HO_6 BK899)) hb);replace HO_21:=A_ (rD_ (rw_ (fa_ HO_21 BK899)) hb);replace HO889:=A_ (rD_ (rw_ (fa_ HO889 BK899)) hb);replace HO892:=A_ (rD_ (rw_ (fa_ HO892 BK899)) hb);replace HO895:=A_ (rD_ (rw_ (fa_ HO895 BK899)) hb);replace HO898:=A_ (rD_ (rw_ (fa_ HO898 BK899)) hb);replace BK869:=A_ (kE_ (g:=gb869) (o:=.cells #[.slice A0_0 l0_0.length c0_0,.slice A0_1 l0_1.length c0_1] 25 (0,0)) (by (with_reducible repeat (first | refine kA_ ?_ _ | refine kB_ ?_ | refine kC_ ?_ _));refine blk_far ?_ NB869_899.out _;(with_reducible repeat (first | refine kA_ ?_ _ | refine kB_ ?_ | refine kC_ ?_ _));refine blk_far ?_ NB869_899.out _;(with_reducible repeat (first | refine kA_ ?_ _ | refine kB_ ?_ | refine kC_ ?_ _));exact BK869.out) hb);replace HR886_0:=A_ (cD_ ((Kd.V_reads' (by (with_reducible repeat (first | apply Kd.V_alloc | apply Kd.V_drewN | apply Kd.V_drew));exact (Kd.V_mono (Kd.V_far (p:=⟨gb899,1,none⟩) (Kd.V_far (p:=⟨gb899,0,none⟩) (Kd.V_mono HL886_0.out (fun k_ hk=>(⟨hk,hk.2⟩:_∧k_≠gb899))) (fun _ hk=>hk.2) (.slice Ao36 t893.length co36)) (fun _ hk=>hk.2) (.slice Ao39 t896.length co39)) (fun _ h_=>h_.1)))).2.2) hb);replace HL886_0:=A_ (Kd.V_below (by (with_reducible repeat (first | apply Kd.V_alloc | apply Kd.V_drewN | apply Kd.V_drew));exact (Kd.V_mono (Kd.V_far (p:=⟨gb899,1,none⟩) (Kd.V_far (p:=⟨gb899,0,none⟩) (Kd.V_mono HL886_0.out (fun k_ hk=>(⟨hk,hk.2⟩:_∧k_≠gb899))) (fun _ hk=>hk.2) (.slice Ao36 t893.length co36)) (fun _ hk=>hk.2) (.slice Ao39 t896.length co39)) (fun _ h_=>h_.1))) hb);replace HR886_1:=A_ (cD_ ((Kd.V_reads' (by (with_reducible repeat (first | apply Kd.V_alloc | apply Kd.V_drewN | apply Kd.V_drew));exact (Kd.V_mono (Kd.V_far (p:=⟨gb899,1,none⟩) (Kd.V_far (p:=⟨gb899,0,none⟩) (Kd.V_mono HL886_1.out (fun k_ hk=>(⟨hk,hk.2⟩:_∧k_≠gb899))) (fun _ hk=>hk.2) (.slice Ao36 t893.length co36)) (fun _ hk=>hk.2) (.slice Ao39 t896.length co39)) (fun _ h_=>h_.1)))).2.2) hb);replace HL886_1:=A_ (Kd.V_below (by (with_reducible repeat (first | apply Kd.V_alloc | apply Kd.V_drewN | apply Kd.V_drew));exact (Kd.V_mono (Kd.V_far (p:=⟨gb899,1,none⟩) (Kd.V_far (p:=⟨gb899,0,none⟩) (Kd.V_mono HL886_1.out (fun k_ hk=>(⟨hk,hk.2⟩:_∧k_≠gb899))) (fun _ hk=>hk.2) (.slice Ao36 t893.length co36)) (fun _ hk=>hk.2) (.slice Ao39 t896.length co39)) (fun _ h_=>h_.1))) hb);replace BK899:=A_ (kE_ (g:=gb899) (o:=.cells #[.slice Ao36 t893.length co36,.slice Ao39 t896.length co39] 25 (0,0)) qp_ hb);replace HB:=b1_ hb;clear hb;obtain ⟨hcz41_0,hcz41_1,hfz41_0,hfz41_1⟩:=c2_ BK899) | ((with_reducible refine gate_builtin (b:=.append) (xs:=#[.tmp 38,.tmp 40]) rfl ?_);at_builtin;refine Kd.N_append k25 (w0:=w) w.heap.size rfl (.tmp 38) (.tmp 40) 36 25 (.agg #[(.slice none 0 0),(.slice none 0 0)]) 48 rfl Try.underlying36 info25 rfl (by decide) (by omega) (.slice (some ad886) x5_2.length co30) x5_2 (⟨t893,t896⟩:S25) [.slice Ao36 t893.length co36,.slice Ao39 t896.length co39] (fun k_=>(w.heap.size≤k_)∧some k_≠(u6:Value).ownBlock∧some k_≠(.slice (some ad885) y882.length co16:Value).ownBlock∧some k_≠(.slice Ao32 t887.length co32:Value).ownBlock∧some k_≠(.slice Ao33 t890.length co33:Value).ownBlock∧k_≠gb869∧k_≠gb899) (fun k_=>((fun k_=>(w.heap.size≤k_)∧some k_≠(u6:Value).ownBlock∧some k_≠(.slice (some ad885) y882.length co16:Value).ownBlock∧some k_≠(.slice Ao32 t887.length co32:Value).ownBlock∧some k_≠(.slice Ao33 t890.length co33:Value).ownBlock∧k_≠gb869∧k_≠gb899)) k_∧some k_≠(.slice (some ad886) x5_2.length co30:Value).ownBlock) rfl rfl ?aP (fun _ hk=>hk) ?aF ?aO ?aB ?aS ?aL ?_;(case aP=>exact (k25_mkF _ _ (⟨t893,t896⟩:S25) (Kd.R_reads' (Kd.R_mono (ok':=(fun k_=>((fun k_=>(w.heap.size≤k_)∧some k_≠(u6:Value).ownBlock∧some k_≠(.slice (some ad885) y882.length co16:Value).ownBlock∧some k_≠(.slice Ao32 t887.length co32:Value).ownBlock∧some k_≠(.slice Ao33 t890.length co33:Value).ownBlock∧k_≠gb869∧k_≠gb899)) k_∧some k_≠(.slice (some ad886) x5_2.length co30:Value).ownBlock)) (Kd.R_types (Kd.R_types (Kd.R_apart' (Kd.R_apart' (Kd.R_apart' (HO895.out) (Kd.R_typed HO_6.out) (by decide)) (Kd.R_typed HO_21.out) (by decide)) (Kd.N_typed HO_5.out) (by decide)) BK869.out (by decide)) BK899.out (by decide)) (fun k_ hk=>⟨⟨hk.1.1.1.1.1.1.1.1,⟨hk.1.1.1.1.2,⟨hk.1.1.1.2,⟨hk.1.1.1.1.1.1.2,⟨hk.1.1.1.1.1.2,⟨hk.1.2,hk.2⟩⟩⟩⟩⟩⟩,hk.1.1.2⟩))).2.1 (Kd.R_F (Kd.R_mono (ok':=(fun k_=>((fun k_=>(w.heap.size≤k_)∧some k_≠(u6:Value).ownBlock∧some k_≠(.slice (some ad885) y882.length co16:Value).ownBlock∧some k_≠(.slice Ao32 t887.length co32:Value).ownBlock∧some k_≠(.slice Ao33 t890.length co33:Value).ownBlock∧k_≠gb869∧k_≠gb899)) k_∧some k_≠(.slice (some ad886) x5_2.length co30:Value).ownBlock)) (Kd.R_types (Kd.R_types (Kd.R_apart' (Kd.R_apart' (Kd.R_apart' (HO895.out) (Kd.R_typed HO_6.out) (by decide)) (Kd.R_typed HO_21.out) (by decide)) (Kd.N_typed HO_5.out) (by decide)) BK869.out (by decide)) BK899.out (by decide)) (fun k_ hk=>⟨⟨hk.1.1.1.1.1.1.1.1,⟨hk.1.1.1.1.2,⟨hk.1.1.1.2,⟨hk.1.1.1.1.1.1.2,⟨hk.1.1.1.1.1.2,⟨hk.1.2,hk.2⟩⟩⟩⟩⟩⟩,hk.1.1.2⟩))) (Kd.R_reads' (Kd.R_mono (ok':=(fun k_=>((fun k_=>(w.heap.size≤k_)∧some k_≠(u6:Value).ownBlock∧some k_≠(.slice (some ad885) y882.length co16:Value).ownBlock∧some k_≠(.slice Ao32 t887.length co32:Value).ownBlock∧some k_≠(.slice Ao33 t890.length co33:Value).ownBlock∧k_≠gb869∧k_≠gb899)) k_∧some k_≠(.slice (some ad886) x5_2.length co30:Value).ownBlock)) (Kd.R_types (Kd.R_types (Kd.R_apart' (Kd.R_apart' (Kd.R_apart' (HO898.out) (Kd.R_typed HO_6.out) (by decide)) (Kd.R_typed HO_21.out) (by decide)) (Kd.N_typed HO_5.out) (by decide)) BK869.out (by decide)) BK899.out (by decide)) (fun k_ hk=>⟨⟨hk.1.1.1.1.1.1.1.1,⟨hk.1.1.1.1.2,⟨hk.1.1.1.2,⟨hk.1.1.1.1.1.1.2,⟨hk.1.1.1.1.1.2,⟨hk.1.2,hk.2⟩⟩⟩⟩⟩⟩,hk.1.1.2⟩))).2.1 (Kd.R_F (Kd.R_mono (ok':=(fun k_=>((fun k_=>(w.heap.size≤k_)∧some k_≠(u6:Value).ownBlock∧some k_≠(.slice (some ad885) y882.length co16:Value).ownBlock∧some k_≠(.slice Ao32 t887.length co32:Value).ownBlock∧some k_≠(.slice Ao33 t890.length co33:Value).ownBlock∧k_≠gb869∧k_≠gb899)) k_∧some k_≠(.slice (some ad886) x5_2.length co30:Value).ownBlock)) (Kd.R_types (Kd.R_types (Kd.R_apart' (Kd.R_apart' (Kd.R_apart' (HO898.out) (Kd.R_typed HO_6.out) (by decide)) (Kd.R_typed HO_21.out) (by decide)) (Kd.N_typed HO_5.out) (by decide)) BK869.out (by decide)) BK899.out (by decide)) (fun k_ hk=>⟨⟨hk.1.1.1.1.1.1.1.1,⟨hk.1.1.1.1.2,⟨hk.1.1.1.2,⟨hk.1.1.1.1.1.1.2,⟨hk.1.1.1.1.1.2,⟨hk.1.2,hk.2⟩⟩⟩⟩⟩⟩,hk.1.1.2⟩)))));(case aB=>exact hB_);(case aF=>exact (fun k_ hk=>⟨(Nat.le_trans (bF_ hB_) hk),Kd.fresh' (Kd.R_lt (rr_ HO_6)) k_ hk,Kd.fresh' (Kd.R_lt (rr_ HO_21)) k_ hk,Kd.fresh' (Kd.R_lt (rr_ HO889)) k_ hk,Kd.fresh' (Kd.R_lt (rr_ HO892)) k_ hk,Kd.freshB (kk_ BK869) k_ hk,Kd.freshB (kk_ BK899) k_ hk⟩));(case aO=>exact (by (with_reducible repeat (first | apply Kd.N_alloc | apply Kd.N_drewN | apply Kd.N_drew));exact Kd.N_mono HO_5.out (fun _ hk=>⟨hk.1.1.1.1.1.1,⟨hk.1.1.1.1.1.2.1,⟨hk.1.1.1.1.1.2.2.1,⟨hk.1.1.1.1.2,⟨hk.1.1.1.2,⟨hk.1.1.1.1.1.2.2.2,hk.2⟩⟩⟩⟩⟩⟩)));(case aS=>exact (bF_ hB_));(case aL=>have:=LMc26.out;omega);intro v902 w42 ho hb hg hat;rw [← Ny901.out] at ho;replace HO_6:=A_ (Kd.R_over' (rr_ HO_6) (Kd.N_typed (by (with_reducible repeat (first | apply Kd.N_alloc | apply Kd.N_drewN | apply Kd.N_drew));exact HO_5.out)) (by decide) hg);replace HO_21:=A_ (Kd.R_over' (rr_ HO_21) (Kd.N_typed (by (with_reducible repeat (first | apply Kd.N_alloc | apply Kd.N_drewN | apply Kd.N_drew));exact HO_5.out)) (by decide) hg);replace BK869:=A_ (blk_grown (kk_ BK869) hg (Kd.N_away HO_5.out (fun _ hk=>hk.1.1.1.1.1.2.2.2)));replace HL886_0:=A_ (Kd.V_afterv (ok:=(fun k_=>(w.heap.size≤k_)∧some k_≠(u6:Value).ownBlock∧some k_≠(.slice (some ad885) y882.length co16:Value).ownBlock∧some k_≠(.slice Ao32 t887.length co32:Value).ownBlock∧some k_≠(.slice Ao33 t890.length co33:Value).ownBlock∧some k_≠(.slice Ao36 t893.length co36:Value).ownBlock∧some k_≠(.slice Ao39 t896.length co39:Value).ownBlock∧k_≠gb869∧k_≠gb899)) (by (with_reducible repeat (first | apply Kd.V_alloc | apply Kd.V_drewN | apply Kd.V_drew));exact Kd.V_mono HL886_0.out (fun _ hk=>⟨⟨hk.1.1.1.1.1.1.1,⟨hk.1.1.1.1.1.1.2.1,⟨hk.1.1.1.1.1.1.2.2.1,⟨hk.1.1.1.1.2,⟨hk.1.1.1.2,⟨hk.1.1.2,⟨hk.1.2,⟨hk.1.1.1.1.1.1.2.2.2,hk.2⟩⟩⟩⟩⟩⟩⟩⟩,hk.1.1.1.1.1.2⟩)) hg hat);replace HL886_1:=A_ (Kd.V_afterv (ok:=(fun k_=>(w.heap.size≤k_)∧some k_≠(u6:Value).ownBlock∧some k_≠(.slice (some ad885) y882.length co16:Value).ownBlock∧some k_≠(.slice Ao32 t887.length co32:Value).ownBlock∧some k_≠(.slice Ao33 t890.length co33:Value).ownBlock∧some k_≠(.slice Ao36 t893.length co36:Value).ownBlock∧some k_≠(.slice Ao39 t896.length co39:Value).ownBlock∧k_≠gb869∧k_≠gb899)) (by (with_reducible repeat (first | apply Kd.V_alloc | apply Kd.V_drewN | apply Kd.V_drew));exact Kd.V_mono HL886_1.out (fun _ hk=>⟨⟨hk.1.1.1.1.1.1.1,⟨hk.1.1.1.1.1.1.2.1,⟨hk.1.1.1.1.1.1.2.2.1,⟨hk.1.1.1.1.2,⟨hk.1.1.1.2,⟨hk.1.1.2,⟨hk.1.2,⟨hk.1.1.1.1.1.1.2.2.2,hk.2⟩⟩⟩⟩⟩⟩⟩⟩,hk.1.1.1.1.1.2⟩)) hg hat);replace HO889:=A_ (Kd.R_over' (rr_ HO889) (Kd.N_typed (by (with_reducible repeat (first | apply Kd.N_alloc | apply Kd.N_drewN | apply Kd.N_drew));exact HO_5.out)) (by decide) hg);replace HO892:=A_ (Kd.R_over' (rr_ HO892) (Kd.N_typed (by (with_reducible repeat (first | apply Kd.N_alloc | apply Kd.N_drewN | apply Kd.N_drew));exact HO_5.out)) (by decide) hg);replace BK899:=A_ (blk_grown (kk_ BK899) hg (Kd.N_away HO_5.out (fun _ hk=>hk.2)));replace HB:=A_ hb;have HO903:=A_ ho;clear HO_5 HO895 HO898;clear ho hb hg hat;obtain ⟨Ao43,co43,eo43⟩:=Kd.R_slice HO_6.out;subst eo43;have p904:0≤(x7_1:Int):=oB_ qe_;have q904:x7_1 < (x6_2.length:Int):=oB_ qe_;obtain ⟨ad904,e904,hx904_0⟩:=Kd.at_string (Kd.R_reads' HO_6.out).2.2 x7_1 p904 q904;cases e904;replace p904:=eq_true p904;replace q904:=eq_true q904))
        replace HO_6:=A_ (rC_ HO_6.out)
        replace HO_21:=A_ (rC_ HO_21.out)
        replace HL886_0:=A_ (Kd.V_drew HL886_0.out)
        replace HL886_1:=A_ (Kd.V_drew HL886_1.out)
        replace HO889:=A_ (rC_ HO889.out)
        replace HO892:=A_ (rC_ HO892.out)
        replace HO903:=A_ (Kd.N_drew HO903.out)
        replace BK869:=A_ (kB_ BK869.out)
        replace BK899:=A_ (kB_ BK899.out)
        replace HB:=A_ (bC_ HB.out)
        have hx_:w42.drew.cell? (ad904.add (x7_1).toNat) = some (.string (rdOf ByteArray.empty x6_2 x7_1)):=hx904_0
        refine start_ (n:=12) (S:=fun w'=>w'.cell? (ad904.add (x7_1).toNat) = some (.string (rdOf ByteArray.empty x6_2 x7_1))) (ds:=[10]) (bl_ 12 0) (by kernel_rfl) rfl (by kernel_rfl) hx_ (fun hHeld=>?_);refine with_tabW Z49.tab12 Z49.bits12 (fun HT_ HW_=>?_)
        generalize w42.drew = w44 at HO_6 HO_21 HL886_0 HL886_1 HO889 HO892 HO903 BK869 BK899 HB hHeld ⊢
        refine pu_ 0 (some 42) (bl_ 12 1) HT_ ?_
        refine pu_ 1 (some 43) (bl_ 12 3) HT_ ?_
        refine pu_ 2 (some 44) (bl_ 12 7) HT_ ?_
        refine pu_ 3 (some 45) (bl_ 12 15) HT_ ?_
        refine ta_ 4 (some 46) (bl_ 12 31) HT_ HW_ hHeld ?_
        refine pu_ 5 (some 47) (bl_ 12 63) HT_ ?_
        refine on_ 6 (some 48) (bl_ 12 127) HT_ (fun K hK=>?_)
        refine Kd.R_lit_step (Kd.int .u8) _ 5 ?hg (N:=48) ?hd (xs:=([rd y882 x23_2]:List Int)) (inner:=[.int .u8 (rd y882 x23_2)]) (ok:=fun _=>True) (okp:=fun _=>True) ?hr ?hp (fun _ hk=>hk) trivial (Below.refl _ _) (nA_ _) (by simp) ?_;(case hd=>rfl);(case hg=>rfl);(case hr=>first | (go_simp;done) | (go_simp;rfl));(case hp=>exact (Reps.one (show Kd.M (Kd.int .u8) _ _ _ (rd y882 x23_2) [.int .u8 (rd y882 x23_2)] from rfl) (Reps.none _ _)))
        intro v906 w45 ho46 hb hg_ hnew_
        have hS1_:=(hb.cell (World.block_lt_of_cell? _ _ hHeld)).trans hHeld
        clear hg_ hnew_
        (first | rw [← Ny905.out] at ho46 | (simp only [Int.reduceToNat] at ho46;rw [← Ny905.out] at ho46))
        replace HO_6:=rb_ HO_6 hb
        replace HL886_0:=A_ (Kd.V_elder' (by (with_reducible repeat (first | apply Kd.V_alloc | apply Kd.V_drewN | apply Kd.V_drew));exact HL886_0.out) (Kd.R_base ho46) hb)
        replace HL886_1:=A_ (Kd.V_elder' (by (with_reducible repeat (first | apply Kd.V_alloc | apply Kd.V_drewN | apply Kd.V_drew));exact HL886_1.out) (Kd.R_base ho46) hb)
        replace HO889:=rb_ HO889 hb
        replace HO892:=rb_ HO892 hb
        replace HO903:=A_ (Kd.N_elder' (by (with_reducible repeat (first | apply Kd.N_alloc | apply Kd.N_drewN | apply Kd.N_drew));exact HO903.out) (Kd.R_base ho46) hb)
        have HO907:=A_ (rE_ (Kd.R_new' (Kd.R_newM (M:=fun k_=>(w.heap.size≤k_)) ho46 (bF_ hB_) (fun k_ h_=>h_)) (Kd.R_lt (rr_ HO_21))) (bF_ hB_))
        replace HO_21:=A_ (Kd.R_elder' (rr_ HO_21) (Kd.R_base ho46) hb)
        replace BK869:=bb_ BK869 hb
        replace BK899:=bb_ BK899 hb
        replace HB:=b1_ hb
        clear hb ho46
        refine hK.out _ _ hS1_ (fun hHeld=>?_)
        clear hK K
        refine no_ (some 48) ?_
        refine on_ 7 (some 49) (bl_ 12 255) HT_ (fun K hK=>?_)
        have hcv47:=own_string (P:=Try.prog) Try.underlying22 Try.underlying5 Try.underlying9 (Kd.own_of_R HO907.out)
        refine value_ (w1:=?_) (v:=?_) (by rfl) rfl ?_ ?_
        rotate_left 2
        ·go_simp
         constructor
         ·rfl
         ·rfl
        clear hcv47
        refine hK.out _ _ hHeld (fun hHeld=>?_)
        clear hK K
        refine no_ (some 49) ?_
        refine pu_ 8 (some 50) (bl_ 12 511) HT_ ?_
        refine on_ 9 (some 51) (bl_ 12 1023) HT_ (fun K hK=>?_)
        refine value_ (w1:=?_) (v:=?_) (by rfl) rfl ?_ ?_
        rotate_left 2
        ·go_simp
         constructor
         ·rfl
         ·rfl
        refine hK.out _ _ (by first | exact hHeld | exact ((bA_ (Below.refl _ _) _).cell (World.block_lt_of_cell? _ _ hHeld)).trans hHeld) (fun hHeld=>?_)
        clear hK K
        refine no_ (some 51) ?_
        refine last_ (i:=10) (N:=some 52) (bl_ 12 2047) rfl rfl (one_of HT_.out (by kernel_rfl)) (by decide) (fun K hK=>?_)
        refine Kd.R_append_step Kd.string (w0:=w) w.heap.size (by rfl) (.tmp 42) (.tmp 51) 53 9 (.string ⟨#[]⟩) 16 rfl Try.underlying53 info9 rfl (by decide) (by omega) (.slice (some ad904) x6_2.length co43) x6_2 ((rdOf ByteArray.empty x6_2 x7_1) ++ (strOfNums y905)) [.string ((rdOf ByteArray.empty x6_2 x7_1) ++ (strOfNums y905))] (fun k_=>(w.heap.size≤k_)) (fun _=>False) rfl rfl ?aP (fun _ hk=>hk.elim) ?aF ?aO ?aB ?aS ?aL ?_
        (case aP=>exact rfl)
        (case aB=>exact hB_)
        (case aF=>exact (fun k_ hk=>(Nat.le_trans (bF_ hB_) hk)))
        (case aO=>exact (rr_ HO_6))
        (case aS=>exact (bF_ hB_))
        (case aL=>have:=LMc29.out;omega)
        intro v909 w48 ho hb hg hat
        rw [← Ny908.out] at ho
        replace HO_21:=A_ (Kd.R_over' (rr_ HO_21) (Kd.R_typed (rr_ HO_6)) (by decide) hg)
        replace BK869:=A_ (blk_grown (kk_ BK869) hg (Kd.R_ne HO_6.out BK869.out (by decide)))
        replace HL886_0:=A_ (Kd.V_afterv (ok:=(fun k_=>(w.heap.size≤k_)∧some k_≠(.slice (some ad885) y882.length co16:Value).ownBlock∧some k_≠(.slice Ao32 t887.length co32:Value).ownBlock∧some k_≠(.slice Ao33 t890.length co33:Value).ownBlock∧some k_≠(v902:Value).ownBlock∧some k_≠(v906:Value).ownBlock∧k_≠gb869∧k_≠gb899)) (by (with_reducible repeat (first | apply Kd.V_alloc | apply Kd.V_drewN | apply Kd.V_drew));exact Kd.V_mono HL886_0.out (fun _ hk=>⟨⟨hk.1.1.1,⟨hk.1.1.2.2.1,⟨hk.1.1.2.2.2.1,⟨hk.1.1.2.2.2.2.1,⟨hk.1.2,⟨hk.2,⟨hk.1.1.2.2.2.2.2.2.2.1,hk.1.1.2.2.2.2.2.2.2.2⟩⟩⟩⟩⟩⟩⟩,hk.1.1.2.1⟩)) hg hat)
        replace HL886_1:=A_ (Kd.V_afterv (ok:=(fun k_=>(w.heap.size≤k_)∧some k_≠(.slice (some ad885) y882.length co16:Value).ownBlock∧some k_≠(.slice Ao32 t887.length co32:Value).ownBlock∧some k_≠(.slice Ao33 t890.length co33:Value).ownBlock∧some k_≠(v902:Value).ownBlock∧some k_≠(v906:Value).ownBlock∧k_≠gb869∧k_≠gb899)) (by (with_reducible repeat (first | apply Kd.V_alloc | apply Kd.V_drewN | apply Kd.V_drew));exact Kd.V_mono HL886_1.out (fun _ hk=>⟨⟨hk.1.1.1,⟨hk.1.1.2.2.1,⟨hk.1.1.2.2.2.1,⟨hk.1.1.2.2.2.2.1,⟨hk.1.2,⟨hk.2,⟨hk.1.1.2.2.2.2.2.2.2.1,hk.1.1.2.2.2.2.2.2.2.2⟩⟩⟩⟩⟩⟩⟩,hk.1.1.2.1⟩)) hg hat)
        replace HO889:=A_ (Kd.R_over' (rr_ HO889) (Kd.R_typed (rr_ HO_6)) (by decide) hg)
        replace HO892:=A_ (Kd.R_over' (rr_ HO892) (Kd.R_typed (rr_ HO_6)) (by decide) hg)
        replace BK899:=A_ (blk_grown (kk_ BK899) hg (Kd.R_ne HO_6.out BK899.out (by decide)))
        replace HO903:=A_ (Kd.N_afterv (ok:=(fun k_=>(w.heap.size≤k_)∧some k_≠(.slice (some ad885) y882.length co16:Value).ownBlock∧some k_≠(.slice Ao32 t887.length co32:Value).ownBlock∧some k_≠(.slice Ao33 t890.length co33:Value).ownBlock∧some k_≠(v906:Value).ownBlock∧k_≠gb869∧k_≠gb899)) (by (with_reducible repeat (first | apply Kd.N_alloc | apply Kd.N_drewN | apply Kd.N_drew));exact Kd.N_mono HO903.out (fun _ hk=>⟨⟨hk.1.1,⟨hk.1.2.2.1,⟨hk.1.2.2.2.1,⟨hk.1.2.2.2.2.1,⟨hk.2,⟨hk.1.2.2.2.2.2.1,hk.1.2.2.2.2.2.2⟩⟩⟩⟩⟩⟩,hk.1.2.1⟩)) hg hat)
        replace HO907:=A_ (Kd.R_over' (rr_ HO907) (Kd.R_typed (rr_ HO_6)) (by decide) hg)
        replace HB:=A_ hb
        have HO910:=A_ ho
        clear HO_6
        clear ho hb hg hat
        refine hK.out _ _ ?_
        clear hK K
        refine no_ (some 52) ?_
        refine pu_ 11 (some 6) (bl_ 12 4095) HT_ ?_
        refine done_ (done_of HT_.out (by kernel_rfl)) ?_
        try go_wp2
        go_roundg k2
        case measure=>have:=HK1.out;have:=HK2.out;omega
        case rel=>exact ⟨(y901),(y908),(wrap64 (x23_2 + 1)),qc_,H',⟨by have:=HK1.out;have:=HK2.out;omega⟩,⟨by (with_reducible repeat (first | apply Kd.N_alloc | apply Kd.N_drewN | apply Kd.N_drew));exact Kd.N_mono HO903.out (fun _ hk=>⟨hk.1.1,⟨hk.2,⟨hk.1.2.1,hk.1.2.2.2.2.2.1⟩⟩⟩)⟩,⟨(rr_ HO910)⟩,⟨(rw_ (Kd.R_mono HO_21.out (fun _ hk=>hk.1)))⟩,⟨(kk_ BK869)⟩,⟨hB_⟩⟩
       ·rw [if_neg c25] at H
        have c25b0:=oD_ c25
        clear c25
        have H':=A_ H
        clear H
        have p885:0≤(x23_2:Int):=oB_ qe_
        have q885:x23_2 < (y882.length:Int):=oB_ qe_
        obtain ⟨ad885,e885,hx885_0⟩:=Kd.at_int (Kd.R_reads' HO_21.out).2.2 x23_2 p885 q885
        cases e885
        replace p885:=eq_true p885
        replace q885:=eq_true q885
        obtain ⟨Ao49,co49,eo49⟩:=Kd.N_slice HO_5.out
        subst eo49
        have p886:0≤(x7_1:Int):=oB_ qe_
        have q886:x7_1 < (x5_2.length:Int):=oB_ qe_
        obtain ⟨ad886,A886_0,c886_0,A886_1,c886_1,e886,hx886_0,hx886_1,hl886_0,hi886_0,hl886_1,hi886_1⟩:=at_T25 (Kd.N_reads' HO_5.out).2.2 x7_1 p886 q886
        cases e886
        obtain ⟨ce886,hce886,hMe886,hcc886⟩:=Kd.N_get HO_5.out z25 x7_1 p886 (by first | exact q886 | exact oB_ qe_ | (have e_:=(Kd.N_reads' HO_5.out).1;omega))
        obtain ⟨ua886_0,uc886_0,ua886_1,uc886_1,rfl,ul886_0,ge886_0,ul886_1,ge886_1⟩:=k25_openF hMe886
        have hv886_0:=hcc886 0 _ rfl
        rw [Nat.add_zero] at hv886_0
        replace hv886_0:=Option.some.inj (hv886_0.symm.trans hx886_0)
        injection hv886_0 with hva_ hvn_ hvc_
        rw [hva_] at ge886_0
        rw [hvc_] at ul886_0
        have HL886_0:=A_ (show Kd.V (Kd.int .i64) 3 _ w.heap.size _ _ ((rd_T25 x5_2 x7_1).f0) from Kd.V_mk ul886_0 ge886_0)
        clear hva_ hvn_ hvc_ ge886_0 ul886_0
        have hv886_1:=hcc886 1 _ rfl
        rw [add_field _ _ 1 (by omega)] at hv886_1
        replace hv886_1:=Option.some.inj (hv886_1.symm.trans hx886_1)
        injection hv886_1 with hva_ hvn_ hvc_
        rw [hva_] at ge886_1
        rw [hvc_] at ul886_1
        have HL886_1:=A_ (show Kd.V (Kd.int .i64) 3 _ w.heap.size _ _ ((rd_T25 x5_2 x7_1).f1) from Kd.V_mk ul886_1 ge886_1)
        clear hva_ hvn_ hvc_ ge886_1 ul886_1
        clear hcc886 hce886
        have HR886_0:=A_ hi886_0
        have HC886_0:=A_ hl886_0
        clear hi886_0 hl886_0
        have HR886_1:=A_ hi886_1
        have HC886_1:=A_ hl886_1
        clear hi886_1 hl886_1
        replace p886:=eq_true p886
        replace q886:=eq_true q886
        go_wp2_with (first | ((with_reducible refine gA_ (f:=87) rfl ?_);refine gL_ (some 32) Try.func87 #[.agg #[.slice A886_0 ((rd_T25 x5_2 x7_1).f0).length c886_0,.slice A886_1 ((rd_T25 x5_2 x7_1).f1).length c886_1],.int .u8 (rd y882 x23_2)] rfl qa_ ?_;(with_reducible refine (Z35.calls k2 _ _ ((rd_T25 x5_2 x7_1).f0) _ _ ((rd_T25 x5_2 x7_1).f1) (rd y882 x23_2) t887 t890 _ ?side1 ?side2 ?side3 ?side4 A22.out).mono ?_);(case side1=>repeat (first | exact (by repeat (first | (with_reducible exact HR886_0.out) | (with_reducible refine cA_ ?_ _) | (with_reducible refine cB_ ?_ _) | (with_reducible refine cC_ ?_) | exact HR886_0.out)) | (with_reducible first | refine cA_ ?_ _ | refine cB_ ?_ _ | refine cC_ ?_)));(case side2=>exact HC886_0.out);(case side3=>repeat (first | exact (by repeat (first | (with_reducible exact HR886_1.out) | (with_reducible refine cA_ ?_ _) | (with_reducible refine cB_ ?_ _) | (with_reducible refine cC_ ?_) | exact HR886_1.out)) | (with_reducible first | refine cA_ ?_ _ | refine cB_ ?_ _ | refine cC_ ?_)));(case side4=>exact HC886_1.out);rintro e w50 ⟨v888,v891,rfl,ho0,ho1,hb⟩;refine ⟨_,rfl,?_⟩;replace HO_5:=A_ (Kd.N_mono (Kd.N_told (Kd.N_told (Kd.N_old (by (with_reducible repeat (first | apply Kd.N_alloc | apply Kd.N_drewN | apply Kd.N_drew));exact HO_5.out) hb) (Kd.R_base ho0)) (Kd.R_base ho1)) (fun _ h_=>h_.1));replace HO_6:=rb_ HO_6 hb;replace HO_21:=rb_ HO_21 hb;replace HL886_0:=A_ (Kd.V_mono (Kd.V_told (Kd.V_told (Kd.V_old (by (with_reducible repeat (first | apply Kd.V_alloc | apply Kd.V_drewN | apply Kd.V_drew));exact HL886_0.out) hb) (Kd.R_base ho0)) (Kd.R_base ho1)) (fun _ h_=>h_.1));replace HL886_1:=A_ (Kd.V_mono (Kd.V_told (Kd.V_told (Kd.V_old (by (with_reducible repeat (first | apply Kd.V_alloc | apply Kd.V_drewN | apply Kd.V_drew));exact HL886_1.out) hb) (Kd.R_base ho0)) (Kd.R_base ho1)) (fun _ h_=>h_.1));have HO889:=A_ (rE_ (Kd.R_newM (M:=fun k_=>(w.heap.size≤k_)) ho0 (bF_ hB_) (fun k_ h_=>h_)) (bF_ hB_));have HO892:=A_ (rE_ (Kd.R_newM (M:=fun k_=>(w.heap.size≤k_)) ho1 (bF_ hB_) (fun k_ h_=>h_)) (bF_ hB_));replace BK869:=bb_ BK869 hb;replace HR886_0:=A_ (cD_ (by repeat (first | (with_reducible exact HR886_0.out) | (with_reducible refine cA_ ?_ _) | (with_reducible refine cB_ ?_ _) | (with_reducible refine cC_ ?_) | exact HR886_0.out)) hb);replace HR886_1:=A_ (cD_ (by repeat (first | (with_reducible exact HR886_1.out) | (with_reducible refine cA_ ?_ _) | (with_reducible refine cB_ ?_ _) | (with_reducible refine cC_ ?_) | exact HR886_1.out)) hb);replace HB:=b1_ hb;clear hb ho0 ho1;obtain ⟨Ao51,co51,eo51⟩:=Kd.R_slice HO889.out;subst eo51;obtain ⟨Ao52,co52,eo52⟩:=Kd.R_slice HO892.out;subst eo52) | ((with_reducible refine gA_ (f:=82) rfl ?_);refine gL_ (some 33) Try.func82 #[.agg #[.slice Ao51 t887.length co51,.slice Ao52 t890.length co52]] rfl qa_ ?_;(with_reducible refine (Z46.calls k2 _ _ t887 _ _ t890 t893 t896 _ (cr_ HO889) ((Kd.R_reads' HO889.out).2.1) (cr_ HO892) ((Kd.R_reads' HO892.out).2.1) A23.out).mono ?_);rintro e w53 ⟨v894,v897,rfl,ho0,ho1,hb⟩;refine ⟨_,rfl,?_⟩;replace HO_5:=A_ (Kd.N_mono (Kd.N_told (Kd.N_told (Kd.N_old (by (with_reducible repeat (first | apply Kd.N_alloc | apply Kd.N_drewN | apply Kd.N_drew));exact HO_5.out) hb) (Kd.R_base ho0)) (Kd.R_base ho1)) (fun _ h_=>h_.1));replace HO_6:=rb_ HO_6 hb;replace HO_21:=rb_ HO_21 hb;replace HL886_0:=A_ (Kd.V_mono (Kd.V_told (Kd.V_told (Kd.V_old (by (with_reducible repeat (first | apply Kd.V_alloc | apply Kd.V_drewN | apply Kd.V_drew));exact HL886_0.out) hb) (Kd.R_base ho0)) (Kd.R_base ho1)) (fun _ h_=>h_.1));replace HL886_1:=A_ (Kd.V_mono (Kd.V_told (Kd.V_told (Kd.V_old (by (with_reducible repeat (first | apply Kd.V_alloc | apply Kd.V_drewN | apply Kd.V_drew));exact HL886_1.out) hb) (Kd.R_base ho0)) (Kd.R_base ho1)) (fun _ h_=>h_.1));have HO895:=A_ (rE_ (Kd.R_new' (Kd.R_new' (Kd.R_newM (M:=fun k_=>(w.heap.size≤k_)) ho0 (bF_ hB_) (fun k_ h_=>h_)) (Kd.R_lt (rr_ HO889))) (Kd.R_lt (rr_ HO892))) (bF_ hB_));have HO898:=A_ (rE_ (Kd.R_new' (Kd.R_new' (Kd.R_newM (M:=fun k_=>(w.heap.size≤k_)) ho1 (bF_ hB_) (fun k_ h_=>h_)) (Kd.R_lt (rr_ HO889))) (Kd.R_lt (rr_ HO892))) (bF_ hB_));replace HO889:=A_ (Kd.R_mono (Kd.R_told (Kd.R_told (Kd.R_old (rr_ HO889) hb) (Kd.R_base ho0)) (Kd.R_base ho1)) (fun _ h_=>h_.1));replace HO892:=A_ (Kd.R_mono (Kd.R_told (Kd.R_told (Kd.R_old (rr_ HO892) hb) (Kd.R_base ho0)) (Kd.R_base ho1)) (fun _ h_=>h_.1));replace BK869:=bb_ BK869 hb;replace HR886_0:=A_ (cD_ (by repeat (first | (with_reducible exact HR886_0.out) | (with_reducible refine cA_ ?_ _) | (with_reducible refine cB_ ?_ _) | (with_reducible refine cC_ ?_) | exact HR886_0.out)) hb);replace HR886_1:=A_ (cD_ (by repeat (first | (with_reducible exact HR886_1.out) | (with_reducible refine cA_ ?_ _) | (with_reducible refine cB_ ?_ _) | (with_reducible refine cC_ ?_) | exact HR886_1.out)) hb);replace HB:=b1_ hb;clear hb ho0 ho1) | ((with_reducible refine gB_ (N:=10) rfl ?_);refine bx_ 10 #[.slice none 0 0,.slice none 0 0] 25 ?_;intro gb899 hg w54 hbox hb;replace HO_5:=A_ (Kd.N_below (Kd.N_elderB (by (with_reducible repeat (first | apply Kd.N_alloc | apply Kd.N_drewN | apply Kd.N_drew));exact HO_5.out) gb899 (Nat.le_of_eq hg.symm)) hb);replace HO_6:=rb_ HO_6 hb;replace HO_21:=rb_ HO_21 hb;replace HL886_0:=A_ (Kd.V_below (Kd.V_elderB (by (with_reducible repeat (first | apply Kd.V_alloc | apply Kd.V_drewN | apply Kd.V_drew));exact HL886_0.out) gb899 (Nat.le_of_eq hg.symm)) hb);replace HL886_1:=A_ (Kd.V_below (Kd.V_elderB (by (with_reducible repeat (first | apply Kd.V_alloc | apply Kd.V_drewN | apply Kd.V_drew));exact HL886_1.out) gb899 (Nat.le_of_eq hg.symm)) hb);replace HO889:=rb_ HO889 hb;replace HO892:=rb_ HO892 hb;replace HO895:=rb_ HO895 hb;replace HO898:=rb_ HO898 hb;replace HR886_0:=A_ (cD_ (by repeat (first | (with_reducible exact HR886_0.out) | (with_reducible refine cA_ ?_ _) | (with_reducible refine cB_ ?_ _) | (with_reducible refine cC_ ?_) | exact HR886_0.out)) hb);replace HR886_1:=A_ (cD_ (by repeat (first | (with_reducible exact HR886_1.out) | (with_reducible refine cA_ ?_ _) | (with_reducible refine cB_ ?_ _) | (with_reducible refine cC_ ?_) | exact HR886_1.out)) hb);have BK899:=A_ hbox;have GW899:=gw_ w hg;have GE899:=GW899;replace HB:=b1_ hb;have NB869_899:=gN_ BK869 hg;have NB899_869:=gP_ BK869 hg;replace BK869:=bb_ BK869 hb;clear hb hbox hg;obtain ⟨Ao55,co55,eo55⟩:=Kd.R_slice HO895.out;subst eo55;have hnb56:=NB899_869.out;have hnc56:=NB869_899.out;obtain ⟨hcz57_0,hcz57_1,hfz57_0,hfz57_1⟩:=c2_ BK899;obtain ⟨Ao58,co58,eo58⟩:=Kd.R_slice HO898.out;subst eo58) | ((with_reducible refine gA_ (f:=81) rfl ?_);refine gL_ (some 36) Try.func81 #[.slice (some ad886) x5_2.length co49,.agg #[.slice Ao55 t893.length co55,.slice Ao58 t896.length co58]] rfl qa_ ?_;(with_reducible refine (Z63.calls k2 _ _ x5_2 _ _ t893 _ _ t896 t900 _ ?side1 ?side2 ?side3 ?side4 ?side5 ?side6 A24.out).mono ?_);(case side1=>refine (Kd.N_reads' (e:=25) (base:=w.heap.size) (ok:=fun k_=>(((((((w.heap.size≤k_)∧(some k_≠(u6:Value).ownBlock∧(some k_≠(.slice (some ad885) y882.length co16:Value).ownBlock∧k_≠gb869)))∧some k_≠(.slice Ao51 t887.length co51:Value).ownBlock)∧some k_≠(.slice Ao52 t890.length co52:Value).ownBlock)∧some k_≠(.slice Ao55 t893.length co55:Value).ownBlock)∧some k_≠(.slice Ao58 t896.length co58:Value).ownBlock)∧k_≠gb899)) (n:=x5_2.length) (c:=co49) ?_).2.2;exact (by (with_reducible repeat (first | apply Kd.N_alloc | apply Kd.N_drewN | apply Kd.N_drew));exact (Kd.N_mono (Kd.N_far (p:=⟨gb899,1,none⟩) (Kd.N_far (p:=⟨gb899,0,none⟩) (Kd.N_mono HO_5.out (fun k_ hk=>(⟨hk,hk.2⟩:_∧k_≠gb899))) (fun _ hk=>hk.2) (.slice Ao55 t893.length co55)) (fun _ hk=>hk.2) (.slice Ao58 t896.length co58)) (fun _ h_=>h_.1))));(case side2=>exact (Kd.N_reads' HO_5.out).2.1);(case side3=>refine (Kd.R_reads' (e:=3) (base:=w.heap.size) (ok:=fun k_=>((((w.heap.size≤k_)∧some k_≠(.slice Ao58 t896.length co58:Value).ownBlock)∧some k_≠(.slice Ao51 t887.length co51:Value).ownBlock)∧some k_≠(.slice Ao52 t890.length co52:Value).ownBlock)) (n:=t893.length) (c:=co55) ?_).2.2;exact (rw_ (fa_ HO895 BK899)));(case side4=>exact (Kd.R_reads' HO895.out).2.1);(case side5=>refine (Kd.R_reads' (e:=3) (base:=w.heap.size) (ok:=fun k_=>((((w.heap.size≤k_)∧some k_≠(.slice Ao55 t893.length co55:Value).ownBlock)∧some k_≠(.slice Ao51 t887.length co51:Value).ownBlock)∧some k_≠(.slice Ao52 t890.length co52:Value).ownBlock)) (n:=t896.length) (c:=co58) ?_).2.2;exact (rw_ (fa_ HO898 BK899)));(case side6=>exact (Kd.R_reads' HO898.out).2.1);rintro e w59 ⟨rfl,hb⟩;refine ⟨_,rfl,?_⟩;replace HO_5:=A_ (Kd.N_below (by (with_reducible repeat (first | apply Kd.N_alloc | apply Kd.N_drewN | apply Kd.N_drew));exact (Kd.N_mono (Kd.N_far (p:=⟨gb899,1,none⟩) (Kd.N_far (p:=⟨gb899,0,none⟩) (Kd.N_mono HO_5.out (fun k_ hk=>(⟨hk,hk.2⟩:_∧k_≠gb899))) (fun _ hk=>hk.2) (.slice Ao55 t893.length co55)) (fun _ hk=>hk.2) (.slice Ao58 t896.length co58)) (fun _ h_=>h_.1))) hb);replace HO_6:=A_ (rD_ (rw_ (fa_ HO_6 BK899)) hb);replace HO_21:=A_ (rD_ (rw_ (fa_ HO_21 BK899)) hb);replace HO889:=A_ (rD_ (rw_ (fa_ HO889 BK899)) hb);replace HO892:=A_ (rD_ (rw_ (fa_ HO892 BK899)) hb);replace HO895:=A_ (rD_ (rw_ (fa_ HO895 BK899)) hb);replace HO898:=A_ (rD_ (rw_ (fa_ HO898 BK899)) hb);replace BK869:=A_ (kE_ (g:=gb869) (o:=.cells #[.slice A0_0 l0_0.length c0_0,.slice A0_1 l0_1.length c0_1] 25 (0,0)) (by (with_reducible repeat (first | refine kA_ ?_ _ | refine kB_ ?_ | refine kC_ ?_ _));refine blk_far ?_ NB869_899.out _;(with_reducible repeat (first | refine kA_ ?_ _ | refine kB_ ?_ | refine kC_ ?_ _));refine blk_far ?_ NB869_899.out _;(with_reducible repeat (first | refine kA_ ?_ _ | refine kB_ ?_ | refine kC_ ?_ _));exact BK869.out) hb);replace HR886_0:=A_ (cD_ ((Kd.V_reads' (by (with_reducible repeat (first | apply Kd.V_alloc | apply Kd.V_drewN | apply Kd.V_drew));exact (Kd.V_mono (Kd.V_far (p:=⟨gb899,1,none⟩) (Kd.V_far (p:=⟨gb899,0,none⟩) (Kd.V_mono HL886_0.out (fun k_ hk=>(⟨hk,hk.2⟩:_∧k_≠gb899))) (fun _ hk=>hk.2) (.slice Ao55 t893.length co55)) (fun _ hk=>hk.2) (.slice Ao58 t896.length co58)) (fun _ h_=>h_.1)))).2.2) hb);replace HL886_0:=A_ (Kd.V_below (by (with_reducible repeat (first | apply Kd.V_alloc | apply Kd.V_drewN | apply Kd.V_drew));exact (Kd.V_mono (Kd.V_far (p:=⟨gb899,1,none⟩) (Kd.V_far (p:=⟨gb899,0,none⟩) (Kd.V_mono HL886_0.out (fun k_ hk=>(⟨hk,hk.2⟩:_∧k_≠gb899))) (fun _ hk=>hk.2) (.slice Ao55 t893.length co55)) (fun _ hk=>hk.2) (.slice Ao58 t896.length co58)) (fun _ h_=>h_.1))) hb);replace HR886_1:=A_ (cD_ ((Kd.V_reads' (by (with_reducible repeat (first | apply Kd.V_alloc | apply Kd.V_drewN | apply Kd.V_drew));exact (Kd.V_mono (Kd.V_far (p:=⟨gb899,1,none⟩) (Kd.V_far (p:=⟨gb899,0,none⟩) (Kd.V_mono HL886_1.out (fun k_ hk=>(⟨hk,hk.2⟩:_∧k_≠gb899))) (fun _ hk=>hk.2) (.slice Ao55 t893.length co55)) (fun _ hk=>hk.2) (.slice Ao58 t896.length co58)) (fun _ h_=>h_.1)))).2.2) hb);replace HL886_1:=A_ (Kd.V_below (by (with_reducible repeat (first | apply Kd.V_alloc | apply Kd.V_drewN | apply Kd.V_drew));exact (Kd.V_mono (Kd.V_far (p:=⟨gb899,1,none⟩) (Kd.V_far (p:=⟨gb899,0,none⟩) (Kd.V_mono HL886_1.out (fun k_ hk=>(⟨hk,hk.2⟩:_∧k_≠gb899))) (fun _ hk=>hk.2) (.slice Ao55 t893.length co55)) (fun _ hk=>hk.2) (.slice Ao58 t896.length co58)) (fun _ h_=>h_.1))) hb);replace BK899:=A_ (kE_ (g:=gb899) (o:=.cells #[.slice Ao55 t893.length co55,.slice Ao58 t896.length co58] 25 (0,0)) qp_ hb);replace HB:=b1_ hb;clear hb))
        go_roundg k2
        case measure=>have:=HK1.out;have:=HK2.out;omega
        case rel=>exact ⟨(x5_2),(x6_2),(wrap64 (x23_2 + 1)),qc_,H',⟨by have:=HK1.out;have:=HK2.out;omega⟩,⟨by (with_reducible repeat (first | apply Kd.N_alloc | apply Kd.N_drewN | apply Kd.N_drew));exact Kd.N_mono HO_5.out (fun _ hk=>⟨hk.1.1.1.1.1.1,⟨hk.1.1.1.1.1.2.1,⟨hk.1.1.1.1.1.2.2.1,hk.1.1.1.1.1.2.2.2⟩⟩⟩)⟩,⟨(rr_ HO_6)⟩,⟨(rr_ HO_21)⟩,⟨(kk_ BK869)⟩,⟨hB_⟩⟩
      ·rw [if_neg c17] at H
       have c17b0:=oD_ c17
       clear c17
       by_cases c60:(x5_2.length:Int) > 120
       ·rw [if_pos c60] at H
        have c60b0:decide (120 < (x5_2.length:Int)) = true:=oC_ c60
        have c60b1:decide (120 < x5_2.length) = true:=oC_ (by omega)
        clear c60
        simp only [Option.some.injEq,Prod.mk.injEq] at H
        obtain ⟨rfl,rfl,rfl⟩:=H
        obtain ⟨Ao61,co61,eo61⟩:=Kd.N_slice HO_5.out
        subst eo61
        go_wp2
        go_ret3
        exact ⟨_,_,qb_,by first | exact Kd.S_nil _ _ _ _ _ | exact Kd.N_nil _ _ _ _ _ | exact Kd.V_nil _ _ _ _ _ | exact Kd.Q_nil _ _ _ _ _ | exact Kd.R_nil _ _ _ _ _,by first | exact Kd.R_nil _ _ _ _ _ | exact Kd.N_nil _ _ _ _ _ | exact Kd.V_nil _ _ _ _ _ | exact Kd.Q_nil _ _ _ _ _ | exact Kd.S_nil _ _ _ _ _,hB_⟩
       ·rw [if_neg c60] at H
        have c60b0:decide (120 < (x5_2.length:Int)) = false:=oD_ c60
        have c60b1:decide (120 < x5_2.length) = false:=oD_ (by omega)
        clear c60
        have H':=A_ H
        clear H
        obtain ⟨Ao62,co62,eo62⟩:=Kd.N_slice HO_5.out
        subst eo62
        go_wp2
        go_roundg k2
        case measure=>have:=HK1.out;have:=HK2.out;omega
        case rel=>exact ⟨(x5_2),(x6_2),(wrap64 (x7_1 + 1)),qc_,H',⟨by have:=HK1.out;have:=HK2.out;omega⟩,⟨by (with_reducible repeat (first | apply Kd.N_alloc | apply Kd.N_drewN | apply Kd.N_drew));exact Kd.N_mono HO_5.out (fun _ hk=>⟨hk.1,⟨hk.2.1,hk.2.2.2⟩⟩)⟩,⟨(rr_ HO_6)⟩,⟨(kk_ BK869)⟩,⟨hB_⟩⟩
   ·rw [if_neg c12] at H
    have c12b0:=oD_ c12
    clear c12
    simp only [Option.some.injEq,Prod.mk.injEq] at H
    obtain ⟨rfl,rfl,rfl⟩:=H
    obtain ⟨Ao63,co63,eo63⟩:=Kd.N_slice HO_5.out
    subst eo63
    go_wp2
    go_ret3
    exact ⟨_,_,qb_,by (with_reducible repeat (first | apply Kd.N_alloc | apply Kd.N_drewN | apply Kd.N_drew));exact Kd.N_mono HO_5.out (fun _ hk=>⟨hk.1,hk.2.1⟩),(rr_ HO_6),hB_⟩
end Go.Proofs.Ytcggfjpnfodbaaa.A
end
section
/- The orbit in plain words: the program and the reference run alike. No conditions. -/
namespace Go.Proofs.Ytcggfjpnfodbaaa.M
set_option linter.unusedVariables false
set_option linter.unusedSimpArgs false
open Go.RowKit Go.Proofs.YtcggfjpnfodbaaaW.PrintWords Go.Proofs.YtcggfjpnfodbaaaW.PrintLast Go.Proofs.YtcggfjpnfodbaaaW.PrintMore Go.Proofs.Ytcggfjpnfodbaaa.A
def oS (p:List Nat × List Nat):S25:=⟨I p.1,I p.2⟩
def nxt (c:Int) (s:List Nat × List Nat):List Nat × List Nat:=canS (lt c s).1 (lt c s).2
theorem sf_nxt {s:List Nat × List Nat} (hs:Sf s.1 s.2) (c:Int):Sf (nxt c s).1 (nxt c s).2:=sf_canS (s:=lt c s) (sf_lt hs c).1
structure PO where
 L:List (List Nat × List Nat)
 W:List ByteArray
 F:List Int
 B:List Int
 T:List Int
 S:List Int
def PO.orb (s:PO):Orb:=⟨s.L.map oS,s.W,s.F,s.B,s.T,s.S⟩
def fi (L:List (List Nat × List Nat)) (x:List Nat × List Nat):Int:=if x ∈ L then ((L.idxOf x:Nat):Int) else -1
def atL (L:List (List Nat × List Nat)) (i:Nat):List Nat × List Nat:=L.getD i ([],[])
def atW (W:List ByteArray) (i:Nat):ByteArray:=rdOf ByteArray.empty W (i:Int)
def stepP (i:Nat) (c:Int) (s:PO):Option PO :=
 if nxt c (atL s.L i) ∈ s.L then some { s with T:=if c = 84 then s.T ++ [((s.L.idxOf (nxt c (atL s.L i)):Nat):Int)] else s.T,S:=if c = 84 then s.S else s.S ++ [((s.L.idxOf (nxt c (atL s.L i)):Nat):Int)] }
 else if s.L.length = 120 then none
 else some ⟨s.L ++ [nxt c (atL s.L i)],s.W ++ [atW s.W i ++ strOfNums [c]],s.F ++ [(i:Int)],s.B ++ [c],if c = 84 then s.T ++ [(s.L.length:Int)] else s.T,if c = 84 then s.S else s.S ++ [(s.L.length:Int)]⟩
def roundP (i:Nat) (s:PO):Option PO:=(stepP i 84 s).bind (stepP i 83)
def lpP:Nat→PO→Nat→Option PO
 | 0,s,_=>some s
 | f + 1,s,i=>if i < s.L.length then (roundP i s).bind (fun s'=>lpP f s' (i + 1)) else some s
structure Good (s:PO):Prop where
 sf:∀ x ∈ s.L,Sf x.1 x.2
 lw:s.W.length = s.L.length
 lf:s.F.length = s.L.length
 lb:s.B.length = s.L.length
 ws:∀ j,j < s.L.length→(atW s.W j).size≤j
 lt:s.T.length≤200
 ls:s.S.length≤200
theorem atL_get {L:List (List Nat × List Nat)} {i:Nat} (h:i < L.length):atL L i = L[i]:=by simp [atL,List.getD_eq_getElem?_getD,h]
theorem atL_mem {L:List (List Nat × List Nat)} {i:Nat} (h:i < L.length):atL L i ∈ L:=by rw [atL_get h];exact List.getElem_mem h
theorem rd_oS {L:List (List Nat × List Nat)} {i:Nat} (h:i < L.length):rd_T25 (L.map oS) (i:Int) = oS (atL L i):=by
 unfold rd_T25
 rw [atL_get h]
 simp [List.getD_eq_getElem?_getD,h]
theorem str1 (c:Int):(strOfNums [c]).size = 1:=by simp [strOfNums,ByteArray.size]
theorem oidx_ev {L:List (List Nat × List Nat)} (hL:∀ x ∈ L,Sf x.1 x.2) (hl:L.length≤1000) (x:List Nat × List Nat):Ev (fun k=>indexO k (L.map oS) (I x.1) (I x.2)) (fi L x):=by
 unfold indexO
 have c1:(L.map oS).length < 4611686018427387904:=by rw [List.length_map];omega
 simp only [c1,if_true]
 have H:∀ (M:List (List Nat × List Nat)) (i:Nat),(∀ x ∈ M,Sf x.1 x.2)→Ev (fun k=>idxS k (I x.1) (I x.2) (M.map oS) i) (if x ∈ M then ((i + M.idxOf x:Nat):Int) else -1):=by
  intro M
  induction M with
  | nil=>intro i _;exact Ev.now _
  | cons y M ih =>
   intro i hM
   have hy:=hM y (by simp)
   have ly:=hy.le
   have ly2:=hy.eq
   rw [List.map_cons]
   simp only [idxS]
   refine Ev.bind (impl_same y x (by omega) (by omega)) ?_
   by_cases e:y = x
   ·subst e
    simp only [decide_true,if_true,List.mem_cons,true_or,List.idxOf_cons_self,Nat.add_zero]
    exact Ev.now _
   ·have hb:(y == x) = false:=beq_eq_false_iff_ne.mpr e
    simp only [e,decide_false,Bool.false_eq_true,if_false]
    have key:=ih (i + 1) (fun z hz=>hM z (by simp [hz]))
    have e1:(if x ∈ y :: M then ((i + (y :: M).idxOf x:Nat):Int) else -1) = (if x ∈ M then ((i + 1 + M.idxOf x:Nat):Int) else -1):=by
     have e2:x ∈ y :: M ↔ x ∈ M:=by simp [Ne.symm e]
     rw [List.idxOf_cons,hb]
     by_cases hm:x ∈ M
     ·rw [if_pos (e2.mpr hm),if_pos hm]
      simp only [cond_false]
      congr 1
      omega
     ·rw [if_neg (fun h=>hm (e2.mp h)),if_neg hm]
    rw [e1]
    exact key
 have key:=H L 0 hL
 unfold fi
 simp only [Nat.zero_add] at key
 exact key
theorem ofind_ev {L:List (List Nat × List Nat)} (hL:∀ x ∈ L,Sf x.1 x.2) (hl:L.length≤1000) (x:List Nat × List Nat):Ev (fun k=>Z63.f k (L.map oS) (I x.1) (I x.2)) (fi L x):=by
 unfold Z63.f
 have H:∀ d i:Nat,i + d = L.length→(∀ j,j < i→atL L j≠x)→Ev (fun k=>Z63.l0 k (L.map oS) (L.length:Int) (i:Int) (I x.1) (I x.2)) (fi L x):=by
  intro d
  induction d with
  | zero =>
   intro i hi hn
   obtain rfl:i = L.length:=by omega
   have e:fi L x = -1:=by
    unfold fi
    rw [if_neg]
    intro hm
    obtain ⟨j,hj,e⟩:=List.mem_iff_getElem.mp hm
    exact hn j hj (by rw [atL_get hj,e])
   refine ev_succ ?_
   have c1:¬ ((L.length:Int) < (L.length:Int)):=by omega
   simp only [Z63.l0,c1,if_false,e]
   exact Ev.now _
  | succ d ih =>
   intro i hi hn
   have hil:i < L.length:=by omega
   have hy:=hL _ (atL_mem hil)
   have ly:=hy.le
   have ly2:=hy.eq
   have c1:(i:Int) < (L.length:Int):=by omega
   have c2:(0:Int)≤(i:Int):=by omega
   have c3:=w64s i (by omega)
   refine ev_succ ?_
   simp only [Z63.l0,c1,c2,c3,List.length_map,rd_oS hil,if_true]
   refine Ev.bind (spec_same (atL L i) x (by omega) (by omega)) ?_
   by_cases e:atL L i = x
   ·have ef:fi L x = (i:Int):=by
     unfold fi
     have hm:x ∈ L:=by rw [← e];exact atL_mem hil
     rw [if_pos hm]
     congr 1
     have h1:L.idxOf x≤i:=by
      apply Classical.byContradiction
      intro hlt
      have:=List.not_of_lt_findIdx (xs:=L) (p:=(· == x)) (i:=i) (by unfold List.idxOf at hlt;omega)
      rw [← atL_get hil,e] at this
      simp at this
     have h2:¬ L.idxOf x < i:=by
      intro hlt
      have hlt2:L.idxOf x < L.length:=List.idxOf_lt_length_of_mem hm
      refine hn _ hlt ?_
      rw [atL_get hlt2]
      exact List.getElem_idxOf hlt2
     omega
    rw [ef]
    simp only [e,decide_true,if_true]
    exact Ev.now _
   ·simp only [e,decide_false,Bool.false_eq_true,if_false]
    exact ih (i + 1) (by omega) (fun j hj=>by
     by_cases ej:j = i
     ·rw [ej];exact e
     ·exact hn j (by omega))
 have key:=H L.length 0 (Nat.zero_add _) (fun j hj=>by omega)
 rw [List.length_map]
 exact key
theorem fi_neg {L:List (List Nat × List Nat)} {x:List Nat × List Nat}:fi L x < 0 ↔ x ∉ L:=by
 unfold fi
 by_cases h:x ∈ L
 ·rw [if_pos h];constructor
  ·intro h2;omega
  ·intro h2;exact absurd h h2
 ·rw [if_neg h];simp [h]
theorem let_ok {c:Int} (hc:c = 84 ∨ c = 83):letB c = true:=by
 rcases hc with rfl | rfl <;> rfl
theorem stpO_ev {s:PO} (hg:Good s) {i:Nat} (hi:i < s.L.length) (hl:s.L.length≤120) {c:Int} (hc:c = 84 ∨ c = 83):Ev (fun k=>stpO k (i:Int) c s.orb) ((stepP i c s).map PO.orb):=by
 have hs:=hg.sf _ (atL_mem hi)
 have h1:=impl_letter hs c (let_ok hc)
 have h2:=impl_canon (sf_lt hs c).1
 have h3:=oidx_ev hg.sf (by omega) (nxt c (atL s.L i))
 have c1:(0:Int)≤(i:Int):=by omega
 have c2:(i:Int) < (s.orb.L.length:Int):=by show (i:Int) < ((s.L.map oS).length:Int);rw [List.length_map];omega
 unfold stpO
 simp only [c1,c2,if_true]
 have e1:rd_T25 s.orb.L (i:Int) = oS (atL s.L i):=rd_oS hi
 rw [e1]
 refine Ev.bind h1 (Ev.bind h2 (Ev.bind h3 ?_))
 have el:s.orb.L.length = s.L.length:=List.length_map _
 have lw:=hg.lw
 have lf:=hg.lf
 have lb:=hg.lb
 have lt':=hg.lt
 have ls:=hg.ls
 by_cases hm:nxt c (atL s.L i) ∈ s.L
 ·have hn:¬ fi s.L (nxt c (atL s.L i)) < 0:=fun h=>fi_neg.mp h hm
  have e2:fi s.L (nxt c (atL s.L i)) = ((s.L.idxOf (nxt c (atL s.L i)):Nat):Int):=if_pos hm
  have c5:s.orb.T.length < 1000000∧s.orb.S.length < 1000000:=⟨by show s.T.length < _;omega,by show s.S.length < _;omega⟩
  have e3:stepP i c s = some { s with T:=if c = 84 then s.T ++ [((s.L.idxOf (nxt c (atL s.L i)):Nat):Int)] else s.T,S:=if c = 84 then s.S else s.S ++ [((s.L.idxOf (nxt c (atL s.L i)):Nat):Int)] }:=if_pos hm
  rw [e3,e2]
  rw [e2] at hn
  rw [if_neg hn,if_pos c5]
  exact Ev.now _
 ·have hn:fi s.L (nxt c (atL s.L i)) < 0:=fi_neg.mpr hm
  simp only [hn,if_true]
  by_cases h120:s.L.length = 120
  ·have e3:stepP i c s = none:=by unfold stepP;rw [if_neg hm,if_pos h120]
   have c6:(s.orb.L.length:Int) = 120:=by rw [el];omega
   rw [e3,if_pos c6]
   exact Ev.now _
  ·have c6:¬ (s.orb.L.length:Int) = 120:=by rw [el];omega
   have c7:s.orb.L.length < 1000000∧s.orb.W.length < 1000000∧s.orb.F.length < 1000000∧s.orb.B.length < 1000000∧s.orb.T.length < 1000000∧s.orb.S.length < 1000000:=⟨by rw [el];omega,by show s.W.length < _;omega,by show s.F.length < _;omega,by show s.B.length < _;omega,by show s.T.length < _;omega,by show s.S.length < _;omega⟩
   have c8:(i:Int) < (s.orb.W.length:Int):=by show (i:Int) < (s.W.length:Int);omega
   have c9:(rdOf ByteArray.empty s.orb.W (i:Int)).size + 1≤9223372036854775807:=by have:=hg.ws i hi;show (atW s.W i).size + 1≤_;omega
   have e3:stepP i c s = some ⟨s.L ++ [nxt c (atL s.L i)],s.W ++ [atW s.W i ++ strOfNums [c]],s.F ++ [(i:Int)],s.B ++ [c],if c = 84 then s.T ++ [(s.L.length:Int)] else s.T,if c = 84 then s.S else s.S ++ [(s.L.length:Int)]⟩:=by unfold stepP;rw [if_neg hm,if_neg h120]
   rw [e3,if_neg c6,if_pos c7,if_pos c8,if_pos c9]
   have e4:s.orb.L ++ [(⟨I (canS (lt c (atL s.L i)).1 (lt c (atL s.L i)).2).1,I (canS (lt c (atL s.L i)).1 (lt c (atL s.L i)).2).2⟩:S25)] = (s.L ++ [nxt c (atL s.L i)]).map oS:=by rw [List.map_append];rfl
   refine Ev.of (k:=0) (fun k=>LeO.refl _) ?_
   show some (some (Orb.mk _ _ _ _ _ _)) = some (some (Orb.mk _ _ _ _ _ _))
   rw [e4,el]
   rfl
theorem atW_app {W:List ByteArray} {j:Nat} (h:j < W.length) (x:ByteArray):atW (W ++ [x]) j = atW W j:=by
 unfold atW rdOf
 rw [Int.toNat_natCast,List.getD_eq_getElem?_getD,List.getD_eq_getElem?_getD,List.getElem?_append_left h]
theorem atW_last (W:List ByteArray) (x:ByteArray):atW (W ++ [x]) W.length = x:=by
 unfold atW rdOf
 rw [Int.toNat_natCast,List.getD_eq_getElem?_getD,List.getElem?_append_right (Nat.le_refl _)]
 simp
theorem step_good {s s':PO} (hg:Good s) {i:Nat} (hi:i < s.L.length) {c:Int} (hT:s.T.length < 200) (hS:s.S.length < 200) (h:stepP i c s = some s'):Good s'∧i < s'.L.length∧s'.T.length≤s.T.length + 1∧s'.S.length≤s.S.length + 1∧(s.L.length≤120→s'.L.length≤120):=by
 have hs:=hg.sf _ (atL_mem hi)
 unfold stepP at h
 by_cases hm:nxt c (atL s.L i) ∈ s.L
 ·rw [if_pos hm] at h
  have h:=Option.some.inj h
  subst h
  have q1:(if c = 84 then s.T ++ [((s.L.idxOf (nxt c (atL s.L i)):Nat):Int)] else s.T).length≤s.T.length + 1:=by split <;> simp
  have q2:(if c = 84 then s.S else s.S ++ [((s.L.idxOf (nxt c (atL s.L i)):Nat):Int)]).length≤s.S.length + 1:=by split <;> simp
  exact ⟨⟨hg.sf,hg.lw,hg.lf,hg.lb,hg.ws,by show (if c = 84 then _ else _:List Int).length≤200;omega,by show (if c = 84 then _ else _:List Int).length≤200;omega⟩,hi,q1,q2,fun h=>h⟩
 ·rw [if_neg hm] at h
  by_cases h120:s.L.length = 120
  ·rw [if_pos h120] at h;cases h
  ·rw [if_neg h120] at h
   have h:=Option.some.inj h
   subst h
   have q1:(if c = 84 then s.T ++ [(s.L.length:Int)] else s.T).length≤s.T.length + 1:=by split <;> simp
   have q2:(if c = 84 then s.S else s.S ++ [(s.L.length:Int)]).length≤s.S.length + 1:=by split <;> simp
   refine ⟨⟨fun x hx=>?_,by simp [hg.lw],by simp [hg.lf],by simp [hg.lb],fun j hj=>?_,by show (if c = 84 then _ else _:List Int).length≤200;omega,by show (if c = 84 then _ else _:List Int).length≤200;omega⟩,by simp;omega,q1,q2,fun h=>by simp;omega⟩
   ·rcases List.mem_append.mp hx with hx | hx
    ·exact hg.sf x hx
    ·obtain rfl:x = nxt c (atL s.L i):=by simpa using hx
     exact sf_nxt hs c
   ·have hj:j < s.L.length + 1:=by simpa using hj
    show (atW (s.W ++ [atW s.W i ++ strOfNums [c]]) j).size≤j
    by_cases e:j = s.L.length
    ·rw [e,← hg.lw,atW_last,ByteArray.size_append,str1,hg.lw]
     have:=hg.ws i hi
     omega
    ·rw [atW_app (by rw [hg.lw];omega)]
     exact hg.ws j (by omega)
def stepU (i:Nat) (c:Int) (L:List (List Nat × List Nat)) (W:List ByteArray):List (List Nat × List Nat) × List ByteArray:=if nxt c (atL L i) ∈ L then (L,W) else (L ++ [nxt c (atL L i)],W ++ [atW W i ++ strOfNums [c]])
theorem stepU_of {s s':PO} {i:Nat} {c:Int} (h:stepP i c s = some s'):stepU i c s.L s.W = (s'.L,s'.W):=by
 unfold stepP at h
 unfold stepU
 by_cases hm:nxt c (atL s.L i) ∈ s.L
 ·rw [if_pos hm] at h ⊢
  have h:=Option.some.inj h
  subst h
  rfl
 ·rw [if_neg hm] at h ⊢
  by_cases h120:s.L.length = 120
  ·rw [if_pos h120] at h;cases h
  ·rw [if_neg h120] at h
   have h:=Option.some.inj h
   subst h
   rfl
theorem stepU_none {s:PO} {i:Nat} {c:Int} (h:stepP i c s = none):(stepU i c s.L s.W).1.length = 121:=by
 unfold stepP at h
 unfold stepU
 by_cases hm:nxt c (atL s.L i) ∈ s.L
 ·rw [if_pos hm] at h;cases h
 ·rw [if_neg hm] at h ⊢
  by_cases h120:s.L.length = 120
  ·simp [h120]
  ·rw [if_neg h120] at h;cases h
structure GoodU (L:List (List Nat × List Nat)) (W:List ByteArray):Prop where
 sf:∀ x ∈ L,Sf x.1 x.2
 lw:W.length = L.length
 ws:∀ j,j < L.length→(atW W j).size≤j
theorem Good.u {s:PO} (h:Good s):GoodU s.L s.W:=⟨h.sf,h.lw,h.ws⟩
theorem stepU_good {L:List (List Nat × List Nat)} {W:List ByteArray} (hg:GoodU L W) {i:Nat} (hi:i < L.length) (c:Int):GoodU (stepU i c L W).1 (stepU i c L W).2∧L.length≤(stepU i c L W).1.length∧(stepU i c L W).1.length≤L.length + 1:=by
 have hs:=hg.sf _ (atL_mem hi)
 unfold stepU
 by_cases hm:nxt c (atL L i) ∈ L
 ·rw [if_pos hm];exact ⟨hg,Nat.le_refl _,by simp⟩
 ·rw [if_neg hm]
  refine ⟨⟨fun x hx=>?_,by simp [hg.lw],fun j hj=>?_⟩,by simp,by simp⟩
  ·rcases List.mem_append.mp hx with hx | hx
   ·exact hg.sf x hx
   ·obtain rfl:x = nxt c (atL L i):=by simpa using hx
    exact sf_nxt hs c
  ·have hj:j < L.length + 1:=by simpa using hj
   show (atW (W ++ [atW W i ++ strOfNums [c]]) j).size≤j
   by_cases e:j = L.length
   ·rw [e,← hg.lw,atW_last,ByteArray.size_append,str1,hg.lw]
    have:=hg.ws i hi
    omega
   ·rw [atW_app (by rw [hg.lw];omega)]
    exact hg.ws j (by omega)
theorem specU_ev {L:List (List Nat × List Nat)} {W:List ByteArray} (hg:GoodU L W) {i:Nat} (hi:i < L.length) (hl:L.length≤1000) {j:Nat} {c:Int} (hj:j < 2) (hc:rd [84,83] (j:Int) = c) (res:List S25 × List ByteArray × Bool)
  (H:Ev (fun k=>Z49.l1 k ((stepU i c L W).1.map oS) (stepU i c L W).2 (i:Int) [84,83] 2 ((j + 1:Nat):Int)) res):Ev (fun k=>Z49.l1 k (L.map oS) W (i:Int) [84,83] 2 (j:Int)) res:=by
 have hs:=hg.sf _ (atL_mem hi)
 have h1:=spec_letter hs c
 have h2:=spec_canon (sf_lt hs c).1
 have h3:=ofind_ev hg.sf (by omega) (nxt c (atL L i))
 have c1:(j:Int) < 2:=by omega
 have c2:(0:Int)≤(j:Int):=by omega
 have c3:=w64s j (by omega)
 have c4:(j:Int) < (([84,83]:List Int).length:Int):=by show (j:Int) < ((2:Nat):Int);omega
 have c5:(0:Int)≤(i:Int):=by omega
 have c6:(i:Int) < ((L.map oS).length:Int):=by rw [List.length_map];omega
 refine ev_succ ?_
 simp only [Z49.l1,c1,c2,c3,c4,c5,c6,hc,rd_oS hi,if_true,Option.bind_some]
 refine Ev.bind h1 (Ev.bind h2 (Ev.bind h3 ?_))
 unfold stepU at H
 by_cases hm:nxt c (atL L i) ∈ L
 ·have hn:¬ fi L (nxt c (atL L i)) < 0:=fun h=>fi_neg.mp h hm
  rw [if_pos hm] at H
  simp only [hn,if_false]
  exact H
 ·have hn:fi L (nxt c (atL L i)) < 0:=fi_neg.mpr hm
  rw [if_neg hm] at H
  have c7:(L.map oS).length < 2932031007402:=by rw [List.length_map];omega
  have c8:(i:Int) < (W.length:Int):=by have:=hg.lw;omega
  have c9:(rdOf ByteArray.empty W (i:Int)).size + (strOfNums [c]).size≤9223372036854775807:=by have:=hg.ws i hi;rw [str1];show (atW W i).size + 1≤_;omega
  have c10:W.length < 8796093022208:=by have:=hg.lw;omega
  simp only [hn,c7,c8,c9,c10,if_true]
  have e4:L.map oS ++ [(⟨I (canS (lt c (atL L i)).1 (lt c (atL L i)).2).1,I (canS (lt c (atL L i)).1 (lt c (atL L i)).2).2⟩:S25)] = (L ++ [nxt c (atL L i)]).map oS:=by rw [List.map_append];rfl
  rw [e4]
  exact H
def specR:Option PO→List S25 × List ByteArray × Bool
 | none=>([],[],false)
 | some s=>(s.L.map oS,s.W,true)
theorem orb_sim:∀ (f i:Nat) (s:PO),121≤f + i→Good s→i≤s.L.length→s.L.length≤120→s.T.length≤i→s.S.length≤i→Ev (fun k=>loopO k s.orb (i:Int)) ((lpP f s i).map PO.orb)∧Ev (fun k=>Z49.l0 k (s.L.map oS) s.W (i:Int)) (specR (lpP f s i)):=by
 intro f
 induction f with
 | zero=>intro i s h1 h2 h3 h4;omega
 | succ f ih =>
  intro i s hf hg hi0 hl hT hS
  have el:s.orb.L.length = s.L.length:=List.length_map _
  by_cases hi:i < s.L.length
  ·have c1:(i:Int) < (s.orb.L.length:Int):=by rw [el];omega
   have c2:(i:Int) < ((s.L.map oS).length:Int):=by rw [List.length_map];omega
   have c3:=w64s i (by omega)
   have hu:=hg.u
   have e1:=stpO_ev hg hi hl (c:=84) (.inl rfl)
   have u1:=stepU_good hu hi 84
   have eL:lpP (f + 1) s i = (roundP i s).bind (fun s'=>lpP f s' (i + 1)):=by rw [lpP,if_pos hi]
   have fin:∀ (L2:List (List Nat × List Nat)) (W2:List ByteArray) (res:List S25 × List ByteArray × Bool),stepU i 83 (stepU i 84 s.L s.W).1 (stepU i 84 s.L s.W).2 = (L2,W2)→Ev (fun k=>if ((L2.map oS).length:Int) > 120 then (some (([]:List S25),([]:List ByteArray),false)) else Z49.l0 k (L2.map oS) W2 (wrap64 ((i:Int) + 1))) res→Ev (fun k=>Z49.l0 k (s.L.map oS) s.W (i:Int)) res:=by
    intro L2 W2 res e H
    refine ev_succ ?_
    simp only [Z49.l0,c2,if_true,Option.bind_some]
    refine specU_ev hu hi (by omega) (j:=0) (c:=84) (by omega) rfl res ?_
    have hi2:i < (stepU i 84 s.L s.W).1.length:=by omega
    refine specU_ev u1.1 hi2 (by omega) (j:=1) (c:=83) (by omega) rfl res ?_
    rw [e]
    refine ev_succ ?_
    have c9:¬ ((((1 + 1:Nat):Int)) < 2):=by omega
    simp only [Z49.l1,c9,if_false]
    exact H
   have impl0:∀ r:Option Orb,Ev (fun k=>innerO k (i:Int) [84,83] s.orb) r→Ev (fun k=>match r with | none=>some none | some s'=>loopO k s' (wrap64 ((i:Int) + 1))) ((lpP (f + 1) s i).map PO.orb)→Ev (fun k=>loopO k s.orb (i:Int)) ((lpP (f + 1) s i).map PO.orb):=by
    intro r h1 h2
    refine ev_succ ?_
    simp only [loopO,c1,if_true]
    exact Ev.bind h1 h2
   cases h84:stepP i 84 s with
   | none =>
    have en:lpP (f + 1) s i = none:=by rw [eL];unfold roundP;rw [h84];rfl
    have l121:=stepU_none h84
    rw [h84] at e1
    rw [en] at impl0 ⊢
    have u2:=stepU_good u1.1 (i:=i) (by omega) 83
    have l2:(stepU i 83 (stepU i 84 s.L s.W).1 (stepU i 84 s.L s.W).2).1.length > 120:=by omega
    refine ⟨impl0 none ?_ (Ev.now _),?_⟩
    ·unfold innerO
     exact Ev.bind e1 (Ev.now _)
    ·revert l2
     generalize ep:stepU i 83 (stepU i 84 s.L s.W).1 (stepU i 84 s.L s.W).2 = p
     intro l2
     refine fin p.1 p.2 _ ep ?_
     have c9:((p.1.map oS).length:Int) > 120:=by rw [List.length_map];omega
     simp only [c9,if_true]
     exact Ev.now _
   | some s1 =>
    obtain ⟨g1,i1,t1,ss1,l1⟩:=step_good hg hi (by omega) (by omega) h84
    have e2:=stpO_ev g1 i1 (l1 hl) (c:=83) (.inr rfl)
    have eu:=stepU_of h84
    rw [h84] at e1
    have eR:lpP (f + 1) s i = (stepP i 83 s1).bind (fun s'=>lpP f s' (i + 1)):=by rw [eL];unfold roundP;rw [h84];rfl
    cases h83:stepP i 83 s1 with
    | none =>
     have en:lpP (f + 1) s i = none:=by rw [eR,h83];rfl
     have l121:=stepU_none h83
     rw [h83] at e2
     rw [en] at impl0 ⊢
     have l2:(stepU i 83 (stepU i 84 s.L s.W).1 (stepU i 84 s.L s.W).2).1.length > 120:=by rw [eu,l121];omega
     refine ⟨impl0 none ?_ (Ev.now _),?_⟩
     ·unfold innerO
      refine Ev.bind e1 ?_
      simp only [innerO]
      exact Ev.bind e2 (Ev.now _)
     ·revert l2
      generalize ep:stepU i 83 (stepU i 84 s.L s.W).1 (stepU i 84 s.L s.W).2 = p
      intro l2
      refine fin p.1 p.2 _ ep ?_
      have c9:((p.1.map oS).length:Int) > 120:=by rw [List.length_map];omega
      simp only [c9,if_true]
      exact Ev.now _
    | some s2 =>
     obtain ⟨g2,i2,t2,ss2,l2⟩:=step_good g1 i1 (by omega) (by omega) h83
     have eu2:=stepU_of h83
     rw [h83] at e2
     have es:lpP (f + 1) s i = lpP f s2 (i + 1):=by rw [eR,h83];rfl
     have hT2:s2.T.length≤i + 1∧s2.S.length≤i + 1:=by
      have a1:s1.S.length = s.S.length:=by
       unfold stepP at h84
       split at h84
       ·have h:=Option.some.inj h84;subst h;rfl
       ·split at h84
        ·cases h84
        ·have h:=Option.some.inj h84;subst h;rfl
      have a2:s2.T.length = s1.T.length:=by
       unfold stepP at h83
       split at h83
       ·have h:=Option.some.inj h83;subst h;rfl
       ·split at h83
        ·cases h83
        ·have h:=Option.some.inj h83;subst h;rfl
      omega
     obtain ⟨k1,k2⟩:=ih (i + 1) s2 (by omega) g2 (by omega) (l2 (l1 hl)) hT2.1 hT2.2
     rw [es] at impl0 ⊢
     refine ⟨impl0 (some s2.orb) ?_ ?_,?_⟩
     ·unfold innerO
      refine Ev.bind e1 ?_
      simp only [innerO]
      refine Ev.bind e2 (Ev.now _)
     ·simp only [c3]
      exact k1
     ·refine fin s2.L s2.W _ (by rw [eu];exact eu2) ?_
      have c9:¬ ((s2.L.map oS).length:Int) > 120:=by rw [List.length_map];have:=l2 (l1 hl);omega
      simp only [c9,if_false,c3]
      exact k2
  ·have c1:¬ (i:Int) < (s.orb.L.length:Int):=by rw [el];omega
   have c2:¬ (i:Int) < ((s.L.map oS).length:Int):=by rw [List.length_map];omega
   have eL:lpP (f + 1) s i = some s:=by rw [lpP,if_neg hi]
   rw [eL]
   constructor
   ·refine ev_succ ?_
    simp only [loopO,c1,if_false]
    exact Ev.now _
   ·refine ev_succ ?_
    simp only [Z49.l0,c2,if_false]
    exact Ev.now _
def start0 (a:List Nat × List Nat):PO:=⟨[canS a.1 a.2],[⟨#[]⟩],[-1],[0],[],[]⟩
def orbP (a:List Nat × List Nat):Option PO:=lpP 121 (start0 a) 0
theorem start_good {a:List Nat × List Nat} (ha:Sf a.1 a.2):Good (start0 a) :=
 ⟨fun x hx=>by obtain rfl:x = canS a.1 a.2:=(by simpa [start0] using hx);exact sf_canS ha,rfl,rfl,rfl,fun j hj=>by
  have hj:j < 1:=hj
  obtain rfl:j = 0:=by omega
  exact Nat.le_refl _,by simp [start0],by simp [start0]⟩
theorem orb_both {a:List Nat × List Nat} (ha:Sf a.1 a.2):Ev (fun k=>orbitO k (I a.1) (I a.2)) ((orbP a).map PO.orb)∧Ev (fun k=>Z49.f k (I a.1) (I a.2)) (specR (orbP a)):=by
 obtain ⟨h1,h2⟩:=orb_sim 121 0 (start0 a) (by omega) (start_good ha) (Nat.zero_le _) (by simp [start0]) (by simp [start0]) (by simp [start0])
 constructor
 ·unfold orbitO
  refine Ev.bind (impl_canon ha) ?_
  simp only [if_true]
  exact h1
 ·unfold Z49.f
  exact Ev.bind (spec_canon ha) h2
theorem orbO_no {r u:List Int} (h:¬ surfB r u = true):Ev (fun k=>orbitO k r u) none:=by
 unfold orbitO
 refine Ev.bind (impl_canon_no h) ?_
 simp only [Bool.false_eq_true,if_false]
 exact Ev.now _
end Go.Proofs.Ytcggfjpnfodbaaa.M
end
