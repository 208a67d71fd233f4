/- Lemmas for the row FnExactCurveGenus: the program's functions told as plain functions, and plain mathematics. No conditions. -/
import Derived.MapKept
import Derived.Test.YtcggfjpnfodbaaaGreatQFnExactCurveGenus2
section
namespace Go.Proofs.YtcggfjpnfodbaaaGreat.A
open Go.RowKit Go.Proofs.YtcggfjpnfodbaaaGreatW.PrintWords Go.Proofs.YtcggfjpnfodbaaaGreatW.PrintLast Go.Proofs.YtcggfjpnfodbaaaGreatW.PrintMore
attribute [local go_sem] max2_int min2_int max_two min_two max_three min_three max_four min_four
set_option linter.unusedVariables false
set_option linter.unusedSimpArgs false
def Z42.f (k:Nat) (l0_0:List Int) (l0_1:List Int):Option (List Int × List Int):=(Z79.f k l0_0).bind fun t481=>((Z79.f k l0_1).bind fun t484=>(some (t481,t484)))
theorem Z42.mono:∀ a0 a1 k,LeO (Z42.f k a0 a1) (Z42.f (k + 1) a0 a1):=by
 intro a0 a1 k
 unfold Z42.f
 repeat' first|exact Z79.mono _ _|exact lo_|refine LeO.ite ?_ ?_|refine LeO.bind ?_ (fun _=>?_)
set_option maxHeartbeats 8000000 in
set_option maxRecDepth 100000 in
theorem Z42.calls (k:Nat) (A0_0:Option Addr) (c0_0:Nat) (l0_0:List Int) (A0_1:Option Addr) (c0_1:Nat) (l0_1:List Int) (r1:List Int) (r2:List Int) (w:World) (hr0_0:Kd.C (Kd.int .i64) w A0_0 l0_0.length l0_0) (hc0_0:l0_0.length≤c0_0) (hr0_1:Kd.C (Kd.int .i64) w A0_1 l0_1.length l0_1) (hc0_1:l0_1.length≤c0_1) (h:Z42.f k l0_0 l0_1 = some (r1,r2)) :
  Calls Tryz.prog 6 #[.agg #[.slice A0_0 l0_0.length c0_0,.slice A0_1 l0_1.length c0_1]] w fun e w'=>∃ v0_ v1_:Value,e = .returned (.agg #[v0_,v1_])∧Kd.R (Kd.int .i64) 3 w' w.heap.size (fun k_=>some k_≠(v1_:Value).ownBlock) v0_ r1∧Kd.R (Kd.int .i64) 3 w' w.heap.size (fun k_=>some k_≠(v0_:Value).ownBlock) v1_ r2∧Below w.heap.size w w':=by
 have hu24:=Tryz.underlying24
 have hu27:=Tryz.underlying27
 have HR0_0:=A_ hr0_0
 have HC0_0:=A_ hc0_0
 clear hr0_0 hc0_0
 have HR0_1:=A_ hr0_1
 have HC0_1:=A_ hc0_1
 clear hr0_1 hc0_1
 have HB:=A_ (Below.refl w.heap.size w)
 have H:=h
 unfold Z42.f at H
 clear h
 obtain ⟨t481,A2,H⟩:=bi_ H
 obtain ⟨t484,A3,H⟩:=bi_ H
 simp only [Option.some.injEq,Prod.mk.injEq] at H
 obtain ⟨rfl,rfl⟩:=H
 go_enter Tryz.func6,Tryz.ntmps6
 go_wp2_with (first | ((with_reducible refine gB_ (N:=1) rfl ?_);refine bx_ 1 #[.slice A0_0 l0_0.length c0_0,.slice A0_1 l0_1.length c0_1] 24 ?_;intro gb478 hg w4 hbox hb;have BK478:=A_ hbox;have GW478:=gw_ w hg;have GE478:=GW478;replace HB:=b1_ hb;clear hb hbox hg) | ((with_reducible refine gB_ (N:=2) rfl ?_);refine bx_ 2 #[.slice none 0 0,.slice none 0 0] 27 ?_;intro gb479 hg w5 hbox hb;have BK479:=A_ hbox;have GW479:=gw_ w hg;have GE479:=GW479;replace HB:=b1_ hb;have NB478_479:=gN_ BK478 hg;have NB479_478:=gP_ BK478 hg;replace BK478:=bb_ BK478 hb;clear hb hbox hg) | ((with_reducible refine gB_ (N:=3) rfl ?_);refine bx_ 3 #[.slice none 0 0,.slice none 0 0] 27 ?_;intro gb480 hg w6 hbox hb;have BK480:=A_ hbox;have GW480:=gw_ w hg;have GE480:=GW480;replace HB:=b1_ hb;have NB478_480:=gN_ BK478 hg;have NB480_478:=gP_ BK478 hg;replace BK478:=bb_ BK478 hb;have NB479_480:=gN_ BK479 hg;have NB480_479:=gP_ BK479 hg;replace BK479:=bb_ BK479 hb;clear hb hbox hg;have hnb7:=NB478_479.out;have hnc7:=NB479_478.out;have hnb8:=NB478_480.out;have hnc8:=NB480_478.out;obtain ⟨hcz9_0,hcz9_1,hfz9_0,hfz9_1⟩:=c2_ BK478) | ((with_reducible refine gA_ (f:=15) rfl ?_);refine gL_ (some 6) Tryz.func15 #[.slice A0_0 l0_0.length c0_0] rfl qa_ ?_;(with_reducible refine (Z79.calls k _ _ l0_0 t481 _ (cb_ HR0_0) HC0_0.out A2.out).mono ?_);rintro e w10 ⟨v482,rfl,ho0,hb⟩;refine ⟨_,rfl,?_⟩;have HO483:=rl_ w ho0;replace BK478:=bb_ BK478 hb;replace BK479:=bb_ BK479 hb;replace BK480:=bb_ BK480 hb;replace HB:=b1_ hb;clear hb ho0;obtain ⟨Ao11,co11,eo11⟩:=Kd.R_slice HO483.out;subst eo11;have hnb12:=NB480_479.out;have hnc12:=NB479_480.out;obtain ⟨hcz13_0,hcz13_1,hfz13_0,hfz13_1⟩:=c2_ BK480;obtain ⟨hcz14_0,hcz14_1,hfz14_0,hfz14_1⟩:=c2_ BK478) | ((with_reducible refine gA_ (f:=15) rfl ?_);refine gL_ (some 10) Tryz.func15 #[.slice A0_1 l0_1.length c0_1] rfl qa_ ?_;(with_reducible refine (Z79.calls k _ _ l0_1 t484 _ (cD_ HR0_1.out hB_) HC0_1.out A3.out).mono ?_);rintro e w15 ⟨v485,rfl,ho0,hb⟩;refine ⟨_,rfl,?_⟩;have HO486:=A_ (rE_ (Kd.R_new' ho0 (Kd.R_lt (rw_ (Kd.R_mono (Kd.R_far (p:=⟨gb480,0,none⟩) (Kd.R_types HO483.out BK480.out (by decide)) (fun _ hk=>hk.2) (.slice Ao11 t481.length co11)) (fun _ h_=>h_.1))))) (bF_ hB_));replace HO483:=A_ (Kd.R_elder' (rw_ (Kd.R_mono (Kd.R_far (p:=⟨gb480,0,none⟩) (Kd.R_types HO483.out BK480.out (by decide)) (fun _ hk=>hk.2) (.slice Ao11 t481.length co11)) (fun _ h_=>h_.1))) (Kd.R_base ho0) hb);replace BK478:=A_ (kE_ (g:=gb478) (o:=.cells #[.slice A0_0 l0_0.length c0_0,.slice A0_1 l0_1.length c0_1] 24 (0,0)) (by (with_reducible repeat (first | refine kA_ ?_ _ | refine kB_ ?_ | refine kC_ ?_ _));refine blk_far ?_ NB478_480.out _;(with_reducible repeat (first | refine kA_ ?_ _ | refine kB_ ?_ | refine kC_ ?_ _));exact BK478.out) hb);replace BK479:=A_ (kE_ (g:=gb479) (o:=.cells #[.slice none 0 0,.slice none 0 0] 27 (0,0)) (by (with_reducible repeat (first | refine kA_ ?_ _ | refine kB_ ?_ | refine kC_ ?_ _));refine blk_far ?_ NB479_480.out _;(with_reducible repeat (first | refine kA_ ?_ _ | refine kB_ ?_ | refine kC_ ?_ _));exact BK479.out) hb);replace BK480:=A_ (kE_ (g:=gb480) (o:=.cells #[.slice Ao11 t481.length co11,.slice none 0 0] 27 (0,0)) (by (with_reducible repeat (first | refine kA_ ?_ _ | refine kB_ ?_ | refine kC_ ?_ _));refine blk_put (cs:=#[.slice none 0 0,.slice none 0 0]) ?_ 0 _ rfl;(with_reducible repeat (first | refine kA_ ?_ _ | refine kB_ ?_ | refine kC_ ?_ _));exact BK480.out) hb);replace HB:=b1_ hb;clear hb ho0;obtain ⟨Ao16,co16,eo16⟩:=Kd.R_slice HO486.out;subst eo16;obtain ⟨hcz17_0,hcz17_1,hfz17_0,hfz17_1⟩:=c2_ BK480;obtain ⟨hcz18_0,hcz18_1,hfz18_0,hfz18_1⟩:=c2_ BK479))
 refine bodyPost_ret (results_cell_row rfl _ _ gb479 27 #[.slice Ao11 t481.length co11,.slice Ao16 t484.length co16] (0,0) _ rfl (by (with_reducible repeat (first | refine kA_ ?_ _ | refine kB_ ?_ | refine kC_ ?_ _));refine blk_put (cs:=#[.slice Ao11 t481.length co11,.slice none 0 0]) ?_ 1 _ rfl;(with_reducible repeat (first | refine kA_ ?_ _ | refine kB_ ?_ | refine kC_ ?_ _));refine blk_put (cs:=#[.slice none 0 0,.slice none 0 0]) ?_ 0 _ rfl;(with_reducible repeat (first | refine kA_ ?_ _ | refine kB_ ?_ | refine kC_ ?_ _));refine blk_far ?_ NB479_480.out _;(with_reducible repeat (first | refine kA_ ?_ _ | refine kB_ ?_ | refine kC_ ?_ _));exact BK479.out) Tryz.underlying27 rfl (by kernel_rfl)) rfl ?_
 exact ⟨_,_,qb_,(rw_ (Kd.R_mono (Kd.R_far (p:=⟨gb479,1,none⟩) (Kd.R_far (p:=⟨gb479,0,none⟩) (Kd.R_far (p:=⟨gb480,1,none⟩) (Kd.R_types (Kd.R_types HO483.out BK480.out (by decide)) BK479.out (by decide)) (fun _ hk=>hk.1.2) (.slice Ao16 t484.length co16)) (fun _ hk=>hk.2) (.slice Ao11 t481.length co11)) (fun _ hk=>hk.2) (.slice Ao16 t484.length co16)) (fun _ hk=>hk.1.1.2))),(rw_ (Kd.R_mono (Kd.R_far (p:=⟨gb479,1,none⟩) (Kd.R_far (p:=⟨gb479,0,none⟩) (Kd.R_far (p:=⟨gb480,1,none⟩) (Kd.R_types (Kd.R_types HO486.out BK480.out (by decide)) BK479.out (by decide)) (fun _ hk=>hk.1.2) (.slice Ao16 t484.length co16)) (fun _ hk=>hk.2) (.slice Ao11 t481.length co11)) (fun _ hk=>hk.2) (.slice Ao16 t484.length co16)) (fun _ hk=>hk.1.1.2))),hB_⟩
end Go.Proofs.YtcggfjpnfodbaaaGreat.A
end
section
/- A map of two keys, as it is filled: look-ups and stores. No conditions. -/
namespace Go.Proofs.YtcggfjpnfodbaaaGreat.M
set_option linter.unusedVariables false
set_option linter.unusedSimpArgs false
open Go Go.RowKit Go.Proofs.YtcggfjpnfodbaaaGreatW.PrintWords Go.Proofs.YtcggfjpnfodbaaaGreatW.PrintLast Go.Proofs.YtcggfjpnfodbaaaGreatW.PrintMore Go.Proofs.YtcggfjpnfodbaaaGreat.A Go.MapKept
def mapO (n:Nat) (vT vS:Value):Obj:=.map ((#[⟨.int .u8 84,vT,0⟩,⟨.int .u8 83,vS,1⟩]:Array MapEntry).extract 0 n) n
def mapV (n c:Nat) (vT vS:Value):Value:=if c = 84 then (if 1≤n then vT else .slice none 0 0) else if 2≤n then vS else .slice none 0 0
theorem key_u8 (c:Int):IsKey (.int .u8) (.int .u8 c):=rfl
theorem map_look {w:World} {b:Nat} {es:Array MapEntry} {c:Nat} (hb:w.heap[b]? = some (.map es c)) (kk:Int) (r:Option (Nat × Value)) (hf:Instr.findNow (.int .u8) (.int .u8 kk) es.toList 0 = some r) :
  (Instr.lookup 49 (.map (some b)) (.int .u8 kk) false).run Tryz.prog w = .ok (match r with | some x=>x.2 | none=>.slice none 0 0) w:=by
 have ht:=Tryz.underlying49
 have hk:Tryz.prog.underlying 5 = some (.int .u8):=Tryz.underlying5
 have h1:=Go.MapKept.run_findKey (P:=Tryz.prog) (w:=w) hk hf
 have hz:(zeroValue 22).run Tryz.prog w = .ok (.slice none 0 0) w:=by kernel_rfl
 cases r with
 | none=>simp [Instr.lookup,run_underlying ht,Go.MapKept.run_getObj_map hb,Go.MapKept.run_checkKey hk (key_u8 kk),h1,hz,Result.andThen]
 | some x=>simp [Instr.lookup,run_underlying ht,Go.MapKept.run_getObj_map hb,Go.MapKept.run_checkKey hk (key_u8 kk),h1,hz,Result.andThen]
theorem map_push {w:World} {b:Nat} {es:Array MapEntry} {c:Nat} (hb:w.heap[b]? = some (.map es c)) (kk:Int) (hf:Instr.findNow (.int .u8) (.int .u8 kk) es.toList 0 = some none) (v:Value) :
  (Instr.mapUpdate 49 (.map (some b)) (.int .u8 kk) v).run Tryz.prog w = .ok () { w with heap:=w.heap.setIfInBounds b (.map (es.push ⟨.int .u8 kk,v,c⟩) (c + 1)) }:=by
 have ht:=Tryz.underlying49
 have hk:Tryz.prog.underlying 5 = some (.int .u8):=Tryz.underlying5
 have h1:=Go.MapKept.run_findKey (P:=Tryz.prog) (w:=w) hk hf
 simp [Instr.mapUpdate,run_underlying ht,Go.MapKept.run_getObj_map hb,Go.MapKept.run_checkKey hk (key_u8 kk),h1,Go.MapKept.run_setObj_map _ hb,Result.andThen]
theorem map_turn {w:World} {b:Nat} {es:Array MapEntry} {c:Nat} (hb:w.heap[b]? = some (.map es c)) (kk:Int) (i:Nat) (u v:Value) (hf:Instr.findNow (.int .u8) (.int .u8 kk) es.toList 0 = some (some (i,u))) (hi:(es[i]?.map (·.key)) = some (.int .u8 kk)) :
  (Instr.mapUpdate 49 (.map (some b)) (.int .u8 kk) v).run Tryz.prog w = .ok () { w with heap:=w.heap.setIfInBounds b (.map (es.modify i fun e=>{ e with key:=.int .u8 kk,val:=v }) c) }:=by
 have ht:=Tryz.underlying49
 have hk:Tryz.prog.underlying 5 = some (.int .u8):=Tryz.underlying5
 have h1:=Go.MapKept.run_findKey (P:=Tryz.prog) (w:=w) hk hf
 have h2:=Go.MapKept.run_keyThatStays (P:=Tryz.prog) (w:=w) (key_u8 kk)
 simp [Instr.mapUpdate,run_underlying ht,Go.MapKept.run_getObj_map hb,Go.MapKept.run_checkKey hk (key_u8 kk),h1,hi,h2,Go.MapKept.run_setObj_map _ hb,Result.andThen]
def setMap (w:World) (b n:Nat) (vT vS:Value):World:={ w with heap:=w.heap.setIfInBounds b (mapO n vT vS) }
theorem look_T {w:World} {b n:Nat} {vT vS:Value} (hb:w.heap[b]? = some (mapO n vT vS)) (hn:n = 0 ∨ n = 1 ∨ n = 2):(Instr.lookup 49 (.map (some b)) (.int .u8 84) false).run Tryz.prog w = .ok (mapV n 84 vT vS) w:=by
 rcases hn with rfl | rfl | rfl
 ·exact map_look hb 84 none rfl
 ·exact map_look hb 84 (some (0,vT)) rfl
 ·exact map_look hb 84 (some (0,vT)) rfl
theorem look_S {w:World} {b n:Nat} {vT vS:Value} (hb:w.heap[b]? = some (mapO n vT vS)) (hn:n = 0 ∨ n = 1 ∨ n = 2):(Instr.lookup 49 (.map (some b)) (.int .u8 83) false).run Tryz.prog w = .ok (mapV n 83 vT vS) w:=by
 rcases hn with rfl | rfl | rfl
 ·exact map_look hb 83 none rfl
 ·exact map_look hb 83 none rfl
 ·exact map_look hb 83 (some (1,vS)) rfl
theorem put_T {w:World} {b n:Nat} {vT vS:Value} (hb:w.heap[b]? = some (mapO n vT vS)) (hn:n = 0 ∨ n = 2) (v:Value):(Instr.mapUpdate 49 (.map (some b)) (.int .u8 84) v).run Tryz.prog w = .ok () (setMap w b (max n 1) v vS):=by
 rcases hn with rfl | rfl
 ·exact map_push hb 84 rfl v
 ·exact map_turn hb 84 0 vT v rfl rfl
theorem put_S {w:World} {b n:Nat} {vT vS:Value} (hb:w.heap[b]? = some (mapO n vT vS)) (hn:n = 1 ∨ n = 2) (v:Value):(Instr.mapUpdate 49 (.map (some b)) (.int .u8 83) v).run Tryz.prog w = .ok () (setMap w b 2 vT v):=by
 rcases hn with rfl | rfl
 ·exact map_push hb 83 rfl v
 ·exact map_turn hb 83 1 vS v rfl rfl
theorem setMap_at {w:World} {b n:Nat} {o:Obj} (hb:w.heap[b]? = some o) (vT vS:Value):(setMap w b n vT vS).heap[b]? = some (mapO n vT vS):=by
 have:=(Array.getElem?_eq_some_iff.1 hb).1
 simp [setMap,this]
theorem setMap_far {w:World} {b n:Nat} (vT vS:Value) {g:Nat} (h:g≠b):(setMap w b n vT vS).heap[g]? = w.heap[g]?:=by
 simp only [setMap,Array.getElem?_setIfInBounds]
 rw [if_neg (fun e=>h e.symm)]
theorem setMap_grown {w:World} {b n:Nat} (vT vS:Value):w.grownBy (setMap w b n vT vS) (some b) :=
 ⟨rfl,rfl,rfl,by simp [setMap],fun i _ hi=>setMap_far vT vS (fun e=>hi (by rw [e]))⟩
theorem setMap_below {w0 w:World} {b n:Nat} (vT vS:Value) (hB:Below w0.heap.size w0 w) (hb:w0.heap.size≤b):Below w0.heap.size w0 (setMap w b n vT vS) :=
 hB.grown (setMap_grown vT vS) hB.size (fun k e=>by injection e with e;omega)
end Go.Proofs.YtcggfjpnfodbaaaGreat.M
end
section
namespace Go.Proofs.YtcggfjpnfodbaaaGreat.A
open Go.RowKit Go.Proofs.YtcggfjpnfodbaaaGreatW.PrintWords Go.Proofs.YtcggfjpnfodbaaaGreatW.PrintLast Go.Proofs.YtcggfjpnfodbaaaGreatW.PrintMore
attribute [local go_sem] max2_int min2_int max_two min_two max_three min_three max_four min_four
set_option linter.unusedVariables false
set_option linter.unusedSimpArgs false
def Z5.l0:Nat→List Int→List Int→Int→Int→Option (Bool)
 | 0,_,_,_,_=>none
 | k + 1,x0,x1,x12,x13=>if x13 < x12 then (if 0≤x13 then (if x13 < (x0.length:Int) then (if x13 < (x1.length:Int) then (if (rd x0 x13) = (rd x1 x13) then (Z5.l0 k x0 x1 x12 (wrap64 (x13 + 1))) else (some false)) else (none)) else (none)) else (none)) else (some true)
def Z5.f (k:Nat) (l0:List Int) (l1:List Int):Option (Bool):=if (l0.length:Int) = (l1.length:Int) then (Z5.l0 k l0 l1 (l0.length:Int) 0) else (some false)
theorem Z5.mono_l:∀ k,(∀ y0 y1 y2 y3,LeO (Z5.l0 k y0 y1 y2 y3) (Z5.l0 (k + 1) y0 y1 y2 y3))
 | 0=>fun _ _ _ _ r h=>by simp [Z5.l0] at h
 | k + 1=>by
  have ih0:=Z5.mono_l k
  ·intro y0 y1 y2 y3
   unfold Z5.l0
   repeat' first|exact ih0 _ _ _ _|exact lo_|refine LeO.ite ?_ ?_|refine LeO.bind ?_ (fun _=>?_)
theorem Z5.mono:∀ a0 a1 k,LeO (Z5.f k a0 a1) (Z5.f (k + 1) a0 a1):=by
 intro a0 a1 k
 have ih0:=Z5.mono_l k
 unfold Z5.f
 repeat' first|exact ih0 _ _ _ _|exact lo_|refine LeO.ite ?_ ?_|refine LeO.bind ?_ (fun _=>?_)
set_option maxHeartbeats 8000000 in
set_option maxRecDepth 100000 in
theorem Z5.calls (k:Nat) (A0:Option Addr) (c0:Nat) (l0:List Int) (A1:Option Addr) (c1:Nat) (l1:List Int) (r:Bool) (w:World) (hr0:Kd.C (Kd.int .i64) w A0 l0.length l0) (hc0:l0.length≤c0) (hr1:Kd.C (Kd.int .i64) w A1 l1.length l1) (hc1:l1.length≤c1) (h:Z5.f k l0 l1 = some r) :
  Calls Tryz.prog 107 #[.slice A0 l0.length c0,.slice A1 l1.length c1] w fun e w'=>e = .returned (.bool r)∧Drawn0 w w':=by
 have HR0:=A_ hr0
 have HC0:=A_ hc0
 clear hr0 hc0
 have HR1:=A_ hr1
 have HC1:=A_ hc1
 clear hr1 hc1
 have H:=h
 unfold Z5.f at H
 clear h
 by_cases c3:(l0.length:Int) = (l1.length:Int)
 ·rw [if_pos c3] at H
  have c3b0:((l0.length:Int) == (l1.length:Int)) = true:=beq_iff_eq.mpr c3
  have c3b1:((l0.length:Int) != (l1.length:Int)) = false:=bne_eq_false_iff_eq.mpr c3
  have c3b2:(l0.length == l1.length) = true:=by first | simpa using c3 | (simp at c3 ⊢;omega)
  clear c3
  have H':=A_ H
  clear H
  go_enter Tryz.func107,Tryz.ntmps107
  go_wp2
  repeat (go_quiet (fail);try go_wp2)
  go_loopg [13] k (fun kq v13 w'=>∃ (x13_1:Int),v13 = .int .i64 x13_1∧Aside0 (Z5.l0 kq l0 l1 (l0.length:Int) x13_1 = some r)∧Aside0 (kq≤k)∧Drawn0 w w')
  case atStart=>exact ⟨(0),qc_,H',⟨nA_ _⟩,by repeat (first | exact Drawn0.refl _ | apply Drawn0.step)⟩
  case round =>
   clear H'
   obtain ⟨x13_1,rfl,HA,HK1,⟨m1,rfl⟩⟩:=hrel
   cases gk with
   | zero=>exact absurd HA.out (by simp [Z5.l0])
   | succ k1 =>
    have H:=HA.out
    clear HA
    simp only [Z5.l0] at H
    by_cases c4:x13_1 < (l0.length:Int)
    ·rw [if_pos c4] at H
     have c4b0:=oC_ c4
     clear c4
     have c5:=cp_ H
     replace H:=ca_ H
     have c5b0:=oC_ c5
     clear c5
     have c6:=cp_ H
     replace H:=ca_ H
     have c6b0:=oC_ c6
     clear c6
     have c7:=cp_ H
     replace H:=ca_ H
     have c7b0:=oC_ c7
     clear c7
     by_cases c8:(rd l0 x13_1) = (rd l1 x13_1)
     ·rw [if_pos c8] at H
      have c8b0:((rd l0 x13_1) == (rd l1 x13_1)) = true:=beq_iff_eq.mpr c8
      have c8b1:((rd l0 x13_1) != (rd l1 x13_1)) = false:=bne_eq_false_iff_eq.mpr c8
      clear c8
      have H':=A_ H
      clear H
      have p719:0≤(x13_1:Int):=oB_ qe_
      have q719:x13_1 < (l0.length:Int):=oB_ qe_
      obtain ⟨ad719,e719,hx719_0⟩:=Kd.at_int HR0.out x13_1 p719 q719
      cases e719
      replace p719:=eq_true p719
      replace q719:=eq_true q719
      have p720:0≤(x13_1:Int):=oB_ qe_
      have q720:x13_1 < (l1.length:Int):=oB_ qe_
      obtain ⟨ad720,e720,hx720_0⟩:=Kd.at_int HR1.out x13_1 p720 q720
      cases e720
      replace p720:=eq_true p720
      replace q720:=eq_true q720
      go_wp2
      repeat (go_quiet (fail);try go_wp2)
      go_roundg k1
      case measure=>have:=HK1.out;omega
      case rel=>exact ⟨(wrap64 (x13_1 + 1)),qc_,H',⟨by have:=HK1.out;omega⟩,by repeat (first | exact Drawn0.refl _ | apply Drawn0.step)⟩
     ·rw [if_neg c8] at H
      have c8b0:((rd l0 x13_1) == (rd l1 x13_1)) = false:=beq_eq_false_iff_ne.mpr c8
      have c8b1:((rd l0 x13_1) != (rd l1 x13_1)) = true:=bne_iff_ne.mpr c8
      obtain rfl:=Option.some.inj H
      have p719:0≤(x13_1:Int):=oB_ qe_
      have q719:x13_1 < (l0.length:Int):=oB_ qe_
      obtain ⟨ad719,e719,hx719_0⟩:=Kd.at_int HR0.out x13_1 p719 q719
      cases e719
      replace p719:=eq_true p719
      replace q719:=eq_true q719
      have p720:0≤(x13_1:Int):=oB_ qe_
      have q720:x13_1 < (l1.length:Int):=oB_ qe_
      obtain ⟨ad720,e720,hx720_0⟩:=Kd.at_int HR1.out x13_1 p720 q720
      cases e720
      replace p720:=eq_true p720
      replace q720:=eq_true q720
      go_wp2
      repeat (go_quiet (fail);try go_wp2)
      go_ret
      exact ⟨qc_,by repeat (first | exact Drawn0.refl _ | apply Drawn0.step)⟩
    ·rw [if_neg c4] at H
     have c4b0:=oD_ c4
     clear c4
     obtain rfl:=Option.some.inj H
     go_wp2
     repeat (go_quiet (fail);try go_wp2)
     go_ret
     exact ⟨qc_,by repeat (first | exact Drawn0.refl _ | apply Drawn0.step)⟩
 ·rw [if_neg c3] at H
  have c3b0:((l0.length:Int) == (l1.length:Int)) = false:=beq_eq_false_iff_ne.mpr c3
  have c3b1:((l0.length:Int) != (l1.length:Int)) = true:=bne_iff_ne.mpr c3
  have c3b2:(l0.length == l1.length) = false:=by first | simpa using c3 | (simp at c3 ⊢;omega)
  obtain rfl:=Option.some.inj H
  go_enter Tryz.func107,Tryz.ntmps107
  go_wp2
  repeat (go_quiet (fail);try go_wp2)
  go_ret
  exact ⟨qc_,by repeat (first | exact Drawn0.refl _ | apply Drawn0.step)⟩
def Z52.f (k:Nat) (l0:List Int) (l1:List Int):Option (Bool):=(Z5.f k l0 l1).bind fun t721=>(some t721)
theorem Z52.mono:∀ a0 a1 k,LeO (Z52.f k a0 a1) (Z52.f (k + 1) a0 a1):=by
 intro a0 a1 k
 unfold Z52.f
 repeat' first|exact Z5.mono _ _ _|exact lo_|refine LeO.ite ?_ ?_|refine LeO.bind ?_ (fun _=>?_)
set_option maxHeartbeats 8000000 in
set_option maxRecDepth 100000 in
theorem Z52.calls (k:Nat) (A0:Option Addr) (c0:Nat) (l0:List Int) (A1:Option Addr) (c1:Nat) (l1:List Int) (r:Bool) (w:World) (hr0:Kd.C (Kd.int .i64) w A0 l0.length l0) (hc0:l0.length≤c0) (hr1:Kd.C (Kd.int .i64) w A1 l1.length l1) (hc1:l1.length≤c1) (h:Z52.f k l0 l1 = some r) :
  Calls Tryz.prog 94 #[.slice A0 l0.length c0,.slice A1 l1.length c1] w fun e w'=>e = .returned (.bool r)∧Drawn0 w w':=by
 have HR0:=A_ hr0
 have HC0:=A_ hc0
 clear hr0 hc0
 have HR1:=A_ hr1
 have HC1:=A_ hc1
 clear hr1 hc1
 have H:=h
 unfold Z52.f at H
 clear h
 obtain ⟨t721,A3,H⟩:=bi_ H
 obtain rfl:=Option.some.inj H
 go_enter Tryz.func94,Tryz.ntmps94
 go_wp2_with (first | ((with_reducible refine gA_ (f:=107) rfl ?_);refine gL_ (some 7) Tryz.func107 #[.slice A0 l0.length c0,.slice A1 l1.length c1] rfl qa_ ?_;(with_reducible refine (Z5.calls k _ _ l0 _ _ l1 t721 _ (cc_ HR0) HC0.out (cc_ HR1) HC1.out A3.out).mono ?_);rintro e w' ⟨rfl,⟨nd,rfl⟩⟩;refine ⟨_,rfl,?_⟩))
 go_ret
 exact ⟨qc_,by repeat (first | exact Drawn0.refl _ | apply Drawn0.step)⟩
def Z24.f (k:Nat) (l0_0:List Int) (l0_1:List Int) (l1_0:List Int) (l1_1:List Int):Option (Bool):=(Z52.f k l0_0 l1_0).bind fun t724=>(if t724 = true then ((Z52.f k l0_1 l1_1).bind fun t725=>(some t725)) else (some false))
theorem Z24.mono:∀ a0 a1 a2 a3 k,LeO (Z24.f k a0 a1 a2 a3) (Z24.f (k + 1) a0 a1 a2 a3):=by
 intro a0 a1 a2 a3 k
 unfold Z24.f
 repeat' first|exact Z52.mono _ _ _|exact lo_|refine LeO.ite ?_ ?_|refine LeO.bind ?_ (fun _=>?_)
set_option maxHeartbeats 8000000 in
set_option maxRecDepth 100000 in
theorem Z24.calls (k:Nat) (A0_0:Option Addr) (c0_0:Nat) (l0_0:List Int) (A0_1:Option Addr) (c0_1:Nat) (l0_1:List Int) (A1_0:Option Addr) (c1_0:Nat) (l1_0:List Int) (A1_1:Option Addr) (c1_1:Nat) (l1_1:List Int) (r:Bool) (w:World) (hr0_0:Kd.C (Kd.int .i64) w A0_0 l0_0.length l0_0) (hc0_0:l0_0.length≤c0_0) (hr0_1:Kd.C (Kd.int .i64) w A0_1 l0_1.length l0_1) (hc0_1:l0_1.length≤c0_1) (hr1_0:Kd.C (Kd.int .i64) w A1_0 l1_0.length l1_0) (hc1_0:l1_0.length≤c1_0) (hr1_1:Kd.C (Kd.int .i64) w A1_1 l1_1.length l1_1) (hc1_1:l1_1.length≤c1_1) (h:Z24.f k l0_0 l0_1 l1_0 l1_1 = some r) :
  Calls Tryz.prog 65 #[.agg #[.slice A0_0 l0_0.length c0_0,.slice A0_1 l0_1.length c0_1],.agg #[.slice A1_0 l1_0.length c1_0,.slice A1_1 l1_1.length c1_1]] w fun e w'=>e = .returned (.bool r)∧Below w.heap.size w w':=by
 have hu27:=Tryz.underlying27
 have HR0_0:=A_ hr0_0
 have HC0_0:=A_ hc0_0
 clear hr0_0 hc0_0
 have HR0_1:=A_ hr0_1
 have HC0_1:=A_ hc0_1
 clear hr0_1 hc0_1
 have HR1_0:=A_ hr1_0
 have HC1_0:=A_ hc1_0
 clear hr1_0 hc1_0
 have HR1_1:=A_ hr1_1
 have HC1_1:=A_ hc1_1
 clear hr1_1 hc1_1
 have HB:=A_ (Below.refl w.heap.size w)
 have H:=h
 unfold Z24.f at H
 clear h
 obtain ⟨t724,A3,H⟩:=bi_ H
 by_cases c4:t724 = true
 ·subst c4
  rw [if_pos rfl] at H
  obtain ⟨t725,A5,H⟩:=bi_ H
  obtain rfl:=Option.some.inj H
  go_enter Tryz.func65,Tryz.ntmps65
  go_wp2_with (first | ((with_reducible refine gB_ (N:=2) rfl ?_);refine bx_ 2 #[.slice A0_0 l0_0.length c0_0,.slice A0_1 l0_1.length c0_1] 27 ?_;intro gb722 hg w6 hbox hb;have BK722:=A_ hbox;have GW722:=gw_ w hg;have GE722:=GW722;replace HB:=b1_ hb;clear hb hbox hg) | ((with_reducible refine gB_ (N:=3) rfl ?_);refine bx_ 3 #[.slice A1_0 l1_0.length c1_0,.slice A1_1 l1_1.length c1_1] 27 ?_;intro gb723 hg w7 hbox hb;have BK723:=A_ hbox;have GW723:=gw_ w hg;have GE723:=GW723;replace HB:=b1_ hb;have NB722_723:=gN_ BK722 hg;have NB723_722:=gP_ BK722 hg;replace BK722:=bb_ BK722 hb;clear hb hbox hg;have hnb8:=NB722_723.out;have hnc8:=NB723_722.out;obtain ⟨hcz9_0,hcz9_1,hfz9_0,hfz9_1⟩:=c2_ BK722;obtain ⟨hcz10_0,hcz10_1,hfz10_0,hfz10_1⟩:=c2_ BK723) | ((with_reducible refine gA_ (f:=94) rfl ?_);refine gL_ (some 9) Tryz.func94 #[.slice A0_0 l0_0.length c0_0,.slice A1_0 l1_0.length c1_0] rfl qa_ ?_;(with_reducible refine (Z52.calls k _ _ l0_0 _ _ l1_0 true _ (cb_ HR0_0) HC0_0.out (cb_ HR1_0) HC1_0.out A3.out).mono ?_);rintro e w' ⟨rfl,⟨nd,rfl⟩⟩;refine ⟨_,rfl,?_⟩) | (go_at_call 94;(with_reducible refine (Z52.calls k _ _ l0_1 _ _ l1_1 t725 _ (cw_ (cD_ HR0_1.out hB_)) HC0_1.out (cw_ (cD_ HR1_1.out hB_)) HC1_1.out A5.out).mono ?_);rintro e w' ⟨rfl,⟨nd,rfl⟩⟩))
  go_ret
  exact ⟨qb_,hB_⟩
 ·replace c4:=Bool.eq_false_iff.mpr c4
  subst c4
  have H1:(some false) = some r:=by rw [if_neg (show ¬ (false = true) by decide)] at H;exact H
  clear H
  have H:=H1
  clear H1
  obtain rfl:=Option.some.inj H
  go_enter Tryz.func65,Tryz.ntmps65
  go_wp2_with (first | ((with_reducible refine gB_ (N:=2) rfl ?_);refine bx_ 2 #[.slice A0_0 l0_0.length c0_0,.slice A0_1 l0_1.length c0_1] 27 ?_;intro gb722 hg w11 hbox hb;have BK722:=A_ hbox;have GW722:=gw_ w hg;have GE722:=GW722;replace HB:=b1_ hb;clear hb hbox hg) | ((with_reducible refine gB_ (N:=3) rfl ?_);refine bx_ 3 #[.slice A1_0 l1_0.length c1_0,.slice A1_1 l1_1.length c1_1] 27 ?_;intro gb723 hg w12 hbox hb;have BK723:=A_ hbox;have GW723:=gw_ w hg;have GE723:=GW723;replace HB:=b1_ hb;have NB722_723:=gN_ BK722 hg;have NB723_722:=gP_ BK722 hg;replace BK722:=bb_ BK722 hb;clear hb hbox hg;have hnb13:=NB722_723.out;have hnc13:=NB723_722.out;obtain ⟨hcz14_0,hcz14_1,hfz14_0,hfz14_1⟩:=c2_ BK722;obtain ⟨hcz15_0,hcz15_1,hfz15_0,hfz15_1⟩:=c2_ BK723) | ((with_reducible refine gA_ (f:=94) rfl ?_);refine gL_ (some 9) Tryz.func94 #[.slice A0_0 l0_0.length c0_0,.slice A1_0 l1_0.length c1_0] rfl qa_ ?_;(with_reducible refine (Z52.calls k _ _ l0_0 _ _ l1_0 false _ (cb_ HR0_0) HC0_0.out (cb_ HR1_0) HC1_0.out A3.out).mono ?_);rintro e w' ⟨rfl,⟨nd,rfl⟩⟩;refine ⟨_,rfl,?_⟩))
  go_ret
  exact ⟨qb_,hB_⟩
end Go.Proofs.YtcggfjpnfodbaaaGreat.A
end
section
/- The place of a surface in a list: the walk of the program's look-up. No conditions. -/
namespace Go.Proofs.YtcggfjpnfodbaaaGreat.M
set_option linter.unusedVariables false
set_option linter.unusedSimpArgs false
open Go Go.RowKit Go.Proofs.YtcggfjpnfodbaaaGreatW.PrintWords Go.Proofs.YtcggfjpnfodbaaaGreatW.PrintLast Go.Proofs.YtcggfjpnfodbaaaGreatW.PrintMore Go.Proofs.YtcggfjpnfodbaaaGreat.A
def idxS (k:Nat) (r u:List Int):List S27→Nat→Option Int
 | [],_=>some (-1)
 | x :: xs,i=>(Z24.f k x.f0 x.f1 r u).bind fun b=>if b = true then some (i:Int) else idxS k r u xs (i + 1)
def indexO (k:Nat) (l:List S27) (r u:List Int):Option Int:=if l.length < 4611686018427387904 then idxS k r u l 0 else none
set_option maxHeartbeats 8000000 in
set_option maxRecDepth 100000 in
theorem index_closure (k:Nat) (gs:Nat) (A0:Option Addr) (c0:Nat) (l0:List Int) (A1:Option Addr) (c1:Nat) (l1:List Int) (B0:Option Addr) (d0:Nat) (r:List Int) (B1:Option Addr) (d1:Nat) (u:List Int) (b:Bool) (w:World)
  (h0:Kd.C (Kd.int .i64) w A0 l0.length l0) (g0:l0.length≤c0) (h1:Kd.C (Kd.int .i64) w A1 l1.length l1) (g1:l1.length≤c1) (h2:Kd.C (Kd.int .i64) w B0 r.length r) (g2:r.length≤d0) (h3:Kd.C (Kd.int .i64) w B1 u.length u) (g3:u.length≤d1)
  (hs:w.heap[gs]? = some (.cells #[.slice B0 r.length d0,.slice B1 u.length d1] 27 (0,0))) (h:Z24.f k l0 l1 r u = some b) :
  Calls Tryz.prog 64 #[.agg #[.slice A0 l0.length c0,.slice A1 l1.length c1],.pointer (some ⟨gs,0,none⟩)] w fun e w'=>e = .returned (.bool b)∧Below w.heap.size w w':=by
 have hu:=Tryz.underlying27
 have H0:=Aside0.mk h0;have H1:=Aside0.mk h1;have H2:=Aside0.mk h2;have H3:=Aside0.mk h3
 have G0:=Aside0.mk g0;have G1:=Aside0.mk g1;have G2:=Aside0.mk g2;have G3:=Aside0.mk g3
 have BS:=Aside0.mk hs;have HA:=Aside0.mk h
 clear h0 h1 h2 h3 g0 g1 g2 g3 hs h
 have HB:=Aside0.mk (Below.refl w.heap.size w)
 go_enter Tryz.func64,Tryz.ntmps64
 go_wp2_with (first | ((with_reducible refine gate_dst (N:=2) rfl ?_);refine bx_ 2 #[.slice A0 l0.length c0,.slice A1 l1.length c1] 27 ?_;intro gb hg w2 hbox hb;have BK:=Aside0.mk hbox;have BT:=bb_ BS hb;replace HB:=b1_ hb;clear hb hbox hg;obtain ⟨hcz0,hcz1,hfz0,hfz1⟩:=c2_ BK;obtain ⟨hcy0,hcy1,hfy0,hfy1⟩:=c2_ BT) | ((with_reducible refine gate_callee (f:=65) rfl ?_);refine gL_ (some 6) Tryz.func65 #[.agg #[.slice A0 l0.length c0,.slice A1 l1.length c1],.agg #[.slice B0 r.length d0,.slice B1 u.length d1]] rfl qa_ ?_;(with_reducible refine (Z24.calls k _ _ l0 _ _ l1 _ _ r _ _ u b _ (cb_ H0) G0.out (cb_ H1) G1.out (cb_ H2) G2.out (cb_ H3) G3.out HA.out).mono ?_);rintro e w3 ⟨rfl,hb⟩;refine ⟨_,rfl,?_⟩;replace HB:=b1_ hb;clear hb))
 go_ret
 exact ⟨qb_,hB_⟩
set_option maxHeartbeats 8000000 in
set_option maxRecDepth 100000 in
theorem index_main (k:Nat) (gf:Nat) (lb:Array Value) (eg:∀ args w,(callFunc gf args).run Tryz.prog w = .ok (.enter gf args) w) (A0:Option Addr) (c0:Nat) (l0:List S27) (r u:List Int) (j:Int) (w:World) (hr0:Kd.C k27 w A0 l0.length l0) (hc0:l0.length≤c0) (h:indexO k l0 r u = some j)
  (hcl:∀ (A0:Option Addr) (c0:Nat) (l0:List Int) (A1:Option Addr) (c1:Nat) (l1:List Int) (b:Bool) (w1:World),Below w.heap.size w w1→Kd.C (Kd.int .i64) w1 A0 l0.length l0→l0.length≤c0→Kd.C (Kd.int .i64) w1 A1 l1.length l1→l1.length≤c1→Z24.f k l0 l1 r u = some b→Calls Tryz.prog gf (#[.agg #[.slice A0 l0.length c0,.slice A1 l1.length c1]] ++ lb) w1 fun e w'=>e = .returned (.bool b)∧Below w1.heap.size w1 w') :
  Calls Tryz.prog 63 #[.slice A0 l0.length c0,.func (.func gf) #[] lb] w fun e w'=>e = .returned (.int .i64 j)∧Below w.heap.size w w':=by
 have hu:=Tryz.underlying27
 have HR0:=Aside0.mk hr0
 have HC0:=Aside0.mk hc0
 have HB:=Aside0.mk (Below.refl w.heap.size w)
 have hsm:l0.length < 4611686018427387904:=by
  unfold indexO at h
  split at h
  ·assumption
  ·cases h
 have H':Aside0 (idxS k r u (l0.drop 0) 0 = some j):=⟨by
  unfold indexO at h
  rw [if_pos hsm] at h
  exact h⟩
 clear hr0 hc0 h
 replace hcl:=Aside0.mk hcl
 go_enter Tryz.func63,Tryz.ntmps63
 go_wp2
 go_loopg [5,8] l0.length (fun gg _ s8 wr=>∃ kk:Nat,s8 = .int .i64 kk∧Aside0 (kk≤l0.length)∧Aside0 (l0.length - kk≤gg)∧Aside0 (idxS k r u (l0.drop kk) kk = some j)∧Aside0 (Below w.heap.size w wr))
 case atStart=>exact ⟨0,rfl,⟨Nat.zero_le _⟩,⟨by omega⟩,H',⟨by repeat (first | (with_reducible first | exact HB.out | apply below_alloc | apply pw_below_drewN | apply below_drew1) | exact HB.out)⟩⟩
 case round =>
  clear H' HB
  obtain ⟨kk,rfl,HK,HG,HA,HB⟩:=hrel
  by_cases hlt:kk < l0.length
  ·have hltz:(kk:Int) < (l0.length:Int):=by omega
   have h0z:(0:Int)≤(kk:Int):=Int.natCast_nonneg kk
   have H:=HA.out
   have hdr:l0.drop kk = rd_T27 l0 (kk:Int) :: l0.drop (kk + 1):=by
    rw [List.drop_eq_getElem_cons hlt]
    congr 1
    simp [rd_T27,hlt]
   rw [hdr] at H
   simp only [idxS] at H
   obtain ⟨b,Hb,H⟩:=bi_ H
   obtain ⟨ad1,A1,c1,A2,c2,e1,hx1,hx2,hl1,hi1,hl2,hi2⟩:=at_T27 (Kd.C_below HR0.out HB.out) (kk:Int) h0z hltz
   cases e1
   rw [show ((kk:Int)).toNat = kk from rfl] at hx1 hx2
   have HI1:=Aside0.mk hi1
   have HI2:=Aside0.mk hi2
   have HL1:=Aside0.mk hl1
   have HL2:=Aside0.mk hl2
   clear hi1 hi2 hl1 hl2
   cases b with
   | true =>
    rw [if_pos rfl] at H
    obtain rfl:=Option.some.inj H
    clear H
    go_wp2_with (fail)
    refine (hcl.out _ _ (rd_T27 l0 (kk:Int)).f0 _ _ (rd_T27 l0 (kk:Int)).f1 true wr HB.out HI1.out HL1.out HI2.out HL2.out Hb.out).mono ?_
    rintro e w2 ⟨rfl,hb⟩
    have HB2:=Aside0.mk (below_step HB.out hb)
    clear hb
    go_wp2
    go_ret
    exact ⟨rfl,by repeat (first | (with_reducible first | exact HB2.out | apply below_alloc | apply pw_below_drewN | apply below_drew1) | exact HB2.out)⟩
   | false =>
    rw [if_neg (by decide)] at H
    have H2:=Aside0.mk H
    clear H
    go_wp2_with (fail)
    refine (hcl.out _ _ (rd_T27 l0 (kk:Int)).f0 _ _ (rd_T27 l0 (kk:Int)).f1 false wr HB.out HI1.out HL1.out HI2.out HL2.out Hb.out).mono ?_
    rintro e w2 ⟨rfl,hb⟩
    have HB2:=Aside0.mk (below_step HB.out hb)
    clear hb
    go_wp2
    go_roundg (l0.length - (kk + 1))
    case measure=>have:=HG.out;omega
    case rel=>exact ⟨kk + 1,by congr 1,⟨by omega⟩,⟨by omega⟩,H2,⟨by repeat (first | (with_reducible first | exact HB2.out | apply below_alloc | apply pw_below_drewN | apply below_drew1) | exact HB2.out)⟩⟩
  ·have hltz:¬ (kk:Int) < (l0.length:Int):=by omega
   have H:=HA.out
   rw [List.drop_eq_nil_of_le (by omega)] at H
   simp only [idxS] at H
   obtain rfl:=Option.some.inj H
   clear H
   go_wp2
   go_ret
   exact ⟨rfl,by repeat (first | (with_reducible first | exact HB.out | apply below_alloc | apply pw_below_drewN | apply below_drew1) | exact HB.out)⟩
set_option maxHeartbeats 8000000 in
set_option maxRecDepth 100000 in
theorem index_calls (k:Nat) (gO:Nat) (A0:Option Addr) (c0:Nat) (l0:List S27) (v1 v2 v3 v4:Value) (B0:Option Addr) (d0:Nat) (r:List Int) (B1:Option Addr) (d1:Nat) (u:List Int) (j:Int) (w:World) (hr0:Kd.C k27 w A0 l0.length l0) (hc0:l0.length≤c0) (h2:Kd.C (Kd.int .i64) w B0 r.length r) (g2:r.length≤d0) (h3:Kd.C (Kd.int .i64) w B1 u.length u) (g3:u.length≤d1)
  (hO:w.heap[gO]? = some (.cells #[.slice A0 l0.length c0,v1,v2,v3,v4] 51 (0,0))) (h:indexO k l0 r u = some j) :
  Calls Tryz.prog 41 #[.pointer (some ⟨gO,0,none⟩),.agg #[.slice B0 r.length d0,.slice B1 u.length d1]] w fun e w'=>e = .returned (.int .i64 j)∧Below w.heap.size w w':=by
 have hu:=Tryz.underlying27
 have H0:=Aside0.mk hr0;have H2:=Aside0.mk h2;have H3:=Aside0.mk h3
 have G0:=Aside0.mk hc0;have G2:=Aside0.mk g2;have G3:=Aside0.mk g3
 have BO:=Aside0.mk hO;have HA:=Aside0.mk h
 clear hr0 h2 h3 hc0 g2 g3 hO h
 have HB:=Aside0.mk (Below.refl w.heap.size w)
 go_enter Tryz.func41,Tryz.ntmps41
 go_wp2_with (first | ((with_reducible refine gate_dst (N:=3) rfl ?_);refine bx_ 3 #[.slice B0 r.length d0,.slice B1 u.length d1] 27 ?_;intro gb hg w2 hbox hb;have BK:=Aside0.mk hbox;have BP:=bb_ BO hb;replace HB:=b1_ hb;clear hb hbox hg;have hco0:w2.cell? ⟨gO,0,none⟩ = some (.slice A0 l0.length c0):=(blk_cell BP.out 0).trans rfl;have hfo0:=blk_frozen BP.out 0) | ((with_reducible refine gate_callee (f:=63) rfl ?_);refine gL_ (some 10) Tryz.func63 #[.slice A0 l0.length c0,.func (.func 64) #[] #[.pointer (some ⟨gb,0,none⟩)]] rfl qa_ ?_;refine (index_main k 64 #[.pointer (some ⟨gb,0,none⟩)] (fun args w=>enters_ Tryz.func64 (by kernel_rfl) rfl args w) _ _ l0 r u j _ (cb_ H0) G0.out HA.out (fun A0_ c0_ l0_ A1_ c1_ l1_ b_ w1_ hw_ q0_ q1_ q2_ q3_ q4_=>index_closure k gb A0_ c0_ l0_ A1_ c1_ l1_ B0 d0 r B1 d1 u b_ w1_ q0_ q1_ q2_ q3_ (Kd.C_below (cb_ H2) hw_) G2.out (Kd.C_below (cb_ H3) hw_) G3.out (blk_below BK.out hw_) q4_)).mono ?_;rintro e w3 ⟨rfl,hb⟩;refine ⟨_,rfl,?_⟩;replace HB:=b1_ hb;clear hb))
 go_ret
 exact ⟨qb_,hB_⟩
end Go.Proofs.YtcggfjpnfodbaaaGreat.M
end
section
namespace Go.Proofs.YtcggfjpnfodbaaaGreat.A
open Go.RowKit Go.Proofs.YtcggfjpnfodbaaaGreatW.PrintWords Go.Proofs.YtcggfjpnfodbaaaGreatW.PrintLast Go.Proofs.YtcggfjpnfodbaaaGreatW.PrintMore
attribute [local go_sem] max2_int min2_int max_two min_two max_three min_three max_four min_four
set_option linter.unusedVariables false
set_option linter.unusedSimpArgs false
def Z75.l0:Nat→List Int→List Bool→Int→Option Bool
 | 0,_,_,_=>none
 | k + 1,l,s,i=>if i < (l.length:Int) then (if 0≤i then (if rd l i < 0 then some false else (if rd l i ≥ (l.length:Int) then some false else (if rdOf false s (rd l i) = true then some false else Z75.l0 k l (s.set (rd l i).toNat true) (wrap64 (i + 1))))) else none) else some true
def Z75.f (k:Nat) (l0:List Int):Option Bool:=if (l0.length:Int) > 24 then some false else Z75.l0 k l0 (List.replicate 24 false) 0
theorem Z75.mono_l:∀ k,(∀ y0 y1 y2,LeO (Z75.l0 k y0 y1 y2) (Z75.l0 (k + 1) y0 y1 y2))
 | 0=>fun _ _ _ r h=>by simp [Z75.l0] at h
 | k + 1=>by
  have ih0:=Z75.mono_l k
  ·intro y0 y1 y2
   unfold Z75.l0
   repeat' first|exact ih0 _ _ _|exact lo_|refine LeO.ite ?_ ?_|refine LeO.bind ?_ (fun _=>?_)
theorem Z75.mono:∀ a0 k,LeO (Z75.f k a0) (Z75.f (k + 1) a0):=by
 intro a0 k
 unfold Z75.f
 exact LeO.ite (LeO.refl _) (Z75.mono_l k _ _ _)
def Z24:Array Value:=#[Value.bool false,Value.bool false,Value.bool false,Value.bool false,Value.bool false,Value.bool false,Value.bool false,Value.bool false,Value.bool false,Value.bool false,Value.bool false,Value.bool false,Value.bool false,Value.bool false,Value.bool false,Value.bool false,Value.bool false,Value.bool false,Value.bool false,Value.bool false,Value.bool false,Value.bool false,Value.bool false,Value.bool false]
theorem row_same (w:World) (g:Nat) (t:TypeId) (cur:Array Value) (hg:w.heap[g]? = some (.cells cur t (0,0))):w.setRow g cur = w:=by
 have hv:∀ h,w.heap[g]'h = .cells cur t (0,0):=fun h=>(Array.getElem?_eq_some_iff.1 hg).2
 unfold World.setRow
 cases w with
 | mk heap tape drawn os output =>
  congr 1
  apply Array.ext
  ·simp
  ·intro k h1 h2
   simp only [Array.getElem_modify]
   split
   ·rename_i hk;subst hk;simp at hv;simp [hv h2]
   ·rfl
theorem wpList_val {P:Program} {ops:Array Oper} {rest:List Oper} {o:Oper} {a:Act} {Q:Exit→Act→World→Prop} {w:World} (hg:o.guard = none) (v:Value) (w1:World) (hrun:(execOp a.eval o).run P w = .ok (.value v) w1) (h:wpList P ops Q rest (a.put o.dst v) w1):wpList P ops Q (o :: rest) a w :=
 wpList_plain hg fun K hK=>by unfold Oper.wp;rw [hrun];exact hK _ _ h
theorem perm_start (w:World):Kd.R Kd.bool 102 (w.alloc (.cells Z24 102)) w.heap.size (fun _=>True) (.slice (some ⟨w.heap.size,0,none⟩) 24 24) (List.replicate 24 false):=by
 have h:=World.ownsRow_lit (base:=w.heap.size) (e:=102) (size:=1) w Z24 24 (nA_ _) (by unfold maxLen;omega) rfl
 exact Kd.R_of_own (xs:=List.replicate 24 false) h (fun _ _=>trivial)
set_option maxHeartbeats 8000000 in
set_option maxRecDepth 100000 in
theorem Z75.calls (k:Nat) (A0:Option Addr) (c0:Nat) (l0:List Int) (r:Bool) (w:World) (hr0:Kd.C (Kd.int .i64) w A0 l0.length l0) (hc0:l0.length≤c0) (h:Z75.f k l0 = some r) :
  Calls Tryz.prog 104 #[.slice A0 l0.length c0] w fun e w'=>e = .returned (.bool r)∧Below w.heap.size w w':=by
 have HR0:=A_ hr0
 have HC0:=A_ hc0
 clear hr0 hc0
 have hst:=perm_start w
 have HST:=A_ hst
 clear hst
 have hb0:Below w.heap.size w (w.alloc (.cells Z24 102)):=(Below.refl _ _).alloc (nA_ _) _
 have HB0:=A_ hb0
 clear hb0
 unfold Z75.f at h
 by_cases c2:(l0.length:Int) > 24
 ·rw [if_pos c2] at h
  have c2b0:decide (24 < (l0.length:Int)) = true:=oC_ c2
  have c2b1:decide (24 < l0.length) = true:=oC_ (by omega)
  clear c2
  obtain rfl:=Option.some.inj h
  go_enter Tryz.func104,Tryz.ntmps104
  go_upto_region 1 with (fail)
  refine wp_region_lit ?_
  refine wpList_val rfl (.agg Z24) w (by as_aux_lemma=>kernel_rfl) ?_
  refine wpList_val rfl (.pointer (some ⟨w.heap.size,0,none⟩)) (w.alloc (.cells Z24 102)) (by as_aux_lemma=>kernel_rfl) ?_
  refine wpList_store_row rfl 102 (.tmp 3) (.tmp 6) rfl w.heap.size Z24 rfl rfl 102 Z24 (heap_alloc_new _ _) (by as_aux_lemma=>kernel_rfl) rfl (by as_aux_lemma=>kernel_rfl) ?_
  rw [row_same _ _ _ _ (heap_alloc_new _ _)]
  generalize w.alloc (.cells Z24 102) = wq at HB0 ⊢
  generalize Value.agg Z24 = ag
  go_wp2
  go_ret
  exact ⟨rfl,HB0.out⟩
 ·rw [if_neg c2] at h
  have hn:l0.length≤24:=by omega
  have HN:=A_ hn
  clear hn
  have c2b0:decide (24 < (l0.length:Int)) = false:=oD_ c2
  have c2b1:decide (24 < l0.length) = false:=oD_ (by omega)
  clear c2
  have H':=A_ h
  clear h
  go_enter Tryz.func104,Tryz.ntmps104
  go_upto_region 1 with (fail)
  refine wp_region_lit ?_
  refine wpList_val rfl (.agg Z24) w (by as_aux_lemma=>kernel_rfl) ?_
  refine wpList_val rfl (.pointer (some ⟨w.heap.size,0,none⟩)) (w.alloc (.cells Z24 102)) (by as_aux_lemma=>kernel_rfl) ?_
  refine wpList_store_row rfl 102 (.tmp 3) (.tmp 6) rfl w.heap.size Z24 rfl rfl 102 Z24 (heap_alloc_new _ _) (by as_aux_lemma=>kernel_rfl) rfl (by as_aux_lemma=>kernel_rfl) ?_
  rw [row_same _ _ _ _ (heap_alloc_new _ _)]
  generalize w.alloc (.cells Z24 102) = wq at HB0 HST ⊢
  generalize Value.agg Z24 = ag
  go_wp2
  go_loopg [12] k (fun kq v12 w'=>∃ (s:List Bool) (i:Int),v12 = .int .i64 i∧Aside0 (Z75.l0 kq l0 s i = some r)∧Aside0 (kq≤k)∧Aside0 (s.length = 24)∧Aside0 (Kd.R Kd.bool 102 w' w.heap.size (fun _=>True) (.slice (some ⟨w.heap.size,0,none⟩) 24 24) s)∧Aside0 (Below w.heap.size w w'))
  case atStart=>exact ⟨List.replicate 24 false,0,rfl,H',⟨nA_ _⟩,⟨rfl⟩,HST,HB0⟩
  case round =>
   clear H' HST HB0
   obtain ⟨s,i,rfl,HA,HK1,HS,HO,HB⟩:=hrel
   cases gk with
   | zero=>exact absurd HA.out (by simp [Z75.l0])
   | succ k1 =>
    have H:=HA.out
    clear HA
    simp only [Z75.l0] at H
    by_cases c3:i < (l0.length:Int)
    ·rw [if_pos c3] at H
     have c4:=cp_ H
     replace H:=ca_ H
     have c3b0:=oC_ c3
     have c4b0:=oC_ c4
     obtain ⟨ad,e0,hx⟩:=Kd.at_int HR0.out i c4 c3
     cases e0
     replace hx:=(HB.out.cell (World.block_lt_of_cell? w _ hx)).trans hx
     replace c3:=eq_true c3
     replace c4:=eq_true c4
     by_cases c5:rd l0 i < 0
     ·rw [if_pos c5] at H
      have c5b0:=oC_ c5
      clear c5
      obtain rfl:=Option.some.inj H
      go_wp2
      go_ret
      exact ⟨rfl,HB.out⟩
     ·rw [if_neg c5] at H
      have c5b0:=oD_ c5
      by_cases c6:rd l0 i ≥ (l0.length:Int)
      ·rw [if_pos c6] at H
       have c6b0:decide ((l0.length:Int)≤rd l0 i) = true:=oC_ c6
       clear c5 c6
       obtain rfl:=Option.some.inj H
       go_wp2
       go_ret
       exact ⟨rfl,HB.out⟩
      ·rw [if_neg c6] at H
       have c6b0:decide ((l0.length:Int)≤rd l0 i) = false:=oD_ c6
       have p1:0≤rd l0 i:=by omega
       have p2:rd l0 i < ((24:Nat):Int):=by have:=HN.out;omega
       have p2':rd l0 i < 24:=p2
       obtain ⟨hy,hz⟩:=Kd.R_celln false HO.out (rd l0 i) p1 p2
       have p1b:decide (0≤rd l0 i) = true:=oC_ p1
       have p2b:decide (rd l0 i < 24) = true:=oC_ p2'
       clear c5 c6
       by_cases c7:rdOf false s (rd l0 i) = true
       ·rw [if_pos c7] at H
        rw [c7] at hy
        clear c7
        obtain rfl:=Option.some.inj H
        go_wp2
        go_ret
        exact ⟨rfl,HB.out⟩
       ·rw [if_neg c7] at H
        replace c7:=Bool.eq_false_iff.mpr c7
        rw [c7] at hy
        clear c7
        have H':=A_ H
        clear H
        have HP:=Kd.R_putg HO.out (rd l0 i) true
        have HP':=A_ HP
        clear HP
        go_wp2
        go_roundg k1
        case measure=>have:=HK1.out;omega
        case rel=>exact ⟨s.set (rd l0 i).toNat true,wrap64 (i + 1),rfl,H',⟨by have:=HK1.out;omega⟩,⟨by rw [List.length_set];exact HS.out⟩,⟨HP'.out.1⟩,⟨bD_ HB.out (nA_ _)⟩⟩
    ·rw [if_neg c3] at H
     have c3b0:=oD_ c3
     clear c3
     obtain rfl:=Option.some.inj H
     go_wp2
     go_ret
     exact ⟨rfl,HB.out⟩
end Go.Proofs.YtcggfjpnfodbaaaGreat.A
end
section
namespace Go.Proofs.YtcggfjpnfodbaaaGreat.A
open Go.RowKit Go.Proofs.YtcggfjpnfodbaaaGreatW.PrintWords Go.Proofs.YtcggfjpnfodbaaaGreatW.PrintLast Go.Proofs.YtcggfjpnfodbaaaGreatW.PrintMore
attribute [local go_sem] max2_int min2_int max_two min_two max_three min_three max_four min_four
set_option linter.unusedVariables false
set_option linter.unusedSimpArgs false
mutual
def Z15.j0:Nat→List Int→List Int→Bool→Option (Bool)
 | 0,_,_,_=>none
 | k + 1,x0,x1,x29=>if x29 = true then (some false) else (if 0≤(x0.length:Int) then (if ((x0.length:Int):Int).toNat≤281474976710656 then ((some (List.replicate ((x0.length:Int):Int).toNat false:List Bool)).bind fun y489=>(if 0 < (y489.length:Int) then (Z15.l0 k x0 x1 (y489.set (0:Int).toNat true) (([0]:List Int)) 0) else (none))) else (none)) else (none))
def Z15.l0:Nat→List Int→List Int→List Bool→List Int→Int→Option (Bool)
 | 0,_,_,_,_,_=>none
 | k + 1,x0,x1,x5,x6,x7=>if x7 < (x6.length:Int) then (if 0≤x7 then (if 0≤(rd x6 x7) then (if (rd x6 x7) < (x0.length:Int) then (if (rd x6 x7) < (x1.length:Int) then ((some (([rd x0 (rd x6 x7),rd x1 (rd x6 x7)]:List Int):List Int)).bind fun y500=>(Z15.l1 k x0 x1 x5 x6 x7 y500 (y500.length:Int) 0)) else (none)) else (none)) else (none)) else (none)) else (some ((x6.length:Int) == (x0.length:Int)))
def Z15.l1:Nat→List Int→List Int→List Bool→List Int→Int→List Int→Int→Int→Option (Bool)
 | 0,_,_,_,_,_,_,_,_=>none
 | k + 1,x0,x1,x5,x6,x7,x56,x57,x58=>if x58 < x57 then (if 0≤x58 then (if x58 < (x56.length:Int) then (if 0≤(rd x56 x58) then (if (rd x56 x58) < (x5.length:Int) then (if (rdOf false x5 (rd x56 x58) = true) then (Z15.l1 k x0 x1 x5 x6 x7 x56 x57 (wrap64 (x58 + 1))) else (if x6.length < 17592186044416 then (Z15.l1 k x0 x1 (x5.set ((rd x56 x58):Int).toNat true) (x6 ++ [rd x56 x58]) x7 x56 x57 (wrap64 (x58 + 1))) else (none))) else (none)) else (none)) else (none)) else (none)) else (Z15.l0 k x0 x1 x5 x6 (wrap64 (x7 + 1)))
end
def Z15.f (k:Nat) (l0:List Int) (l1:List Int):Option (Bool):=(Z75.f k l0).bind fun t487=>(if t487 = true then ((Z75.f k l1).bind fun t488=>(if t488 = true then (if (l0.length:Int) = (l1.length:Int) then (Z15.j0 k l0 l1 ((l0.length:Int) == 0)) else (Z15.j0 k l0 l1 true)) else (Z15.j0 k l0 l1 true))) else (Z15.j0 k l0 l1 true))
theorem Z15.mono_l:∀ k,(∀ y0 y1 y2,LeO (Z15.j0 k y0 y1 y2) (Z15.j0 (k + 1) y0 y1 y2))∧(∀ y0 y1 y2 y3 y4,LeO (Z15.l0 k y0 y1 y2 y3 y4) (Z15.l0 (k + 1) y0 y1 y2 y3 y4))∧(∀ y0 y1 y2 y3 y4 y5 y6 y7,LeO (Z15.l1 k y0 y1 y2 y3 y4 y5 y6 y7) (Z15.l1 (k + 1) y0 y1 y2 y3 y4 y5 y6 y7))
 | 0=>⟨fun _ _ _ r h=>by simp [Z15.j0] at h,fun _ _ _ _ _ r h=>by simp [Z15.l0] at h,fun _ _ _ _ _ _ _ _ r h=>by simp [Z15.l1] at h⟩
 | k + 1=>by
  obtain ⟨ih0,ih1,ih2⟩:=Z15.mono_l k
  refine ⟨?_,?_,?_⟩
  ·intro y0 y1 y2
   unfold Z15.j0
   repeat' first|exact ih0 _ _ _|exact ih1 _ _ _ _ _|exact ih2 _ _ _ _ _ _ _ _|exact Z75.mono _ _|exact lo_|refine LeO.ite ?_ ?_|refine LeO.bind ?_ (fun _=>?_)
  ·intro y0 y1 y2 y3 y4
   unfold Z15.l0
   repeat' first|exact ih0 _ _ _|exact ih1 _ _ _ _ _|exact ih2 _ _ _ _ _ _ _ _|exact Z75.mono _ _|exact lo_|refine LeO.ite ?_ ?_|refine LeO.bind ?_ (fun _=>?_)
  ·intro y0 y1 y2 y3 y4 y5 y6 y7
   unfold Z15.l1
   repeat' first|exact ih0 _ _ _|exact ih1 _ _ _ _ _|exact ih2 _ _ _ _ _ _ _ _|exact Z75.mono _ _|exact lo_|refine LeO.ite ?_ ?_|refine LeO.bind ?_ (fun _=>?_)
theorem Z15.mono:∀ a0 a1 k,LeO (Z15.f k a0 a1) (Z15.f (k + 1) a0 a1):=by
 intro a0 a1 k
 obtain ⟨ih0,ih1,ih2⟩:=Z15.mono_l k
 unfold Z15.f
 repeat' first|exact ih0 _ _ _|exact ih1 _ _ _ _ _|exact ih2 _ _ _ _ _ _ _ _|exact Z75.mono _ _|exact lo_|refine LeO.ite ?_ ?_|refine LeO.bind ?_ (fun _=>?_)
def Z15.T9:Bool × List (List Nat × List Nat):=(true,[([],[]),([],[]),([],[]),([1,2],[1,2]),([3],[3]),([0,4],[0,4]),([5],[5]),([],[]),([],[]),([],[]),([8,9],[8,9]),([10],[10]),([7,11],[7,11]),([12],[12]),([6,13],[6,13]),([14],[14]),([],[])])
def Z15.B9:List Nat:=[0,0,0,6,14,31,63,0,0,0,768,1792,3968,8064,16383,32767,0]
theorem Z15.tab9:rtab .any (opsOf Tryz.f100 9) = Z15.T9:=by kernel_rfl
theorem Z15.bits9:waitsOk Z15.T9.2 Z15.B9 = true:=by kernel_rfl
set_option maxHeartbeats 8000000 in
set_option maxRecDepth 100000 in
theorem Z15.calls (k:Nat) (A0:Option Addr) (c0:Nat) (l0:List Int) (A1:Option Addr) (c1:Nat) (l1:List Int) (r:Bool) (w:World) (hr0:Kd.C (Kd.int .i64) w A0 l0.length l0) (hc0:l0.length≤c0) (hr1:Kd.C (Kd.int .i64) w A1 l1.length l1) (hc1:l1.length≤c1) (h:Z15.f k l0 l1 = some r) :
  Calls Tryz.prog 100 #[.slice A0 l0.length c0,.slice A1 l1.length c1] w fun e w'=>e = .returned (.bool r)∧Below w.heap.size w w':=by
 have HR0:=A_ hr0
 have HC0:=A_ hc0
 clear hr0 hc0
 have HR1:=A_ hr1
 have HC1:=A_ hc1
 clear hr1 hc1
 have HB:=A_ (Below.refl w.heap.size w)
 have H:=h
 unfold Z15.f at H
 clear h
 have HC3:=A_ H
 clear H
 go_enter Tryz.func100,Tryz.ntmps100
 go_upto_region 1 with (fail)
 go_cut [29] (fun v29 wc=>∃ (kq:Nat) (x29_2:Bool),v29 = .bool x29_2∧Aside0 (Z15.j0 kq l0 l1 x29_2 = some r)∧Aside0 (kq≤k)∧Aside0 (Below w.heap.size w wc))
 case first =>
  have H:=HC3.out
  clear HC3
  obtain ⟨t487,A4,H⟩:=bi_ H
  by_cases c5:t487 = true
  ·subst c5
   rw [if_pos rfl] at H
   obtain ⟨t488,A6,H⟩:=bi_ H
   by_cases c7:t488 = true
   ·subst c7
    rw [if_pos rfl] at H
    by_cases c8:(l0.length:Int) = (l1.length:Int)
    ·rw [if_pos c8] at H
     have c8b0:((l0.length:Int) == (l1.length:Int)) = true:=beq_iff_eq.mpr c8
     have c8b1:((l0.length:Int) != (l1.length:Int)) = false:=bne_eq_false_iff_eq.mpr c8
     have c8b2:(l0.length == l1.length) = true:=by first | simpa using c8 | (simp at c8 ⊢;omega)
     clear c8
     (first | rw [c8b0] | (simp only [i64_w,i32_w];rw [c8b0]) | skip)
     have H':=A_ H
     clear H
     go_wp2_with (first | ((with_reducible refine gA_ (f:=104) rfl ?_);refine gL_ (some 11) Tryz.func104 #[.slice A0 l0.length c0] rfl qa_ ?_;(with_reducible refine (Z75.calls k _ _ l0 true _ (cb_ HR0) HC0.out A4.out).mono ?_);rintro e w9 ⟨rfl,hb⟩;refine ⟨_,rfl,?_⟩;replace HB:=b1_ hb;clear hb) | (go_at_call 104;(with_reducible refine (Z75.calls k _ _ l1 true _ (cb_ HR1) HC1.out A6.out).mono ?_);rintro e w10 ⟨rfl,hb⟩;replace HB:=b1_ hb;clear hb))
     go_meet
     case rel=>exact ⟨_,(((l0.length:Int) == 0)),qc_,H',⟨qd_⟩,⟨hB_⟩⟩
    ·rw [if_neg c8] at H
     have c8b0:((l0.length:Int) == (l1.length:Int)) = false:=beq_eq_false_iff_ne.mpr c8
     have c8b1:((l0.length:Int) != (l1.length:Int)) = true:=bne_iff_ne.mpr c8
     have c8b2:(l0.length == l1.length) = false:=by first | simpa using c8 | (simp at c8 ⊢;omega)
     (first | rw [c8b0] | (simp only [i64_w,i32_w];rw [c8b0]) | skip)
     have H':=A_ H
     clear H
     go_wp2_with (first | ((with_reducible refine gA_ (f:=104) rfl ?_);refine gL_ (some 11) Tryz.func104 #[.slice A0 l0.length c0] rfl qa_ ?_;(with_reducible refine (Z75.calls k _ _ l0 true _ (cb_ HR0) HC0.out A4.out).mono ?_);rintro e w11 ⟨rfl,hb⟩;refine ⟨_,rfl,?_⟩;replace HB:=b1_ hb;clear hb) | (go_at_call 104;(with_reducible refine (Z75.calls k _ _ l1 true _ (cb_ HR1) HC1.out A6.out).mono ?_);rintro e w12 ⟨rfl,hb⟩;replace HB:=b1_ hb;clear hb))
     go_meet
     case rel=>exact ⟨_,(true),qc_,H',⟨qd_⟩,⟨hB_⟩⟩
   ·replace c7:=Bool.eq_false_iff.mpr c7
    subst c7
    have H1:(Z15.j0 k l0 l1 true) = some r:=by rw [if_neg (show ¬ (false = true) by decide)] at H;exact H
    clear H
    have H:=H1
    clear H1
    have H':=A_ H
    clear H
    go_wp2_with (first | ((with_reducible refine gA_ (f:=104) rfl ?_);refine gL_ (some 11) Tryz.func104 #[.slice A0 l0.length c0] rfl qa_ ?_;(with_reducible refine (Z75.calls k _ _ l0 true _ (cb_ HR0) HC0.out A4.out).mono ?_);rintro e w13 ⟨rfl,hb⟩;refine ⟨_,rfl,?_⟩;replace HB:=b1_ hb;clear hb) | (go_at_call 104;(with_reducible refine (Z75.calls k _ _ l1 false _ (cb_ HR1) HC1.out A6.out).mono ?_);rintro e w14 ⟨rfl,hb⟩;replace HB:=b1_ hb;clear hb))
    go_meet
    case rel=>exact ⟨_,(true),qc_,H',⟨qd_⟩,⟨hB_⟩⟩
  ·replace c5:=Bool.eq_false_iff.mpr c5
   subst c5
   have H1:(Z15.j0 k l0 l1 true) = some r:=by rw [if_neg (show ¬ (false = true) by decide)] at H;exact H
   clear H
   have H:=H1
   clear H1
   have H':=A_ H
   clear H
   go_wp2_with (first | ((with_reducible refine gA_ (f:=104) rfl ?_);refine gL_ (some 11) Tryz.func104 #[.slice A0 l0.length c0] rfl qa_ ?_;(with_reducible refine (Z75.calls k _ _ l0 false _ (cb_ HR0) HC0.out A4.out).mono ?_);rintro e w15 ⟨rfl,hb⟩;refine ⟨_,rfl,?_⟩;replace HB:=b1_ hb;clear hb))
   go_meet
   case rel=>exact ⟨_,(true),qc_,H',⟨qd_⟩,⟨hB_⟩⟩
 case rest =>
  clear HC3
  obtain ⟨kq,x29_2,rfl,HA,HJ2,HB⟩:=hcut
  cases kq with
  | zero=>exact absurd HA.out (by simp [Z15.j0])
  | succ kj2 =>
   have H:=HA.out
   clear HA
   simp only [Z15.j0] at H
   by_cases c16:x29_2 = true
   ·subst c16
    rw [if_pos rfl] at H
    obtain rfl:=Option.some.inj H
    go_wp2
    go_ret
    exact ⟨qb_,hB_⟩
   ·replace c16:=Bool.eq_false_iff.mpr c16
    subst c16
    have H1:(if 0≤(l0.length:Int) then (if ((l0.length:Int):Int).toNat≤281474976710656 then ((some (List.replicate ((l0.length:Int):Int).toNat false:List Bool)).bind fun y489=>(if 0 < (y489.length:Int) then (Z15.l0 kj2 l0 l1 (y489.set (0:Int).toNat true) (([0]:List Int)) 0) else (none))) else (none)) else (none)) = some r:=by rw [if_neg (show ¬ (false = true) by decide)] at H;exact H
    clear H
    have H:=H1
    clear H1
    have c17:=cp_ H
    replace H:=ca_ H
    have c17b0:=eq_true c17
    have c17b1:=oC_ c17
    clear c17
    have c18:=cp_ H
    replace H:=ca_ H
    have c18b0:=eq_true c18
    have c18b1:=oC_ c18
    clear c18
    obtain ⟨y489,hy489⟩:∃ y_:List Bool,y_ = (List.replicate ((l0.length:Int):Int).toNat false):=⟨_,rfl⟩
    replace H:(if 0 < (y489.length:Int) then (Z15.l0 kj2 l0 l1 (y489.set (0:Int).toNat true) (([0]:List Int)) 0) else (none)) = some r:=by first | (rw [hy489];exact H) | exact H
    have Ny489:=A_ hy489
    clear hy489
    have c19:=cp_ H
    replace H:=ca_ H
    have c19b0:=oC_ c19
    have c19b1:decide (0 < y489.length) = true:=oC_ (by omega)
    clear c19
    obtain ⟨y492,hy492⟩:∃ y_:List Bool,y_ = (y489.set (0:Int).toNat true):=⟨_,rfl⟩
    replace H:(Z15.l0 kj2 l0 l1 y492 (([0]:List Int)) 0) = some r:=by first | (rw [hy492];exact H) | exact H
    have Ny492:=A_ hy492
    clear hy492
    obtain ⟨y493,hy493⟩:∃ y_:List Int,y_ = (([0]:List Int)):=⟨_,rfl⟩
    replace H:(Z15.l0 kj2 l0 l1 y492 y493 0) = some r:=by first | (rw [hy493];exact H) | exact H
    have Ny493:=A_ hy493
    clear hy493
    have H':=A_ H
    clear H
    go_wp2_with (first | ((with_reducible refine gB_ (N:=32) rfl ?_);(try (refine gate_guard (by rfl) ?_;dsimp only));refine Kd.R_make Kd.bool _ 4 rfl (N:=32) rfl 41 _ _ rfl (l0.length:Int) rfl rfl Tryz.underlying41 (.bool false) 1 info4 rfl (by decide) (by omega) false (ok:=fun _=>True) (okp:=fun _=>True) rfl (fun _ hk=>hk) trivial (oB_ qe_) (Nat.le_trans (Nat.mul_le_mul_right _ (oB_ qe_:(l0.length:Int).toNat≤281474976710656)) (by omega)) (Below.refl _ _) (nA_ _) ?_;intro v490 w21 ho22 hb hg_ hnew_;clear hg_ hnew_;(first | rw [← Ny489.out] at ho22 | (simp only [Int.reduceToNat] at ho22;rw [← Ny489.out] at ho22));have HO491:=rl_ w ho22;replace HB:=b1_ hb;clear hb ho22;have p20:0≤(0:Int):=(by omega);have q20:(0:Int) < ((y489.length:Int):Int):=oB_ qe_;have qi20:(0 < y489.length) = True:=eq_true (by omega);obtain ⟨go20,co20,eo20,gb20,gl20,cl20,HG20⟩:=Kd.R_form HO491.out (by omega);(first | cases eo20 | (injection eo20 with ea_ en_ ec_;(first | subst ea_ | (injection ea_ with ea_;subst ea_));subst ec_;clear en_));have GB20:=A_ gb20;have GG20:=A_ HG20;clear gb20 gl20 HG20;obtain ⟨hx20_0,hf20_0⟩:=Kd.R_celln false HO491.out (0:Int) p20 q20;(try rw [show ((0:Int)).toNat = 0 from rfl] at hx20_0);(try simp only [Nat.reduceMul,Nat.zero_mul,Nat.zero_add,Nat.reduceAdd] at hx20_0);(try rw [show ((0:Int)).toNat = 0 from rfl] at hf20_0);(try simp only [Nat.reduceMul,Nat.zero_mul,Nat.zero_add,Nat.reduceAdd] at hf20_0);replace p20:=eq_true p20;replace q20:=eq_true q20;obtain ⟨hy23_,hz23_⟩:=Kd.R_celln false HO491.out (0:Int) (by omega) (oB_ qe_);(try simp only [Int.reduceToNat,Int.toNat_zero,Int.toNat_ofNat,Nat.reduceMul,Nat.zero_mul,Nat.zero_add] at hy23_ hz23_);(try rw [show ((0:Int)).toNat = 0 from rfl] at hy23_);(try rw [show ((0:Int)).toNat = 0 from rfl] at hz23_);have HP23:=Kd.R_putg HO491.out (0:Int) true) | ((with_reducible refine gate_store (t:=4) (p:=34) rfl ?_);refine store_event (t:=4) (p:=34) (v:=?vo_w24) (w1:=(w21.setCell ⟨go20,(0:Int).toNat,none⟩ (.bool true))) ?hg ?ho ?hn ?hr ?_;(case ho=>rfl);(case hg=>rfl);(case hn=>rfl);(case hr=>first | (go_simp;done) | (go_simp;rfl));intro w24 hw;have hg:w21.grownBy w24 (some go20):=(by rw [hw];exact HP23.2);have hp_:Kd.R Kd.bool 4 w24 w.heap.size (fun _=>True) (.slice (some ⟨go20,0,none⟩) y489.length co20) y492:=(by rw [hw,Ny492.out];exact HP23.1);clear HP23;replace HO491:=A_ (hp_);replace HB:=A_ ((by rw [hw];exact bD_ (HB.out) GB20.out:Below w.heap.size w w24));clear hg hw hp_) | ((with_reducible refine gB_ (N:=35) rfl ?_);(try (refine gate_guard (by rfl) ?_;dsimp only));refine Kd.R_lit (Kd.int .i64) _ 3 ?hg (N:=35) ?hd (xs:=([0]:List Int)) (inner:=[.int .i64 0]) (ok:=fun _=>True) (okp:=fun _=>True) ?hr ?hp (fun _ hk=>hk) trivial (Below.refl _ _) (nA_ _) (by simp) ?_;(case hd=>rfl);(case hg=>rfl);(case hr=>first | (go_simp;done) | (go_simp;rfl));(case hp=>exact (Reps.one (show Kd.M (Kd.int .i64) _ _ _ 0 [.int .i64 0] from rfl) (Reps.none _ _)));intro v494 w25 ho26 hb hg_ hnew_;clear hg_ hnew_;(first | rw [← Ny493.out] at ho26 | (simp only [Int.reduceToNat] at ho26;rw [← Ny493.out] at ho26));replace HO491:=rb_ HO491 hb;have HO495:=rl_ w ho26;replace HB:=b1_ hb;clear hb ho26))
    go_loopg [6,7] kj2 (fun kq v6 v7 w'=>∃ (x5_2:List Bool) (x6_2:List Int) (x7_2:Int),v7 = .int .i64 x7_2∧Aside0 (Z15.l0 kq l0 l1 x5_2 x6_2 x7_2 = some r)∧Aside0 (kq≤kj2)∧Aside0 (Kd.R Kd.bool 4 w' w.heap.size (fun _=>True) (.slice (some ⟨go20,0,none⟩) y489.length co20) x5_2)∧Aside0 (Kd.R (Kd.int .i64) 3 w' w.heap.size (fun _=>True) v6 x6_2)∧Aside0 (Below w.heap.size w w'))
    case atStart=>exact ⟨(y492),(y493),(0),qc_,H',⟨nA_ _⟩,⟨(rr_ HO491)⟩,⟨(rr_ HO495)⟩,⟨hB_⟩⟩
    case round =>
     clear H'
     obtain ⟨x5_2,x6_2,x7_2,rfl,HA,HK2,HO_5,HO_6,HB⟩:=hrel
     have hl5_2:=(Kd.R_reads' HO_5.out).1
     rw [hl5_2] at HO_5
     (try simp only [hl5_2])
     (try simp only [hl5_2] at HO_6)
     cases gk with
     | zero=>exact absurd HA.out (by simp [Z15.l0])
     | succ k2 =>
      have H:=HA.out
      clear HA
      simp only [Z15.l0] at H
      by_cases c27:x7_2 < (x6_2.length:Int)
      ·rw [if_pos c27] at H
       have c27b0:=oC_ c27
       clear c27
       have c28:=cp_ H
       replace H:=ca_ H
       have c28b0:=oC_ c28
       clear c28
       have c29:=cp_ H
       replace H:=ca_ H
       have c29b0:=oC_ c29
       clear c29
       have c30:=cp_ H
       replace H:=ca_ H
       have c30b0:=oC_ c30
       clear c30
       have c31:=cp_ H
       replace H:=ca_ H
       have c31b0:=oC_ c31
       clear c31
       obtain ⟨y500,hy500⟩:∃ y_:List Int,y_ = (([rd l0 (rd x6_2 x7_2),rd l1 (rd x6_2 x7_2)]:List Int)):=⟨_,rfl⟩
       replace H:(Z15.l1 k2 l0 l1 x5_2 x6_2 x7_2 y500 (y500.length:Int) 0) = some r:=by first | (rw [hy500];exact H) | exact H
       have Ny500:=A_ hy500
       clear hy500
       have H':=A_ H
       clear H
       obtain ⟨Ao32,co32,eo32⟩:=Kd.R_slice HO_6.out
       subst eo32
       try go_wp2
       replace HO_5:=A_ (rC_ HO_5.out)
       replace HO_6:=A_ (rC_ HO_6.out)
       replace HB:=A_ (bC_ HB.out)
       have p496:0≤(x7_2:Int):=oB_ qe_
       have q496:x7_2 < (x6_2.length:Int):=oB_ qe_
       obtain ⟨ad496,e496,hx496_0⟩:=Kd.at_int (Kd.R_reads' HO_6.out).2.2 x7_2 p496 q496
       cases e496
       replace p496:=eq_true p496
       replace q496:=eq_true q496
       have p497:0≤((rd x6_2 x7_2):Int):=oB_ qe_
       have q497:(rd x6_2 x7_2) < (l0.length:Int):=oB_ qe_
       obtain ⟨ad497,e497,hx497_0⟩:=Kd.at_int HR0.out (rd x6_2 x7_2) p497 q497
       have hw497_0:=hx497_0
       cases e497
       replace hx497_0:=(HB.out.cell (World.block_lt_of_cell? w _ hx497_0)).trans hx497_0
       replace p497:=eq_true p497
       replace q497:=eq_true q497
       have p498:0≤(x7_2:Int):=oB_ qe_
       have q498:x7_2 < (x6_2.length:Int):=oB_ qe_
       obtain ⟨ad498,e498,hx498_0⟩:=Kd.at_int (Kd.R_reads' HO_6.out).2.2 x7_2 p498 q498
       obtain rfl:ad496 = ad498:=(by injection e498)
       replace p498:=eq_true p498
       replace q498:=eq_true q498
       have p499:0≤((rd x6_2 x7_2):Int):=oB_ qe_
       have q499:(rd x6_2 x7_2) < (l1.length:Int):=oB_ qe_
       obtain ⟨ad499,e499,hx499_0⟩:=Kd.at_int HR1.out (rd x6_2 x7_2) p499 q499
       have hw499_0:=hx499_0
       cases e499
       replace hx499_0:=(HB.out.cell (World.block_lt_of_cell? w _ hx499_0)).trans hx499_0
       replace p499:=eq_true p499
       replace q499:=eq_true q499
       refine start_ (n:=17) (S:=fun w'=>w'.cell? (ad496.add (x7_2).toNat) = some (.int .i64 (rd x6_2 x7_2))∧w'.cell? (ad497.add ((rd x6_2 x7_2)).toNat) = some (.int .i64 (rd l0 (rd x6_2 x7_2)))∧w'.cell? (ad496.add (x7_2).toNat) = some (.int .i64 (rd x6_2 x7_2))∧w'.cell? (ad499.add ((rd x6_2 x7_2)).toNat) = some (.int .i64 (rd l1 (rd x6_2 x7_2)))) (ds:=[]) (bl_ 17 0) (by kernel_rfl) rfl (by kernel_rfl) ⟨hx496_0,((HB.out.cell (World.block_lt_of_cell? w _ hw497_0)).trans hw497_0),hx498_0,((HB.out.cell (World.block_lt_of_cell? w _ hw499_0)).trans hw499_0)⟩ (fun hHeld=>?_);refine with_tabW Z15.tab9 Z15.bits9 (fun HT_ HW_=>?_)
       generalize wr.drew = w33 at HO_5 HO_6 HB hx496_0 hx497_0 hx498_0 hx499_0 hHeld ⊢
       refine pu_ 0 (some 42) (bl_ 17 1) HT_ ?_
       refine pu_ 1 (some 43) (bl_ 17 3) HT_ ?_
       refine pu_ 2 (some 44) (bl_ 17 7) HT_ ?_
       refine pu_ 3 (some 45) (bl_ 17 15) HT_ ?_
       refine pu_ 7 (some 49) (bl_ 17 143) HT_ ?_
       refine pu_ 8 (some 50) (bl_ 17 399) HT_ ?_
       refine pu_ 9 (some 51) (bl_ 17 911) HT_ ?_
       refine pu_ 10 (some 52) (bl_ 17 1935) HT_ ?_
       refine pu_ 16 (some 58) (bl_ 17 67471) HT_ ?_
       refine ta_ 4 (some 46) (bl_ 17 67487) HT_ HW_ hHeld ?_
       refine pu_ 5 (some 47) (bl_ 17 67519) HT_ ?_
       refine ta_ 6 (some 48) (bl_ 17 67583) HT_ HW_ hHeld ?_
       refine ta_ 11 (some 53) (bl_ 17 69631) HT_ HW_ hHeld ?_
       refine pu_ 12 (some 54) (bl_ 17 73727) HT_ ?_
       refine ta_ 13 (some 55) (bl_ 17 81919) HT_ HW_ hHeld ?_
       refine on_ 14 (some 56) (bl_ 17 98303) HT_ (fun K hK=>?_)
       refine Kd.R_lit_step (Kd.int .i64) _ 3 ?hg (N:=56) ?hd (xs:=([rd l0 (rd x6_2 x7_2),rd l1 (rd x6_2 x7_2)]:List Int)) (inner:=[.int .i64 (rd l0 (rd x6_2 x7_2)),.int .i64 (rd l1 (rd x6_2 x7_2))]) (ok:=fun _=>True) (okp:=fun _=>True) ?hr ?hp (fun _ hk=>hk) trivial (Below.refl _ _) (nA_ _) (by simp) ?_;(case hd=>rfl);(case hg=>rfl);(case hr=>first | (go_simp;done) | (go_simp;rfl));(case hp=>exact (Reps.one (show Kd.M (Kd.int .i64) _ _ _ (rd l0 (rd x6_2 x7_2)) [.int .i64 (rd l0 (rd x6_2 x7_2))] from rfl) (Reps.one (show Kd.M (Kd.int .i64) _ _ _ (rd l1 (rd x6_2 x7_2)) [.int .i64 (rd l1 (rd x6_2 x7_2))] from rfl) (Reps.none _ _))))
       intro v501 w34 ho35 hb hg_ hnew_
       have HS0_:=(hb.cell (World.block_lt_of_cell? _ _ (hHeld.1))).trans (hHeld.1)
       have HS2_:=(hb.cell (World.block_lt_of_cell? _ _ (hHeld.2.2.1))).trans (hHeld.2.2.1)
       clear hg_ hnew_
       (first | rw [← Ny500.out] at ho35 | (simp only [Int.reduceToNat] at ho35;rw [← Ny500.out] at ho35))
       replace HO_5:=rb_ HO_5 hb
       have HO502:=A_ (rE_ (Kd.R_new' ho35 (Kd.R_lt (rr_ HO_6))) (bF_ hB_))
       replace HO_6:=A_ (Kd.R_elder' (rr_ HO_6) (Kd.R_base ho35) hb)
       replace HB:=b1_ hb
       clear hb ho35
       obtain ⟨Ao36,co36,eo36⟩:=Kd.R_slice HO502.out
       (first | subst eo36 | (injection eo36 with f1_ f2_ f3_;have f4_:=f1_.symm;have f5_:=f3_.symm;clear f1_ f2_ f3_;subst f4_;subst f5_))
       refine hK.out _ _ ⟨HS0_,((HB.out.cell (World.block_lt_of_cell? w _ hw497_0)).trans hw497_0),HS2_,((HB.out.cell (World.block_lt_of_cell? w _ hw499_0)).trans hw499_0)⟩ (fun hHeld=>?_)
       clear hK K
       refine no_ (some 56) ?_
       refine pu_ 15 (some 57) (bl_ 17 131071) HT_ ?_
       refine done_ (done_of HT_.out (by kernel_rfl)) ?_
       try go_wp2
       go_loopg [6,58] k2 (fun kq v6 v58 w'=>∃ (x5_3:List Bool) (x6_3:List Int) (x58_3:Int),v58 = .int .i64 x58_3∧Aside0 (Z15.l1 kq l0 l1 x5_3 x6_3 x7_2 y500 (y500.length:Int) x58_3 = some r)∧Aside0 (kq≤k2)∧Aside0 (Kd.R Kd.bool 4 w' w.heap.size (fun _=>True) (.slice (some ⟨go20,0,none⟩) x5_2.length co20) x5_3)∧Aside0 (Kd.R (Kd.int .i64) 3 w' w.heap.size (fun k_=>some k_≠((.slice Ao36 y500.length co36):Value).ownBlock) v6 x6_3)∧Aside0 (Kd.R (Kd.int .i64) 3 w' w.heap.size (fun k_=>some k_≠(v6:Value).ownBlock) (.slice Ao36 y500.length co36) y500)∧Aside0 (Below w.heap.size w w'))
       case atStart=>exact ⟨(x5_2),(x6_2),(0),qc_,H',⟨nA_ _⟩,⟨by (try simp only [hl5_2]);(with_reducible repeat (first | apply rA_ | apply rB_ | apply rC_));exact HO_5.out⟩,⟨by (try simp only [hl5_2]);(with_reducible repeat (first | apply rA_ | apply rB_ | apply rC_));exact Kd.R_mono HO_6.out (fun _ hk=>hk.2)⟩,⟨by (try simp only [hl5_2]);(with_reducible repeat (first | apply rA_ | apply rB_ | apply rC_));exact Kd.R_mono HO502.out (fun _ hk=>hk.2)⟩,⟨hB_⟩⟩
       case round =>
        clear H'
        obtain ⟨x5_3,x6_3,x58_3,rfl,HA,HK3,HO_5,HO_6,HO_56,HB⟩:=hrel
        have hl5_3:=(Kd.R_reads' HO_5.out).1
        rw [hl5_3] at HO_5
        (try simp only [hl5_3])
        (try simp only [hl5_3] at HO_6)
        (try simp only [hl5_3] at HO_56)
        cases gk with
        | zero=>exact absurd HA.out (by simp [Z15.l1])
        | succ k3 =>
         have H:=HA.out
         clear HA
         simp only [Z15.l1] at H
         by_cases c37:x58_3 < (y500.length:Int)
         ·rw [if_pos c37] at H
          have c37b0:=oC_ c37
          clear c37
          have c38:=cp_ H
          replace H:=ca_ H
          have c38b0:=oC_ c38
          clear c38
          have c39:=cp_ H
          replace H:=ca_ H
          have c39b0:=oC_ c39
          clear c39
          have c40:=cp_ H
          replace H:=ca_ H
          have c40b0:=oC_ c40
          clear c40
          have c41:=cp_ H
          replace H:=ca_ H
          have c41b0:=oC_ c41
          clear c41
          obtain ⟨bq42,hbq42⟩:∃ b_:Bool,b_ = (rdOf false x5_3 (rd y500 x58_3)):=⟨_,rfl⟩
          replace H:(if (bq42 = true) then (Z15.l1 k3 l0 l1 x5_3 x6_3 x7_2 y500 (y500.length:Int) (wrap64 (x58_3 + 1))) else (if x6_3.length < 17592186044416 then (Z15.l1 k3 l0 l1 (x5_3.set ((rd y500 x58_3):Int).toNat true) (x6_3 ++ [rd y500 x58_3]) x7_2 y500 (y500.length:Int) (wrap64 (x58_3 + 1))) else (none))) = some r:=by rw [← hbq42] at H;exact H
          have Nbq42:=A_ hbq42
          clear hbq42
          by_cases c43:(bq42 = true)
          ·subst c43
           rw [if_pos rfl] at H
           have H':=A_ H
           clear H
           have p503:0≤(x58_3:Int):=oB_ qe_
           have q503:x58_3 < (y500.length:Int):=oB_ qe_
           obtain ⟨ad503,e503,hx503_0⟩:=Kd.at_int (Kd.R_reads' HO_56.out).2.2 x58_3 p503 q503
           cases e503
           replace p503:=eq_true p503
           replace q503:=eq_true q503
           have p504:0≤((rd y500 x58_3):Int):=oB_ qe_
           have q504:(rd y500 x58_3) < (x5_3.length:Int):=oB_ qe_
           obtain ⟨ad504,e504,hx504_0⟩:=Kd.at_bool (Kd.R_reads' HO_5.out).2.2 (rd y500 x58_3) p504 q504
           (try rw [← Nbq42.out] at hx504_0)
           obtain rfl:(⟨go20,0,none⟩:Addr) = ad504:=(by injection e504)
           (first | simp only [add_plain] at hx504_0 | simp only [add_at] at hx504_0 | simp only [Addr.add,Nat.zero_add] at hx504_0 | skip)
           replace p504:=eq_true p504
           replace q504:=eq_true q504
           go_wp2
           (try simp only [← hl5_3])
           go_roundg k3
           case measure=>have:=HJ2.out;have:=HK2.out;have:=HK3.out;omega
           case rel=>exact ⟨(x5_3),(x6_3),(wrap64 (x58_3 + 1)),qc_,H',⟨by have:=HJ2.out;have:=HK2.out;have:=HK3.out;omega⟩,⟨by (try simp only [hl5_2]);(try simp only [hl5_3]);(with_reducible repeat (first | apply rA_ | apply rB_ | apply rC_));exact HO_5.out⟩,⟨by (try simp only [hl5_2]);(try simp only [hl5_3]);(with_reducible repeat (first | apply rA_ | apply rB_ | apply rC_));exact HO_6.out⟩,⟨by (try simp only [hl5_2]);(try simp only [hl5_3]);(with_reducible repeat (first | apply rA_ | apply rB_ | apply rC_));exact HO_56.out⟩,⟨hB_⟩⟩
          ·replace c43:=Bool.eq_false_iff.mpr c43
           subst c43
           have H1:(if x6_3.length < 17592186044416 then (Z15.l1 k3 l0 l1 (x5_3.set ((rd y500 x58_3):Int).toNat true) (x6_3 ++ [rd y500 x58_3]) x7_2 y500 (y500.length:Int) (wrap64 (x58_3 + 1))) else (none)) = some r:=by rw [if_neg (show ¬ (false = true) by decide)] at H;exact H
           clear H
           have H:=H1
           clear H1
           obtain ⟨y505,hy505⟩:∃ y_:List Bool,y_ = (x5_3.set ((rd y500 x58_3):Int).toNat true):=⟨_,rfl⟩
           replace H:(if x6_3.length < 17592186044416 then (Z15.l1 k3 l0 l1 y505 (x6_3 ++ [rd y500 x58_3]) x7_2 y500 (y500.length:Int) (wrap64 (x58_3 + 1))) else (none)) = some r:=by first | (rw [hy505];exact H) | exact H
           have Ny505:=A_ hy505
           clear hy505
           have c45:=cp_ H
           replace H:=ca_ H
           have LMc45:=A_ c45
           clear c45
           obtain ⟨y506,hy506⟩:∃ y_:List Int,y_ = (x6_3 ++ [rd y500 x58_3]):=⟨_,rfl⟩
           replace H:(Z15.l1 k3 l0 l1 y505 y506 x7_2 y500 (y500.length:Int) (wrap64 (x58_3 + 1))) = some r:=by first | (rw [hy506];exact H) | exact H
           have Ny506:=A_ hy506
           clear hy506
           have H':=A_ H
           clear H
           have p503:0≤(x58_3:Int):=oB_ qe_
           have q503:x58_3 < (y500.length:Int):=oB_ qe_
           obtain ⟨ad503,e503,hx503_0⟩:=Kd.at_int (Kd.R_reads' HO_56.out).2.2 x58_3 p503 q503
           cases e503
           replace p503:=eq_true p503
           replace q503:=eq_true q503
           have p504:0≤((rd y500 x58_3):Int):=oB_ qe_
           have q504:(rd y500 x58_3) < (x5_3.length:Int):=oB_ qe_
           obtain ⟨ad504,e504,hx504_0⟩:=Kd.at_bool (Kd.R_reads' HO_5.out).2.2 (rd y500 x58_3) p504 q504
           (try rw [← Nbq42.out] at hx504_0)
           obtain rfl:(⟨go20,0,none⟩:Addr) = ad504:=(by injection e504)
           (first | simp only [add_plain] at hx504_0 | simp only [add_at] at hx504_0 | simp only [Addr.add,Nat.zero_add] at hx504_0 | skip)
           replace p504:=eq_true p504
           replace q504:=eq_true q504
           have p44:0≤((rd y500 x58_3):Int):=oB_ qe_
           have q44:((rd y500 x58_3):Int) < ((x5_3.length:Int):Int):=oB_ qe_
           obtain ⟨hx44_0,hf44_0⟩:=Kd.R_celln false HO_5.out ((rd y500 x58_3):Int) p44 q44
           replace p44:=eq_true p44
           replace q44:=eq_true q44
           have HP46:=Kd.R_putg HO_5.out ((rd y500 x58_3):Int) true
           go_wp2_with (first | ((with_reducible refine gate_store (t:=4) (p:=69) rfl ?_);refine store_event (t:=4) (p:=69) (v:=?vo_w47) (w1:=(wr.setCell ⟨go20,((rd y500 x58_3):Int).toNat,none⟩ (.bool true))) ?hg ?ho ?hn ?hr ?_;(case ho=>rfl);(case hg=>rfl);(case hn=>rfl);(case hr=>first | (go_simp;done) | (go_simp;rfl));intro w47 hw;have hg:wr.grownBy w47 (some go20):=(by rw [hw];exact HP46.2);have hp_:Kd.R Kd.bool 4 w47 w.heap.size (fun _=>True) (.slice (some ⟨go20,0,none⟩) x5_3.length co20) y505:=(by rw [hw,Ny505.out];exact HP46.1);clear HP46;replace HO_6:=A_ (Kd.R_over' (v:=(.slice (some ⟨go20,0,none⟩) x5_3.length co20)) (rr_ HO_6) (Kd.R_typed HO_5.out) (by decide) hg);replace HO_56:=A_ (Kd.R_over' (v:=(.slice (some ⟨go20,0,none⟩) x5_3.length co20)) (rr_ HO_56) (Kd.R_typed HO_5.out) (by decide) hg);replace HO_5:=A_ (hp_);replace HB:=A_ ((by rw [hw];exact bD_ (HB.out) GB20.out:Below w.heap.size w w47));clear hg hw hp_) | ((with_reducible refine gate_builtin (b:=.append) (xs:=#[.tmp 70,.tmp 72]) rfl ?_);(try (refine gate_guard (by rfl) ?_;dsimp only));at_builtin;refine Kd.R_append (Kd.int .i64) (w0:=w) w.heap.size rfl (.tmp 70) (.tmp 72) 22 3 (.int .i64 0) 8 rfl Tryz.underlying22 info3 rfl (by decide) (by omega) u6 x6_3 (rd y500 x58_3) [.int .i64 (rd y500 x58_3)] (fun k_=>some k_≠(.slice (some ad503) y500.length co36:Value).ownBlock) (fun _=>False) rfl rfl ?aP (fun _ hk=>hk.elim) ?aF ?aO ?aB ?aS ?aL ?_;(case aP=>exact rfl);(case aB=>exact hB_);(case aF=>exact (fun k_ hk=>Kd.fresh' (Kd.R_lt (rr_ HO_56)) k_ hk));(case aO=>exact (rr_ HO_6));(case aS=>exact (bF_ hB_));(case aL=>have:=LMc45.out;omega);intro v507 w48 ho hb hg hat;rw [← Ny506.out] at ho;replace HO_5:=A_ (Kd.R_over' (rr_ HO_5) (Kd.R_typed (rr_ HO_6)) (by decide) hg);replace HO_56:=A_ (Kd.R_after (ok:=(fun _=>True)) (rw_ (Kd.R_mono HO_56.out (fun _ hk=>⟨trivial,hk⟩))) hg hat);replace HB:=A_ hb;have HO508:=A_ ho;clear HO_6;clear ho hb hg hat))
           (try simp only [← hl5_3])
           go_roundg k3
           case measure=>have:=HJ2.out;have:=HK2.out;have:=HK3.out;omega
           case rel=>exact ⟨(y505),(y506),(wrap64 (x58_3 + 1)),qc_,H',⟨by have:=HJ2.out;have:=HK2.out;have:=HK3.out;omega⟩,⟨by (try simp only [hl5_2]);(try simp only [hl5_3]);(with_reducible repeat (first | apply rA_ | apply rB_ | apply rC_));exact HO_5.out⟩,⟨by (try simp only [hl5_2]);(try simp only [hl5_3]);(with_reducible repeat (first | apply rA_ | apply rB_ | apply rC_));exact HO508.out⟩,⟨by (try simp only [hl5_2]);(try simp only [hl5_3]);(with_reducible repeat (first | apply rA_ | apply rB_ | apply rC_));exact Kd.R_mono HO_56.out (fun _ hk=>hk.2)⟩,⟨hB_⟩⟩
         ·rw [if_neg c37] at H
          have c37b0:=oD_ c37
          clear c37
          have H':=A_ H
          clear H
          go_wp2
          (try simp only [← hl5_2,← hl5_3])
          go_roundg k3
          case measure=>have:=HJ2.out;have:=HK2.out;have:=HK3.out;omega
          case rel=>exact ⟨(x5_3),(x6_3),(wrap64 (x7_2 + 1)),qc_,H',⟨by have:=HJ2.out;have:=HK2.out;have:=HK3.out;omega⟩,⟨by (try simp only [hl5_2]);(try simp only [hl5_3]);(with_reducible repeat (first | apply rA_ | apply rB_ | apply rC_));exact HO_5.out⟩,⟨by (try simp only [hl5_2]);(try simp only [hl5_3]);(with_reducible repeat (first | apply rA_ | apply rB_ | apply rC_));exact Kd.R_mono HO_6.out (fun _ hk=>trivial)⟩,⟨hB_⟩⟩
      ·rw [if_neg c27] at H
       have c27b0:=oD_ c27
       clear c27
       obtain rfl:=Option.some.inj H
       obtain ⟨Ao49,co49,eo49⟩:=Kd.R_slice HO_6.out
       subst eo49
       go_wp2
       go_ret
       exact ⟨qb_,hB_⟩
end Go.Proofs.YtcggfjpnfodbaaaGreat.A
end
section
namespace Go.Proofs.YtcggfjpnfodbaaaGreat.A
open Go.RowKit Go.Proofs.YtcggfjpnfodbaaaGreatW.PrintWords Go.Proofs.YtcggfjpnfodbaaaGreatW.PrintLast Go.Proofs.YtcggfjpnfodbaaaGreatW.PrintMore
attribute [local go_sem] max2_int min2_int max_two min_two max_three min_three max_four min_four
set_option linter.unusedVariables false
set_option linter.unusedSimpArgs false
def Z38.f (k:Nat) (l0_0:List Int) (l0_1:List Int):Option (Bool):=(Z15.f k l0_0 l0_1).bind fun t510=>(some t510)
theorem Z38.mono:∀ a0 a1 k,LeO (Z38.f k a0 a1) (Z38.f (k + 1) a0 a1):=by
 intro a0 a1 k
 unfold Z38.f
 repeat' first|exact Z15.mono _ _ _|exact lo_|refine LeO.ite ?_ ?_|refine LeO.bind ?_ (fun _=>?_)
set_option maxHeartbeats 8000000 in
set_option maxRecDepth 100000 in
theorem Z38.calls (k:Nat) (A0_0:Option Addr) (c0_0:Nat) (l0_0:List Int) (A0_1:Option Addr) (c0_1:Nat) (l0_1:List Int) (r:Bool) (w:World) (hr0_0:Kd.C (Kd.int .i64) w A0_0 l0_0.length l0_0) (hc0_0:l0_0.length≤c0_0) (hr0_1:Kd.C (Kd.int .i64) w A0_1 l0_1.length l0_1) (hc0_1:l0_1.length≤c0_1) (h:Z38.f k l0_0 l0_1 = some r) :
  Calls Tryz.prog 76 #[.agg #[.slice A0_0 l0_0.length c0_0,.slice A0_1 l0_1.length c0_1]] w fun e w'=>e = .returned (.bool r)∧Below w.heap.size w w':=by
 have hu27:=Tryz.underlying27
 have HR0_0:=A_ hr0_0
 have HC0_0:=A_ hc0_0
 clear hr0_0 hc0_0
 have HR0_1:=A_ hr0_1
 have HC0_1:=A_ hc0_1
 clear hr0_1 hc0_1
 have HB:=A_ (Below.refl w.heap.size w)
 have H:=h
 unfold Z38.f at H
 clear h
 obtain ⟨t510,A2,H⟩:=bi_ H
 obtain rfl:=Option.some.inj H
 go_enter Tryz.func76,Tryz.ntmps76
 go_wp2_with (first | ((with_reducible refine gB_ (N:=1) rfl ?_);refine bx_ 1 #[.slice A0_0 l0_0.length c0_0,.slice A0_1 l0_1.length c0_1] 27 ?_;intro gb509 hg w3 hbox hb;have BK509:=A_ hbox;have GW509:=gw_ w hg;have GE509:=GW509;replace HB:=b1_ hb;clear hb hbox hg;obtain ⟨hcz4_0,hcz4_1,hfz4_0,hfz4_1⟩:=c2_ BK509) | ((with_reducible refine gA_ (f:=100) rfl ?_);refine gL_ (some 7) Tryz.func100 #[.slice A0_0 l0_0.length c0_0,.slice A0_1 l0_1.length c0_1] rfl qa_ ?_;(with_reducible refine (Z15.calls k _ _ l0_0 _ _ l0_1 t510 _ (cb_ HR0_0) HC0_0.out (cb_ HR0_1) HC0_1.out A2.out).mono ?_);rintro e w5 ⟨rfl,hb⟩;refine ⟨_,rfl,?_⟩;replace BK509:=bb_ BK509 hb;replace HB:=b1_ hb;clear hb))
 go_ret
 exact ⟨qb_,hB_⟩
def Z14.f (k:Nat) (l0_0:List Int) (l0_1:List Int):Option (Int):=(Z38.f k l0_0 l0_1).bind fun t512=>(if t512 = true then (some (l0_0.length:Int)) else (some 0))
theorem Z14.mono:∀ a0 a1 k,LeO (Z14.f k a0 a1) (Z14.f (k + 1) a0 a1):=by
 intro a0 a1 k
 unfold Z14.f
 repeat' first|exact Z38.mono _ _ _|exact lo_|refine LeO.ite ?_ ?_|refine LeO.bind ?_ (fun _=>?_)
set_option maxHeartbeats 8000000 in
set_option maxRecDepth 100000 in
theorem Z14.calls (k:Nat) (A0_0:Option Addr) (c0_0:Nat) (l0_0:List Int) (A0_1:Option Addr) (c0_1:Nat) (l0_1:List Int) (r:Int) (w:World) (hr0_0:Kd.C (Kd.int .i64) w A0_0 l0_0.length l0_0) (hc0_0:l0_0.length≤c0_0) (hr0_1:Kd.C (Kd.int .i64) w A0_1 l0_1.length l0_1) (hc0_1:l0_1.length≤c0_1) (h:Z14.f k l0_0 l0_1 = some r) :
  Calls Tryz.prog 87 #[.agg #[.slice A0_0 l0_0.length c0_0,.slice A0_1 l0_1.length c0_1]] w fun e w'=>e = .returned (.int .i64 r)∧Below w.heap.size w w':=by
 have hu27:=Tryz.underlying27
 have HR0_0:=A_ hr0_0
 have HC0_0:=A_ hc0_0
 clear hr0_0 hc0_0
 have HR0_1:=A_ hr0_1
 have HC0_1:=A_ hc0_1
 clear hr0_1 hc0_1
 have HB:=A_ (Below.refl w.heap.size w)
 have H:=h
 unfold Z14.f at H
 clear h
 obtain ⟨t512,A2,H⟩:=bi_ H
 by_cases c3:t512 = true
 ·subst c3
  rw [if_pos rfl] at H
  obtain rfl:=Option.some.inj H
  go_enter Tryz.func87,Tryz.ntmps87
  go_wp2_with (first | ((with_reducible refine gB_ (N:=1) rfl ?_);refine bx_ 1 #[.slice A0_0 l0_0.length c0_0,.slice A0_1 l0_1.length c0_1] 27 ?_;intro gb511 hg w4 hbox hb;have BK511:=A_ hbox;have GW511:=gw_ w hg;have GE511:=GW511;replace HB:=b1_ hb;clear hb hbox hg;obtain ⟨hcz5_0,hcz5_1,hfz5_0,hfz5_1⟩:=c2_ BK511) | ((with_reducible refine gA_ (f:=76) rfl ?_);refine gL_ (some 4) Tryz.func76 #[.agg #[.slice A0_0 l0_0.length c0_0,.slice A0_1 l0_1.length c0_1]] rfl qa_ ?_;(with_reducible refine (Z38.calls k _ _ l0_0 _ _ l0_1 true _ (cb_ HR0_0) HC0_0.out (cb_ HR0_1) HC0_1.out A2.out).mono ?_);rintro e w6 ⟨rfl,hb⟩;refine ⟨_,rfl,?_⟩;replace BK511:=bb_ BK511 hb;replace HB:=b1_ hb;clear hb;obtain ⟨hcz7_0,hcz7_1,hfz7_0,hfz7_1⟩:=c2_ BK511))
  go_ret
  exact ⟨qb_,hB_⟩
 ·replace c3:=Bool.eq_false_iff.mpr c3
  subst c3
  have H1:(some 0) = some r:=by rw [if_neg (show ¬ (false = true) by decide)] at H;exact H
  clear H
  have H:=H1
  clear H1
  obtain rfl:=Option.some.inj H
  go_enter Tryz.func87,Tryz.ntmps87
  go_wp2_with (first | ((with_reducible refine gB_ (N:=1) rfl ?_);refine bx_ 1 #[.slice A0_0 l0_0.length c0_0,.slice A0_1 l0_1.length c0_1] 27 ?_;intro gb511 hg w8 hbox hb;have BK511:=A_ hbox;have GW511:=gw_ w hg;have GE511:=GW511;replace HB:=b1_ hb;clear hb hbox hg;obtain ⟨hcz9_0,hcz9_1,hfz9_0,hfz9_1⟩:=c2_ BK511) | ((with_reducible refine gA_ (f:=76) rfl ?_);refine gL_ (some 4) Tryz.func76 #[.agg #[.slice A0_0 l0_0.length c0_0,.slice A0_1 l0_1.length c0_1]] rfl qa_ ?_;(with_reducible refine (Z38.calls k _ _ l0_0 _ _ l0_1 false _ (cb_ HR0_0) HC0_0.out (cb_ HR0_1) HC0_1.out A2.out).mono ?_);rintro e w10 ⟨rfl,hb⟩;refine ⟨_,rfl,?_⟩;replace BK511:=bb_ BK511 hb;replace HB:=b1_ hb;clear hb))
  go_ret
  exact ⟨qb_,hB_⟩
end Go.Proofs.YtcggfjpnfodbaaaGreat.A
end
section
namespace Go.Proofs.YtcggfjpnfodbaaaGreat.A
open Go.RowKit Go.Proofs.YtcggfjpnfodbaaaGreatW.PrintWords Go.Proofs.YtcggfjpnfodbaaaGreatW.PrintLast Go.Proofs.YtcggfjpnfodbaaaGreatW.PrintMore
attribute [local go_sem] max2_int min2_int max_two min_two max_three min_three max_four min_four
set_option linter.unusedVariables false
set_option linter.unusedSimpArgs false
mutual
def Z31.j0:Nat→List Int→List Int→Bool→Option (List Int)
 | 0,_,_,_=>none
 | k + 1,x0,x1,x22=>if x22 = true then (some ([]:List Int)) else (if 0≤(x0.length:Int) then (if ((x0.length:Int):Int).toNat≤35184372088832 then (Z31.l0 k x1 (List.replicate ((x0.length:Int):Int).toNat 0) x0 (x0.length:Int) 0) else (none)) else (none))
def Z31.l0:Nat→List Int→List Int→List Int→Int→Int→Option (List Int)
 | 0,_,_,_,_,_=>none
 | k + 1,x1,x5,x26,x27,x28=>if x28 < x27 then (if 0≤x28 then (if x28 < (x26.length:Int) then (if x28 < (x1.length:Int) then (if 0≤(rd x26 x28) then (if (rd x26 x28) < (x1.length:Int) then (if 0≤(rd x1 x28) then (if (rd x1 x28) < (x5.length:Int) then (Z31.l0 k x1 (x5.set ((rd x1 x28):Int).toNat (rd x1 (rd x26 x28))) x26 x27 (wrap64 (x28 + 1))) else (none)) else (none)) else (none)) else (none)) else (none)) else (none)) else (none)) else (some x5)
end
def Z31.f (k:Nat) (l0:List Int) (l1:List Int):Option (List Int):=(Z75.f k l0).bind fun t513=>(if t513 = true then ((Z75.f k l1).bind fun t514=>(if t514 = true then (Z31.j0 k l0 l1 ((l0.length:Int) != (l1.length:Int))) else (Z31.j0 k l0 l1 true))) else (Z31.j0 k l0 l1 true))
theorem Z31.mono_l:∀ k,(∀ y0 y1 y2,LeO (Z31.j0 k y0 y1 y2) (Z31.j0 (k + 1) y0 y1 y2))∧(∀ y0 y1 y2 y3 y4,LeO (Z31.l0 k y0 y1 y2 y3 y4) (Z31.l0 (k + 1) y0 y1 y2 y3 y4))
 | 0=>⟨fun _ _ _ r h=>by simp [Z31.j0] at h,fun _ _ _ _ _ r h=>by simp [Z31.l0] at h⟩
 | k + 1=>by
  obtain ⟨ih0,ih1⟩:=Z31.mono_l k
  refine ⟨?_,?_⟩
  ·intro y0 y1 y2
   unfold Z31.j0
   repeat' first|exact ih0 _ _ _|exact ih1 _ _ _ _ _|exact Z75.mono _ _|exact lo_|refine LeO.ite ?_ ?_|refine LeO.bind ?_ (fun _=>?_)
  ·intro y0 y1 y2 y3 y4
   unfold Z31.l0
   repeat' first|exact ih0 _ _ _|exact ih1 _ _ _ _ _|exact Z75.mono _ _|exact lo_|refine LeO.ite ?_ ?_|refine LeO.bind ?_ (fun _=>?_)
theorem Z31.mono:∀ a0 a1 k,LeO (Z31.f k a0 a1) (Z31.f (k + 1) a0 a1):=by
 intro a0 a1 k
 obtain ⟨ih0,ih1⟩:=Z31.mono_l k
 unfold Z31.f
 repeat' first|exact ih0 _ _ _|exact ih1 _ _ _ _ _|exact Z75.mono _ _|exact lo_|refine LeO.ite ?_ ?_|refine LeO.bind ?_ (fun _=>?_)
def Z31.T7:Bool × List (List Nat × List Nat):=(true,[([],[]),([],[]),([],[]),([1,2],[1,2]),([3],[3]),([],[]),([],[]),([5,6],[5,6]),([7],[7]),([0,4,0,1,2,3,4,5,6,7,8],[0,4]),([9,8,0,1,2,3,4,5,6,7,8],[8,9])])
def Z31.B7:List Nat:=[0,0,0,6,14,0,0,96,224,511,1023]
theorem Z31.tab7:rtab .any (opsOf Tryz.f105 7) = Z31.T7:=by kernel_rfl
theorem Z31.bits7:waitsOk Z31.T7.2 Z31.B7 = true:=by kernel_rfl
set_option maxHeartbeats 8000000 in
set_option maxRecDepth 100000 in
theorem Z31.calls (k:Nat) (A0:Option Addr) (c0:Nat) (l0:List Int) (A1:Option Addr) (c1:Nat) (l1:List Int) (r:List Int) (w:World) (hr0:Kd.C (Kd.int .i64) w A0 l0.length l0) (hc0:l0.length≤c0) (hr1:Kd.C (Kd.int .i64) w A1 l1.length l1) (hc1:l1.length≤c1) (h:Z31.f k l0 l1 = some r) :
  Calls Tryz.prog 105 #[.slice A0 l0.length c0,.slice A1 l1.length c1] w fun e w'=>∃ v0_:Value,e = .returned (v0_)∧Kd.R (Kd.int .i64) 3 w' w.heap.size (fun _=>True) v0_ r∧Below w.heap.size w w':=by
 have HR0:=A_ hr0
 have HC0:=A_ hc0
 clear hr0 hc0
 have HR1:=A_ hr1
 have HC1:=A_ hc1
 clear hr1 hc1
 have HB:=A_ (Below.refl w.heap.size w)
 have H:=h
 unfold Z31.f at H
 clear h
 have HC3:=A_ H
 clear H
 go_enter Tryz.func105,Tryz.ntmps105
 go_upto_region 1 with (fail)
 go_cut [22] (fun v22 wc=>∃ (kq:Nat) (x22_2:Bool),v22 = .bool x22_2∧Aside0 (Z31.j0 kq l0 l1 x22_2 = some r)∧Aside0 (kq≤k)∧Aside0 (Below w.heap.size w wc))
 case first =>
  have H:=HC3.out
  clear HC3
  obtain ⟨t513,A4,H⟩:=bi_ H
  by_cases c5:t513 = true
  ·subst c5
   rw [if_pos rfl] at H
   obtain ⟨t514,A6,H⟩:=bi_ H
   by_cases c7:t514 = true
   ·subst c7
    rw [if_pos rfl] at H
    have H':=A_ H
    clear H
    go_wp2_with (first | ((with_reducible refine gA_ (f:=104) rfl ?_);refine gL_ (some 9) Tryz.func104 #[.slice A0 l0.length c0] rfl qa_ ?_;(with_reducible refine (Z75.calls k _ _ l0 true _ (cb_ HR0) HC0.out A4.out).mono ?_);rintro e w8 ⟨rfl,hb⟩;refine ⟨_,rfl,?_⟩;replace HB:=b1_ hb;clear hb) | (go_at_call 104;(with_reducible refine (Z75.calls k _ _ l1 true _ (cb_ HR1) HC1.out A6.out).mono ?_);rintro e w9 ⟨rfl,hb⟩;replace HB:=b1_ hb;clear hb))
    go_meet
    case rel=>exact ⟨_,(((l0.length:Int) != (l1.length:Int))),qc_,H',⟨qd_⟩,⟨hB_⟩⟩
   ·replace c7:=Bool.eq_false_iff.mpr c7
    subst c7
    have H1:(Z31.j0 k l0 l1 true) = some r:=by rw [if_neg (show ¬ (false = true) by decide)] at H;exact H
    clear H
    have H:=H1
    clear H1
    have H':=A_ H
    clear H
    go_wp2_with (first | ((with_reducible refine gA_ (f:=104) rfl ?_);refine gL_ (some 9) Tryz.func104 #[.slice A0 l0.length c0] rfl qa_ ?_;(with_reducible refine (Z75.calls k _ _ l0 true _ (cb_ HR0) HC0.out A4.out).mono ?_);rintro e w10 ⟨rfl,hb⟩;refine ⟨_,rfl,?_⟩;replace HB:=b1_ hb;clear hb) | (go_at_call 104;(with_reducible refine (Z75.calls k _ _ l1 false _ (cb_ HR1) HC1.out A6.out).mono ?_);rintro e w11 ⟨rfl,hb⟩;replace HB:=b1_ hb;clear hb))
    go_meet
    case rel=>exact ⟨_,(true),qc_,H',⟨qd_⟩,⟨hB_⟩⟩
  ·replace c5:=Bool.eq_false_iff.mpr c5
   subst c5
   have H1:(Z31.j0 k l0 l1 true) = some r:=by rw [if_neg (show ¬ (false = true) by decide)] at H;exact H
   clear H
   have H:=H1
   clear H1
   have H':=A_ H
   clear H
   go_wp2_with (first | ((with_reducible refine gA_ (f:=104) rfl ?_);refine gL_ (some 9) Tryz.func104 #[.slice A0 l0.length c0] rfl qa_ ?_;(with_reducible refine (Z75.calls k _ _ l0 false _ (cb_ HR0) HC0.out A4.out).mono ?_);rintro e w12 ⟨rfl,hb⟩;refine ⟨_,rfl,?_⟩;replace HB:=b1_ hb;clear hb))
   go_meet
   case rel=>exact ⟨_,(true),qc_,H',⟨qd_⟩,⟨hB_⟩⟩
 case rest =>
  clear HC3
  obtain ⟨kq,x22_2,rfl,HA,HJ2,HB⟩:=hcut
  cases kq with
  | zero=>exact absurd HA.out (by simp [Z31.j0])
  | succ kj2 =>
   have H:=HA.out
   clear HA
   simp only [Z31.j0] at H
   by_cases c13:x22_2 = true
   ·subst c13
    rw [if_pos rfl] at H
    obtain rfl:=Option.some.inj H
    go_wp2
    go_ret
    exact ⟨_,qb_,by first | exact Kd.R_nil _ _ _ _ _ | exact Kd.N_nil _ _ _ _ _ | exact Kd.V_nil _ _ _ _ _ | exact Kd.Q_nil _ _ _ _ _ | exact Kd.S_nil _ _ _ _ _,hB_⟩
   ·replace c13:=Bool.eq_false_iff.mpr c13
    subst c13
    have H1:(if 0≤(l0.length:Int) then (if ((l0.length:Int):Int).toNat≤35184372088832 then (Z31.l0 kj2 l1 (List.replicate ((l0.length:Int):Int).toNat 0) l0 (l0.length:Int) 0) else (none)) else (none)) = some r:=by rw [if_neg (show ¬ (false = true) by decide)] at H;exact H
    clear H
    have H:=H1
    clear H1
    have c14:=cp_ H
    replace H:=ca_ H
    have c14b0:=eq_true c14
    have c14b1:=oC_ c14
    clear c14
    have c15:=cp_ H
    replace H:=ca_ H
    have c15b0:=eq_true c15
    have c15b1:=oC_ c15
    clear c15
    obtain ⟨y515,hy515⟩:∃ y_:List Int,y_ = (List.replicate ((l0.length:Int):Int).toNat 0):=⟨_,rfl⟩
    replace H:(Z31.l0 kj2 l1 y515 l0 (l0.length:Int) 0) = some r:=by first | (rw [hy515];exact H) | exact H
    have Ny515:=A_ hy515
    clear hy515
    have H':=A_ H
    clear H
    go_wp2_with (first | ((with_reducible refine gB_ (N:=25) rfl ?_);(try (refine gate_guard (by rfl) ?_;dsimp only));refine Kd.R_make (Kd.int .i64) _ 3 rfl (N:=25) rfl 22 _ _ rfl (l0.length:Int) rfl rfl Tryz.underlying22 (.int .i64 0) 8 info3 rfl (by decide) (by omega) 0 (ok:=fun _=>True) (okp:=fun _=>True) rfl (fun _ hk=>hk) trivial (oB_ qe_) (Nat.le_trans (Nat.mul_le_mul_right _ (oB_ qe_:(l0.length:Int).toNat≤35184372088832)) (by omega)) (Below.refl _ _) (nA_ _) ?_;intro v516 w16 ho17 hb hg_ hnew_;clear hg_ hnew_;(first | rw [← Ny515.out] at ho17 | (simp only [Int.reduceToNat] at ho17;rw [← Ny515.out] at ho17));have HO517:=rl_ w ho17;replace HB:=b1_ hb;clear hb ho17))
    go_loopg [28] kj2 (fun kq v28 w'=>∃ (x5_2:List Int) (x28_2:Int),v28 = .int .i64 x28_2∧Aside0 (Z31.l0 kq l1 x5_2 l0 (l0.length:Int) x28_2 = some r)∧Aside0 (kq≤kj2)∧Aside0 (Kd.R (Kd.int .i64) 3 w' w.heap.size (fun _=>True) v516 x5_2)∧Aside0 (Below w.heap.size w w'))
    case atStart=>exact ⟨(y515),(0),qc_,H',⟨nA_ _⟩,⟨(rr_ HO517)⟩,⟨hB_⟩⟩
    case round =>
     clear H'
     obtain ⟨x5_2,x28_2,rfl,HA,HK2,HO_5,HB⟩:=hrel
     cases gk with
     | zero=>exact absurd HA.out (by simp [Z31.l0])
     | succ k2 =>
      have H:=HA.out
      clear HA
      simp only [Z31.l0] at H
      by_cases c18:x28_2 < (l0.length:Int)
      ·rw [if_pos c18] at H
       have c18b0:=oC_ c18
       clear c18
       have c19:=cp_ H
       replace H:=ca_ H
       have c19b0:=oC_ c19
       clear c19
       have c20:=cp_ H
       replace H:=ca_ H
       have c20b0:=oC_ c20
       clear c20
       have c21:=cp_ H
       replace H:=ca_ H
       have c21b0:=oC_ c21
       clear c21
       have c22:=cp_ H
       replace H:=ca_ H
       have c22b0:=oC_ c22
       clear c22
       have c23:=cp_ H
       replace H:=ca_ H
       have c23b0:=oC_ c23
       clear c23
       have c24:=cp_ H
       replace H:=ca_ H
       have c24b0:=oC_ c24
       clear c24
       have c25:=cp_ H
       replace H:=ca_ H
       have c25b0:=oC_ c25
       clear c25
       obtain ⟨y521,hy521⟩:∃ y_:List Int,y_ = (x5_2.set ((rd l1 x28_2):Int).toNat (rd l1 (rd l0 x28_2))):=⟨_,rfl⟩
       replace H:(Z31.l0 k2 l1 y521 l0 (l0.length:Int) (wrap64 (x28_2 + 1))) = some r:=by first | (rw [hy521];exact H) | exact H
       have Ny521:=A_ hy521
       clear hy521
       have H':=A_ H
       clear H
       have p518:0≤(x28_2:Int):=oB_ qe_
       have q518:x28_2 < (l0.length:Int):=oB_ qe_
       obtain ⟨ad518,e518,hx518_0⟩:=Kd.at_int HR0.out x28_2 p518 q518
       cases e518
       replace hx518_0:=(HB.out.cell (World.block_lt_of_cell? w _ hx518_0)).trans hx518_0
       replace p518:=eq_true p518
       replace q518:=eq_true q518
       try go_wp2
       replace HO_5:=A_ (rC_ HO_5.out)
       replace HB:=A_ (bC_ HB.out)
       have p519:0≤(x28_2:Int):=oB_ qe_
       have q519:x28_2 < (l1.length:Int):=oB_ qe_
       obtain ⟨ad519,e519,hx519_0⟩:=Kd.at_int HR1.out x28_2 p519 q519
       have hw519_0:=hx519_0
       cases e519
       replace hx519_0:=(HB.out.cell (World.block_lt_of_cell? w _ hx519_0)).trans hx519_0
       replace p519:=eq_true p519
       replace q519:=eq_true q519
       have p520:0≤((rd l0 x28_2):Int):=oB_ qe_
       have q520:(rd l0 x28_2) < (l1.length:Int):=oB_ qe_
       obtain ⟨ad520,e520,hx520_0⟩:=Kd.at_int HR1.out (rd l0 x28_2) p520 q520
       have hw520_0:=hx520_0
       obtain rfl:ad519 = ad520:=(by injection e520)
       replace hx520_0:=(HB.out.cell (World.block_lt_of_cell? w _ hx520_0)).trans hx520_0
       replace p520:=eq_true p520
       replace q520:=eq_true q520
       have p26:0≤((rd l1 x28_2):Int):=oB_ qe_
       have q26:((rd l1 x28_2):Int) < ((x5_2.length:Int):Int):=oB_ qe_
       obtain ⟨go26,co26,eo26,gb26,gl26,cl26,HG26⟩:=Kd.R_form HO_5.out (by omega)
       (first | cases eo26 | (injection eo26 with ea_ en_ ec_;(first | subst ea_ | (injection ea_ with ea_;subst ea_));subst ec_;clear en_))
       have GB26:=A_ gb26
       have GG26:=A_ HG26
       clear gb26 gl26 HG26
       obtain ⟨hx26_0,hf26_0⟩:=Kd.R_celln 0 HO_5.out ((rd l1 x28_2):Int) p26 q26
       replace p26:=eq_true p26
       replace q26:=eq_true q26
       have HP28:=Kd.R_putn HO_5.out ((rd l1 x28_2):Int) (rd l1 (rd l0 x28_2))
       rw [← Ny521.out] at HP28
       have HQ28:=A_ HP28
       clear HP28
       refine start_ (n:=11) (S:=fun w'=>w'.cell? (ad519.add (x28_2).toNat) = some (.int .i64 (rd l1 x28_2))∧w'.cell? (ad519.add ((rd l0 x28_2)).toNat) = some (.int .i64 (rd l1 (rd l0 x28_2)))) (ds:=[10]) (bl_ 11 0) (by kernel_rfl) rfl (by kernel_rfl) ⟨((HB.out.cell (World.block_lt_of_cell? w _ hw519_0)).trans hw519_0),((HB.out.cell (World.block_lt_of_cell? w _ hw520_0)).trans hw520_0)⟩ (fun hHeld=>?_);refine with_tabW Z31.tab7 Z31.bits7 (fun HT_ HW_=>?_)
       generalize wr.drew = w27 at HO_5 HB GG26 HQ28 hf26_0 hx26_0 hx519_0 hx520_0 hHeld ⊢
       refine pu_ 0 (some 33) (bl_ 11 1) HT_ ?_
       refine pu_ 1 (some 34) (bl_ 11 3) HT_ ?_
       refine pu_ 2 (some 35) (bl_ 11 7) HT_ ?_
       refine pu_ 3 (some 36) (bl_ 11 15) HT_ ?_
       refine pu_ 5 (some 38) (bl_ 11 47) HT_ ?_
       refine pu_ 6 (some 39) (bl_ 11 111) HT_ ?_
       refine pu_ 7 (some 40) (bl_ 11 239) HT_ ?_
       refine ta_ 4 (some 37) (bl_ 11 255) HT_ HW_ hHeld ?_
       refine ta_ 8 (some 41) (bl_ 11 511) HT_ HW_ hHeld ?_
       refine pu_ 9 (some 42) (bl_ 11 1023) HT_ ?_
       refine last_ (i:=10) (N:=none) (bl_ 11 2047) rfl rfl (one_of HT_.out (by kernel_rfl)) (by decide) (fun K hK=>?_)
       refine skip_ (w1:=?_) (by rfl) rfl ?_ ?_
       rotate_left
       ·go_simp
        rfl
       refine hK.out _ _ ?_
       clear hK K
       refine done_ (done_of HT_.out (by kernel_rfl)) ?_
       try go_wp2
       go_roundg k2
       case measure=>have:=HJ2.out;have:=HK2.out;omega
       case rel=>exact ⟨(y521),(wrap64 (x28_2 + 1)),qc_,H',⟨by have:=HJ2.out;have:=HK2.out;omega⟩,⟨(rr_ HQ28)⟩,⟨by repeat (first | (with_reducible first | exact HB.out | apply bA_ | apply bB_ | apply bC_ | refine bD_ ?_ GB26.out) | exact HB.out)⟩⟩
      ·rw [if_neg c18] at H
       have c18b0:=oD_ c18
       clear c18
       obtain rfl:=Option.some.inj H
       go_wp2
       go_ret
       exact ⟨_,qb_,(rr_ HO_5),hB_⟩
end Go.Proofs.YtcggfjpnfodbaaaGreat.A
end
section
namespace Go.Proofs.YtcggfjpnfodbaaaGreat.A
open Go.RowKit Go.Proofs.YtcggfjpnfodbaaaGreatW.PrintWords Go.Proofs.YtcggfjpnfodbaaaGreatW.PrintLast Go.Proofs.YtcggfjpnfodbaaaGreatW.PrintMore
attribute [local go_sem] max2_int min2_int max_two min_two max_three min_three max_four min_four
set_option linter.unusedVariables false
set_option linter.unusedSimpArgs false
def Z8.j0:Nat→List Int→Bool→List Int→List Int→Option (List Int × List Int × Bool)
 | 0,_,_,_,_=>none
 | k + 1,x1,x21,x523000,x523001=>if x21 = true then (some (([]:List Int),([]:List Int),false)) else ((Z31.f k x523000 x1).bind fun t526=>((Z31.f k x523001 x1).bind fun t529=>(some (t526,t529,true))))
def Z8.f (k:Nat) (l0_0:List Int) (l0_1:List Int) (l1:List Int):Option (List Int × List Int × Bool):=(Z38.f k l0_0 l0_1).bind fun t524=>(if t524 = true then ((Z75.f k l1).bind fun t525=>(if t525 = true then (Z8.j0 k l1 ((l1.length:Int) != (l0_0.length:Int)) l0_0 l0_1) else (Z8.j0 k l1 true l0_0 l0_1))) else (Z8.j0 k l1 true l0_0 l0_1))
theorem Z8.mono_l:∀ k,(∀ y0 y1 y2 y3,LeO (Z8.j0 k y0 y1 y2 y3) (Z8.j0 (k + 1) y0 y1 y2 y3))
 | 0=>fun _ _ _ _ r h=>by simp [Z8.j0] at h
 | k + 1=>by
  have ih0:=Z8.mono_l k
  ·intro y0 y1 y2 y3
   unfold Z8.j0
   repeat' first|exact ih0 _ _ _ _|exact Z75.mono _ _|exact Z31.mono _ _ _|exact Z38.mono _ _ _|exact lo_|refine LeO.ite ?_ ?_|refine LeO.bind ?_ (fun _=>?_)
theorem Z8.mono:∀ a0 a1 a2 k,LeO (Z8.f k a0 a1 a2) (Z8.f (k + 1) a0 a1 a2):=by
 intro a0 a1 a2 k
 have ih0:=Z8.mono_l k
 unfold Z8.f
 repeat' first|exact ih0 _ _ _ _|exact Z75.mono _ _|exact Z31.mono _ _ _|exact Z38.mono _ _ _|exact lo_|refine LeO.ite ?_ ?_|refine LeO.bind ?_ (fun _=>?_)
def Z8.T3:Bool × List (List Nat × List Nat):=(true,[([],[]),([0],[0]),([],[]),([1,2],[1,2]),([],[]),([4],[4]),([],[]),([5,6,3],[5,6]),([3,7],[3,7]),([8,7,0,1,2,3,4,5,6,7,8],[8]),([9,0,1,2,3,4,5,6,7,8,9],[])])
def Z8.B3:List Nat:=[0,1,0,7,0,16,0,127,255,511,1023]
theorem Z8.tab3:rtab .any (opsOf Tryz.f88 3) = Z8.T3:=by kernel_rfl
theorem Z8.bits3:waitsOk Z8.T3.2 Z8.B3 = true:=by kernel_rfl
set_option maxHeartbeats 8000000 in
set_option maxRecDepth 100000 in
theorem Z8.calls (k:Nat) (A0_0:Option Addr) (c0_0:Nat) (l0_0:List Int) (A0_1:Option Addr) (c0_1:Nat) (l0_1:List Int) (A1:Option Addr) (c1:Nat) (l1:List Int) (r1:List Int) (r2:List Int) (r3:Bool) (w:World) (hr0_0:Kd.C (Kd.int .i64) w A0_0 l0_0.length l0_0) (hc0_0:l0_0.length≤c0_0) (hr0_1:Kd.C (Kd.int .i64) w A0_1 l0_1.length l0_1) (hc0_1:l0_1.length≤c0_1) (hr1:Kd.C (Kd.int .i64) w A1 l1.length l1) (hc1:l1.length≤c1) (h:Z8.f k l0_0 l0_1 l1 = some (r1,r2,r3)) :
  Calls Tryz.prog 88 #[.agg #[.slice A0_0 l0_0.length c0_0,.slice A0_1 l0_1.length c0_1],.slice A1 l1.length c1] w fun e w'=>∃ v0_ v1_:Value,e = .returned (.tuple #[.agg #[v0_,v1_],.bool r3])∧Kd.R (Kd.int .i64) 3 w' w.heap.size (fun k_=>some k_≠(v1_:Value).ownBlock) v0_ r1∧Kd.R (Kd.int .i64) 3 w' w.heap.size (fun k_=>some k_≠(v0_:Value).ownBlock) v1_ r2∧Below w.heap.size w w':=by
 have hu27:=Tryz.underlying27
 have HR0_0:=A_ hr0_0
 have HC0_0:=A_ hc0_0
 clear hr0_0 hc0_0
 have HR0_1:=A_ hr0_1
 have HC0_1:=A_ hc0_1
 clear hr0_1 hc0_1
 have HR1:=A_ hr1
 have HC1:=A_ hc1
 clear hr1 hc1
 have HB:=A_ (Below.refl w.heap.size w)
 have H:=h
 unfold Z8.f at H
 clear h
 have HC3:=A_ H
 clear H
 go_enter Tryz.func88,Tryz.ntmps88
 go_upto_region 1 with (first | ((with_reducible refine gB_ (N:=2) rfl ?_);(try (refine gate_guard (by rfl) ?_;dsimp only));refine bx_ 2 #[.slice A0_0 l0_0.length c0_0,.slice A0_1 l0_1.length c0_1] 27 ?_;intro gb522 hg w4 hbox hb;have BK522:=A_ hbox;have GW522:=gw_ w hg;have GE522:=GW522;replace HB:=b1_ hb;clear hb hbox hg) | ((with_reducible refine gB_ (N:=4) rfl ?_);(try (refine gate_guard (by rfl) ?_;dsimp only));refine bx_ 4 #[.slice none 0 0,.slice none 0 0] 27 ?_;intro gb523 hg w5 hbox hb;have BK523:=A_ hbox;have GW523:=gw_ w hg;have GE523:=GW523;replace HB:=b1_ hb;have NB522_523:=gN_ BK522 hg;have NB523_522:=gP_ BK522 hg;replace BK522:=bb_ BK522 hb;clear hb hbox hg))
 (try simp only [Act.put,sA_,sB_,sC_])
 go_cut [21] (fun v21 wc=>∃ (kq:Nat) (x21_2:Bool),v21 = .bool x21_2∧Aside0 (Z8.j0 kq l1 x21_2 l0_0 l0_1 = some (r1,r2,r3))∧Aside0 (kq≤k)∧Aside0 (wc.heap[gb522]? = some (.cells #[(.slice A0_0 l0_0.length c0_0),(.slice A0_1 l0_1.length c0_1)] 27 (0,0)))∧Aside0 (wc.heap[gb523]? = some (.cells #[(.slice none 0 0),(.slice none 0 0)] 27 (0,0)))∧Aside0 (Below w.heap.size w wc))
 case first =>
  have H:=HC3.out
  clear HC3
  obtain ⟨t524,A6,H⟩:=bi_ H
  by_cases c7:t524 = true
  ·subst c7
   rw [if_pos rfl] at H
   obtain ⟨t525,A8,H⟩:=bi_ H
   by_cases c9:t525 = true
   ·subst c9
    rw [if_pos rfl] at H
    have H':=A_ H
    clear H
    have hnb10:=NB522_523.out
    have hnc10:=NB523_522.out
    obtain ⟨hcz11_0,hcz11_1,hfz11_0,hfz11_1⟩:=c2_ BK522
    go_wp2_with (first | ((with_reducible refine gA_ (f:=76) rfl ?_);refine gL_ (some 7) Tryz.func76 #[.agg #[.slice A0_0 l0_0.length c0_0,.slice A0_1 l0_1.length c0_1]] rfl qa_ ?_;(with_reducible refine (Z38.calls k _ _ l0_0 _ _ l0_1 true _ (cb_ HR0_0) HC0_0.out (cb_ HR0_1) HC0_1.out A6.out).mono ?_);rintro e w12 ⟨rfl,hb⟩;refine ⟨_,rfl,?_⟩;replace BK522:=bb_ BK522 hb;replace BK523:=bb_ BK523 hb;replace HB:=b1_ hb;clear hb) | (go_at_call 104;(with_reducible refine (Z75.calls k _ _ l1 true _ (cb_ HR1) HC1.out A8.out).mono ?_);rintro e w13 ⟨rfl,hb⟩;replace BK522:=bb_ BK522 hb;replace BK523:=bb_ BK523 hb;replace HB:=b1_ hb;clear hb;obtain ⟨hcz14_0,hcz14_1,hfz14_0,hfz14_1⟩:=c2_ BK522))
    go_meet
    case rel=>exact ⟨_,(((l1.length:Int) != (l0_0.length:Int))),qc_,H',⟨qd_⟩,⟨(kk_ BK522)⟩,⟨(kk_ BK523)⟩,⟨hB_⟩⟩
   ·replace c9:=Bool.eq_false_iff.mpr c9
    subst c9
    have H1:(Z8.j0 k l1 true l0_0 l0_1) = some (r1,r2,r3):=by rw [if_neg (show ¬ (false = true) by decide)] at H;exact H
    clear H
    have H:=H1
    clear H1
    have H':=A_ H
    clear H
    have hnb15:=NB522_523.out
    have hnc15:=NB523_522.out
    obtain ⟨hcz16_0,hcz16_1,hfz16_0,hfz16_1⟩:=c2_ BK522
    go_wp2_with (first | ((with_reducible refine gA_ (f:=76) rfl ?_);refine gL_ (some 7) Tryz.func76 #[.agg #[.slice A0_0 l0_0.length c0_0,.slice A0_1 l0_1.length c0_1]] rfl qa_ ?_;(with_reducible refine (Z38.calls k _ _ l0_0 _ _ l0_1 true _ (cb_ HR0_0) HC0_0.out (cb_ HR0_1) HC0_1.out A6.out).mono ?_);rintro e w17 ⟨rfl,hb⟩;refine ⟨_,rfl,?_⟩;replace BK522:=bb_ BK522 hb;replace BK523:=bb_ BK523 hb;replace HB:=b1_ hb;clear hb) | (go_at_call 104;(with_reducible refine (Z75.calls k _ _ l1 false _ (cb_ HR1) HC1.out A8.out).mono ?_);rintro e w18 ⟨rfl,hb⟩;replace BK522:=bb_ BK522 hb;replace BK523:=bb_ BK523 hb;replace HB:=b1_ hb;clear hb))
    go_meet
    case rel=>exact ⟨_,(true),qc_,H',⟨qd_⟩,⟨(kk_ BK522)⟩,⟨(kk_ BK523)⟩,⟨hB_⟩⟩
  ·replace c7:=Bool.eq_false_iff.mpr c7
   subst c7
   have H1:(Z8.j0 k l1 true l0_0 l0_1) = some (r1,r2,r3):=by rw [if_neg (show ¬ (false = true) by decide)] at H;exact H
   clear H
   have H:=H1
   clear H1
   have H':=A_ H
   clear H
   have hnb19:=NB522_523.out
   have hnc19:=NB523_522.out
   obtain ⟨hcz20_0,hcz20_1,hfz20_0,hfz20_1⟩:=c2_ BK522
   go_wp2_with (first | ((with_reducible refine gA_ (f:=76) rfl ?_);refine gL_ (some 7) Tryz.func76 #[.agg #[.slice A0_0 l0_0.length c0_0,.slice A0_1 l0_1.length c0_1]] rfl qa_ ?_;(with_reducible refine (Z38.calls k _ _ l0_0 _ _ l0_1 false _ (cb_ HR0_0) HC0_0.out (cb_ HR0_1) HC0_1.out A6.out).mono ?_);rintro e w21 ⟨rfl,hb⟩;refine ⟨_,rfl,?_⟩;replace BK522:=bb_ BK522 hb;replace BK523:=bb_ BK523 hb;replace HB:=b1_ hb;clear hb))
   go_meet
   case rel=>exact ⟨_,(true),qc_,H',⟨qd_⟩,⟨(kk_ BK522)⟩,⟨(kk_ BK523)⟩,⟨hB_⟩⟩
 case rest =>
  clear HC3
  obtain ⟨kq,x21_2,rfl,HA,HJ2,BK522,BK523,HB⟩:=hcut
  cases kq with
  | zero=>exact absurd HA.out (by simp [Z8.j0])
  | succ kj2 =>
   have H:=HA.out
   clear HA
   simp only [Z8.j0] at H
   by_cases c22:x21_2 = true
   ·subst c22
    rw [if_pos rfl] at H
    simp only [Option.some.injEq,Prod.mk.injEq] at H
    obtain ⟨rfl,rfl,rfl⟩:=H
    have hnb23:=NB523_522.out
    have hnc23:=NB522_523.out
    obtain ⟨hcz24_0,hcz24_1,hfz24_0,hfz24_1⟩:=c2_ BK523
    go_wp2
    refine bodyPost_ret (results_ct rfl _ _ gb523 27 #[.slice none 0 0,.slice none 0 0] (0,0) _ rfl qp_ Tryz.underlying27 rfl (by kernel_rfl)) rfl ?_
    exact ⟨_,_,qb_,by first | exact Kd.R_nil _ _ _ _ _ | exact Kd.N_nil _ _ _ _ _ | exact Kd.V_nil _ _ _ _ _ | exact Kd.Q_nil _ _ _ _ _ | exact Kd.S_nil _ _ _ _ _,by first | exact Kd.R_nil _ _ _ _ _ | exact Kd.N_nil _ _ _ _ _ | exact Kd.V_nil _ _ _ _ _ | exact Kd.Q_nil _ _ _ _ _ | exact Kd.S_nil _ _ _ _ _,hB_⟩
   ·replace c22:=Bool.eq_false_iff.mpr c22
    subst c22
    have H1:((Z31.f kj2 l0_0 l1).bind fun t526=>((Z31.f kj2 l0_1 l1).bind fun t529=>(some (t526,t529,true)))) = some (r1,r2,r3):=by rw [if_neg (show ¬ (false = true) by decide)] at H;exact H
    clear H
    have H:=H1
    clear H1
    obtain ⟨t526,A25,H⟩:=bi_ H
    obtain ⟨t529,A26,H⟩:=bi_ H
    simp only [Option.some.injEq,Prod.mk.injEq] at H
    obtain ⟨rfl,rfl,rfl⟩:=H
    try go_wp2
    replace BK522:=A_ (kB_ BK522.out)
    replace BK523:=A_ (kB_ BK523.out)
    replace HB:=A_ (bC_ HB.out)
    refine start_ (n:=11) (S:=fun w'=>w'.cell? ⟨gb522,0,none⟩ = some (.slice A0_0 l0_0.length c0_0)∧w'.cell? ⟨gb522,1,none⟩ = some (.slice A0_1 l0_1.length c0_1)) (ds:=[]) (bl_ 11 0) (by kernel_rfl) rfl (by kernel_rfl) ⟨cz0_ BK522,cz1_ BK522⟩ (fun hHeld=>?_);refine with_tabW Z8.tab3 Z8.bits3 (fun HT_ HW_=>?_)
    generalize wc.drew = w27 at BK522 BK523 HB hHeld ⊢
    refine pu_ 0 (some 23) (bl_ 11 1) HT_ ?_
    refine pu_ 2 (some 25) (bl_ 11 5) HT_ ?_
    refine pu_ 4 (some 27) (bl_ 11 21) HT_ ?_
    refine pu_ 6 (some 29) (bl_ 11 85) HT_ ?_
    refine ta_ 1 (some 24) (bl_ 11 87) HT_ HW_ hHeld ?_
    refine ta_ 5 (some 28) (bl_ 11 119) HT_ HW_ hHeld ?_
    refine on_ 3 (some 26) (bl_ 11 127) HT_ (fun K hK=>?_)
    refine gO_ Tryz.func105 #[.slice A0_0 l0_0.length c0_0,.slice A1 l1.length c1] (by rfl) rfl rfl qa_ ?_
    with_reducible refine (Z31.calls kj2 _ _ l0_0 _ _ l1 t526 _ (cb_ HR0_0) HC0_0.out (cb_ HR1) HC1.out A25.out).mono ?_
    rintro e w28 ⟨v527,rfl,ho0,hb⟩
    refine ⟨_,rfl,?_⟩
    have HO528:=rl_ w ho0
    replace BK522:=bb_ BK522 hb
    replace BK523:=bb_ BK523 hb
    replace HB:=b1_ hb
    clear hb ho0
    refine hK.out _ _ ⟨cz0_ BK522,cz1_ BK522⟩ (fun hHeld=>?_)
    clear hK K
    refine no_ (some 26) ?_
    refine on_ 7 (some 30) (bl_ 11 255) HT_ (fun K hK=>?_)
    refine gO_ Tryz.func105 #[.slice A0_1 l0_1.length c0_1,.slice A1 l1.length c1] (by rfl) rfl rfl qa_ ?_
    with_reducible refine (Z31.calls kj2 _ _ l0_1 _ _ l1 t529 _ (cb_ HR0_1) HC0_1.out (cb_ HR1) HC1.out A26.out).mono ?_
    rintro e w29 ⟨v530,rfl,ho0,hb⟩
    refine ⟨_,rfl,?_⟩
    have HO531:=A_ (rE_ (Kd.R_new' ho0 (Kd.R_lt (rr_ HO528))) (bF_ hB_))
    replace HO528:=A_ (Kd.R_elder' (rr_ HO528) (Kd.R_base ho0) hb)
    replace BK522:=bb_ BK522 hb
    replace BK523:=bb_ BK523 hb
    replace HB:=b1_ hb
    clear hb ho0
    obtain ⟨Ao30,co30,eo30⟩:=Kd.R_slice HO531.out
    (first | subst eo30 | (injection eo30 with f1_ f2_ f3_;have f4_:=f1_.symm;have f5_:=f3_.symm;clear f1_ f2_ f3_;subst f4_;subst f5_))
    obtain ⟨Ao31,co31,eo31⟩:=Kd.R_slice HO528.out
    (first | subst eo31 | (injection eo31 with f1_ f2_ f3_;have f4_:=f1_.symm;have f5_:=f3_.symm;clear f1_ f2_ f3_;subst f4_;subst f5_))
    refine hK.out _ _ ⟨cz0_ BK522,cz1_ BK522⟩ (fun hHeld=>?_)
    clear hK K
    refine no_ (some 30) ?_
    refine pu_ 8 (some 31) (bl_ 11 511) HT_ ?_
    refine on_ 9 (none) (bl_ 11 1023) HT_ (fun K hK=>?_)
    have hs32:w29.cell? ⟨gb523,0,none⟩ = some (.slice none 0 0):=cz0_ BK523
    have hfs32:=kD_ BK523.out 0
    have hns32_0:=NB522_523.out
    have hms32_0:=NB523_522.out
    have hs33:w29.cell? ⟨gb523,1,none⟩ = some (.slice none 0 0):=cz1_ BK523
    have hfs33:=kD_ BK523.out 1
    have hns33_0:=NB522_523.out
    have hms33_0:=NB523_522.out
    refine skip_ (w1:=?_) (by rfl) rfl ?_ ?_
    rotate_left
    ·go_simp
     rfl
    refine hK.out _ _ ⟨((cell_far (p:=⟨gb523,_,none⟩) NB522_523.out _).trans (((cell_far (p:=⟨gb523,_,none⟩) NB522_523.out _).trans (hHeld.1)))),((cell_far (p:=⟨gb523,_,none⟩) NB522_523.out _).trans (((cell_far (p:=⟨gb523,_,none⟩) NB522_523.out _).trans (hHeld.2))))⟩ (fun hHeld=>?_)
    clear hK K
    refine pu_ 10 (some 5) (bl_ 11 2047) HT_ ?_
    refine done_ (done_of HT_.out (by kernel_rfl)) ?_
    try go_wp2
    refine bodyPost_ret (results_ct rfl _ _ gb523 27 #[.slice Ao31 t526.length co31,.slice Ao30 t529.length co30] (0,0) _ rfl qp_ Tryz.underlying27 rfl (by kernel_rfl)) rfl ?_
    exact ⟨_,_,qb_,(rw_ (Kd.R_mono (fa_ HO528 BK523) (fun _ hk=>hk.2))),(rw_ (Kd.R_mono (fa_ HO531 BK523) (fun _ hk=>hk.2))),hB_⟩
end Go.Proofs.YtcggfjpnfodbaaaGreat.A
end
section
namespace Go.Proofs.YtcggfjpnfodbaaaGreat.A
open Go.RowKit Go.Proofs.YtcggfjpnfodbaaaGreatW.PrintWords Go.Proofs.YtcggfjpnfodbaaaGreatW.PrintLast Go.Proofs.YtcggfjpnfodbaaaGreatW.PrintMore
attribute [local go_sem] max2_int min2_int max_two min_two max_three min_three max_four min_four
set_option linter.unusedVariables false
set_option linter.unusedSimpArgs false
mutual
def Z37.j0:Nat→Int→Bool→List Int→List Int→Option (List Int)
 | 0,_,_,_,_=>none
 | k + 1,x1,x24,x533000,x533001=>if x24 = true then (some ([]:List Int)) else (if 0≤(x533000.length:Int) then (if ((x533000.length:Int):Int).toNat≤35184372088832 then ((some (List.replicate ((x533000.length:Int):Int).toNat 0:List Int)).bind fun y534=>(Z37.l0 k x1 y534 (y534.length:Int) 0 x533000 x533001)) else (none)) else (none))
def Z37.l0:Nat→Int→List Int→Int→Int→List Int→List Int→Option (List Int)
 | 0,_,_,_,_,_,_=>none
 | k + 1,x1,x5,x30,x31,x533000,x533001=>if x31 < x30 then (if 0≤x31 then (if x31 < (x5.length:Int) then (Z37.l0 k x1 (x5.set (x31:Int).toNat (-1)) x30 (wrap64 (x31 + 1)) x533000 x533001) else (none)) else (none)) else (if 0≤x1 then (if x1 < (x5.length:Int) then (Z37.l1 k (x5.set (x1:Int).toNat 0) (([x1]:List Int)) 0 x533000 x533001) else (none)) else (none))
def Z37.l1:Nat→List Int→List Int→Int→List Int→List Int→Option (List Int)
 | 0,_,_,_,_,_=>none
 | k + 1,x5,x7,x8,x533000,x533001=>if x8 < (x7.length:Int) then (if 0≤x8 then (if 0≤(rd x7 x8) then (if (rd x7 x8) < (x533000.length:Int) then (if (rd x7 x8) < (x533001.length:Int) then ((some (([rd x533000 (rd x7 x8),rd x533001 (rd x7 x8)]:List Int):List Int)).bind fun y546=>(Z37.l2 k x5 x7 x8 y546 (y546.length:Int) 0 x533000 x533001)) else (none)) else (none)) else (none)) else (none)) else (some x5)
def Z37.l2:Nat→List Int→List Int→Int→List Int→Int→Int→List Int→List Int→Option (List Int)
 | 0,_,_,_,_,_,_,_,_=>none
 | k + 1,x5,x7,x8,x65,x66,x67,x533000,x533001=>if x67 < x66 then (if 0≤x67 then (if x67 < (x65.length:Int) then (if 0≤(rd x65 x67) then (if (rd x65 x67) < (x5.length:Int) then (if (rd x5 (rd x65 x67)) < 0 then (if x7.length < 17592186044416 then (Z37.l2 k (x5.set ((rd x65 x67):Int).toNat (x7.length:Int)) (x7 ++ [rd x65 x67]) x8 x65 x66 (wrap64 (x67 + 1)) x533000 x533001) else (none)) else (Z37.l2 k x5 x7 x8 x65 x66 (wrap64 (x67 + 1)) x533000 x533001)) else (none)) else (none)) else (none)) else (none)) else (Z37.l1 k x5 x7 (wrap64 (x8 + 1)) x533000 x533001)
end
def Z37.f (k:Nat) (l0_0:List Int) (l0_1:List Int) (a1:Int):Option (List Int):=(Z38.f k l0_0 l0_1).bind fun t533=>(if t533 = true then (if a1 < 0 then (Z37.j0 k a1 true l0_0 l0_1) else (Z37.j0 k a1 (decide (a1 ≥ (l0_0.length:Int))) l0_0 l0_1)) else (Z37.j0 k a1 true l0_0 l0_1))
theorem Z37.mono_l:∀ k,(∀ y0 y1 y2 y3,LeO (Z37.j0 k y0 y1 y2 y3) (Z37.j0 (k + 1) y0 y1 y2 y3))∧(∀ y0 y1 y2 y3 y4 y5,LeO (Z37.l0 k y0 y1 y2 y3 y4 y5) (Z37.l0 (k + 1) y0 y1 y2 y3 y4 y5))∧(∀ y0 y1 y2 y3 y4,LeO (Z37.l1 k y0 y1 y2 y3 y4) (Z37.l1 (k + 1) y0 y1 y2 y3 y4))∧(∀ y0 y1 y2 y3 y4 y5 y6 y7,LeO (Z37.l2 k y0 y1 y2 y3 y4 y5 y6 y7) (Z37.l2 (k + 1) y0 y1 y2 y3 y4 y5 y6 y7))
 | 0=>⟨fun _ _ _ _ r h=>by simp [Z37.j0] at h,fun _ _ _ _ _ _ r h=>by simp [Z37.l0] at h,fun _ _ _ _ _ r h=>by simp [Z37.l1] at h,fun _ _ _ _ _ _ _ _ r h=>by simp [Z37.l2] at h⟩
 | k + 1=>by
  obtain ⟨ih0,ih1,ih2,ih3⟩:=Z37.mono_l k
  refine ⟨?_,?_,?_,?_⟩
  ·intro y0 y1 y2 y3
   unfold Z37.j0
   repeat' first|exact ih0 _ _ _ _|exact ih1 _ _ _ _ _ _|exact ih2 _ _ _ _ _|exact ih3 _ _ _ _ _ _ _ _|exact Z38.mono _ _ _|exact lo_|refine LeO.ite ?_ ?_|refine LeO.bind ?_ (fun _=>?_)
  ·intro y0 y1 y2 y3 y4 y5
   unfold Z37.l0
   repeat' first|exact ih0 _ _ _ _|exact ih1 _ _ _ _ _ _|exact ih2 _ _ _ _ _|exact ih3 _ _ _ _ _ _ _ _|exact Z38.mono _ _ _|exact lo_|refine LeO.ite ?_ ?_|refine LeO.bind ?_ (fun _=>?_)
  ·intro y0 y1 y2 y3 y4
   unfold Z37.l1
   repeat' first|exact ih0 _ _ _ _|exact ih1 _ _ _ _ _ _|exact ih2 _ _ _ _ _|exact ih3 _ _ _ _ _ _ _ _|exact Z38.mono _ _ _|exact lo_|refine LeO.ite ?_ ?_|refine LeO.bind ?_ (fun _=>?_)
  ·intro y0 y1 y2 y3 y4 y5 y6 y7
   unfold Z37.l2
   repeat' first|exact ih0 _ _ _ _|exact ih1 _ _ _ _ _ _|exact ih2 _ _ _ _ _|exact ih3 _ _ _ _ _ _ _ _|exact Z38.mono _ _ _|exact lo_|refine LeO.ite ?_ ?_|refine LeO.bind ?_ (fun _=>?_)
theorem Z37.mono:∀ a0 a1 a2 k,LeO (Z37.f k a0 a1 a2) (Z37.f (k + 1) a0 a1 a2):=by
 intro a0 a1 a2 k
 obtain ⟨ih0,ih1,ih2,ih3⟩:=Z37.mono_l k
 unfold Z37.f
 repeat' first|exact ih0 _ _ _ _|exact ih1 _ _ _ _ _ _|exact ih2 _ _ _ _ _|exact ih3 _ _ _ _ _ _ _ _|exact Z38.mono _ _ _|exact lo_|refine LeO.ite ?_ ?_|refine LeO.bind ?_ (fun _=>?_)
def Z37.T14:Bool × List (List Nat × List Nat):=(true,[([],[]),([0],[0]),([],[]),([],[]),([2,3],[2,3]),([4],[4]),([1,5],[1,5]),([6],[6]),([],[]),([8],[8]),([],[]),([],[]),([10,11],[10,11]),([12],[12]),([9,13],[9,13]),([14],[14]),([7,15],[7,15]),([16],[16]),([],[])])
def Z37.B14:List Nat:=[0,1,0,0,12,28,63,127,0,256,0,0,3072,7168,16128,32512,65535,131071,0]
theorem Z37.tab14:rtab .any (opsOf Tryz.f89 14) = Z37.T14:=by kernel_rfl
theorem Z37.bits14:waitsOk Z37.T14.2 Z37.B14 = true:=by kernel_rfl
set_option maxHeartbeats 8000000 in
set_option maxRecDepth 100000 in
theorem Z37.calls (k:Nat) (A0_0:Option Addr) (c0_0:Nat) (l0_0:List Int) (A0_1:Option Addr) (c0_1:Nat) (l0_1:List Int) (a1:Int) (r:List Int) (w:World) (hr0_0:Kd.C (Kd.int .i64) w A0_0 l0_0.length l0_0) (hc0_0:l0_0.length≤c0_0) (hr0_1:Kd.C (Kd.int .i64) w A0_1 l0_1.length l0_1) (hc0_1:l0_1.length≤c0_1) (h:Z37.f k l0_0 l0_1 a1 = some r) :
  Calls Tryz.prog 89 #[.agg #[.slice A0_0 l0_0.length c0_0,.slice A0_1 l0_1.length c0_1],.int .i64 a1] w fun e w'=>∃ v0_:Value,e = .returned (v0_)∧Kd.R (Kd.int .i64) 3 w' w.heap.size (fun _=>True) v0_ r∧Below w.heap.size w w':=by
 have hu27:=Tryz.underlying27
 have HR0_0:=A_ hr0_0
 have HC0_0:=A_ hc0_0
 clear hr0_0 hc0_0
 have HR0_1:=A_ hr0_1
 have HC0_1:=A_ hc0_1
 clear hr0_1 hc0_1
 have HB:=A_ (Below.refl w.heap.size w)
 have H:=h
 unfold Z37.f at H
 clear h
 have HC3:=A_ H
 clear H
 go_enter Tryz.func89,Tryz.ntmps89
 go_upto_region 1 with (first | ((with_reducible refine gB_ (N:=2) rfl ?_);(try (refine gate_guard (by rfl) ?_;dsimp only));refine bx_ 2 #[.slice A0_0 l0_0.length c0_0,.slice A0_1 l0_1.length c0_1] 27 ?_;intro gb532 hg w4 hbox hb;have BK532:=A_ hbox;have GW532:=gw_ w hg;have GE532:=GW532;replace HB:=b1_ hb;clear hb hbox hg))
 (try simp only [Act.put,sA_,sB_,sC_])
 go_cut [24] (fun v24 wc=>∃ (kq:Nat) (x24_2:Bool),v24 = .bool x24_2∧Aside0 (Z37.j0 kq a1 x24_2 l0_0 l0_1 = some r)∧Aside0 (kq≤k)∧Aside0 (wc.heap[gb532]? = some (.cells #[(.slice A0_0 l0_0.length c0_0),(.slice A0_1 l0_1.length c0_1)] 27 (0,0)))∧Aside0 (Below w.heap.size w wc))
 case first =>
  have H:=HC3.out
  clear HC3
  obtain ⟨t533,A5,H⟩:=bi_ H
  by_cases c6:t533 = true
  ·subst c6
   rw [if_pos rfl] at H
   by_cases c7:a1 < 0
   ·rw [if_pos c7] at H
    have c7b0:=oC_ c7
    clear c7
    (first | rw [c7b0] | (simp only [i64_w,i32_w];rw [c7b0]) | skip)
    have H':=A_ H
    clear H
    obtain ⟨hcz8_0,hcz8_1,hfz8_0,hfz8_1⟩:=c2_ BK532
    go_wp2_with (first | ((with_reducible refine gA_ (f:=76) rfl ?_);refine gL_ (some 12) Tryz.func76 #[.agg #[.slice A0_0 l0_0.length c0_0,.slice A0_1 l0_1.length c0_1]] rfl qa_ ?_;(with_reducible refine (Z38.calls k _ _ l0_0 _ _ l0_1 true _ (cb_ HR0_0) HC0_0.out (cb_ HR0_1) HC0_1.out A5.out).mono ?_);rintro e w9 ⟨rfl,hb⟩;refine ⟨_,rfl,?_⟩;replace BK532:=bb_ BK532 hb;replace HB:=b1_ hb;clear hb))
    go_meet
    case rel=>exact ⟨_,(true),qc_,H',⟨qd_⟩,⟨(kk_ BK532)⟩,⟨hB_⟩⟩
   ·rw [if_neg c7] at H
    have c7b0:=oD_ c7
    clear c7
    (first | rw [c7b0] | (simp only [i64_w,i32_w];rw [c7b0]) | skip)
    have H':=A_ H
    clear H
    obtain ⟨hcz10_0,hcz10_1,hfz10_0,hfz10_1⟩:=c2_ BK532
    go_wp2_with (first | ((with_reducible refine gA_ (f:=76) rfl ?_);refine gL_ (some 12) Tryz.func76 #[.agg #[.slice A0_0 l0_0.length c0_0,.slice A0_1 l0_1.length c0_1]] rfl qa_ ?_;(with_reducible refine (Z38.calls k _ _ l0_0 _ _ l0_1 true _ (cb_ HR0_0) HC0_0.out (cb_ HR0_1) HC0_1.out A5.out).mono ?_);rintro e w11 ⟨rfl,hb⟩;refine ⟨_,rfl,?_⟩;replace BK532:=bb_ BK532 hb;replace HB:=b1_ hb;clear hb;obtain ⟨hcz12_0,hcz12_1,hfz12_0,hfz12_1⟩:=c2_ BK532))
    go_meet
    case rel=>exact ⟨_,(decide (a1 ≥ (l0_0.length:Int))),qc_,H',⟨qd_⟩,⟨(kk_ BK532)⟩,⟨hB_⟩⟩
  ·replace c6:=Bool.eq_false_iff.mpr c6
   subst c6
   have H1:(Z37.j0 k a1 true l0_0 l0_1) = some r:=by rw [if_neg (show ¬ (false = true) by decide)] at H;exact H
   clear H
   have H:=H1
   clear H1
   have H':=A_ H
   clear H
   obtain ⟨hcz13_0,hcz13_1,hfz13_0,hfz13_1⟩:=c2_ BK532
   go_wp2_with (first | ((with_reducible refine gA_ (f:=76) rfl ?_);refine gL_ (some 12) Tryz.func76 #[.agg #[.slice A0_0 l0_0.length c0_0,.slice A0_1 l0_1.length c0_1]] rfl qa_ ?_;(with_reducible refine (Z38.calls k _ _ l0_0 _ _ l0_1 false _ (cb_ HR0_0) HC0_0.out (cb_ HR0_1) HC0_1.out A5.out).mono ?_);rintro e w14 ⟨rfl,hb⟩;refine ⟨_,rfl,?_⟩;replace BK532:=bb_ BK532 hb;replace HB:=b1_ hb;clear hb))
   go_meet
   case rel=>exact ⟨_,(true),qc_,H',⟨qd_⟩,⟨(kk_ BK532)⟩,⟨hB_⟩⟩
 case rest =>
  clear HC3
  obtain ⟨kq,x24_2,rfl,HA,HJ2,BK532,HB⟩:=hcut
  cases kq with
  | zero=>exact absurd HA.out (by simp [Z37.j0])
  | succ kj2 =>
   have H:=HA.out
   clear HA
   simp only [Z37.j0] at H
   by_cases c15:x24_2 = true
   ·subst c15
    rw [if_pos rfl] at H
    obtain rfl:=Option.some.inj H
    go_wp2
    go_ret
    exact ⟨_,qb_,by first | exact Kd.R_nil _ _ _ _ _ | exact Kd.N_nil _ _ _ _ _ | exact Kd.V_nil _ _ _ _ _ | exact Kd.Q_nil _ _ _ _ _ | exact Kd.S_nil _ _ _ _ _,hB_⟩
   ·replace c15:=Bool.eq_false_iff.mpr c15
    subst c15
    have H1:(if 0≤(l0_0.length:Int) then (if ((l0_0.length:Int):Int).toNat≤35184372088832 then ((some (List.replicate ((l0_0.length:Int):Int).toNat 0:List Int)).bind fun y534=>(Z37.l0 kj2 a1 y534 (y534.length:Int) 0 l0_0 l0_1)) else (none)) else (none)) = some r:=by rw [if_neg (show ¬ (false = true) by decide)] at H;exact H
    clear H
    have H:=H1
    clear H1
    have c16:=cp_ H
    replace H:=ca_ H
    have c16b0:=eq_true c16
    have c16b1:=oC_ c16
    clear c16
    have c17:=cp_ H
    replace H:=ca_ H
    have c17b0:=eq_true c17
    have c17b1:=oC_ c17
    clear c17
    obtain ⟨y534,hy534⟩:∃ y_:List Int,y_ = (List.replicate ((l0_0.length:Int):Int).toNat 0):=⟨_,rfl⟩
    replace H:(Z37.l0 kj2 a1 y534 (y534.length:Int) 0 l0_0 l0_1) = some r:=by first | (rw [hy534];exact H) | exact H
    have Ny534:=A_ hy534
    clear hy534
    have H':=A_ H
    clear H
    obtain ⟨hcz18_0,hcz18_1,hfz18_0,hfz18_1⟩:=c2_ BK532
    go_wp2_with (first | ((with_reducible refine gB_ (N:=28) rfl ?_);(try (refine gate_guard (by rfl) ?_;dsimp only));refine Kd.R_make (Kd.int .i64) _ 3 rfl (N:=28) rfl 22 _ _ rfl (l0_0.length:Int) rfl rfl Tryz.underlying22 (.int .i64 0) 8 info3 rfl (by decide) (by omega) 0 (ok:=fun _=>True) (okp:=fun _=>True) rfl (fun _ hk=>hk) trivial (oB_ qe_) (Nat.le_trans (Nat.mul_le_mul_right _ (oB_ qe_:(l0_0.length:Int).toNat≤35184372088832)) (by omega)) (Below.refl _ _) (nA_ _) ?_;intro v535 w19 ho20 hb hg_ hnew_;clear hg_ hnew_;(first | rw [← Ny534.out] at ho20 | (simp only [Int.reduceToNat] at ho20;rw [← Ny534.out] at ho20));have HO536:=rl_ w ho20;replace BK532:=bb_ BK532 hb;replace HB:=b1_ hb;clear hb ho20;obtain ⟨Ao21,co21,eo21⟩:=Kd.R_slice HO536.out;subst eo21))
    go_loopg [31] kj2 (fun kq v31 w'=>∃ (x5_2:List Int) (x31_2:Int),v31 = .int .i64 x31_2∧Aside0 (Z37.l0 kq a1 x5_2 (y534.length:Int) x31_2 l0_0 l0_1 = some r)∧Aside0 (kq≤kj2)∧Aside0 (Kd.R (Kd.int .i64) 3 w' w.heap.size (fun _=>True) (.slice Ao21 y534.length co21) x5_2)∧Aside0 (w'.heap[gb532]? = some (.cells #[(.slice A0_0 l0_0.length c0_0),(.slice A0_1 l0_1.length c0_1)] 27 (0,0)))∧Aside0 (Below w.heap.size w w'))
    case atStart=>exact ⟨(y534),(0),qc_,H',⟨nA_ _⟩,⟨(rr_ HO536)⟩,⟨(kk_ BK532)⟩,⟨hB_⟩⟩
    case round =>
     clear H'
     obtain ⟨x5_2,x31_2,rfl,HA,HK2,HO_5,BK532,HB⟩:=hrel
     have hl5_2:=(Kd.R_reads' HO_5.out).1
     rw [hl5_2] at HO_5
     (try simp only [hl5_2])
     (try simp only [hl5_2] at BK532)
     cases gk with
     | zero=>exact absurd HA.out (by simp [Z37.l0])
     | succ k2 =>
      have H:=HA.out
      clear HA
      simp only [Z37.l0] at H
      by_cases c22:x31_2 < (y534.length:Int)
      ·rw [if_pos c22] at H
       have c22b0:=oC_ c22
       clear c22
       have c23:=cp_ H
       replace H:=ca_ H
       have c23b0:=oC_ c23
       clear c23
       have c24:=cp_ H
       replace H:=ca_ H
       have c24b0:=oC_ c24
       clear c24
       obtain ⟨y537,hy537⟩:∃ y_:List Int,y_ = (x5_2.set (x31_2:Int).toNat (-1)):=⟨_,rfl⟩
       replace H:(Z37.l0 k2 a1 y537 (y534.length:Int) (wrap64 (x31_2 + 1)) l0_0 l0_1) = some r:=by first | (rw [hy537];exact H) | exact H
       have Ny537:=A_ hy537
       clear hy537
       have H':=A_ H
       clear H
       have p25:0≤(x31_2:Int):=oB_ qe_
       have q25:(x31_2:Int) < ((x5_2.length:Int):Int):=oB_ qe_
       obtain ⟨go25,co25,eo25,gb25,gl25,cl25,HG25⟩:=Kd.R_form HO_5.out (by omega)
       (first | cases eo25 | (injection eo25 with ea_ en_ ec_;(first | subst ea_ | (injection ea_ with ea_;subst ea_));subst ec_;clear en_))
       have GB25:=A_ gb25
       have GG25:=A_ HG25
       clear gb25 gl25 HG25
       obtain ⟨hx25_0,hf25_0⟩:=Kd.R_celln 0 HO_5.out (x31_2:Int) p25 q25
       replace p25:=eq_true p25
       replace q25:=eq_true q25
       have HP26:=Kd.R_putg HO_5.out (x31_2:Int) (-1)
       go_wp2_with (first | ((with_reducible refine gate_store (t:=3) (p:=36) rfl ?_);refine store_event (t:=3) (p:=36) (v:=?vo_w27) (w1:=(wr.setCell ⟨go25,(x31_2:Int).toNat,none⟩ (.int .i64 (-1)))) ?hg ?ho ?hn ?hr ?_;(case ho=>rfl);(case hg=>rfl);(case hn=>rfl);(case hr=>first | (go_simp;done) | (go_simp;rfl));intro w27 hw;have hg:wr.grownBy w27 (some go25):=(by rw [hw];exact HP26.2);have hp_:Kd.R (Kd.int .i64) 3 w27 w.heap.size (fun _=>True) (.slice (some ⟨go25,0,none⟩) x5_2.length co21) y537:=(by rw [hw,Ny537.out];exact HP26.1);clear HP26;replace BK532:=A_ (blk_grown (kk_ BK532) hg (Kd.R_ne HO_5.out BK532.out (by decide)));replace HO_5:=A_ (hp_);replace HB:=A_ ((by rw [hw];exact bD_ (HB.out) GB25.out:Below w.heap.size w w27));clear hg hw hp_))
       (try simp only [← hl5_2])
       go_roundg k2
       case measure=>have:=HJ2.out;have:=HK2.out;omega
       case rel=>exact ⟨(y537),(wrap64 (x31_2 + 1)),qc_,H',⟨by have:=HJ2.out;have:=HK2.out;omega⟩,⟨by (try simp only [hl5_2]);(with_reducible repeat (first | apply rA_ | apply rB_ | apply rC_));exact HO_5.out⟩,⟨by (try simp only [hl5_2]);(with_reducible repeat (first | refine kA_ ?_ _ | refine kB_ ?_ | refine kC_ ?_ _));exact BK532.out⟩,⟨hB_⟩⟩
      ·rw [if_neg c22] at H
       have c22b0:=oD_ c22
       (try simp only [hl5_2] at c22b0)
       clear c22
       have c28:=cp_ H
       replace H:=ca_ H
       have c28b0:=oC_ c28
       clear c28
       have c29:=cp_ H
       replace H:=ca_ H
       have c29b0:=oC_ c29
       clear c29
       obtain ⟨y538,hy538⟩:∃ y_:List Int,y_ = (x5_2.set (a1:Int).toNat 0):=⟨_,rfl⟩
       replace H:(Z37.l1 k2 y538 (([a1]:List Int)) 0 l0_0 l0_1) = some r:=by first | (rw [hy538];exact H) | exact H
       have Ny538:=A_ hy538
       clear hy538
       obtain ⟨y539,hy539⟩:∃ y_:List Int,y_ = (([a1]:List Int)):=⟨_,rfl⟩
       replace H:(Z37.l1 k2 y538 y539 0 l0_0 l0_1) = some r:=by first | (rw [hy539];exact H) | exact H
       have Ny539:=A_ hy539
       clear hy539
       have H':=A_ H
       clear H
       have p30:0≤(a1:Int):=oB_ qe_
       have q30:(a1:Int) < ((x5_2.length:Int):Int):=oB_ qe_
       obtain ⟨go30,co30,eo30,gb30,gl30,cl30,HG30⟩:=Kd.R_form HO_5.out (by omega)
       (first | cases eo30 | (injection eo30 with ea_ en_ ec_;(first | subst ea_ | (injection ea_ with ea_;subst ea_));subst ec_;clear en_))
       have GB30:=A_ gb30
       have GG30:=A_ HG30
       clear gb30 gl30 HG30
       obtain ⟨hx30_0,hf30_0⟩:=Kd.R_celln 0 HO_5.out (a1:Int) p30 q30
       replace p30:=eq_true p30
       replace q30:=eq_true q30
       have HP31:=Kd.R_putg HO_5.out (a1:Int) 0
       go_wp2_with (first | ((with_reducible refine gate_store (t:=3) (p:=40) rfl ?_);refine store_event (t:=3) (p:=40) (v:=?vo_w32) (w1:=(wr.setCell ⟨go30,(a1:Int).toNat,none⟩ (.int .i64 0))) ?hg ?ho ?hn ?hr ?_;(case ho=>rfl);(case hg=>rfl);(case hn=>rfl);(case hr=>first | (go_simp;done) | (go_simp;rfl));intro w32 hw;have hg:wr.grownBy w32 (some go30):=(by rw [hw];exact HP31.2);have hp_:Kd.R (Kd.int .i64) 3 w32 w.heap.size (fun _=>True) (.slice (some ⟨go30,0,none⟩) x5_2.length co21) y538:=(by rw [hw,Ny538.out];exact HP31.1);clear HP31;replace BK532:=A_ (blk_grown (kk_ BK532) hg (Kd.R_ne HO_5.out BK532.out (by decide)));replace HO_5:=A_ (hp_);replace HB:=A_ ((by rw [hw];exact bD_ (HB.out) GB30.out:Below w.heap.size w w32));clear hg hw hp_) | ((with_reducible refine gB_ (N:=42) rfl ?_);(try (refine gate_guard (by rfl) ?_;dsimp only));refine Kd.R_lit (Kd.int .i64) _ 3 ?hg (N:=42) ?hd (xs:=([a1]:List Int)) (inner:=[.int .i64 a1]) (ok:=fun _=>True) (okp:=fun _=>True) ?hr ?hp (fun _ hk=>hk) trivial (Below.refl _ _) (nA_ _) (by simp) ?_;(case hd=>rfl);(case hg=>rfl);(case hr=>first | (go_simp;done) | (go_simp;rfl));(case hp=>exact (Reps.one (show Kd.M (Kd.int .i64) _ _ _ a1 [.int .i64 a1] from rfl) (Reps.none _ _)));intro v540 w33 ho34 hb hg_ hnew_;clear hg_ hnew_;(first | rw [← Ny539.out] at ho34 | (simp only [Int.reduceToNat] at ho34;rw [← Ny539.out] at ho34));have HO541:=A_ (rE_ (Kd.R_new' ho34 (Kd.R_lt (rr_ HO_5))) (bF_ hB_));replace HO_5:=A_ (Kd.R_elder' (rr_ HO_5) (Kd.R_base ho34) hb);replace BK532:=bb_ BK532 hb;replace HB:=b1_ hb;clear hb ho34))
       go_loopg [7,8] k2 (fun kq v7 v8 w'=>∃ (x5_3:List Int) (x7_3:List Int) (x8_3:Int),v8 = .int .i64 x8_3∧Aside0 (Z37.l1 kq x5_3 x7_3 x8_3 l0_0 l0_1 = some r)∧Aside0 (kq≤k2)∧Aside0 (Kd.R (Kd.int .i64) 3 w' w.heap.size (fun k_=>some k_≠(v7:Value).ownBlock) (.slice (some ⟨go30,0,none⟩) x5_2.length co21) x5_3)∧Aside0 (Kd.R (Kd.int .i64) 3 w' w.heap.size (fun k_=>some k_≠((.slice (some ⟨go30,0,none⟩) x5_2.length co21):Value).ownBlock) v7 x7_3)∧Aside0 (w'.heap[gb532]? = some (.cells #[(.slice A0_0 l0_0.length c0_0),(.slice A0_1 l0_1.length c0_1)] 27 (0,0)))∧Aside0 (Below w.heap.size w w'))
       case atStart=>exact ⟨(y538),(y539),(0),qc_,H',⟨nA_ _⟩,⟨by (try simp only [hl5_2]);(with_reducible repeat (first | apply rA_ | apply rB_ | apply rC_));exact Kd.R_mono HO_5.out (fun _ hk=>hk.2)⟩,⟨by (try simp only [hl5_2]);(with_reducible repeat (first | apply rA_ | apply rB_ | apply rC_));exact Kd.R_mono HO541.out (fun _ hk=>hk.2)⟩,⟨by (try simp only [hl5_2]);(with_reducible repeat (first | refine kA_ ?_ _ | refine kB_ ?_ | refine kC_ ?_ _));exact BK532.out⟩,⟨hB_⟩⟩
       case round =>
        clear H'
        obtain ⟨x5_3,x7_3,x8_3,rfl,HA,HK3,HO_5,HO_7,BK532,HB⟩:=hrel
        have hl5_3:=(Kd.R_reads' HO_5.out).1
        rw [hl5_3] at HO_5
        (try simp only [hl5_3])
        (try simp only [hl5_3] at BK532)
        (try simp only [hl5_3] at HO_7)
        cases gk with
        | zero=>exact absurd HA.out (by simp [Z37.l1])
        | succ k3 =>
         have H:=HA.out
         clear HA
         simp only [Z37.l1] at H
         by_cases c35:x8_3 < (x7_3.length:Int)
         ·rw [if_pos c35] at H
          have c35b0:=oC_ c35
          clear c35
          have c36:=cp_ H
          replace H:=ca_ H
          have c36b0:=oC_ c36
          clear c36
          have c37:=cp_ H
          replace H:=ca_ H
          have c37b0:=oC_ c37
          clear c37
          have c38:=cp_ H
          replace H:=ca_ H
          have c38b0:=oC_ c38
          clear c38
          have c39:=cp_ H
          replace H:=ca_ H
          have c39b0:=oC_ c39
          clear c39
          obtain ⟨y546,hy546⟩:∃ y_:List Int,y_ = (([rd l0_0 (rd x7_3 x8_3),rd l0_1 (rd x7_3 x8_3)]:List Int)):=⟨_,rfl⟩
          replace H:(Z37.l2 k3 x5_3 x7_3 x8_3 y546 (y546.length:Int) 0 l0_0 l0_1) = some r:=by first | (rw [hy546];exact H) | exact H
          have Ny546:=A_ hy546
          clear hy546
          have H':=A_ H
          clear H
          obtain ⟨Ao40,co40,eo40⟩:=Kd.R_slice HO_7.out
          subst eo40
          try go_wp2
          replace HO_5:=A_ (rC_ HO_5.out)
          replace HO_7:=A_ (rC_ HO_7.out)
          replace BK532:=A_ (kB_ BK532.out)
          replace HB:=A_ (bC_ HB.out)
          have p542:0≤(x8_3:Int):=oB_ qe_
          have q542:x8_3 < (x7_3.length:Int):=oB_ qe_
          obtain ⟨ad542,e542,hx542_0⟩:=Kd.at_int (Kd.R_reads' HO_7.out).2.2 x8_3 p542 q542
          cases e542
          replace p542:=eq_true p542
          replace q542:=eq_true q542
          have p543:0≤((rd x7_3 x8_3):Int):=oB_ qe_
          have q543:(rd x7_3 x8_3) < (l0_0.length:Int):=oB_ qe_
          obtain ⟨ad543,e543,hx543_0⟩:=Kd.at_int HR0_0.out (rd x7_3 x8_3) p543 q543
          have hw543_0:=hx543_0
          cases e543
          replace hx543_0:=(HB.out.cell (World.block_lt_of_cell? w _ hx543_0)).trans hx543_0
          replace p543:=eq_true p543
          replace q543:=eq_true q543
          have p544:0≤(x8_3:Int):=oB_ qe_
          have q544:x8_3 < (x7_3.length:Int):=oB_ qe_
          obtain ⟨ad544,e544,hx544_0⟩:=Kd.at_int (Kd.R_reads' HO_7.out).2.2 x8_3 p544 q544
          obtain rfl:ad542 = ad544:=(by injection e544)
          replace p544:=eq_true p544
          replace q544:=eq_true q544
          have p545:0≤((rd x7_3 x8_3):Int):=oB_ qe_
          have q545:(rd x7_3 x8_3) < (l0_1.length:Int):=oB_ qe_
          obtain ⟨ad545,e545,hx545_0⟩:=Kd.at_int HR0_1.out (rd x7_3 x8_3) p545 q545
          have hw545_0:=hx545_0
          cases e545
          replace hx545_0:=(HB.out.cell (World.block_lt_of_cell? w _ hx545_0)).trans hx545_0
          replace p545:=eq_true p545
          replace q545:=eq_true q545
          refine start_ (n:=19) (S:=fun w'=>w'.cell? ⟨gb532,0,none⟩ = some (.slice (some ad543) l0_0.length c0_0)∧w'.cell? ⟨gb532,1,none⟩ = some (.slice (some ad545) l0_1.length c0_1)∧w'.cell? (ad542.add (x8_3).toNat) = some (.int .i64 (rd x7_3 x8_3))∧w'.cell? (ad543.add ((rd x7_3 x8_3)).toNat) = some (.int .i64 (rd l0_0 (rd x7_3 x8_3)))∧w'.cell? (ad542.add (x8_3).toNat) = some (.int .i64 (rd x7_3 x8_3))∧w'.cell? (ad545.add ((rd x7_3 x8_3)).toNat) = some (.int .i64 (rd l0_1 (rd x7_3 x8_3)))) (ds:=[]) (bl_ 19 0) (by kernel_rfl) rfl (by kernel_rfl) ⟨cz0_ BK532,cz1_ BK532,hx542_0,((HB.out.cell (World.block_lt_of_cell? w _ hw543_0)).trans hw543_0),hx544_0,((HB.out.cell (World.block_lt_of_cell? w _ hw545_0)).trans hw545_0)⟩ (fun hHeld=>?_);refine with_tabW Z37.tab14 Z37.bits14 (fun HT_ HW_=>?_)
          generalize wr.drew = w41 at HO_5 HO_7 BK532 HB hx542_0 hx543_0 hx544_0 hx545_0 hHeld ⊢
          refine pu_ 0 (some 49) (bl_ 19 1) HT_ ?_
          refine pu_ 2 (some 51) (bl_ 19 5) HT_ ?_
          refine pu_ 3 (some 52) (bl_ 19 13) HT_ ?_
          refine pu_ 4 (some 53) (bl_ 19 29) HT_ ?_
          refine pu_ 8 (some 57) (bl_ 19 285) HT_ ?_
          refine pu_ 10 (some 59) (bl_ 19 1309) HT_ ?_
          refine pu_ 11 (some 60) (bl_ 19 3357) HT_ ?_
          refine pu_ 12 (some 61) (bl_ 19 7453) HT_ ?_
          refine pu_ 18 (some 67) (bl_ 19 269597) HT_ ?_
          refine ta_ 1 (some 50) (bl_ 19 269599) HT_ HW_ hHeld ?_
          refine ta_ 5 (some 54) (bl_ 19 269631) HT_ HW_ hHeld ?_
          refine pu_ 6 (some 55) (bl_ 19 269695) HT_ ?_
          refine ta_ 7 (some 56) (bl_ 19 269823) HT_ HW_ hHeld ?_
          refine ta_ 9 (some 58) (bl_ 19 270335) HT_ HW_ hHeld ?_
          refine ta_ 13 (some 62) (bl_ 19 278527) HT_ HW_ hHeld ?_
          refine pu_ 14 (some 63) (bl_ 19 294911) HT_ ?_
          refine ta_ 15 (some 64) (bl_ 19 327679) HT_ HW_ hHeld ?_
          refine on_ 16 (some 65) (bl_ 19 393215) HT_ (fun K hK=>?_)
          refine Kd.R_lit_step (Kd.int .i64) _ 3 ?hg (N:=65) ?hd (xs:=([rd l0_0 (rd x7_3 x8_3),rd l0_1 (rd x7_3 x8_3)]:List Int)) (inner:=[.int .i64 (rd l0_0 (rd x7_3 x8_3)),.int .i64 (rd l0_1 (rd x7_3 x8_3))]) (ok:=fun _=>True) (okp:=fun _=>True) ?hr ?hp (fun _ hk=>hk) trivial (Below.refl _ _) (nA_ _) (by simp) ?_;(case hd=>rfl);(case hg=>rfl);(case hr=>first | (go_simp;done) | (go_simp;rfl));(case hp=>exact (Reps.one (show Kd.M (Kd.int .i64) _ _ _ (rd l0_0 (rd x7_3 x8_3)) [.int .i64 (rd l0_0 (rd x7_3 x8_3))] from rfl) (Reps.one (show Kd.M (Kd.int .i64) _ _ _ (rd l0_1 (rd x7_3 x8_3)) [.int .i64 (rd l0_1 (rd x7_3 x8_3))] from rfl) (Reps.none _ _))))
          intro v547 w42 ho43 hb hg_ hnew_
          have HS2_:=(hb.cell (World.block_lt_of_cell? _ _ (hHeld.2.2.1))).trans (hHeld.2.2.1)
          have HS4_:=(hb.cell (World.block_lt_of_cell? _ _ (hHeld.2.2.2.2.1))).trans (hHeld.2.2.2.2.1)
          clear hg_ hnew_
          (first | rw [← Ny546.out] at ho43 | (simp only [Int.reduceToNat] at ho43;rw [← Ny546.out] at ho43))
          have HO548:=A_ (rE_ (Kd.R_new' (Kd.R_new' ho43 (Kd.R_lt (rr_ HO_5))) (Kd.R_lt (rr_ HO_7))) (bF_ hB_))
          replace HO_5:=A_ (Kd.R_elder' (rr_ HO_5) (Kd.R_base ho43) hb)
          replace HO_7:=A_ (Kd.R_elder' (rr_ HO_7) (Kd.R_base ho43) hb)
          replace BK532:=bb_ BK532 hb
          replace HB:=b1_ hb
          clear hb ho43
          obtain ⟨Ao44,co44,eo44⟩:=Kd.R_slice HO548.out
          (first | subst eo44 | (injection eo44 with f1_ f2_ f3_;have f4_:=f1_.symm;have f5_:=f3_.symm;clear f1_ f2_ f3_;subst f4_;subst f5_))
          refine hK.out _ _ ⟨cz0_ BK532,cz1_ BK532,HS2_,((HB.out.cell (World.block_lt_of_cell? w _ hw543_0)).trans hw543_0),HS4_,((HB.out.cell (World.block_lt_of_cell? w _ hw545_0)).trans hw545_0)⟩ (fun hHeld=>?_)
          clear hK K
          refine no_ (some 65) ?_
          refine pu_ 17 (some 66) (bl_ 19 524287) HT_ ?_
          refine done_ (done_of HT_.out (by kernel_rfl)) ?_
          try go_wp2
          go_loopg [7,67] k3 (fun kq v7 v67 w'=>∃ (x5_4:List Int) (x7_4:List Int) (x67_4:Int),v67 = .int .i64 x67_4∧Aside0 (Z37.l2 kq x5_4 x7_4 x8_3 y546 (y546.length:Int) x67_4 l0_0 l0_1 = some r)∧Aside0 (kq≤k3)∧Aside0 (Kd.R (Kd.int .i64) 3 w' w.heap.size (fun k_=>some k_≠(v7:Value).ownBlock∧some k_≠((.slice Ao44 y546.length co44):Value).ownBlock) (.slice (some ⟨go30,0,none⟩) x5_3.length co21) x5_4)∧Aside0 (Kd.R (Kd.int .i64) 3 w' w.heap.size (fun k_=>some k_≠((.slice (some ⟨go30,0,none⟩) x5_3.length co21):Value).ownBlock∧some k_≠((.slice Ao44 y546.length co44):Value).ownBlock) v7 x7_4)∧Aside0 (Kd.R (Kd.int .i64) 3 w' w.heap.size (fun k_=>some k_≠((.slice (some ⟨go30,0,none⟩) x5_3.length co21):Value).ownBlock∧some k_≠(v7:Value).ownBlock) (.slice Ao44 y546.length co44) y546)∧Aside0 (w'.heap[gb532]? = some (.cells #[(.slice (some ad543) l0_0.length c0_0),(.slice (some ad545) l0_1.length c0_1)] 27 (0,0)))∧Aside0 (Below w.heap.size w w'))
          case atStart=>exact ⟨(x5_3),(x7_3),(0),qc_,H',⟨nA_ _⟩,⟨by (try simp only [hl5_2]);(try simp only [hl5_3]);(with_reducible repeat (first | apply rA_ | apply rB_ | apply rC_));exact HO_5.out⟩,⟨by (try simp only [hl5_2]);(try simp only [hl5_3]);(with_reducible repeat (first | apply rA_ | apply rB_ | apply rC_));exact HO_7.out⟩,⟨by (try simp only [hl5_2]);(try simp only [hl5_3]);(with_reducible repeat (first | apply rA_ | apply rB_ | apply rC_));exact Kd.R_mono HO548.out (fun _ hk=>⟨hk.1.2,hk.2⟩)⟩,⟨by (try simp only [hl5_2]);(try simp only [hl5_3]);(with_reducible repeat (first | refine kA_ ?_ _ | refine kB_ ?_ | refine kC_ ?_ _));exact BK532.out⟩,⟨hB_⟩⟩
          case round =>
           clear H'
           obtain ⟨x5_4,x7_4,x67_4,rfl,HA,HK4,HO_5,HO_7,HO_65,BK532,HB⟩:=hrel
           have hl5_4:=(Kd.R_reads' HO_5.out).1
           rw [hl5_4] at HO_5
           (try simp only [hl5_4])
           (try simp only [hl5_4] at BK532)
           (try simp only [hl5_4] at HO_7)
           (try simp only [hl5_4] at HO_65)
           cases gk with
           | zero=>exact absurd HA.out (by simp [Z37.l2])
           | succ k4 =>
            have H:=HA.out
            clear HA
            simp only [Z37.l2] at H
            by_cases c45:x67_4 < (y546.length:Int)
            ·rw [if_pos c45] at H
             have c45b0:=oC_ c45
             clear c45
             have c46:=cp_ H
             replace H:=ca_ H
             have c46b0:=oC_ c46
             clear c46
             have c47:=cp_ H
             replace H:=ca_ H
             have c47b0:=oC_ c47
             clear c47
             have c48:=cp_ H
             replace H:=ca_ H
             have c48b0:=oC_ c48
             clear c48
             have c49:=cp_ H
             replace H:=ca_ H
             have c49b0:=oC_ c49
             clear c49
             by_cases c50:(rd x5_4 (rd y546 x67_4)) < 0
             ·rw [if_pos c50] at H
              have c50b0:=oC_ c50
              clear c50
              obtain ⟨y551,hy551⟩:∃ y_:List Int,y_ = (x5_4.set ((rd y546 x67_4):Int).toNat (x7_4.length:Int)):=⟨_,rfl⟩
              replace H:(if x7_4.length < 17592186044416 then (Z37.l2 k4 y551 (x7_4 ++ [rd y546 x67_4]) x8_3 y546 (y546.length:Int) (wrap64 (x67_4 + 1)) l0_0 l0_1) else (none)) = some r:=by first | (rw [hy551];exact H) | exact H
              have Ny551:=A_ hy551
              clear hy551
              have c52:=cp_ H
              replace H:=ca_ H
              have LMc52:=A_ c52
              clear c52
              obtain ⟨y552,hy552⟩:∃ y_:List Int,y_ = (x7_4 ++ [rd y546 x67_4]):=⟨_,rfl⟩
              replace H:(Z37.l2 k4 y551 y552 x8_3 y546 (y546.length:Int) (wrap64 (x67_4 + 1)) l0_0 l0_1) = some r:=by first | (rw [hy552];exact H) | exact H
              have Ny552:=A_ hy552
              clear hy552
              have H':=A_ H
              clear H
              have p549:0≤(x67_4:Int):=oB_ qe_
              have q549:x67_4 < (y546.length:Int):=oB_ qe_
              obtain ⟨ad549,e549,hx549_0⟩:=Kd.at_int (Kd.R_reads' HO_65.out).2.2 x67_4 p549 q549
              cases e549
              replace p549:=eq_true p549
              replace q549:=eq_true q549
              have p550:0≤((rd y546 x67_4):Int):=oB_ qe_
              have q550:(rd y546 x67_4) < (x5_4.length:Int):=oB_ qe_
              obtain ⟨ad550,e550,hx550_0⟩:=Kd.at_int (Kd.R_reads' HO_5.out).2.2 (rd y546 x67_4) p550 q550
              obtain rfl:(⟨go30,0,none⟩:Addr) = ad550:=(by injection e550)
              (first | simp only [add_plain] at hx550_0 | simp only [add_at] at hx550_0 | simp only [Addr.add,Nat.zero_add] at hx550_0 | skip)
              replace p550:=eq_true p550
              replace q550:=eq_true q550
              obtain ⟨Ao53,co53,eo53⟩:=Kd.R_slice HO_7.out
              subst eo53
              have p51:0≤((rd y546 x67_4):Int):=oB_ qe_
              have q51:((rd y546 x67_4):Int) < ((x5_4.length:Int):Int):=oB_ qe_
              obtain ⟨hx51_0,hf51_0⟩:=Kd.R_celln 0 HO_5.out ((rd y546 x67_4):Int) p51 q51
              replace p51:=eq_true p51
              replace q51:=eq_true q51
              have HP54:=Kd.R_putg HO_5.out ((rd y546 x67_4):Int) (x7_4.length:Int)
              go_wp2_with (first | ((with_reducible refine gate_store (t:=3) (p:=80) rfl ?_);refine store_event (t:=3) (p:=80) (v:=?vo_w55) (w1:=(wr.setCell ⟨go30,((rd y546 x67_4):Int).toNat,none⟩ (.int .i64 (x7_4.length:Int)))) ?hg ?ho ?hn ?hr ?_;(case ho=>rfl);(case hg=>rfl);(case hn=>rfl);(case hr=>first | (go_simp;done) | (go_simp;rfl));intro w55 hw;have hg:wr.grownBy w55 (some go30):=(by rw [hw];exact HP54.2);have hp_:Kd.R (Kd.int .i64) 3 w55 w.heap.size (fun k_=>some k_≠(.slice Ao53 x7_4.length co53:Value).ownBlock∧some k_≠(.slice (some ad549) y546.length co44:Value).ownBlock) (.slice (some ⟨go30,0,none⟩) x5_4.length co21) y551:=(by rw [hw,Ny551.out];exact HP54.1);clear HP54;replace HO_7:=A_ (Kd.R_after (v:=(.slice (some ⟨go30,0,none⟩) x5_4.length co21)) (v1:=(.slice (some ⟨go30,0,none⟩) x5_4.length co21)) (ok:=(fun k_=>some k_≠(.slice (some ad549) y546.length co44:Value).ownBlock)) (rw_ (Kd.R_mono HO_7.out (fun _ hk=>⟨hk.2,hk.1⟩))) hg (.inl rfl));replace HO_65:=A_ (Kd.R_after (v:=(.slice (some ⟨go30,0,none⟩) x5_4.length co21)) (v1:=(.slice (some ⟨go30,0,none⟩) x5_4.length co21)) (ok:=(fun k_=>some k_≠(.slice Ao53 x7_4.length co53:Value).ownBlock)) (rw_ (Kd.R_mono HO_65.out (fun _ hk=>⟨hk.2,hk.1⟩))) hg (.inl rfl));replace BK532:=A_ (blk_grown (kk_ BK532) hg (Kd.R_ne HO_5.out BK532.out (by decide)));replace HO_5:=A_ (hp_);replace HB:=A_ ((by rw [hw];exact bD_ (HB.out) GB30.out:Below w.heap.size w w55));clear hg hw hp_) | ((with_reducible refine gate_builtin (b:=.append) (xs:=#[.tmp 81,.tmp 83]) rfl ?_);(try (refine gate_guard (by rfl) ?_;dsimp only));at_builtin;refine Kd.R_append (Kd.int .i64) (w0:=w) w.heap.size rfl (.tmp 81) (.tmp 83) 22 3 (.int .i64 0) 8 rfl Tryz.underlying22 info3 rfl (by decide) (by omega) (.slice Ao53 x7_4.length co53) x7_4 (rd y546 x67_4) [.int .i64 (rd y546 x67_4)] (fun k_=>some k_≠(.slice (some ⟨go30,0,none⟩) x5_4.length co21:Value).ownBlock∧some k_≠(.slice (some ad549) y546.length co44:Value).ownBlock) (fun _=>False) rfl rfl ?aP (fun _ hk=>hk.elim) ?aF ?aO ?aB ?aS ?aL ?_;(case aP=>exact rfl);(case aB=>exact hB_);(case aF=>exact (fun k_ hk=>⟨Kd.fresh' (Kd.R_lt (rr_ HO_5)) k_ hk,Kd.fresh' (Kd.R_lt (rr_ HO_65)) k_ hk⟩));(case aO=>exact (rw_ (Kd.R_mono HO_7.out (fun _ hk=>⟨hk.2,hk.1⟩))));(case aS=>exact (bF_ hB_));(case aL=>have:=LMc52.out;omega);intro v553 w56 ho hb hg hat;rw [← Ny552.out] at ho;replace HO_5:=A_ (Kd.R_after (ok:=(fun k_=>some k_≠(.slice (some ad549) y546.length co44:Value).ownBlock)) (rw_ (Kd.R_mono HO_5.out (fun _ hk=>⟨hk.2,hk.1⟩))) hg hat);replace HO_65:=A_ (Kd.R_after (ok:=(fun k_=>some k_≠(.slice (some ⟨go30,0,none⟩) x5_4.length co21:Value).ownBlock)) (rw_ (Kd.R_mono HO_65.out (fun _ hk=>⟨hk.2,hk.1⟩))) hg hat);replace BK532:=A_ (blk_grown (kk_ BK532) hg (Kd.R_ne HO_7.out BK532.out (by decide)));replace HB:=A_ hb;have HO554:=A_ ho;clear HO_7;clear ho hb hg hat))
              (try simp only [← hl5_4])
              go_roundg k4
              case measure=>have:=HJ2.out;have:=HK2.out;have:=HK3.out;have:=HK4.out;omega
              case rel=>exact ⟨(y551),(y552),(wrap64 (x67_4 + 1)),qc_,H',⟨by have:=HJ2.out;have:=HK2.out;have:=HK3.out;have:=HK4.out;omega⟩,⟨by (try simp only [hl5_2]);(try simp only [hl5_3]);(try simp only [hl5_4]);(with_reducible repeat (first | apply rA_ | apply rB_ | apply rC_));exact Kd.R_mono HO_5.out (fun _ hk=>⟨hk.2,hk.1⟩)⟩,⟨by (try simp only [hl5_2]);(try simp only [hl5_3]);(try simp only [hl5_4]);(with_reducible repeat (first | apply rA_ | apply rB_ | apply rC_));exact HO554.out⟩,⟨by (try simp only [hl5_2]);(try simp only [hl5_3]);(try simp only [hl5_4]);(with_reducible repeat (first | apply rA_ | apply rB_ | apply rC_));exact HO_65.out⟩,⟨by (try simp only [hl5_2]);(try simp only [hl5_3]);(try simp only [hl5_4]);(with_reducible repeat (first | refine kA_ ?_ _ | refine kB_ ?_ | refine kC_ ?_ _));exact BK532.out⟩,⟨hB_⟩⟩
             ·rw [if_neg c50] at H
              have c50b0:=oD_ c50
              clear c50
              have H':=A_ H
              clear H
              have p549:0≤(x67_4:Int):=oB_ qe_
              have q549:x67_4 < (y546.length:Int):=oB_ qe_
              obtain ⟨ad549,e549,hx549_0⟩:=Kd.at_int (Kd.R_reads' HO_65.out).2.2 x67_4 p549 q549
              cases e549
              replace p549:=eq_true p549
              replace q549:=eq_true q549
              have p550:0≤((rd y546 x67_4):Int):=oB_ qe_
              have q550:(rd y546 x67_4) < (x5_4.length:Int):=oB_ qe_
              obtain ⟨ad550,e550,hx550_0⟩:=Kd.at_int (Kd.R_reads' HO_5.out).2.2 (rd y546 x67_4) p550 q550
              obtain rfl:(⟨go30,0,none⟩:Addr) = ad550:=(by injection e550)
              (first | simp only [add_plain] at hx550_0 | simp only [add_at] at hx550_0 | simp only [Addr.add,Nat.zero_add] at hx550_0 | skip)
              replace p550:=eq_true p550
              replace q550:=eq_true q550
              go_wp2
              (try simp only [← hl5_4])
              go_roundg k4
              case measure=>have:=HJ2.out;have:=HK2.out;have:=HK3.out;have:=HK4.out;omega
              case rel=>exact ⟨(x5_4),(x7_4),(wrap64 (x67_4 + 1)),qc_,H',⟨by have:=HJ2.out;have:=HK2.out;have:=HK3.out;have:=HK4.out;omega⟩,⟨by (try simp only [hl5_2]);(try simp only [hl5_3]);(try simp only [hl5_4]);(with_reducible repeat (first | apply rA_ | apply rB_ | apply rC_));exact HO_5.out⟩,⟨by (try simp only [hl5_2]);(try simp only [hl5_3]);(try simp only [hl5_4]);(with_reducible repeat (first | apply rA_ | apply rB_ | apply rC_));exact HO_7.out⟩,⟨by (try simp only [hl5_2]);(try simp only [hl5_3]);(try simp only [hl5_4]);(with_reducible repeat (first | apply rA_ | apply rB_ | apply rC_));exact HO_65.out⟩,⟨by (try simp only [hl5_2]);(try simp only [hl5_3]);(try simp only [hl5_4]);(with_reducible repeat (first | refine kA_ ?_ _ | refine kB_ ?_ | refine kC_ ?_ _));exact BK532.out⟩,⟨hB_⟩⟩
            ·rw [if_neg c45] at H
             have c45b0:=oD_ c45
             (try simp only [hl5_4] at c45b0)
             clear c45
             have H':=A_ H
             clear H
             go_wp2
             (try simp only [← hl5_3,← hl5_4])
             go_roundg k4
             case measure=>have:=HJ2.out;have:=HK2.out;have:=HK3.out;have:=HK4.out;omega
             case rel=>exact ⟨(x5_4),(x7_4),(wrap64 (x8_3 + 1)),qc_,H',⟨by have:=HJ2.out;have:=HK2.out;have:=HK3.out;have:=HK4.out;omega⟩,⟨by (try simp only [hl5_2]);(try simp only [hl5_3]);(try simp only [hl5_4]);(with_reducible repeat (first | apply rA_ | apply rB_ | apply rC_));exact Kd.R_mono HO_5.out (fun _ hk=>hk.1)⟩,⟨by (try simp only [hl5_2]);(try simp only [hl5_3]);(try simp only [hl5_4]);(with_reducible repeat (first | apply rA_ | apply rB_ | apply rC_));exact Kd.R_mono HO_7.out (fun _ hk=>hk.1)⟩,⟨by (try simp only [hl5_2]);(try simp only [hl5_3]);(try simp only [hl5_4]);(with_reducible repeat (first | refine kA_ ?_ _ | refine kB_ ?_ | refine kC_ ?_ _));exact BK532.out⟩,⟨hB_⟩⟩
         ·rw [if_neg c35] at H
          have c35b0:=oD_ c35
          clear c35
          obtain rfl:=Option.some.inj H
          obtain ⟨Ao57,co57,eo57⟩:=Kd.R_slice HO_7.out
          subst eo57
          go_wp2
          go_ret
          exact ⟨_,qb_,(rw_ (Kd.R_mono HO_5.out (fun _ hk=>trivial))),hB_⟩
end Go.Proofs.YtcggfjpnfodbaaaGreat.A
end
section
namespace Go.Proofs.YtcggfjpnfodbaaaGreat.A
open Go.RowKit Go.Proofs.YtcggfjpnfodbaaaGreatW.PrintWords Go.Proofs.YtcggfjpnfodbaaaGreatW.PrintLast Go.Proofs.YtcggfjpnfodbaaaGreatW.PrintMore
attribute [local go_sem] max2_int min2_int max_two min_two max_three min_three max_four min_four
set_option linter.unusedVariables false
set_option linter.unusedSimpArgs false
def Z39.l0:Nat→List (S27)→Int→List Int→List Int→Option ((List (S27)))
 | 0,_,_,_,_=>none
 | k + 1,x3,x4,x556000,x556001=>(Z14.f k x556000 x556001).bind fun t559=>(if x4 < t559 then ((Z37.f k x556000 x556001 x4).bind fun t560=>((Z8.f k x556000 x556001 t560).bind fun bt563=>(if x3.length < 2932031007402 then (Z39.l0 k (x3 ++ [(⟨bt563.1,bt563.2.1⟩:S27)]) (wrap64 (x4 + 1)) x556000 x556001) else (none)))) else (some x3))
def Z39.f (k:Nat) (l0_0:List Int) (l0_1:List Int):Option ((List (S27))):=Z39.l0 k (([]:List (S27))) 0 l0_0 l0_1
theorem Z39.mono_l:∀ k,(∀ y0 y1 y2 y3,LeO (Z39.l0 k y0 y1 y2 y3) (Z39.l0 (k + 1) y0 y1 y2 y3))
 | 0=>fun _ _ _ _ r h=>by simp [Z39.l0] at h
 | k + 1=>by
  have ih0:=Z39.mono_l k
  ·intro y0 y1 y2 y3
   unfold Z39.l0
   repeat' first|exact ih0 _ _ _ _|exact Z14.mono _ _ _|exact Z37.mono _ _ _ _|exact Z8.mono _ _ _ _|exact lo_|refine LeO.ite ?_ ?_|refine LeO.bind ?_ (fun _=>?_)
theorem Z39.mono:∀ a0 a1 k,LeO (Z39.f k a0 a1) (Z39.f (k + 1) a0 a1):=by
 intro a0 a1 k
 have ih0:=Z39.mono_l k
 unfold Z39.f
 repeat' first|exact ih0 _ _ _ _|exact Z14.mono _ _ _|exact Z37.mono _ _ _ _|exact Z8.mono _ _ _ _|exact lo_|refine LeO.ite ?_ ?_|refine LeO.bind ?_ (fun _=>?_)
def Z39.T5:Bool × List (List Nat × List Nat):=(true,[([],[]),([],[]),([],[]),([1,2],[1,2]),([0,3,3],[0,3]),([4],[4]),([5],[5]),([5],[5]),([],[]),([8,6,4,0,1,2,3,4,5,6,8],[6,8]),([7,9,0,1,2,3,4,5,6,7,8,9],[7])])
def Z39.B5:List Nat:=[0,0,0,6,15,31,63,63,0,383,1023]
theorem Z39.tab5:rtab .any (opsOf Tryz.f56 5) = Z39.T5:=by kernel_rfl
theorem Z39.bits5:waitsOk Z39.T5.2 Z39.B5 = true:=by kernel_rfl
set_option maxHeartbeats 8000000 in
set_option maxRecDepth 100000 in
theorem Z39.calls (k:Nat) (A0_0:Option Addr) (c0_0:Nat) (l0_0:List Int) (A0_1:Option Addr) (c0_1:Nat) (l0_1:List Int) (r:List (S27)) (w:World) (hr0_0:Kd.C (Kd.int .i64) w A0_0 l0_0.length l0_0) (hc0_0:l0_0.length≤c0_0) (hr0_1:Kd.C (Kd.int .i64) w A0_1 l0_1.length l0_1) (hc0_1:l0_1.length≤c0_1) (h:Z39.f k l0_0 l0_1 = some r) :
  Calls Tryz.prog 56 #[.agg #[.slice A0_0 l0_0.length c0_0,.slice A0_1 l0_1.length c0_1]] w fun e w'=>∃ v0_:Value,e = .returned (v0_)∧Kd.S k27 27 w' w.heap.size (fun _=>True) v0_ r∧Below w.heap.size w w':=by
 have hu27:=Tryz.underlying27
 have HR0_0:=A_ hr0_0
 have HC0_0:=A_ hc0_0
 clear hr0_0 hc0_0
 have HR0_1:=A_ hr0_1
 have HC0_1:=A_ hc0_1
 clear hr0_1 hc0_1
 have HB:=A_ (Below.refl w.heap.size w)
 have H:=h
 unfold Z39.f at H
 clear h
 obtain ⟨y556,hy556⟩:∃ y_:List (S27),y_ = (([]:List (S27))):=⟨_,rfl⟩
 replace H:(Z39.l0 k y556 0 l0_0 l0_1) = some r:=by first | (rw [hy556];exact H) | exact H
 have Ny556:=A_ hy556
 clear hy556
 have H':=A_ H
 clear H
 go_enter Tryz.func56,Tryz.ntmps56
 go_wp2_with (first | ((with_reducible refine gB_ (N:=1) rfl ?_);refine bx_ 1 #[.slice A0_0 l0_0.length c0_0,.slice A0_1 l0_1.length c0_1] 27 ?_;intro gb555 hg w2 hbox hb;have BK555:=A_ hbox;have GW555:=gw_ w hg;have GE555:=GW555;replace HB:=b1_ hb;clear hb hbox hg) | ((with_reducible refine gB_ (N:=7) rfl ?_);refine Kd.S_lit k27 _ 27 ?hg (N:=7) ?hd (xs:=([]:List (S27))) (inner:=[]) (ok:=fun _=>True) (okp:=fun _=>True) ?hr ?hp (fun _ hk=>hk) trivial (Below.refl _ _) (nA_ _) (by simp) ?_;(case hd=>rfl);(case hg=>rfl);(case hr=>first | (go_simp;done) | (go_simp;rfl));(case hp=>exact (Reps.none _ _));intro v557 w3 ho4 hb hg_ hnew_;clear hg_ hnew_;(first | rw [← Ny556.out] at ho4 | (simp only [Int.reduceToNat] at ho4;rw [← Ny556.out] at ho4));have HO558:=A_ (Kd.S_lower (Kd.S_newB ho4 (kk_ BK555)) (bF_ hB_));replace BK555:=bb_ BK555 hb;replace HB:=b1_ hb;clear hb ho4))
 go_loopg [3,4] k (fun kq v3 v4 w'=>∃ (x3_1:List (S27)) (x4_1:Int),v4 = .int .i64 x4_1∧Aside0 (Z39.l0 kq x3_1 x4_1 l0_0 l0_1 = some r)∧Aside0 (kq≤k)∧Aside0 (Kd.S k27 27 w' w.heap.size (fun k_=>k_≠gb555) v3 x3_1)∧Aside0 (w'.heap[gb555]? = some (.cells #[(.slice A0_0 l0_0.length c0_0),(.slice A0_1 l0_1.length c0_1)] 27 (0,0)))∧Aside0 (Below w.heap.size w w'))
 case atStart=>exact ⟨(y556),(0),qc_,H',⟨nA_ _⟩,⟨(sw_ (Kd.S_mono HO558.out (fun _ hk=>hk.2)))⟩,⟨(kk_ BK555)⟩,⟨hB_⟩⟩
 case round =>
  clear H'
  obtain ⟨x3_1,x4_1,rfl,HA,HK1,HO_3,BK555,HB⟩:=hrel
  cases gk with
  | zero=>exact absurd HA.out (by simp [Z39.l0])
  | succ k1 =>
   have H:=HA.out
   clear HA
   simp only [Z39.l0] at H
   obtain ⟨t559,A5,H⟩:=bi_ H
   by_cases c6:x4_1 < t559
   ·rw [if_pos c6] at H
    have c6b0:=oC_ c6
    clear c6
    obtain ⟨t560,A7,H⟩:=bi_ H
    obtain ⟨⟨t563,t566,t569⟩,A8,H⟩:=bi_ H
    try dsimp only at H
    have c9:=cp_ H
    replace H:=ca_ H
    have LMc9:=A_ c9
    clear c9
    obtain ⟨y571,hy571⟩:∃ y_:List (S27),y_ = (x3_1 ++ [(⟨t563,t566⟩:S27)]):=⟨_,rfl⟩
    replace H:(Z39.l0 k1 y571 (wrap64 (x4_1 + 1)) l0_0 l0_1) = some r:=by first | (rw [hy571];exact H) | exact H
    have Ny571:=A_ hy571
    clear hy571
    have H':=A_ H
    clear H
    obtain ⟨hcz10_0,hcz10_1,hfz10_0,hfz10_1⟩:=c2_ BK555
    try go_wp2_with (first | ((with_reducible refine gA_ (f:=87) rfl ?_);refine gL_ (some 10) Tryz.func87 #[.agg #[.slice A0_0 l0_0.length c0_0,.slice A0_1 l0_1.length c0_1]] rfl qa_ ?_;(with_reducible refine (Z14.calls k1 _ _ l0_0 _ _ l0_1 t559 _ (cb_ HR0_0) HC0_0.out (cb_ HR0_1) HC0_1.out A5.out).mono ?_);rintro e w11 ⟨rfl,hb⟩;refine ⟨_,rfl,?_⟩;replace HO_3:=sb_ HO_3 hb;replace BK555:=bb_ BK555 hb;replace HB:=b1_ hb;clear hb))
    replace HO_3:=A_ (Kd.S_drew HO_3.out)
    replace BK555:=A_ (kB_ BK555.out)
    replace HB:=A_ (bC_ HB.out)
    refine start_ (n:=11) (S:=fun w'=>w'.cell? ⟨gb555,0,none⟩ = some (.slice A0_0 l0_0.length c0_0)∧w'.cell? ⟨gb555,1,none⟩ = some (.slice A0_1 l0_1.length c0_1)) (ds:=[]) (bl_ 11 0) (by kernel_rfl) rfl (by kernel_rfl) ⟨cz0_ BK555,cz1_ BK555⟩ (fun hHeld=>?_);refine with_tabW Z39.tab5 Z39.bits5 (fun HT_ HW_=>?_)
    generalize w11.drew = w12 at HO_3 BK555 HB hHeld ⊢
    refine pu_ 2 (some 17) (bl_ 11 4) HT_ ?_
    refine ta_ 0 (some 15) (bl_ 11 5) HT_ HW_ hHeld ?_
    refine ta_ 1 (some 16) (bl_ 11 7) HT_ HW_ hHeld ?_
    refine join_ (σ:=Value × Value × Value × Nat) 2 (bl_ 11 511) (fun s_=>[(18,s_.1),(19,.tuple #[.agg #[s_.2.1,s_.2.2.1],.bool t569]),(5,.pointer (some ⟨s_.2.2.2,0,none⟩)),(14,.tuple #[.agg #[s_.2.1,s_.2.2.1],.bool t569]),(20,.agg #[s_.2.1,s_.2.2.1]),(21,.bool t569)]) (fun s_ w'=>(w'.cell? ⟨gb555,0,none⟩ = some (.slice A0_0 l0_0.length c0_0)∧w'.cell? ⟨gb555,1,none⟩ = some (.slice A0_1 l0_1.length c0_1))∧(Kd.R (Kd.int .i64) 3 w' w.heap.size (fun k_=>some k_≠(s_.2.1:Value).ownBlock∧some k_≠(s_.2.2.1:Value).ownBlock) s_.1 t560)∧(Kd.R (Kd.int .i64) 3 w' w.heap.size (fun k_=>some k_≠(s_.1:Value).ownBlock∧some k_≠(s_.2.2.1:Value).ownBlock) s_.2.1 t563)∧(Kd.R (Kd.int .i64) 3 w' w.heap.size (fun k_=>some k_≠(s_.1:Value).ownBlock∧some k_≠(s_.2.1:Value).ownBlock) s_.2.2.1 t566)∧(Kd.S k27 27 w' w.heap.size (fun k_=>some k_≠(s_.1:Value).ownBlock∧some k_≠(s_.2.1:Value).ownBlock∧some k_≠(s_.2.2.1:Value).ownBlock∧k_≠gb555∧k_≠s_.2.2.2) u3 x3_1)∧(w'.heap[gb555]? = some (.cells #[.slice A0_0 l0_0.length c0_0,.slice A0_1 l0_1.length c0_1] 27 (0,0)))∧(w'.heap[s_.2.2.2]? = some (.cells #[.slice none 0 0,.slice none 0 0] 27 (0,0)))∧(w.heap.size≤s_.2.2.2)∧(w.heap.size≤s_.2.2.2)∧(gb555≠s_.2.2.2)∧(s_.2.2.2≠gb555)∧(Below w.heap.size w w')) ?_ ?_
    rotate_left
    ·intro hCont
     refine two_ (i:=3) (j:=8) (Ni:=some 18) (Nj:=some 5) (bl_ 11 15) (bl_ 11 263) rfl rfl rfl rfl (two_of HT_.out (by kernel_rfl)) (by decide) (by decide) (fun K hK=>?_) (fun K hK=>?_)
     ·skip
      refine gO_ Tryz.func89 #[.agg #[.slice A0_0 l0_0.length c0_0,.slice A0_1 l0_1.length c0_1],.int .i64 x4_1] (by rfl) rfl rfl qa_ ?_
      with_reducible refine (Z37.calls k1 _ _ l0_0 _ _ l0_1 x4_1 t560 _ (cb_ HR0_0) HC0_0.out (cb_ HR0_1) HC0_1.out A7.out).mono ?_
      rintro e w13 ⟨v561,rfl,ho0,hb⟩
      refine ⟨_,rfl,?_⟩
      replace HO_3:=A_ (Kd.S_elder' (ss_ HO_3) (Kd.R_base ho0) hb)
      have HO562:=rl_ w ho0
      replace BK555:=bb_ BK555 hb
      replace HB:=b1_ hb
      clear hb ho0
      obtain ⟨Ao14,co14,eo14⟩:=Kd.R_slice HO562.out
      (first | subst eo14 | (injection eo14 with f1_ f2_ f3_;have f4_:=f1_.symm;have f5_:=f3_.symm;clear f1_ f2_ f3_;subst f4_;subst f5_))
      refine hK.out _ _ ⟨cz0_ BK555,cz1_ BK555⟩ (fun hHeld=>?_)
      clear hK K
      refine no_ (some 18) ?_
      refine two_ (i:=4) (j:=8) (Ni:=some 19) (Nj:=some 5) (bl_ 11 31) (bl_ 11 271) rfl rfl rfl rfl (two_of HT_.out (by kernel_rfl)) (by decide) (by decide) (fun K hK=>?_) (fun K hK=>?_)
      ·skip
       refine gO_ Tryz.func88 #[.agg #[.slice A0_0 l0_0.length c0_0,.slice A0_1 l0_1.length c0_1],.slice Ao14 t560.length co14] (by rfl) rfl rfl qa_ ?_
       with_reducible refine (Z8.calls k1 _ _ l0_0 _ _ l0_1 _ _ t560 t563 t566 t569 _ (cb_ HR0_0) HC0_0.out (cb_ HR0_1) HC0_1.out (cr_ HO562) ((Kd.R_reads' HO562.out).2.1) A8.out).mono ?_
       rintro e w15 ⟨v564,v567,rfl,ho0,ho1,hb⟩
       refine ⟨_,rfl,?_⟩
       replace HO_3:=A_ (Kd.S_mono (Kd.S_told (Kd.S_told (Kd.S_old (ss_ HO_3) hb) (Kd.R_base ho0)) (Kd.R_base ho1)) (fun _ h_=>h_.1))
       have HO565:=A_ (rE_ (Kd.R_new' ho0 (Kd.R_lt (rr_ HO562))) (bF_ hB_))
       have HO568:=A_ (rE_ (Kd.R_new' ho1 (Kd.R_lt (rr_ HO562))) (bF_ hB_))
       replace HO562:=A_ (Kd.R_mono (Kd.R_told (Kd.R_told (Kd.R_old (rr_ HO562) hb) (Kd.R_base ho0)) (Kd.R_base ho1)) (fun _ h_=>h_.1))
       replace BK555:=bb_ BK555 hb
       replace HB:=b1_ hb
       clear hb ho0 ho1
       refine hK.out _ _ ⟨cz0_ BK555,cz1_ BK555⟩ (fun hHeld=>?_)
       clear hK K
       refine no_ (some 19) ?_
       refine pu_ 5 (some 14) (bl_ 11 63) HT_ ?_
       refine pu_ 6 (some 20) (bl_ 11 127) HT_ ?_
       refine pu_ 7 (some 21) (bl_ 11 255) HT_ ?_
       refine on_ 8 (some 5) (bl_ 11 511) HT_ (fun K hK=>?_)
       refine box_step ?hg (N:=5) ?hd (cs:=#[.slice none 0 0,.slice none 0 0]) (t:=27) ?hr ?_;(case hd=>rfl);(case hg=>rfl);(case hr=>first | (go_simp;done) | (go_simp;rfl))
       intro gb570 hg w16 hbox hb
       replace HO_3:=A_ (Kd.S_below (Kd.S_elderB (ss_ HO_3) gb570 (Nat.le_of_eq hg.symm)) hb)
       replace HO562:=rb_ HO562 hb
       replace HO565:=rb_ HO565 hb
       replace HO568:=rb_ HO568 hb
       have BK570:=A_ hbox
       have GW570:=gw_ w hg
       have GE570:=GW570
       replace HB:=b1_ hb
       have NB555_570:=gN_ BK555 hg
       have NB570_555:=gP_ BK555 hg
       replace BK555:=bb_ BK555 hb
       clear hb hbox hg
       refine hK.out _ _ ⟨cz0_ BK555,cz1_ BK555⟩ (fun hHeld=>?_)
       clear hK K
       refine no_ (some 5) ?_
       exact norm_ (by simp only [putAll,Act.put,sA_,sB_,sC_]) (hCont (.slice Ao14 t560.length co14,v564,v567,gb570) _ ⟨hHeld,(rw_ (Kd.R_mono HO562.out (fun _ hk=>⟨hk.1.2,hk.2⟩))),(rw_ (Kd.R_mono HO565.out (fun _ hk=>⟨hk.2,hk.1⟩))),(rw_ (Kd.R_mono HO568.out (fun _ hk=>⟨hk.2,hk.1⟩))),(sw_ (Kd.S_mono HO_3.out (fun _ hk=>⟨hk.1.1.1.2,⟨hk.1.1.2,⟨hk.1.2,⟨hk.1.1.1.1,hk.2⟩⟩⟩⟩))),(kk_ BK555),(kk_ BK570),GW570.out,GE570.out,NB555_570.out,NB570_555.out,hB_⟩)
      ·skip
       refine box_step ?hg (N:=5) ?hd (cs:=#[.slice none 0 0,.slice none 0 0]) (t:=27) ?hr ?_;(case hd=>rfl);(case hg=>rfl);(case hr=>first | (go_simp;done) | (go_simp;rfl))
       intro gb570 hg w14 hbox hb
       replace HO_3:=A_ (Kd.S_below (Kd.S_elderB (ss_ HO_3) gb570 (Nat.le_of_eq hg.symm)) hb)
       replace HO562:=rb_ HO562 hb
       have BK570:=A_ hbox
       have GW570:=gw_ w hg
       have GE570:=GW570
       replace HB:=b1_ hb
       have NB555_570:=gN_ BK555 hg
       have NB570_555:=gP_ BK555 hg
       replace BK555:=bb_ BK555 hb
       clear hb hbox hg
       obtain ⟨Ao15,co15,eo15⟩:=Kd.R_slice HO562.out
       (first | subst eo15 | (injection eo15 with f1_ f2_ f3_;have f4_:=f1_.symm;have f5_:=f3_.symm;clear f1_ f2_ f3_;subst f4_;subst f5_))
       refine hK.out _ _ ⟨cz0_ BK555,cz1_ BK555⟩ (fun hHeld=>?_)
       clear hK K
       refine no_ (some 5) ?_
       refine on_ 4 (some 19) (bl_ 11 287) HT_ (fun K hK=>?_)
       refine gO_ Tryz.func88 #[.agg #[.slice A0_0 l0_0.length c0_0,.slice A0_1 l0_1.length c0_1],.slice Ao15 t560.length co15] (by rfl) rfl rfl qa_ ?_
       with_reducible refine (Z8.calls k1 _ _ l0_0 _ _ l0_1 _ _ t560 t563 t566 t569 _ (cb_ HR0_0) HC0_0.out (cb_ HR0_1) HC0_1.out (cr_ HO562) ((Kd.R_reads' HO562.out).2.1) A8.out).mono ?_
       rintro e w16 ⟨v564,v567,rfl,ho0,ho1,hb⟩
       refine ⟨_,rfl,?_⟩
       replace HO_3:=A_ (Kd.S_mono (Kd.S_told (Kd.S_told (Kd.S_old (ss_ HO_3) hb) (Kd.R_base ho0)) (Kd.R_base ho1)) (fun _ h_=>h_.1))
       have HO565:=A_ (rE_ (Kd.R_new' ho0 (Kd.R_lt (rr_ HO562))) (bF_ hB_))
       have HO568:=A_ (rE_ (Kd.R_new' ho1 (Kd.R_lt (rr_ HO562))) (bF_ hB_))
       replace HO562:=A_ (Kd.R_mono (Kd.R_told (Kd.R_told (Kd.R_old (rr_ HO562) hb) (Kd.R_base ho0)) (Kd.R_base ho1)) (fun _ h_=>h_.1))
       replace BK555:=bb_ BK555 hb
       replace BK570:=bb_ BK570 hb
       replace HB:=b1_ hb
       clear hb ho0 ho1
       refine hK.out _ _ ⟨cz0_ BK555,cz1_ BK555⟩ (fun hHeld=>?_)
       clear hK K
       refine no_ (some 19) ?_
       refine pu_ 5 (some 14) (bl_ 11 319) HT_ ?_
       refine pu_ 6 (some 20) (bl_ 11 383) HT_ ?_
       refine pu_ 7 (some 21) (bl_ 11 511) HT_ ?_
       exact norm_ (by simp only [putAll,Act.put,sA_,sB_,sC_]) (hCont (.slice Ao15 t560.length co15,v564,v567,gb570) _ ⟨hHeld,(rw_ (Kd.R_mono HO562.out (fun _ hk=>⟨hk.1.2,hk.2⟩))),(rw_ (Kd.R_mono HO565.out (fun _ hk=>⟨hk.2,hk.1⟩))),(rw_ (Kd.R_mono HO568.out (fun _ hk=>⟨hk.2,hk.1⟩))),(sw_ (Kd.S_mono HO_3.out (fun _ hk=>⟨hk.1.1.1.2,⟨hk.1.2,⟨hk.2,⟨hk.1.1.1.1,hk.1.1.2⟩⟩⟩⟩))),(kk_ BK555),(kk_ BK570),GW570.out,GE570.out,NB555_570.out,NB570_555.out,hB_⟩)
     ·skip
      refine box_step ?hg (N:=5) ?hd (cs:=#[.slice none 0 0,.slice none 0 0]) (t:=27) ?hr ?_;(case hd=>rfl);(case hg=>rfl);(case hr=>first | (go_simp;done) | (go_simp;rfl))
      intro gb570 hg w13 hbox hb
      replace HO_3:=A_ (Kd.S_below (Kd.S_elderB (ss_ HO_3) gb570 (Nat.le_of_eq hg.symm)) hb)
      have BK570:=A_ hbox
      have GW570:=gw_ w hg
      have GE570:=GW570
      replace HB:=b1_ hb
      have NB555_570:=gN_ BK555 hg
      have NB570_555:=gP_ BK555 hg
      replace BK555:=bb_ BK555 hb
      clear hb hbox hg
      refine hK.out _ _ ⟨cz0_ BK555,cz1_ BK555⟩ (fun hHeld=>?_)
      clear hK K
      refine no_ (some 5) ?_
      refine on_ 3 (some 18) (bl_ 11 271) HT_ (fun K hK=>?_)
      refine gO_ Tryz.func89 #[.agg #[.slice A0_0 l0_0.length c0_0,.slice A0_1 l0_1.length c0_1],.int .i64 x4_1] (by rfl) rfl rfl qa_ ?_
      with_reducible refine (Z37.calls k1 _ _ l0_0 _ _ l0_1 x4_1 t560 _ (cb_ HR0_0) HC0_0.out (cb_ HR0_1) HC0_1.out A7.out).mono ?_
      rintro e w14 ⟨v561,rfl,ho0,hb⟩
      refine ⟨_,rfl,?_⟩
      replace HO_3:=A_ (Kd.S_elder' (ss_ HO_3) (Kd.R_base ho0) hb)
      have HO562:=rl_ w ho0
      replace BK555:=bb_ BK555 hb
      replace BK570:=bb_ BK570 hb
      replace HB:=b1_ hb
      clear hb ho0
      obtain ⟨Ao15,co15,eo15⟩:=Kd.R_slice HO562.out
      (first | subst eo15 | (injection eo15 with f1_ f2_ f3_;have f4_:=f1_.symm;have f5_:=f3_.symm;clear f1_ f2_ f3_;subst f4_;subst f5_))
      refine hK.out _ _ ⟨cz0_ BK555,cz1_ BK555⟩ (fun hHeld=>?_)
      clear hK K
      refine no_ (some 18) ?_
      refine on_ 4 (some 19) (bl_ 11 287) HT_ (fun K hK=>?_)
      refine gO_ Tryz.func88 #[.agg #[.slice A0_0 l0_0.length c0_0,.slice A0_1 l0_1.length c0_1],.slice Ao15 t560.length co15] (by rfl) rfl rfl qa_ ?_
      with_reducible refine (Z8.calls k1 _ _ l0_0 _ _ l0_1 _ _ t560 t563 t566 t569 _ (cb_ HR0_0) HC0_0.out (cb_ HR0_1) HC0_1.out (cr_ HO562) ((Kd.R_reads' HO562.out).2.1) A8.out).mono ?_
      rintro e w16 ⟨v564,v567,rfl,ho0,ho1,hb⟩
      refine ⟨_,rfl,?_⟩
      replace HO_3:=A_ (Kd.S_mono (Kd.S_told (Kd.S_told (Kd.S_old (ss_ HO_3) hb) (Kd.R_base ho0)) (Kd.R_base ho1)) (fun _ h_=>h_.1))
      have HO565:=A_ (rE_ (Kd.R_new' ho0 (Kd.R_lt (rr_ HO562))) (bF_ hB_))
      have HO568:=A_ (rE_ (Kd.R_new' ho1 (Kd.R_lt (rr_ HO562))) (bF_ hB_))
      replace HO562:=A_ (Kd.R_mono (Kd.R_told (Kd.R_told (Kd.R_old (rr_ HO562) hb) (Kd.R_base ho0)) (Kd.R_base ho1)) (fun _ h_=>h_.1))
      replace BK555:=bb_ BK555 hb
      replace BK570:=bb_ BK570 hb
      replace HB:=b1_ hb
      clear hb ho0 ho1
      refine hK.out _ _ ⟨cz0_ BK555,cz1_ BK555⟩ (fun hHeld=>?_)
      clear hK K
      refine no_ (some 19) ?_
      refine pu_ 5 (some 14) (bl_ 11 319) HT_ ?_
      refine pu_ 6 (some 20) (bl_ 11 383) HT_ ?_
      refine pu_ 7 (some 21) (bl_ 11 511) HT_ ?_
      exact norm_ (by simp only [putAll,Act.put,sA_,sB_,sC_]) (hCont (.slice Ao15 t560.length co15,v564,v567,gb570) _ ⟨hHeld,(rw_ (Kd.R_mono HO562.out (fun _ hk=>⟨hk.1.2,hk.2⟩))),(rw_ (Kd.R_mono HO565.out (fun _ hk=>⟨hk.2,hk.1⟩))),(rw_ (Kd.R_mono HO568.out (fun _ hk=>⟨hk.2,hk.1⟩))),(sw_ (Kd.S_mono HO_3.out (fun _ hk=>⟨hk.1.1.2,⟨hk.1.2,⟨hk.2,⟨hk.1.1.1.1,hk.1.1.1.2⟩⟩⟩⟩))),(kk_ BK555),(kk_ BK570),GW570.out,GE570.out,NB555_570.out,NB570_555.out,hB_⟩)
    rintro ⟨v561,v564,v567,gb570⟩ w17 ⟨hS_,h0_,h1_,h2_,h3_,h4_,h5_,h6_,h7_,h8_,h9_,h10_⟩
    have n0_:Aside0 (Kd.R (Kd.int .i64) 3 w17 w.heap.size (fun k_=>some k_≠(v564:Value).ownBlock∧some k_≠(v567:Value).ownBlock) v561 t560):=⟨h0_⟩
    have n1_:Aside0 (Kd.R (Kd.int .i64) 3 w17 w.heap.size (fun k_=>some k_≠(v561:Value).ownBlock∧some k_≠(v567:Value).ownBlock) v564 t563):=⟨h1_⟩
    have n2_:Aside0 (Kd.R (Kd.int .i64) 3 w17 w.heap.size (fun k_=>some k_≠(v561:Value).ownBlock∧some k_≠(v564:Value).ownBlock) v567 t566):=⟨h2_⟩
    have n3_:Aside0 (Kd.S k27 27 w17 w.heap.size (fun k_=>some k_≠(v561:Value).ownBlock∧some k_≠(v564:Value).ownBlock∧some k_≠(v567:Value).ownBlock∧k_≠gb555∧k_≠gb570) u3 x3_1):=⟨h3_⟩
    have n4_:Aside0 (w17.heap[gb555]? = some (.cells #[.slice A0_0 l0_0.length c0_0,.slice A0_1 l0_1.length c0_1] 27 (0,0))):=⟨h4_⟩
    have n5_:Aside0 (w17.heap[gb570]? = some (.cells #[.slice none 0 0,.slice none 0 0] 27 (0,0))):=⟨h5_⟩
    have n6_:Aside0 (w.heap.size≤gb570):=⟨h6_⟩
    have n7_:Aside0 (w.heap.size≤gb570):=⟨h7_⟩
    have n8_:Aside0 (gb555≠gb570):=⟨h8_⟩
    have n9_:Aside0 (gb570≠gb555):=⟨h9_⟩
    have n10_:Aside0 (Below w.heap.size w w17):=⟨h10_⟩
    clear HO_3
    clear BK555
    clear HB
    clear h0_ h1_ h2_ h3_ h4_ h5_ h6_ h7_ h8_ h9_ h10_
    have HO562:=n0_
    have HO565:=n1_
    have HO568:=n2_
    have HO_3:=n3_
    have BK555:=n4_
    have BK570:=n5_
    have GW570:=n6_
    have GE570:=n7_
    have NB555_570:=n8_
    have NB570_555:=n9_
    have HB:=n10_
    clear n0_ n1_ n2_ n3_ n4_ n5_ n6_ n7_ n8_ n9_ n10_
    have hHeld:w17.cell? ⟨gb555,0,none⟩ = some (.slice A0_0 l0_0.length c0_0)∧w17.cell? ⟨gb555,1,none⟩ = some (.slice A0_1 l0_1.length c0_1):=hS_
    obtain ⟨Ao18,co18,eo18⟩:=Kd.R_slice HO565.out
    (first | subst eo18 | (injection eo18 with f1_ f2_ f3_;have f4_:=f1_.symm;have f5_:=f3_.symm;clear f1_ f2_ f3_;subst f4_;subst f5_))
    obtain ⟨Ao20,co20,eo20⟩:=Kd.R_slice HO568.out
    (first | subst eo20 | (injection eo20 with f1_ f2_ f3_;have f4_:=f1_.symm;have f5_:=f3_.symm;clear f1_ f2_ f3_;subst f4_;subst f5_))
    refine norm_ (a':=?_) ?_ ?_
    rotate_left
    ·simp only [putAll,Act.put,sA_,sB_,sC_]
     rfl
    refine on_ 9 (none) (bl_ 11 1023) HT_ (fun K hK=>?_)
    have hs19:w17.cell? ⟨gb570,0,none⟩ = some (.slice none 0 0):=cz0_ BK570
    have hfs19:=kD_ BK570.out 0
    have hns19_0:=NB555_570.out
    have hms19_0:=NB570_555.out
    have hs21:w17.cell? ⟨gb570,1,none⟩ = some (.slice none 0 0):=cz1_ BK570
    have hfs21:=kD_ BK570.out 1
    have hns21_0:=NB555_570.out
    have hms21_0:=NB570_555.out
    refine skip_ (w1:=?_) (by rfl) rfl ?_ ?_
    rotate_left
    ·go_simp
     rfl
    refine hK.out _ _ ⟨((cell_far (p:=⟨gb570,_,none⟩) NB555_570.out _).trans (((cell_far (p:=⟨gb570,_,none⟩) NB555_570.out _).trans (hHeld.1)))),((cell_far (p:=⟨gb570,_,none⟩) NB555_570.out _).trans (((cell_far (p:=⟨gb570,_,none⟩) NB555_570.out _).trans (hHeld.2))))⟩ (fun hHeld=>?_)
    clear hK K
    refine pu_ 10 (some 6) (bl_ 11 2047) HT_ ?_
    refine done_ (done_of HT_.out (by kernel_rfl)) ?_
    have n0_:Aside0 (Kd.S k27 27 ((w17.setCell ⟨gb570,0,none⟩ (.slice Ao18 t563.length co18)).setCell ⟨gb570,1,none⟩ (.slice Ao20 t566.length co20)) w.heap.size (fun k_=>some k_≠(v561:Value).ownBlock∧some k_≠(.slice Ao18 t563.length co18:Value).ownBlock∧some k_≠(.slice Ao20 t566.length co20:Value).ownBlock∧k_≠gb555∧k_≠gb570) u3 x3_1):=⟨(sw_ (Kd.S_mono (Kd.S_far (p:=⟨gb570,1,none⟩) (Kd.S_far (p:=⟨gb570,0,none⟩) (Kd.S_mono HO_3.out (fun k_ hk=>(⟨hk,hk.2.2.2.2⟩:_∧k_≠gb570))) (fun _ hk=>hk.2) (.slice Ao18 t563.length co18)) (fun _ hk=>hk.2) (.slice Ao20 t566.length co20)) (fun _ hk=>⟨hk.1.1,⟨hk.1.2.1,⟨hk.1.2.2.1,⟨hk.1.2.2.2.1,hk.1.2.2.2.2⟩⟩⟩⟩)))⟩
    have n1_:Aside0 (Kd.R (Kd.int .i64) 3 ((w17.setCell ⟨gb570,0,none⟩ (.slice Ao18 t563.length co18)).setCell ⟨gb570,1,none⟩ (.slice Ao20 t566.length co20)) w.heap.size (fun k_=>some k_≠(.slice Ao18 t563.length co18:Value).ownBlock∧some k_≠(.slice Ao20 t566.length co20:Value).ownBlock) v561 t560):=⟨(rw_ (Kd.R_mono (Kd.R_far (p:=⟨gb570,1,none⟩) (Kd.R_far (p:=⟨gb570,0,none⟩) (Kd.R_types HO562.out BK570.out (by decide)) (fun _ hk=>hk.2) (.slice Ao18 t563.length co18)) (fun _ hk=>hk.2) (.slice Ao20 t566.length co20)) (fun _ hk=>⟨hk.1.1,hk.1.2⟩)))⟩
    have n2_:Aside0 (Kd.R (Kd.int .i64) 3 ((w17.setCell ⟨gb570,0,none⟩ (.slice Ao18 t563.length co18)).setCell ⟨gb570,1,none⟩ (.slice Ao20 t566.length co20)) w.heap.size (fun k_=>some k_≠(v561:Value).ownBlock∧some k_≠(.slice Ao20 t566.length co20:Value).ownBlock) (.slice Ao18 t563.length co18) t563):=⟨(rw_ (Kd.R_mono (Kd.R_far (p:=⟨gb570,1,none⟩) (Kd.R_far (p:=⟨gb570,0,none⟩) (Kd.R_types HO565.out BK570.out (by decide)) (fun _ hk=>hk.2) (.slice Ao18 t563.length co18)) (fun _ hk=>hk.2) (.slice Ao20 t566.length co20)) (fun _ hk=>⟨hk.1.1,hk.1.2⟩)))⟩
    have n3_:Aside0 (Kd.R (Kd.int .i64) 3 ((w17.setCell ⟨gb570,0,none⟩ (.slice Ao18 t563.length co18)).setCell ⟨gb570,1,none⟩ (.slice Ao20 t566.length co20)) w.heap.size (fun k_=>some k_≠(v561:Value).ownBlock∧some k_≠(.slice Ao18 t563.length co18:Value).ownBlock) (.slice Ao20 t566.length co20) t566):=⟨(rw_ (Kd.R_mono (Kd.R_far (p:=⟨gb570,1,none⟩) (Kd.R_far (p:=⟨gb570,0,none⟩) (Kd.R_types HO568.out BK570.out (by decide)) (fun _ hk=>hk.2) (.slice Ao18 t563.length co18)) (fun _ hk=>hk.2) (.slice Ao20 t566.length co20)) (fun _ hk=>⟨hk.1.1,hk.1.2⟩)))⟩
    have n4_:Aside0 (((w17.setCell ⟨gb570,0,none⟩ (.slice Ao18 t563.length co18)).setCell ⟨gb570,1,none⟩ (.slice Ao20 t566.length co20)).heap[gb555]? = some (.cells #[.slice A0_0 l0_0.length c0_0,.slice A0_1 l0_1.length c0_1] 27 (0,0))):=⟨by (with_reducible repeat (first | refine kA_ ?_ _ | refine kB_ ?_ | refine kC_ ?_ _));refine blk_far ?_ NB555_570.out _;(with_reducible repeat (first | refine kA_ ?_ _ | refine kB_ ?_ | refine kC_ ?_ _));refine blk_far ?_ NB555_570.out _;(with_reducible repeat (first | refine kA_ ?_ _ | refine kB_ ?_ | refine kC_ ?_ _));exact BK555.out⟩
    have n5_:Aside0 (((w17.setCell ⟨gb570,0,none⟩ (.slice Ao18 t563.length co18)).setCell ⟨gb570,1,none⟩ (.slice Ao20 t566.length co20)).heap[gb570]? = some (.cells #[.slice Ao18 t563.length co18,.slice Ao20 t566.length co20] 27 (0,0))):=⟨qp_⟩
    have n6_:Aside0 (Below w.heap.size w ((w17.setCell ⟨gb570,0,none⟩ (.slice Ao18 t563.length co18)).setCell ⟨gb570,1,none⟩ (.slice Ao20 t566.length co20))):=⟨hB_⟩
    skip
    generalize ((w17.setCell ⟨gb570,0,none⟩ (.slice Ao18 t563.length co18)).setCell ⟨gb570,1,none⟩ (.slice Ao20 t566.length co20)) = w22 at n0_ n1_ n2_ n3_ n4_ n5_ n6_ ⊢
    have HO_3:=n0_
    have HO562:=n1_
    have HO565:=n2_
    have HO568:=n3_
    have BK555:=n4_
    have BK570:=n5_
    have HB:=n6_
    clear n0_ n1_ n2_ n3_ n4_ n5_ n6_
    have hnb23:=NB570_555.out
    have hnc23:=NB555_570.out
    obtain ⟨hcz24_0,hcz24_1,hfz24_0,hfz24_1⟩:=c2_ BK570
    try go_wp2_with (first | ((with_reducible refine gate_builtin (b:=.append) (xs:=#[.tmp 22,.tmp 24]) rfl ?_);at_builtin;refine Kd.S_append k27 (w0:=w) w.heap.size rfl (.tmp 22) (.tmp 24) 37 27 (.agg #[(.slice none 0 0),(.slice none 0 0)]) 48 rfl Tryz.underlying37 info27 rfl (by decide) (by omega) u3 x3_1 (⟨t563,t566⟩:S27) [.slice Ao18 t563.length co18,.slice Ao20 t566.length co20] (fun k_=>some k_≠(v561:Value).ownBlock∧k_≠gb555∧k_≠gb570) (fun k_=>some k_ = (.slice Ao18 t563.length co18:Value).ownBlock ∨ some k_ = (.slice Ao20 t566.length co20:Value).ownBlock) rfl rfl ?aP (fun k_ hk_=>hk_.elim (fun h_=>((Kd.R_mono (ok':=fun k_=>((fun k_=>some k_≠(v561:Value).ownBlock∧k_≠gb555∧k_≠gb570)) k_∧some k_≠(u3:Value).ownBlock) (Kd.R_types (Kd.R_types (Kd.R_apart' (HO565.out) (Kd.S_typed HO_3.out) (by decide)) BK555.out (by decide)) BK570.out (by decide)) (fun k_ hk=>⟨⟨hk.1.1.1.1,⟨hk.1.2,hk.2⟩⟩,hk.1.1.2⟩))).1 k_ h_.symm) (fun h_=>((Kd.R_mono (ok':=fun k_=>((fun k_=>some k_≠(v561:Value).ownBlock∧k_≠gb555∧k_≠gb570)) k_∧some k_≠(u3:Value).ownBlock) (Kd.R_types (Kd.R_types (Kd.R_apart' (HO568.out) (Kd.S_typed HO_3.out) (by decide)) BK555.out (by decide)) BK570.out (by decide)) (fun k_ hk=>⟨⟨hk.1.1.1.1,⟨hk.1.2,hk.2⟩⟩,hk.1.1.2⟩))).1 k_ h_.symm)) ?aF ?aO ?aB ?aS ?aL ?_;(case aP=>exact k27_mkM _ _ _ (⟨t563,t566⟩:S27) (Kd.R_mono (Kd.R_tight rfl (Kd.R_mono (ok':=fun k_=>((fun k_=>some k_≠(v561:Value).ownBlock∧k_≠gb555∧k_≠gb570)) k_∧some k_≠(u3:Value).ownBlock) (Kd.R_types (Kd.R_types (Kd.R_apart' (HO565.out) (Kd.S_typed HO_3.out) (by decide)) BK555.out (by decide)) BK570.out (by decide)) (fun k_ hk=>⟨⟨hk.1.1.1.1,⟨hk.1.2,hk.2⟩⟩,hk.1.1.2⟩))) (fun _ h_=>Or.inl h_)) (Kd.R_mono (Kd.R_tight rfl (Kd.R_mono (ok':=fun k_=>((fun k_=>some k_≠(v561:Value).ownBlock∧k_≠gb555∧k_≠gb570)) k_∧some k_≠(u3:Value).ownBlock) (Kd.R_types (Kd.R_types (Kd.R_apart' (HO568.out) (Kd.S_typed HO_3.out) (by decide)) BK555.out (by decide)) BK570.out (by decide)) (fun k_ hk=>⟨⟨hk.1.1.1.1,⟨hk.1.2,hk.2⟩⟩,hk.1.1.2⟩))) (fun _ h_=>Or.inr (h_))) (fun k_ h_ e_=>(HO565.out.1 k_ h_).2 e_.symm));(case aB=>exact hB_);(case aF=>exact (fun k_ hk=>⟨Kd.fresh' (Kd.R_lt (rr_ HO562)) k_ hk,Kd.freshB (kk_ BK555) k_ hk,Kd.freshB (kk_ BK570) k_ hk⟩));(case aO=>exact (sw_ (Kd.S_mono HO_3.out (fun k_ hk=>⟨⟨hk.1,⟨hk.2.2.2.1,hk.2.2.2.2⟩⟩,fun e_=>e_.elim (fun h_=>hk.2.1 h_) (fun h_=>hk.2.2.1 h_)⟩))));(case aS=>exact (bF_ hB_));(case aL=>have:=LMc9.out;omega);intro v572 w25 ho hb hg hat;rw [← Ny571.out] at ho;replace BK555:=A_ (blk_grown (kk_ BK555) hg (Kd.S_away HO_3.out (fun _ hk=>hk.2.2.2.1)));replace HO562:=A_ (Kd.R_over' (rr_ HO562) (Kd.S_typed (ss_ HO_3)) (by decide) hg);replace BK570:=A_ (blk_grown (kk_ BK570) hg (Kd.S_away HO_3.out (fun _ hk=>hk.2.2.2.2)));replace HB:=A_ hb;have HO573:=A_ ho;clear HO_3 HO565 HO568;clear ho hb hg hat))
    go_roundg k1
    case measure=>have:=HK1.out;omega
    case rel=>exact ⟨(y571),(wrap64 (x4_1 + 1)),qc_,H',⟨by have:=HK1.out;omega⟩,⟨(sw_ (Kd.S_mono HO573.out (fun _ hk=>hk.2.1)))⟩,⟨(kk_ BK555)⟩,⟨hB_⟩⟩
   ·rw [if_neg c6] at H
    have c6b0:=oD_ c6
    clear c6
    obtain rfl:=Option.some.inj H
    obtain ⟨hcz26_0,hcz26_1,hfz26_0,hfz26_1⟩:=c2_ BK555
    go_wp2_with (first | ((with_reducible refine gA_ (f:=87) rfl ?_);refine gL_ (some 10) Tryz.func87 #[.agg #[.slice A0_0 l0_0.length c0_0,.slice A0_1 l0_1.length c0_1]] rfl qa_ ?_;(with_reducible refine (Z14.calls k1 _ _ l0_0 _ _ l0_1 t559 _ (cb_ HR0_0) HC0_0.out (cb_ HR0_1) HC0_1.out A5.out).mono ?_);rintro e w27 ⟨rfl,hb⟩;refine ⟨_,rfl,?_⟩;replace HO_3:=sb_ HO_3 hb;replace BK555:=bb_ BK555 hb;replace HB:=b1_ hb;clear hb))
    go_ret
    exact ⟨_,qb_,(sw_ (Kd.S_mono HO_3.out (fun _ hk=>trivial))),hB_⟩
def Z51.f (a0:Int):Option (Bool):=some (a0 != a0)
set_option maxHeartbeats 8000000 in
set_option maxRecDepth 100000 in
theorem Z51.calls (a0:Int) (r:Bool) (w:World) (h:Z51.f a0 = some r) :
  Calls Tryz.prog 110 #[.int .i64 a0] w fun e w'=>e = .returned (.bool r)∧Drawn0 w w':=by
 have H:=h
 unfold Z51.f at H
 clear h
 obtain rfl:=Option.some.inj H
 go_enter Tryz.func110,Tryz.ntmps110
 go_wp2
 go_ret
 exact ⟨qc_,by repeat (first | exact Drawn0.refl _ | apply Drawn0.step)⟩
def Z29.f (a0:Int) (a1:Int):Option (Int):=(Z51.f a0).bind fun t574=>((Z51.f a1).bind fun t575=>(if t574 = true then (if t575 = true then (some 0) else (some (-1))) else (if t575 = true then (some 1) else (if a0 < a1 then (some (-1)) else (if a0 > a1 then (some 1) else (some 0))))))
set_option maxHeartbeats 8000000 in
set_option maxRecDepth 100000 in
theorem Z29.calls (a0:Int) (a1:Int) (r:Int) (w:World) (h:Z29.f a0 a1 = some r) :
  Calls Tryz.prog 106 #[.int .i64 a0,.int .i64 a1] w fun e w'=>e = .returned (.int .i64 r)∧Drawn0 w w':=by
 have H:=h
 unfold Z29.f at H
 clear h
 obtain ⟨t574,A3,H⟩:=bi_ H
 obtain ⟨t575,A4,H⟩:=bi_ H
 by_cases c5:t574 = true
 ·subst c5
  rw [if_pos rfl] at H
  by_cases c6:t575 = true
  ·subst c6
   rw [if_pos rfl] at H
   obtain rfl:=Option.some.inj H
   go_enter Tryz.func106,Tryz.ntmps106
   go_wp2_with (first | ((with_reducible refine gA_ (f:=110) rfl ?_);refine gL_ (some 8) Tryz.func110 #[.int .i64 a0] rfl qa_ ?_;(with_reducible refine (Z51.calls a0 true _ A3.out).mono ?_);rintro e w' ⟨rfl,⟨nd,rfl⟩⟩;refine ⟨_,rfl,?_⟩) | ((with_reducible refine gA_ (f:=110) rfl ?_);refine gL_ (some 10) Tryz.func110 #[.int .i64 a1] rfl qa_ ?_;(with_reducible refine (Z51.calls a1 true _ A4.out).mono ?_);rintro e w' ⟨rfl,⟨nd,rfl⟩⟩;refine ⟨_,rfl,?_⟩))
   go_ret
   exact ⟨qc_,by repeat (first | exact Drawn0.refl _ | apply Drawn0.step)⟩
  ·replace c6:=Bool.eq_false_iff.mpr c6
   subst c6
   have H1:(some (-1)) = some r:=by rw [if_neg (show ¬ (false = true) by decide)] at H;exact H
   clear H
   have H:=H1
   clear H1
   obtain rfl:=Option.some.inj H
   go_enter Tryz.func106,Tryz.ntmps106
   go_wp2_with (first | ((with_reducible refine gA_ (f:=110) rfl ?_);refine gL_ (some 8) Tryz.func110 #[.int .i64 a0] rfl qa_ ?_;(with_reducible refine (Z51.calls a0 true _ A3.out).mono ?_);rintro e w' ⟨rfl,⟨nd,rfl⟩⟩;refine ⟨_,rfl,?_⟩) | ((with_reducible refine gA_ (f:=110) rfl ?_);refine gL_ (some 10) Tryz.func110 #[.int .i64 a1] rfl qa_ ?_;(with_reducible refine (Z51.calls a1 false _ A4.out).mono ?_);rintro e w' ⟨rfl,⟨nd,rfl⟩⟩;refine ⟨_,rfl,?_⟩))
   go_ret
   exact ⟨qc_,by repeat (first | exact Drawn0.refl _ | apply Drawn0.step)⟩
 ·replace c5:=Bool.eq_false_iff.mpr c5
  subst c5
  have H1:(if t575 = true then (some 1) else (if a0 < a1 then (some (-1)) else (if a0 > a1 then (some 1) else (some 0)))) = some r:=by rw [if_neg (show ¬ (false = true) by decide)] at H;exact H
  clear H
  have H:=H1
  clear H1
  by_cases c7:t575 = true
  ·subst c7
   rw [if_pos rfl] at H
   obtain rfl:=Option.some.inj H
   go_enter Tryz.func106,Tryz.ntmps106
   go_wp2_with (first | ((with_reducible refine gA_ (f:=110) rfl ?_);refine gL_ (some 8) Tryz.func110 #[.int .i64 a0] rfl qa_ ?_;(with_reducible refine (Z51.calls a0 false _ A3.out).mono ?_);rintro e w' ⟨rfl,⟨nd,rfl⟩⟩;refine ⟨_,rfl,?_⟩) | ((with_reducible refine gA_ (f:=110) rfl ?_);refine gL_ (some 10) Tryz.func110 #[.int .i64 a1] rfl qa_ ?_;(with_reducible refine (Z51.calls a1 true _ A4.out).mono ?_);rintro e w' ⟨rfl,⟨nd,rfl⟩⟩;refine ⟨_,rfl,?_⟩))
   go_ret
   exact ⟨qc_,by repeat (first | exact Drawn0.refl _ | apply Drawn0.step)⟩
  ·replace c7:=Bool.eq_false_iff.mpr c7
   subst c7
   have H1:(if a0 < a1 then (some (-1)) else (if a0 > a1 then (some 1) else (some 0))) = some r:=by rw [if_neg (show ¬ (false = true) by decide)] at H;exact H
   clear H
   have H:=H1
   clear H1
   by_cases c8:a0 < a1
   ·rw [if_pos c8] at H
    have c8b0:=oC_ c8
    clear c8
    obtain rfl:=Option.some.inj H
    go_enter Tryz.func106,Tryz.ntmps106
    go_wp2_with (first | ((with_reducible refine gA_ (f:=110) rfl ?_);refine gL_ (some 8) Tryz.func110 #[.int .i64 a0] rfl qa_ ?_;(with_reducible refine (Z51.calls a0 false _ A3.out).mono ?_);rintro e w' ⟨rfl,⟨nd,rfl⟩⟩;refine ⟨_,rfl,?_⟩) | ((with_reducible refine gA_ (f:=110) rfl ?_);refine gL_ (some 10) Tryz.func110 #[.int .i64 a1] rfl qa_ ?_;(with_reducible refine (Z51.calls a1 false _ A4.out).mono ?_);rintro e w' ⟨rfl,⟨nd,rfl⟩⟩;refine ⟨_,rfl,?_⟩))
    go_ret
    exact ⟨qc_,by repeat (first | exact Drawn0.refl _ | apply Drawn0.step)⟩
   ·rw [if_neg c8] at H
    have c8b0:=oD_ c8
    clear c8
    by_cases c9:a0 > a1
    ·rw [if_pos c9] at H
     have c9b0:decide (a1 < a0) = true:=oC_ c9
     clear c9
     obtain rfl:=Option.some.inj H
     go_enter Tryz.func106,Tryz.ntmps106
     go_wp2_with (first | ((with_reducible refine gA_ (f:=110) rfl ?_);refine gL_ (some 8) Tryz.func110 #[.int .i64 a0] rfl qa_ ?_;(with_reducible refine (Z51.calls a0 false _ A3.out).mono ?_);rintro e w' ⟨rfl,⟨nd,rfl⟩⟩;refine ⟨_,rfl,?_⟩) | ((with_reducible refine gA_ (f:=110) rfl ?_);refine gL_ (some 10) Tryz.func110 #[.int .i64 a1] rfl qa_ ?_;(with_reducible refine (Z51.calls a1 false _ A4.out).mono ?_);rintro e w' ⟨rfl,⟨nd,rfl⟩⟩;refine ⟨_,rfl,?_⟩))
     go_ret
     exact ⟨qc_,by repeat (first | exact Drawn0.refl _ | apply Drawn0.step)⟩
    ·rw [if_neg c9] at H
     have c9b0:decide (a1 < a0) = false:=oD_ c9
     clear c9
     obtain rfl:=Option.some.inj H
     go_enter Tryz.func106,Tryz.ntmps106
     go_wp2_with (first | ((with_reducible refine gA_ (f:=110) rfl ?_);refine gL_ (some 8) Tryz.func110 #[.int .i64 a0] rfl qa_ ?_;(with_reducible refine (Z51.calls a0 false _ A3.out).mono ?_);rintro e w' ⟨rfl,⟨nd,rfl⟩⟩;refine ⟨_,rfl,?_⟩) | ((with_reducible refine gA_ (f:=110) rfl ?_);refine gL_ (some 10) Tryz.func110 #[.int .i64 a1] rfl qa_ ?_;(with_reducible refine (Z51.calls a1 false _ A4.out).mono ?_);rintro e w' ⟨rfl,⟨nd,rfl⟩⟩;refine ⟨_,rfl,?_⟩))
     go_ret
     exact ⟨qc_,by repeat (first | exact Drawn0.refl _ | apply Drawn0.step)⟩
def Z2.l0:Nat→List Int→List Int→List Int→Int→Int→Option (Int)
 | 0,_,_,_,_,_=>none
 | k + 1,x0,x1,x9,x10,x11=>if x11 < x10 then (if 0≤x11 then (if x11 < (x9.length:Int) then (if x11 ≥ (x1.length:Int) then (some 1) else (if x11 < (x1.length:Int) then ((Z29.f (rd x9 x11) (rd x1 x11)).bind fun t578=>(if t578 = 0 then (Z2.l0 k x0 x1 x9 x10 (wrap64 (x11 + 1))) else (some t578))) else (none))) else (none)) else (none)) else (if (x0.length:Int) < (x1.length:Int) then (some (-1)) else (some 0))
def Z2.f (k:Nat) (l0:List Int) (l1:List Int):Option (Int):=Z2.l0 k l0 l1 l0 (l0.length:Int) 0
theorem Z2.mono_l:∀ k,(∀ y0 y1 y2 y3 y4,LeO (Z2.l0 k y0 y1 y2 y3 y4) (Z2.l0 (k + 1) y0 y1 y2 y3 y4))
 | 0=>fun _ _ _ _ _ r h=>by simp [Z2.l0] at h
 | k + 1=>by
  have ih0:=Z2.mono_l k
  ·intro y0 y1 y2 y3 y4
   unfold Z2.l0
   repeat' first|exact ih0 _ _ _ _ _|exact lo_|refine LeO.ite ?_ ?_|refine LeO.bind ?_ (fun _=>?_)
theorem Z2.mono:∀ a0 a1 k,LeO (Z2.f k a0 a1) (Z2.f (k + 1) a0 a1):=by
 intro a0 a1 k
 have ih0:=Z2.mono_l k
 unfold Z2.f
 repeat' first|exact ih0 _ _ _ _ _|exact lo_|refine LeO.ite ?_ ?_|refine LeO.bind ?_ (fun _=>?_)
set_option maxHeartbeats 8000000 in
set_option maxRecDepth 100000 in
theorem Z2.calls (k:Nat) (A0:Option Addr) (c0:Nat) (l0:List Int) (A1:Option Addr) (c1:Nat) (l1:List Int) (r:Int) (w:World) (hr0:Kd.C (Kd.int .i64) w A0 l0.length l0) (hc0:l0.length≤c0) (hr1:Kd.C (Kd.int .i64) w A1 l1.length l1) (hc1:l1.length≤c1) (h:Z2.f k l0 l1 = some r) :
  Calls Tryz.prog 90 #[.slice A0 l0.length c0,.slice A1 l1.length c1] w fun e w'=>e = .returned (.int .i64 r)∧Drawn0 w w':=by
 have HR0:=A_ hr0
 have HC0:=A_ hc0
 clear hr0 hc0
 have HR1:=A_ hr1
 have HC1:=A_ hc1
 clear hr1 hc1
 have H:=h
 unfold Z2.f at H
 clear h
 have H':=A_ H
 clear H
 go_enter Tryz.func90,Tryz.ntmps90
 go_wp2
 go_loopg [11] k (fun kq v11 w'=>∃ (x11_1:Int),v11 = .int .i64 x11_1∧Aside0 (Z2.l0 kq l0 l1 l0 (l0.length:Int) x11_1 = some r)∧Aside0 (kq≤k)∧Drawn0 w w')
 case atStart=>exact ⟨(0),qc_,H',⟨nA_ _⟩,by repeat (first | exact Drawn0.refl _ | apply Drawn0.step)⟩
 case round =>
  clear H'
  obtain ⟨x11_1,rfl,HA,HK1,⟨m1,rfl⟩⟩:=hrel
  cases gk with
  | zero=>exact absurd HA.out (by simp [Z2.l0])
  | succ k1 =>
   have H:=HA.out
   clear HA
   simp only [Z2.l0] at H
   by_cases c3:x11_1 < (l0.length:Int)
   ·rw [if_pos c3] at H
    have c3b0:=oC_ c3
    clear c3
    have c4:=cp_ H
    replace H:=ca_ H
    have c4b0:=oC_ c4
    clear c4
    have c5:=cp_ H
    replace H:=ca_ H
    have c5b0:=oC_ c5
    clear c5
    by_cases c6:x11_1 ≥ (l1.length:Int)
    ·rw [if_pos c6] at H
     have c6b0:decide ((l1.length:Int)≤x11_1) = true:=oC_ c6
     clear c6
     obtain rfl:=Option.some.inj H
     have p576:0≤(x11_1:Int):=oB_ qe_
     have q576:x11_1 < (l0.length:Int):=oB_ qe_
     obtain ⟨ad576,e576,hx576_0⟩:=Kd.at_int HR0.out x11_1 p576 q576
     cases e576
     replace p576:=eq_true p576
     replace q576:=eq_true q576
     go_wp2
     go_ret
     exact ⟨qc_,by repeat (first | exact Drawn0.refl _ | apply Drawn0.step)⟩
    ·rw [if_neg c6] at H
     have c6b0:decide ((l1.length:Int)≤x11_1) = false:=oD_ c6
     clear c6
     have c7:=cp_ H
     replace H:=ca_ H
     have c7b0:=oC_ c7
     clear c7
     obtain ⟨t578,A8,H⟩:=bi_ H
     by_cases c9:t578 = 0
     ·rw [if_pos c9] at H
      have c9b0:(t578 == 0) = true:=beq_iff_eq.mpr c9
      have c9b1:(t578 != 0) = false:=bne_eq_false_iff_eq.mpr c9
      clear c9
      have H':=A_ H
      clear H
      have p576:0≤(x11_1:Int):=oB_ qe_
      have q576:x11_1 < (l0.length:Int):=oB_ qe_
      obtain ⟨ad576,e576,hx576_0⟩:=Kd.at_int HR0.out x11_1 p576 q576
      cases e576
      replace p576:=eq_true p576
      replace q576:=eq_true q576
      have p577:0≤(x11_1:Int):=oB_ qe_
      have q577:x11_1 < (l1.length:Int):=oB_ qe_
      obtain ⟨ad577,e577,hx577_0⟩:=Kd.at_int HR1.out x11_1 p577 q577
      cases e577
      replace p577:=eq_true p577
      replace q577:=eq_true q577
      go_wp2_with (first | ((with_reducible refine gA_ (f:=106) rfl ?_);refine gL_ (some 26) Tryz.func106 #[.int .i64 (rd l0 x11_1),.int .i64 (rd l1 x11_1)] rfl qa_ ?_;(with_reducible refine (Z29.calls (rd l0 x11_1) (rd l1 x11_1) t578 _ A8.out).mono ?_);rintro e w' ⟨rfl,⟨nd,rfl⟩⟩;refine ⟨_,rfl,?_⟩))
      go_roundg k1
      case measure=>have:=HK1.out;omega
      case rel=>exact ⟨(wrap64 (x11_1 + 1)),qc_,H',⟨by have:=HK1.out;omega⟩,by repeat (first | exact Drawn0.refl _ | apply Drawn0.step)⟩
     ·rw [if_neg c9] at H
      have c9b0:(t578 == 0) = false:=beq_eq_false_iff_ne.mpr c9
      have c9b1:(t578 != 0) = true:=bne_iff_ne.mpr c9
      obtain rfl:=Option.some.inj H
      have p576:0≤(x11_1:Int):=oB_ qe_
      have q576:x11_1 < (l0.length:Int):=oB_ qe_
      obtain ⟨ad576,e576,hx576_0⟩:=Kd.at_int HR0.out x11_1 p576 q576
      cases e576
      replace p576:=eq_true p576
      replace q576:=eq_true q576
      have p577:0≤(x11_1:Int):=oB_ qe_
      have q577:x11_1 < (l1.length:Int):=oB_ qe_
      obtain ⟨ad577,e577,hx577_0⟩:=Kd.at_int HR1.out x11_1 p577 q577
      cases e577
      replace p577:=eq_true p577
      replace q577:=eq_true q577
      go_wp2_with (first | ((with_reducible refine gA_ (f:=106) rfl ?_);refine gL_ (some 26) Tryz.func106 #[.int .i64 (rd l0 x11_1),.int .i64 (rd l1 x11_1)] rfl qa_ ?_;(with_reducible refine (Z29.calls (rd l0 x11_1) (rd l1 x11_1) t578 _ A8.out).mono ?_);rintro e w' ⟨rfl,⟨nd,rfl⟩⟩;refine ⟨_,rfl,?_⟩))
      go_ret
      exact ⟨qc_,by repeat (first | exact Drawn0.refl _ | apply Drawn0.step)⟩
   ·rw [if_neg c3] at H
    have c3b0:=oD_ c3
    clear c3
    by_cases c10:(l0.length:Int) < (l1.length:Int)
    ·rw [if_pos c10] at H
     have c10b0:=oC_ c10
     have c10b1:decide (l0.length < l1.length) = true:=oC_ (Int.ofNat_lt.mp c10)
     clear c10
     obtain rfl:=Option.some.inj H
     go_wp2
     go_ret
     exact ⟨qc_,by repeat (first | exact Drawn0.refl _ | apply Drawn0.step)⟩
    ·rw [if_neg c10] at H
     have c10b0:=oD_ c10
     have c10b1:decide (l0.length < l1.length) = false:=oD_ (fun h=>c10 (Int.ofNat_lt.mpr h))
     clear c10
     obtain rfl:=Option.some.inj H
     go_wp2
     go_ret
     exact ⟨qc_,by repeat (first | exact Drawn0.refl _ | apply Drawn0.step)⟩
def Z4.f (k:Nat) (l0_0:List Int) (l0_1:List Int) (l1_0:List Int) (l1_1:List Int):Option (Int):=(Z2.f k l0_0 l1_0).bind fun t581=>(if t581 = 0 then ((Z2.f k l0_1 l1_1).bind fun t582=>(some t582)) else (some t581))
theorem Z4.mono:∀ a0 a1 a2 a3 k,LeO (Z4.f k a0 a1 a2 a3) (Z4.f (k + 1) a0 a1 a2 a3):=by
 intro a0 a1 a2 a3 k
 unfold Z4.f
 repeat' first|exact Z2.mono _ _ _|exact lo_|refine LeO.ite ?_ ?_|refine LeO.bind ?_ (fun _=>?_)
set_option maxHeartbeats 8000000 in
set_option maxRecDepth 100000 in
theorem Z4.calls (k:Nat) (A0_0:Option Addr) (c0_0:Nat) (l0_0:List Int) (A0_1:Option Addr) (c0_1:Nat) (l0_1:List Int) (A1_0:Option Addr) (c1_0:Nat) (l1_0:List Int) (A1_1:Option Addr) (c1_1:Nat) (l1_1:List Int) (r:Int) (w:World) (hr0_0:Kd.C (Kd.int .i64) w A0_0 l0_0.length l0_0) (hc0_0:l0_0.length≤c0_0) (hr0_1:Kd.C (Kd.int .i64) w A0_1 l0_1.length l0_1) (hc0_1:l0_1.length≤c0_1) (hr1_0:Kd.C (Kd.int .i64) w A1_0 l1_0.length l1_0) (hc1_0:l1_0.length≤c1_0) (hr1_1:Kd.C (Kd.int .i64) w A1_1 l1_1.length l1_1) (hc1_1:l1_1.length≤c1_1) (h:Z4.f k l0_0 l0_1 l1_0 l1_1 = some r) :
  Calls Tryz.prog 58 #[.agg #[.slice A0_0 l0_0.length c0_0,.slice A0_1 l0_1.length c0_1],.agg #[.slice A1_0 l1_0.length c1_0,.slice A1_1 l1_1.length c1_1]] w fun e w'=>e = .returned (.int .i64 r)∧Below w.heap.size w w':=by
 have hu27:=Tryz.underlying27
 have HR0_0:=A_ hr0_0
 have HC0_0:=A_ hc0_0
 clear hr0_0 hc0_0
 have HR0_1:=A_ hr0_1
 have HC0_1:=A_ hc0_1
 clear hr0_1 hc0_1
 have HR1_0:=A_ hr1_0
 have HC1_0:=A_ hc1_0
 clear hr1_0 hc1_0
 have HR1_1:=A_ hr1_1
 have HC1_1:=A_ hc1_1
 clear hr1_1 hc1_1
 have HB:=A_ (Below.refl w.heap.size w)
 have H:=h
 unfold Z4.f at H
 clear h
 obtain ⟨t581,A3,H⟩:=bi_ H
 by_cases c4:t581 = 0
 ·rw [if_pos c4] at H
  have c4b0:(t581 == 0) = true:=beq_iff_eq.mpr c4
  have c4b1:(t581 != 0) = false:=bne_eq_false_iff_eq.mpr c4
  clear c4
  obtain ⟨t582,A5,H⟩:=bi_ H
  obtain rfl:=Option.some.inj H
  go_enter Tryz.func58,Tryz.ntmps58
  go_wp2_with (first | ((with_reducible refine gB_ (N:=2) rfl ?_);refine bx_ 2 #[.slice A0_0 l0_0.length c0_0,.slice A0_1 l0_1.length c0_1] 27 ?_;intro gb579 hg w6 hbox hb;have BK579:=A_ hbox;have GW579:=gw_ w hg;have GE579:=GW579;replace HB:=b1_ hb;clear hb hbox hg) | ((with_reducible refine gB_ (N:=3) rfl ?_);refine bx_ 3 #[.slice A1_0 l1_0.length c1_0,.slice A1_1 l1_1.length c1_1] 27 ?_;intro gb580 hg w7 hbox hb;have BK580:=A_ hbox;have GW580:=gw_ w hg;have GE580:=GW580;replace HB:=b1_ hb;have NB579_580:=gN_ BK579 hg;have NB580_579:=gP_ BK579 hg;replace BK579:=bb_ BK579 hb;clear hb hbox hg;have hnb8:=NB579_580.out;have hnc8:=NB580_579.out;obtain ⟨hcz9_0,hcz9_1,hfz9_0,hfz9_1⟩:=c2_ BK579;obtain ⟨hcz10_0,hcz10_1,hfz10_0,hfz10_1⟩:=c2_ BK580) | ((with_reducible refine gA_ (f:=90) rfl ?_);refine gL_ (some 10) Tryz.func90 #[.slice A0_0 l0_0.length c0_0,.slice A1_0 l1_0.length c1_0] rfl qa_ ?_;(with_reducible refine (Z2.calls k _ _ l0_0 _ _ l1_0 t581 _ (cb_ HR0_0) HC0_0.out (cb_ HR1_0) HC1_0.out A3.out).mono ?_);rintro e w' ⟨rfl,⟨nd,rfl⟩⟩;refine ⟨_,rfl,?_⟩) | ((with_reducible refine gA_ (f:=90) rfl ?_);refine gL_ (some 18) Tryz.func90 #[.slice A0_1 l0_1.length c0_1,.slice A1_1 l1_1.length c1_1] rfl qa_ ?_;(with_reducible refine (Z2.calls k _ _ l0_1 _ _ l1_1 t582 _ (cw_ (cD_ HR0_1.out hB_)) HC0_1.out (cw_ (cD_ HR1_1.out hB_)) HC1_1.out A5.out).mono ?_);rintro e w' ⟨rfl,⟨nd,rfl⟩⟩;refine ⟨_,rfl,?_⟩))
  go_ret
  exact ⟨qb_,hB_⟩
 ·rw [if_neg c4] at H
  have c4b0:(t581 == 0) = false:=beq_eq_false_iff_ne.mpr c4
  have c4b1:(t581 != 0) = true:=bne_iff_ne.mpr c4
  obtain rfl:=Option.some.inj H
  go_enter Tryz.func58,Tryz.ntmps58
  go_wp2_with (first | ((with_reducible refine gB_ (N:=2) rfl ?_);refine bx_ 2 #[.slice A0_0 l0_0.length c0_0,.slice A0_1 l0_1.length c0_1] 27 ?_;intro gb579 hg w11 hbox hb;have BK579:=A_ hbox;have GW579:=gw_ w hg;have GE579:=GW579;replace HB:=b1_ hb;clear hb hbox hg) | ((with_reducible refine gB_ (N:=3) rfl ?_);refine bx_ 3 #[.slice A1_0 l1_0.length c1_0,.slice A1_1 l1_1.length c1_1] 27 ?_;intro gb580 hg w12 hbox hb;have BK580:=A_ hbox;have GW580:=gw_ w hg;have GE580:=GW580;replace HB:=b1_ hb;have NB579_580:=gN_ BK579 hg;have NB580_579:=gP_ BK579 hg;replace BK579:=bb_ BK579 hb;clear hb hbox hg;have hnb13:=NB579_580.out;have hnc13:=NB580_579.out;obtain ⟨hcz14_0,hcz14_1,hfz14_0,hfz14_1⟩:=c2_ BK579;obtain ⟨hcz15_0,hcz15_1,hfz15_0,hfz15_1⟩:=c2_ BK580) | ((with_reducible refine gA_ (f:=90) rfl ?_);refine gL_ (some 10) Tryz.func90 #[.slice A0_0 l0_0.length c0_0,.slice A1_0 l1_0.length c1_0] rfl qa_ ?_;(with_reducible refine (Z2.calls k _ _ l0_0 _ _ l1_0 t581 _ (cb_ HR0_0) HC0_0.out (cb_ HR1_0) HC1_0.out A3.out).mono ?_);rintro e w' ⟨rfl,⟨nd,rfl⟩⟩;refine ⟨_,rfl,?_⟩))
  go_ret
  exact ⟨qb_,hB_⟩
def Z32.l0:Nat→List (S27)→Int→List Int→List Int→Option (List Int × List Int)
 | 0,_,_,_,_=>none
 | k + 1,x0,x6,x586000,x586001=>if x6 < (x0.length:Int) then (if 0≤x6 then ((Z4.f k ((rd_T27 x0 x6).f0) ((rd_T27 x0 x6).f1) x586000 x586001).bind fun t587=>(if t587 < 0 then (Z32.l0 k x0 (wrap64 (x6 + 1)) ((rd_T27 x0 x6).f0) ((rd_T27 x0 x6).f1)) else (Z32.l0 k x0 (wrap64 (x6 + 1)) x586000 x586001))) else (none)) else (some (x586000,x586001))
def Z32.f (k:Nat) (l0:List (S27)):Option (List Int × List Int):=if (l0.length:Int) < 1 then (none) else (if 0 < (l0.length:Int) then (Z32.l0 k l0 1 ((rd_T27 l0 0).f0) ((rd_T27 l0 0).f1)) else (none))
theorem Z32.mono_l:∀ k,(∀ y0 y1 y2 y3,LeO (Z32.l0 k y0 y1 y2 y3) (Z32.l0 (k + 1) y0 y1 y2 y3))
 | 0=>fun _ _ _ _ r h=>by simp [Z32.l0] at h
 | k + 1=>by
  have ih0:=Z32.mono_l k
  ·intro y0 y1 y2 y3
   unfold Z32.l0
   repeat' first|exact ih0 _ _ _ _|exact Z4.mono _ _ _ _ _|exact lo_|refine LeO.ite ?_ ?_|refine LeO.bind ?_ (fun _=>?_)
theorem Z32.mono:∀ a0 k,LeO (Z32.f k a0) (Z32.f (k + 1) a0):=by
 intro a0 k
 have ih0:=Z32.mono_l k
 unfold Z32.f
 repeat' first|exact ih0 _ _ _ _|exact Z4.mono _ _ _ _ _|exact lo_|refine LeO.ite ?_ ?_|refine LeO.bind ?_ (fun _=>?_)
def Z32.T7:Bool × List (List Nat × List Nat):=(true,[([],[]),([],[]),([],[]),([1,2],[1,2]),([3],[3]),([],[]),([0,4,5],[0,4,5]),([6],[6])])
def Z32.B7:List Nat:=[0,0,0,6,14,0,63,127]
theorem Z32.tab7:rtab .any (opsOf Tryz.f57 7) = Z32.T7:=by kernel_rfl
theorem Z32.bits7:waitsOk Z32.T7.2 Z32.B7 = true:=by kernel_rfl
def AtJ (w:World) (l0:List S27) (A:Option Addr) (u0 u1:Value) (x0 x1:List Int):Prop:=∃ (ad:Addr) (j:Nat),A = some ad∧j < l0.length∧w.cell? (ad.add (j * 2)) = some u0∧w.cell? ⟨(ad.add (j * 2)).block,(ad.add (j * 2)).off + 1,none⟩ = some u1∧x0 = (rd_T27 l0 (j:Int)).f0∧x1 = (rd_T27 l0 (j:Int)).f1
theorem atJ_of {w w':World} {P:Nat→Prop} {b:Nat} {ad:Addr} {c:Nat} {l0:List S27} (hs0:Kd.V k27 27 w b P (.slice (some ad) l0.length c) l0) (hB:Below w.heap.size w w') (i:Int) (h0:0≤i) (h1:i < (l0.length:Int)) {u0 u1:Value} (hx0:w'.cell? (ad.add (i.toNat * 2)) = some u0) (hx1:w'.cell? ⟨(ad.add (i.toNat * 2)).block,(ad.add (i.toNat * 2)).off + 1,none⟩ = some u1):AtJ w l0 (some ad) u0 u1 (rd_T27 l0 i).f0 (rd_T27 l0 i).f1:=by
 obtain ⟨ad',A0,c0,A1,c1,e,y0,y1,_⟩:=at_T27 (Kd.V_reads' hs0).2.2 i h0 h1
 injection e with e
 subst e
 have z0:=hB.cell (World.block_lt_of_cell? w _ y0)
 have z1:=hB.cell (World.block_lt_of_cell? w _ y1)
 have e:((i.toNat:Nat):Int) = i:=Int.toNat_of_nonneg h0
 exact ⟨ad,i.toNat,rfl,by omega,z0.symm.trans hx0,z1.symm.trans hx1,by rw [e],by rw [e]⟩
theorem atJ_own {w w':World} {base:Nat} {ok:Nat→Prop} {A:Option Addr} {c:Nat} {l0:List S27} {u0 u1:Value} {x0 x1:List Int} (hS:Kd.S k27 27 w base ok (.slice A l0.length c) l0) (hJ:AtJ w l0 A u0 u1 x0 x1) (hB:Below w.heap.size w w'):Kd.R (Kd.int .i64) 3 w' base ok u0 x0∧Kd.R (Kd.int .i64) 3 w' base ok u1 x1∧NeRow u0 u1:=by
 obtain ⟨ad,j,rfl,hj,h0,h1,rfl,rfl⟩:=hJ
 obtain ⟨c,hcl,hM,hc⟩:=Kd.R_getA (Kd.S_R hS) z27 (j:Int) (by omega) (by omega)
 have hc':∀ i u,c[i]? = some u→w.cell? (ad.add (j * 2 + i)) = some u:=hc
 obtain ⟨v0,v1,rfl,g0,g1,ne⟩:=k27_openN hM
 have e0:=hc' 0 v0 rfl
 have e1:=hc' 1 v1 rfl
 rw [add_field _ _ 1 (by omega)] at e1
 rw [Nat.add_zero] at e0
 obtain rfl:u0 = v0:=Option.some.inj (h0.symm.trans e0)
 obtain rfl:u1 = v1:=Option.some.inj (h1.symm.trans e1)
 exact ⟨Kd.R_mono (rD_ g0 hB) (fun _ h=>h.1),Kd.R_mono (rD_ g1 hB) (fun _ h=>h.1),ne⟩
set_option maxHeartbeats 8000000 in
set_option maxRecDepth 100000 in
theorem Z32.calls (k:Nat) (P0_:Nat→Prop) (A0:Option Addr) (c0:Nat) (l0:List (S27)) (r1:List Int) (r2:List Int) (w:World) (hs0:Kd.V k27 27 w w.heap.size (fun k_=>P0_ k_) (.slice A0 l0.length c0) l0) (h:Z32.f k l0 = some (r1,r2)) :
  Calls Tryz.prog 57 #[.slice A0 l0.length c0,.func (.func 58) #[] #[]] w fun e w'=>∃ v0_ v1_:Value,e = .returned (.agg #[v0_,v1_])∧Kd.V (Kd.int .i64) 3 w' w.heap.size (fun k_=>(P0_ k_ ∨ w.heap.size≤k_)) v0_ r1∧Kd.V (Kd.int .i64) 3 w' w.heap.size (fun k_=>(P0_ k_ ∨ w.heap.size≤k_)) v1_ r2∧Below w.heap.size w w'∧AtJ w l0 A0 v0_ v1_ r1 r2:=by
 have HS0:=A_ hs0
 have hu27:=Tryz.underlying27
 have HO0:=A_ (show Kd.V k27 27 w w.heap.size (fun k_=>(P0_ k_ ∨ w.heap.size≤k_)) (.slice A0 l0.length c0) l0 from Kd.V_mono hs0 (fun k_ hk=>.inl hk))
 have HB:=A_ (Below.refl w.heap.size w)
 have H:=h
 unfold Z32.f at H
 clear h
 by_cases c2:(l0.length:Int) < 1
 ·rw [if_pos c2] at H
  exact absurd H (by simp)
 ·rw [if_neg c2] at H
  have c2b0:=oD_ c2
  have c2b1:decide (l0.length < 1) = false:=oD_ (by omega)
  clear c2
  have c3:=cp_ H
  replace H:=ca_ H
  have c3b0:=oC_ c3
  have c3b1:decide (0 < l0.length) = true:=oC_ (by omega)
  clear c3
  have H':=A_ H
  clear H
  go_enter Tryz.func57,Tryz.ntmps57
  go_wp2_with (first | ((with_reducible refine gB_ (N:=4) rfl ?_);refine bx_ 4 #[.slice none 0 0,.slice none 0 0] 27 ?_;intro gb583 hg w4 hbox hb;replace HO0:=A_ (Kd.V_below (Kd.V_elderB (by (with_reducible repeat (first | apply Kd.V_alloc | apply Kd.V_drewN | apply Kd.V_drew));exact HO0.out) gb583 (Nat.le_of_eq hg.symm)) hb);have BK583:=A_ hbox;have GW583:=gw_ w hg;have GE583:=GW583;replace HB:=b1_ hb;clear hb hbox hg;have p584:0≤(0:Int):=(by omega);have q584:0 < (l0.length:Int):=oB_ qe_;obtain ⟨ad584,A584_0,c584_0,A584_1,c584_1,e584,hx584_0,hx584_1,hl584_0,hi584_0,hl584_1,hi584_1⟩:=at_T27 (Kd.V_reads' HO0.out).2.2 0 p584 q584;cases e584;obtain ⟨ce584,hce584,hMe584,hcc584⟩:=Kd.V_get HO0.out z27 0 p584 (by first | exact q584 | exact oB_ qe_ | (have e_:=(Kd.V_reads' HO0.out).1;omega));obtain ⟨ua584_0,uc584_0,ua584_1,uc584_1,rfl,ul584_0,ge584_0,ul584_1,ge584_1⟩:=k27_openF hMe584;have hv584_0:=hcc584 0 _ rfl;rw [Nat.add_zero] at hv584_0;replace hv584_0:=Option.some.inj (hv584_0.symm.trans hx584_0);injection hv584_0 with hva_ hvn_ hvc_;rw [hva_] at ge584_0;rw [hvc_] at ul584_0;have HL584_0:=A_ (show Kd.V (Kd.int .i64) 3 _ w.heap.size _ _ ((rd_T27 l0 0).f0) from Kd.V_mk ul584_0 ge584_0);clear hva_ hvn_ hvc_ ge584_0 ul584_0;have hv584_1:=hcc584 1 _ rfl;rw [add_field _ _ 1 (by omega)] at hv584_1;replace hv584_1:=Option.some.inj (hv584_1.symm.trans hx584_1);injection hv584_1 with hva_ hvn_ hvc_;rw [hva_] at ge584_1;rw [hvc_] at ul584_1;have HL584_1:=A_ (show Kd.V (Kd.int .i64) 3 _ w.heap.size _ _ ((rd_T27 l0 0).f1) from Kd.V_mk ul584_1 ge584_1);clear hva_ hvn_ hvc_ ge584_1 ul584_1;clear hcc584 hce584;have HJ:=A_ (atJ_of HS0.out hB_ 0 p584 q584 hx584_0 hx584_1);have qi584:(0 < l0.length) = True:=eq_true (by omega);(try rw [show ((0:Int)).toNat = 0 from rfl] at hx584_0);(try rw [show 0 * 2 = 0 from rfl] at hx584_0);(try rw [Addr.add_zero'] at hx584_0);(try rw [show ((0:Int)).toNat = 0 from rfl] at hx584_1);(try rw [show 0 * 2 = 0 from rfl] at hx584_1);(try rw [Addr.add_zero'] at hx584_1);have HR584_0:=A_ hi584_0;have HC584_0:=A_ hl584_0;clear hi584_0 hl584_0;have HR584_1:=A_ hi584_1;have HC584_1:=A_ hl584_1;clear hi584_1 hl584_1;replace p584:=eq_true p584;replace q584:=eq_true q584) | ((with_reducible refine gB_ (N:=5) rfl ?_);refine bx_ 5 #[.slice none 0 0,.slice none 0 0] 27 ?_;intro gb585 hg w5 hbox hb;replace HO0:=A_ (Kd.V_below (Kd.V_elderB (by (with_reducible repeat (first | apply Kd.V_alloc | apply Kd.V_drewN | apply Kd.V_drew));exact HO0.out) gb585 (Nat.le_of_eq hg.symm)) hb);replace HL584_0:=A_ (Kd.V_below (Kd.V_elderB (by (with_reducible repeat (first | apply Kd.V_alloc | apply Kd.V_drewN | apply Kd.V_drew));exact HL584_0.out) gb585 (Nat.le_of_eq hg.symm)) hb);replace HL584_1:=A_ (Kd.V_below (Kd.V_elderB (by (with_reducible repeat (first | apply Kd.V_alloc | apply Kd.V_drewN | apply Kd.V_drew));exact HL584_1.out) gb585 (Nat.le_of_eq hg.symm)) hb);have BK585:=A_ hbox;have GW585:=gw_ w hg;have GE585:=GW585;replace HB:=b1_ hb;have NB583_585:=gN_ BK583 hg;have NB585_583:=gP_ BK583 hg;replace BK583:=bb_ BK583 hb;clear hb hbox hg;have hnb6:=NB585_583.out;have hnc6:=NB583_585.out;obtain ⟨hcz7_0,hcz7_1,hfz7_0,hfz7_1⟩:=c2_ BK585))
  go_loopg [6] k (fun kq v6 w'=>∃ (x6_1:Int) (x586000_1:List Int) (x586001_1:List Int) (u586000:Value) (u586001:Value),v6 = .int .i64 x6_1∧Aside0 (Z32.l0 kq l0 x6_1 x586000_1 x586001_1 = some (r1,r2))∧Aside0 (kq≤k)∧Aside0 (Kd.V k27 27 w' w.heap.size (fun k_=>(P0_ k_ ∨ w.heap.size≤k_)∧k_≠gb583∧k_≠gb585) (.slice (some ad584) l0.length c0) l0)∧Aside0 (Kd.V (Kd.int .i64) 3 w' w.heap.size (fun k_=>(P0_ k_ ∨ w.heap.size≤k_)∧k_≠gb583∧k_≠gb585) u586000 x586000_1)∧Aside0 (Kd.V (Kd.int .i64) 3 w' w.heap.size (fun k_=>(P0_ k_ ∨ w.heap.size≤k_)∧k_≠gb583∧k_≠gb585) u586001 x586001_1)∧Aside0 (w'.heap[gb583]? = some (.cells #[(.slice none 0 0),(.slice none 0 0)] 27 (0,0)))∧Aside0 (w'.heap[gb585]? = some (.cells #[u586000,u586001] 27 (0,0)))∧Aside0 (Below w.heap.size w w')∧Aside0 (AtJ w l0 (some ad584) u586000 u586001 x586000_1 x586001_1))
  case atStart=>exact ⟨(1),((rd_T27 l0 0).f0),((rd_T27 l0 0).f1),(.slice A584_0 ((rd_T27 l0 0).f0).length c584_0),(.slice A584_1 ((rd_T27 l0 0).f1).length c584_1),qc_,H',⟨nA_ _⟩,⟨by (with_reducible repeat (first | apply Kd.V_alloc | apply Kd.V_drewN | apply Kd.V_drew));exact Kd.V_mono (Kd.V_far (p:=⟨gb585,1,none⟩) (Kd.V_far (p:=⟨gb585,0,none⟩) (Kd.V_mono HO0.out (fun k_ hk=>(⟨hk,hk.2⟩:_∧k_≠gb585))) (fun _ hk=>hk.2) (.slice A584_0 ((rd_T27 l0 0).f0).length c584_0)) (fun _ hk=>hk.2) (.slice A584_1 ((rd_T27 l0 0).f1).length c584_1)) (fun _ hk=>⟨hk.1.1.1,⟨hk.1.1.2,hk.1.2⟩⟩)⟩,⟨by (with_reducible repeat (first | apply Kd.V_alloc | apply Kd.V_drewN | apply Kd.V_drew));exact Kd.V_mono (Kd.V_far (p:=⟨gb585,1,none⟩) (Kd.V_far (p:=⟨gb585,0,none⟩) (Kd.V_mono HL584_0.out (fun k_ hk=>(⟨hk,hk.2⟩:_∧k_≠gb585))) (fun _ hk=>hk.2) (.slice A584_0 ((rd_T27 l0 0).f0).length c584_0)) (fun _ hk=>hk.2) (.slice A584_1 ((rd_T27 l0 0).f1).length c584_1)) (fun _ hk=>⟨hk.1.1.1,⟨hk.1.1.2,hk.1.2⟩⟩)⟩,⟨by (with_reducible repeat (first | apply Kd.V_alloc | apply Kd.V_drewN | apply Kd.V_drew));exact Kd.V_mono (Kd.V_far (p:=⟨gb585,1,none⟩) (Kd.V_far (p:=⟨gb585,0,none⟩) (Kd.V_mono HL584_1.out (fun k_ hk=>(⟨hk,hk.2⟩:_∧k_≠gb585))) (fun _ hk=>hk.2) (.slice A584_0 ((rd_T27 l0 0).f0).length c584_0)) (fun _ hk=>hk.2) (.slice A584_1 ((rd_T27 l0 0).f1).length c584_1)) (fun _ hk=>⟨hk.1.1.1,⟨hk.1.1.2,hk.1.2⟩⟩)⟩,⟨by (with_reducible repeat (first | refine kA_ ?_ _ | refine kB_ ?_ | refine kC_ ?_ _));refine blk_far ?_ NB583_585.out _;(with_reducible repeat (first | refine kA_ ?_ _ | refine kB_ ?_ | refine kC_ ?_ _));refine blk_far ?_ NB583_585.out _;(with_reducible repeat (first | refine kA_ ?_ _ | refine kB_ ?_ | refine kC_ ?_ _));exact BK583.out⟩,⟨qp_⟩,⟨hB_⟩,HJ⟩
  case round =>
   clear H'
   obtain ⟨x6_1,x586000_1,x586001_1,u586000,u586001,rfl,HA,HK1,HO_0,HO_586000,HO_586001,BK583,BK585,HB,HJ⟩:=hrel
   cases gk with
   | zero=>exact absurd HA.out (by simp [Z32.l0])
   | succ k1 =>
    have H:=HA.out
    clear HA
    simp only [Z32.l0] at H
    by_cases c8:x6_1 < (l0.length:Int)
    ·rw [if_pos c8] at H
     have c8b0:=oC_ c8
     clear c8
     have c9:=cp_ H
     replace H:=ca_ H
     have c9b0:=oC_ c9
     clear c9
     obtain ⟨t587,A10,H⟩:=bi_ H
     by_cases c11:t587 < 0
     ·rw [if_pos c11] at H
      have c11b0:=oC_ c11
      clear c11
      have H':=A_ H
      clear H
      try go_wp2
      replace HO_0:=A_ (Kd.V_drew HO_0.out)
      replace HO_586000:=A_ (Kd.V_drew HO_586000.out)
      replace HO_586001:=A_ (Kd.V_drew HO_586001.out)
      replace BK583:=A_ (kB_ BK583.out)
      replace BK585:=A_ (kB_ BK585.out)
      replace HB:=A_ (bC_ HB.out)
      have p586:0≤(x6_1:Int):=oB_ qe_
      have q586:x6_1 < (l0.length:Int):=oB_ qe_
      obtain ⟨ad586,A586_0,c586_0,A586_1,c586_1,e586,hx586_0,hx586_1,hl586_0,hi586_0,hl586_1,hi586_1⟩:=at_T27 (Kd.V_reads' HO_0.out).2.2 x6_1 p586 q586
      obtain rfl:ad584 = ad586:=(by injection e586)
      obtain ⟨ce586,hce586,hMe586,hcc586⟩:=Kd.V_get HO_0.out z27 x6_1 p586 (by first | exact q586 | exact oB_ qe_ | (have e_:=(Kd.V_reads' HO_0.out).1;omega))
      obtain ⟨ua586_0,uc586_0,ua586_1,uc586_1,rfl,ul586_0,ge586_0,ul586_1,ge586_1⟩:=k27_openF hMe586
      have hv586_0:=hcc586 0 _ rfl
      rw [Nat.add_zero] at hv586_0
      replace hv586_0:=Option.some.inj (hv586_0.symm.trans hx586_0)
      injection hv586_0 with hva_ hvn_ hvc_
      rw [hva_] at ge586_0
      rw [hvc_] at ul586_0
      have HL586_0:=A_ (show Kd.V (Kd.int .i64) 3 _ w.heap.size _ _ ((rd_T27 l0 x6_1).f0) from Kd.V_mk ul586_0 ge586_0)
      clear hva_ hvn_ hvc_ ge586_0 ul586_0
      have hv586_1:=hcc586 1 _ rfl
      rw [add_field _ _ 1 (by omega)] at hv586_1
      replace hv586_1:=Option.some.inj (hv586_1.symm.trans hx586_1)
      injection hv586_1 with hva_ hvn_ hvc_
      rw [hva_] at ge586_1
      rw [hvc_] at ul586_1
      have HL586_1:=A_ (show Kd.V (Kd.int .i64) 3 _ w.heap.size _ _ ((rd_T27 l0 x6_1).f1) from Kd.V_mk ul586_1 ge586_1)
      clear hva_ hvn_ hvc_ ge586_1 ul586_1
      clear hcc586 hce586
      have HJ586:=A_ (atJ_of HS0.out hB_ x6_1 p586 q586 hx586_0 hx586_1)
      have HR586_0:=A_ hi586_0
      have HC586_0:=A_ hl586_0
      clear hi586_0 hl586_0
      have HR586_1:=A_ hi586_1
      have HC586_1:=A_ hl586_1
      clear hi586_1 hl586_1
      replace p586:=eq_true p586
      replace q586:=eq_true q586
      obtain ⟨Ao13,co13,eo13⟩:=Kd.V_slice HO_586000.out
      (first | subst eo13 | (injection eo13 with f1_ f2_ f3_;have f4_:=f1_.symm;have f5_:=f3_.symm;clear f1_ f2_ f3_;subst f4_;subst f5_))
      obtain ⟨Ao14,co14,eo14⟩:=Kd.V_slice HO_586001.out
      (first | subst eo14 | (injection eo14 with f1_ f2_ f3_;have f4_:=f1_.symm;have f5_:=f3_.symm;clear f1_ f2_ f3_;subst f4_;subst f5_))
      refine start_ (n:=8) (S:=fun w'=>w'.cell? ⟨gb585,0,none⟩ = some (.slice Ao13 x586000_1.length co13)∧w'.cell? ⟨gb585,1,none⟩ = some (.slice Ao14 x586001_1.length co14)∧w'.cell? (ad584.add ((x6_1).toNat * 2)) = some (.slice A586_0 ((rd_T27 l0 x6_1).f0).length c586_0)∧w'.cell? ⟨(ad584.add ((x6_1).toNat * 2)).block,(ad584.add ((x6_1).toNat * 2)).off + 1,none⟩ = some (.slice A586_1 ((rd_T27 l0 x6_1).f1).length c586_1)) (ds:=[]) (bl_ 8 0) (by kernel_rfl) rfl (by kernel_rfl) ⟨cz0_ BK585,cz1_ BK585,hx586_0,hx586_1⟩ (fun hHeld=>?_);refine with_tabW Z32.tab7 Z32.bits7 (fun HT_ HW_=>?_)
      generalize wr.drew = w12 at HO_0 HO_586000 HO_586001 BK583 BK585 HB HL586_0 HL586_1 HR586_0 HR586_1 hx586_0 hx586_1 hHeld ⊢
      refine pu_ 0 (some 20) (bl_ 8 1) HT_ ?_
      refine pu_ 1 (some 21) (bl_ 8 3) HT_ ?_
      refine pu_ 2 (some 22) (bl_ 8 7) HT_ ?_
      refine pu_ 3 (some 23) (bl_ 8 15) HT_ ?_
      refine ta_ 4 (some 24) (bl_ 8 31) HT_ HW_ hHeld ?_
      refine ta_ 5 (some 25) (bl_ 8 63) HT_ HW_ hHeld ?_
      refine on_ 6 (some 26) (bl_ 8 127) HT_ (fun K hK=>?_)
      refine goesF_ Tryz.func58 (by kernel_rfl) rfl #[.agg #[.slice A586_0 ((rd_T27 l0 x6_1).f0).length c586_0,.slice A586_1 ((rd_T27 l0 x6_1).f1).length c586_1],.agg #[.slice Ao13 x586000_1.length co13,.slice Ao14 x586001_1.length co14]] (by rfl) rfl rfl qa_ ?_
      with_reducible refine (Z4.calls k1 _ _ ((rd_T27 l0 x6_1).f0) _ _ ((rd_T27 l0 x6_1).f1) _ _ x586000_1 _ _ x586001_1 t587 _ ?side1 ?side2 ?side3 ?side4 ?side5 ?side6 ?side7 ?side8 A10.out).mono ?_
      (case side1=>repeat (first | exact (by repeat (first | (with_reducible exact HR586_0.out) | (with_reducible refine cA_ ?_ _) | (with_reducible refine cB_ ?_ _) | (with_reducible refine cC_ ?_) | exact HR586_0.out)) | (with_reducible first | refine cA_ ?_ _ | refine cB_ ?_ _ | refine cC_ ?_)))
      (case side2=>exact HC586_0.out)
      (case side3=>repeat (first | exact (by repeat (first | (with_reducible exact HR586_1.out) | (with_reducible refine cA_ ?_ _) | (with_reducible refine cB_ ?_ _) | (with_reducible refine cC_ ?_) | exact HR586_1.out)) | (with_reducible first | refine cA_ ?_ _ | refine cB_ ?_ _ | refine cC_ ?_)))
      (case side4=>exact HC586_1.out)
      (case side5=>exact cw_ ((Kd.V_reads' HO_586000.out).2.2))
      (case side6=>exact (Kd.V_reads' HO_586000.out).2.1)
      (case side7=>exact cw_ ((Kd.V_reads' HO_586001.out).2.2))
      (case side8=>exact (Kd.V_reads' HO_586001.out).2.1)
      rintro e w15 ⟨rfl,hb⟩
      have HS2_:=(hb.cell (World.block_lt_of_cell? _ _ (hHeld.2.2.1))).trans (hHeld.2.2.1)
      have HS3_:=(hb.cell (World.block_lt_of_cell? _ _ (hHeld.2.2.2))).trans (hHeld.2.2.2)
      refine ⟨_,rfl,?_⟩
      replace HO_0:=A_ (Kd.V_below (by (with_reducible repeat (first | apply Kd.V_alloc | apply Kd.V_drewN | apply Kd.V_drew));exact HO_0.out) hb)
      replace HO_586000:=A_ (Kd.V_below (by (with_reducible repeat (first | apply Kd.V_alloc | apply Kd.V_drewN | apply Kd.V_drew));exact HO_586000.out) hb)
      replace HO_586001:=A_ (Kd.V_below (by (with_reducible repeat (first | apply Kd.V_alloc | apply Kd.V_drewN | apply Kd.V_drew));exact HO_586001.out) hb)
      replace HL586_0:=A_ (Kd.V_below (by (with_reducible repeat (first | apply Kd.V_alloc | apply Kd.V_drewN | apply Kd.V_drew));exact HL586_0.out) hb)
      replace HL586_1:=A_ (Kd.V_below (by (with_reducible repeat (first | apply Kd.V_alloc | apply Kd.V_drewN | apply Kd.V_drew));exact HL586_1.out) hb)
      replace BK583:=bb_ BK583 hb
      replace BK585:=bb_ BK585 hb
      replace HR586_0:=A_ (cD_ (by repeat (first | (with_reducible exact HR586_0.out) | (with_reducible refine cA_ ?_ _) | (with_reducible refine cB_ ?_ _) | (with_reducible refine cC_ ?_) | exact HR586_0.out)) hb)
      replace HR586_1:=A_ (cD_ (by repeat (first | (with_reducible exact HR586_1.out) | (with_reducible refine cA_ ?_ _) | (with_reducible refine cB_ ?_ _) | (with_reducible refine cC_ ?_) | exact HR586_1.out)) hb)
      replace HB:=b1_ hb
      clear hb
      refine hK.out _ _ ⟨cz0_ BK585,cz1_ BK585,HS2_,HS3_⟩ (fun hHeld=>?_)
      clear hK K
      refine no_ (some 26) ?_
      refine pu_ 7 (some 27) (bl_ 8 255) HT_ ?_
      refine done_ (done_of HT_.out (by kernel_rfl)) ?_
      have p588:0≤(x6_1:Int):=oB_ qe_
      have q588:x6_1 < (l0.length:Int):=oB_ qe_
      obtain ⟨ad588,A588_0,c588_0,A588_1,c588_1,e588,hx588_0,hx588_1,hl588_0,hi588_0,hl588_1,hi588_1⟩:=at_T27 (Kd.V_reads' HO_0.out).2.2 x6_1 p588 q588
      obtain rfl:ad584 = ad588:=(by injection e588)
      have e0_:=Option.some.inj (hx588_0.symm.trans hHeld.2.2.1)
      injection e0_ with f1_ f2_ f3_
      have e1_:=Option.some.inj (hx588_1.symm.trans hHeld.2.2.2)
      injection e1_ with f4_ f5_ f6_
      subst f1_ f3_ f4_ f6_
      clear f2_ f5_
      obtain ⟨ce588,hce588,hMe588,hcc588⟩:=Kd.V_get HO_0.out z27 x6_1 p588 (by first | exact q588 | exact oB_ qe_ | (have e_:=(Kd.V_reads' HO_0.out).1;omega))
      obtain ⟨ua588_0,uc588_0,ua588_1,uc588_1,rfl,ul588_0,ge588_0,ul588_1,ge588_1⟩:=k27_openF hMe588
      have hv588_0:=hcc588 0 _ rfl
      rw [Nat.add_zero] at hv588_0
      replace hv588_0:=Option.some.inj (hv588_0.symm.trans hx588_0)
      injection hv588_0 with hva_ hvn_ hvc_
      rw [hva_] at ge588_0
      rw [hvc_] at ul588_0
      have HL588_0:=A_ (show Kd.V (Kd.int .i64) 3 _ w.heap.size _ _ ((rd_T27 l0 x6_1).f0) from Kd.V_mk ul588_0 ge588_0)
      clear hva_ hvn_ hvc_ ge588_0 ul588_0
      have hv588_1:=hcc588 1 _ rfl
      rw [add_field _ _ 1 (by omega)] at hv588_1
      replace hv588_1:=Option.some.inj (hv588_1.symm.trans hx588_1)
      injection hv588_1 with hva_ hvn_ hvc_
      rw [hva_] at ge588_1
      rw [hvc_] at ul588_1
      have HL588_1:=A_ (show Kd.V (Kd.int .i64) 3 _ w.heap.size _ _ ((rd_T27 l0 x6_1).f1) from Kd.V_mk ul588_1 ge588_1)
      clear hva_ hvn_ hvc_ ge588_1 ul588_1
      clear hcc588 hce588
      have HJ588:=A_ (atJ_of HS0.out hB_ x6_1 p588 q588 hx588_0 hx588_1)
      have HR588_0:=A_ hi588_0
      have HC588_0:=A_ hl588_0
      clear hi588_0 hl588_0
      have HR588_1:=A_ hi588_1
      have HC588_1:=A_ hl588_1
      clear hi588_1 hl588_1
      replace p588:=eq_true p588
      replace q588:=eq_true q588
      have hnb16:=NB585_583.out
      have hnc16:=NB583_585.out
      obtain ⟨hcz17_0,hcz17_1,hfz17_0,hfz17_1⟩:=c2_ BK585
      try go_wp2
      go_roundg k1
      case measure=>have:=HK1.out;omega
      case rel=>exact ⟨(wrap64 (x6_1 + 1)),((rd_T27 l0 x6_1).f0),((rd_T27 l0 x6_1).f1),(.slice A588_0 ((rd_T27 l0 x6_1).f0).length c588_0),(.slice A588_1 ((rd_T27 l0 x6_1).f1).length c588_1),qc_,H',⟨by have:=HK1.out;omega⟩,⟨by (with_reducible repeat (first | apply Kd.V_alloc | apply Kd.V_drewN | apply Kd.V_drew));exact Kd.V_mono (Kd.V_far (p:=⟨gb585,1,none⟩) (Kd.V_far (p:=⟨gb585,0,none⟩) (Kd.V_mono HO_0.out (fun k_ hk=>(⟨hk,hk.2.2⟩:_∧k_≠gb585))) (fun _ hk=>hk.2) (.slice A588_0 ((rd_T27 l0 x6_1).f0).length c588_0)) (fun _ hk=>hk.2) (.slice A588_1 ((rd_T27 l0 x6_1).f1).length c588_1)) (fun _ hk=>⟨hk.1.1,⟨hk.1.2.1,hk.1.2.2⟩⟩)⟩,⟨by (with_reducible repeat (first | apply Kd.V_alloc | apply Kd.V_drewN | apply Kd.V_drew));exact Kd.V_mono (Kd.V_far (p:=⟨gb585,1,none⟩) (Kd.V_far (p:=⟨gb585,0,none⟩) (Kd.V_mono HL588_0.out (fun k_ hk=>(⟨hk,hk.2.2⟩:_∧k_≠gb585))) (fun _ hk=>hk.2) (.slice A588_0 ((rd_T27 l0 x6_1).f0).length c588_0)) (fun _ hk=>hk.2) (.slice A588_1 ((rd_T27 l0 x6_1).f1).length c588_1)) (fun _ hk=>⟨hk.1.1,⟨hk.1.2.1,hk.1.2.2⟩⟩)⟩,⟨by (with_reducible repeat (first | apply Kd.V_alloc | apply Kd.V_drewN | apply Kd.V_drew));exact Kd.V_mono (Kd.V_far (p:=⟨gb585,1,none⟩) (Kd.V_far (p:=⟨gb585,0,none⟩) (Kd.V_mono HL588_1.out (fun k_ hk=>(⟨hk,hk.2.2⟩:_∧k_≠gb585))) (fun _ hk=>hk.2) (.slice A588_0 ((rd_T27 l0 x6_1).f0).length c588_0)) (fun _ hk=>hk.2) (.slice A588_1 ((rd_T27 l0 x6_1).f1).length c588_1)) (fun _ hk=>⟨hk.1.1,⟨hk.1.2.1,hk.1.2.2⟩⟩)⟩,⟨by (with_reducible repeat (first | refine kA_ ?_ _ | refine kB_ ?_ | refine kC_ ?_ _));refine blk_far ?_ NB583_585.out _;(with_reducible repeat (first | refine kA_ ?_ _ | refine kB_ ?_ | refine kC_ ?_ _));refine blk_far ?_ NB583_585.out _;(with_reducible repeat (first | refine kA_ ?_ _ | refine kB_ ?_ | refine kC_ ?_ _));exact BK583.out⟩,⟨qp_⟩,⟨hB_⟩,HJ588⟩
     ·rw [if_neg c11] at H
      have c11b0:=oD_ c11
      clear c11
      have H':=A_ H
      clear H
      try go_wp2
      replace HO_0:=A_ (Kd.V_drew HO_0.out)
      replace HO_586000:=A_ (Kd.V_drew HO_586000.out)
      replace HO_586001:=A_ (Kd.V_drew HO_586001.out)
      replace BK583:=A_ (kB_ BK583.out)
      replace BK585:=A_ (kB_ BK585.out)
      replace HB:=A_ (bC_ HB.out)
      have p586:0≤(x6_1:Int):=oB_ qe_
      have q586:x6_1 < (l0.length:Int):=oB_ qe_
      obtain ⟨ad586,A586_0,c586_0,A586_1,c586_1,e586,hx586_0,hx586_1,hl586_0,hi586_0,hl586_1,hi586_1⟩:=at_T27 (Kd.V_reads' HO_0.out).2.2 x6_1 p586 q586
      obtain rfl:ad584 = ad586:=(by injection e586)
      obtain ⟨ce586,hce586,hMe586,hcc586⟩:=Kd.V_get HO_0.out z27 x6_1 p586 (by first | exact q586 | exact oB_ qe_ | (have e_:=(Kd.V_reads' HO_0.out).1;omega))
      obtain ⟨ua586_0,uc586_0,ua586_1,uc586_1,rfl,ul586_0,ge586_0,ul586_1,ge586_1⟩:=k27_openF hMe586
      have hv586_0:=hcc586 0 _ rfl
      rw [Nat.add_zero] at hv586_0
      replace hv586_0:=Option.some.inj (hv586_0.symm.trans hx586_0)
      injection hv586_0 with hva_ hvn_ hvc_
      rw [hva_] at ge586_0
      rw [hvc_] at ul586_0
      have HL586_0:=A_ (show Kd.V (Kd.int .i64) 3 _ w.heap.size _ _ ((rd_T27 l0 x6_1).f0) from Kd.V_mk ul586_0 ge586_0)
      clear hva_ hvn_ hvc_ ge586_0 ul586_0
      have hv586_1:=hcc586 1 _ rfl
      rw [add_field _ _ 1 (by omega)] at hv586_1
      replace hv586_1:=Option.some.inj (hv586_1.symm.trans hx586_1)
      injection hv586_1 with hva_ hvn_ hvc_
      rw [hva_] at ge586_1
      rw [hvc_] at ul586_1
      have HL586_1:=A_ (show Kd.V (Kd.int .i64) 3 _ w.heap.size _ _ ((rd_T27 l0 x6_1).f1) from Kd.V_mk ul586_1 ge586_1)
      clear hva_ hvn_ hvc_ ge586_1 ul586_1
      clear hcc586 hce586
      have HJ586:=A_ (atJ_of HS0.out hB_ x6_1 p586 q586 hx586_0 hx586_1)
      have HR586_0:=A_ hi586_0
      have HC586_0:=A_ hl586_0
      clear hi586_0 hl586_0
      have HR586_1:=A_ hi586_1
      have HC586_1:=A_ hl586_1
      clear hi586_1 hl586_1
      replace p586:=eq_true p586
      replace q586:=eq_true q586
      obtain ⟨Ao19,co19,eo19⟩:=Kd.V_slice HO_586000.out
      (first | subst eo19 | (injection eo19 with f1_ f2_ f3_;have f4_:=f1_.symm;have f5_:=f3_.symm;clear f1_ f2_ f3_;subst f4_;subst f5_))
      obtain ⟨Ao20,co20,eo20⟩:=Kd.V_slice HO_586001.out
      (first | subst eo20 | (injection eo20 with f1_ f2_ f3_;have f4_:=f1_.symm;have f5_:=f3_.symm;clear f1_ f2_ f3_;subst f4_;subst f5_))
      refine start_ (n:=8) (S:=fun w'=>w'.cell? ⟨gb585,0,none⟩ = some (.slice Ao19 x586000_1.length co19)∧w'.cell? ⟨gb585,1,none⟩ = some (.slice Ao20 x586001_1.length co20)∧w'.cell? (ad584.add ((x6_1).toNat * 2)) = some (.slice A586_0 ((rd_T27 l0 x6_1).f0).length c586_0)∧w'.cell? ⟨(ad584.add ((x6_1).toNat * 2)).block,(ad584.add ((x6_1).toNat * 2)).off + 1,none⟩ = some (.slice A586_1 ((rd_T27 l0 x6_1).f1).length c586_1)) (ds:=[]) (bl_ 8 0) (by kernel_rfl) rfl (by kernel_rfl) ⟨cz0_ BK585,cz1_ BK585,hx586_0,hx586_1⟩ (fun hHeld=>?_);refine with_tabW Z32.tab7 Z32.bits7 (fun HT_ HW_=>?_)
      generalize wr.drew = w18 at HO_0 HO_586000 HO_586001 BK583 BK585 HB HL586_0 HL586_1 HR586_0 HR586_1 hx586_0 hx586_1 hHeld ⊢
      refine pu_ 0 (some 20) (bl_ 8 1) HT_ ?_
      refine pu_ 1 (some 21) (bl_ 8 3) HT_ ?_
      refine pu_ 2 (some 22) (bl_ 8 7) HT_ ?_
      refine pu_ 3 (some 23) (bl_ 8 15) HT_ ?_
      refine ta_ 4 (some 24) (bl_ 8 31) HT_ HW_ hHeld ?_
      refine ta_ 5 (some 25) (bl_ 8 63) HT_ HW_ hHeld ?_
      refine on_ 6 (some 26) (bl_ 8 127) HT_ (fun K hK=>?_)
      refine goesF_ Tryz.func58 (by kernel_rfl) rfl #[.agg #[.slice A586_0 ((rd_T27 l0 x6_1).f0).length c586_0,.slice A586_1 ((rd_T27 l0 x6_1).f1).length c586_1],.agg #[.slice Ao19 x586000_1.length co19,.slice Ao20 x586001_1.length co20]] (by rfl) rfl rfl qa_ ?_
      with_reducible refine (Z4.calls k1 _ _ ((rd_T27 l0 x6_1).f0) _ _ ((rd_T27 l0 x6_1).f1) _ _ x586000_1 _ _ x586001_1 t587 _ ?side1 ?side2 ?side3 ?side4 ?side5 ?side6 ?side7 ?side8 A10.out).mono ?_
      (case side1=>repeat (first | exact (by repeat (first | (with_reducible exact HR586_0.out) | (with_reducible refine cA_ ?_ _) | (with_reducible refine cB_ ?_ _) | (with_reducible refine cC_ ?_) | exact HR586_0.out)) | (with_reducible first | refine cA_ ?_ _ | refine cB_ ?_ _ | refine cC_ ?_)))
      (case side2=>exact HC586_0.out)
      (case side3=>repeat (first | exact (by repeat (first | (with_reducible exact HR586_1.out) | (with_reducible refine cA_ ?_ _) | (with_reducible refine cB_ ?_ _) | (with_reducible refine cC_ ?_) | exact HR586_1.out)) | (with_reducible first | refine cA_ ?_ _ | refine cB_ ?_ _ | refine cC_ ?_)))
      (case side4=>exact HC586_1.out)
      (case side5=>exact cw_ ((Kd.V_reads' HO_586000.out).2.2))
      (case side6=>exact (Kd.V_reads' HO_586000.out).2.1)
      (case side7=>exact cw_ ((Kd.V_reads' HO_586001.out).2.2))
      (case side8=>exact (Kd.V_reads' HO_586001.out).2.1)
      rintro e w21 ⟨rfl,hb⟩
      have HS2_:=(hb.cell (World.block_lt_of_cell? _ _ (hHeld.2.2.1))).trans (hHeld.2.2.1)
      have HS3_:=(hb.cell (World.block_lt_of_cell? _ _ (hHeld.2.2.2))).trans (hHeld.2.2.2)
      refine ⟨_,rfl,?_⟩
      replace HO_0:=A_ (Kd.V_below (by (with_reducible repeat (first | apply Kd.V_alloc | apply Kd.V_drewN | apply Kd.V_drew));exact HO_0.out) hb)
      replace HO_586000:=A_ (Kd.V_below (by (with_reducible repeat (first | apply Kd.V_alloc | apply Kd.V_drewN | apply Kd.V_drew));exact HO_586000.out) hb)
      replace HO_586001:=A_ (Kd.V_below (by (with_reducible repeat (first | apply Kd.V_alloc | apply Kd.V_drewN | apply Kd.V_drew));exact HO_586001.out) hb)
      replace HL586_0:=A_ (Kd.V_below (by (with_reducible repeat (first | apply Kd.V_alloc | apply Kd.V_drewN | apply Kd.V_drew));exact HL586_0.out) hb)
      replace HL586_1:=A_ (Kd.V_below (by (with_reducible repeat (first | apply Kd.V_alloc | apply Kd.V_drewN | apply Kd.V_drew));exact HL586_1.out) hb)
      replace BK583:=bb_ BK583 hb
      replace BK585:=bb_ BK585 hb
      replace HR586_0:=A_ (cD_ (by repeat (first | (with_reducible exact HR586_0.out) | (with_reducible refine cA_ ?_ _) | (with_reducible refine cB_ ?_ _) | (with_reducible refine cC_ ?_) | exact HR586_0.out)) hb)
      replace HR586_1:=A_ (cD_ (by repeat (first | (with_reducible exact HR586_1.out) | (with_reducible refine cA_ ?_ _) | (with_reducible refine cB_ ?_ _) | (with_reducible refine cC_ ?_) | exact HR586_1.out)) hb)
      replace HB:=b1_ hb
      clear hb
      refine hK.out _ _ ⟨cz0_ BK585,cz1_ BK585,HS2_,HS3_⟩ (fun hHeld=>?_)
      clear hK K
      refine no_ (some 26) ?_
      refine pu_ 7 (some 27) (bl_ 8 255) HT_ ?_
      refine done_ (done_of HT_.out (by kernel_rfl)) ?_
      try go_wp2
      go_roundg k1
      case measure=>have:=HK1.out;omega
      case rel=>exact ⟨(wrap64 (x6_1 + 1)),(x586000_1),(x586001_1),(.slice Ao19 x586000_1.length co19),(.slice Ao20 x586001_1.length co20),qc_,H',⟨by have:=HK1.out;omega⟩,⟨by (with_reducible repeat (first | apply Kd.V_alloc | apply Kd.V_drewN | apply Kd.V_drew));exact HO_0.out⟩,⟨by (with_reducible repeat (first | apply Kd.V_alloc | apply Kd.V_drewN | apply Kd.V_drew));exact HO_586000.out⟩,⟨by (with_reducible repeat (first | apply Kd.V_alloc | apply Kd.V_drewN | apply Kd.V_drew));exact HO_586001.out⟩,⟨(kk_ BK583)⟩,⟨(kk_ BK585)⟩,⟨hB_⟩,HJ⟩
    ·rw [if_neg c8] at H
     have c8b0:=oD_ c8
     clear c8
     simp only [Option.some.injEq,Prod.mk.injEq] at H
     obtain ⟨rfl,rfl⟩:=H
     have hnb22:=NB585_583.out
     have hnc22:=NB583_585.out
     obtain ⟨hcz23_0,hcz23_1,hfz23_0,hfz23_1⟩:=c2_ BK585
     obtain ⟨Ao24,co24,eo24⟩:=Kd.V_slice HO_586000.out
     subst eo24
     obtain ⟨hcz25_0,hcz25_1,hfz25_0,hfz25_1⟩:=c2_ BK583
     obtain ⟨Ao26,co26,eo26⟩:=Kd.V_slice HO_586001.out
     subst eo26
     go_wp2
     refine bodyPost_ret (results_cell_row rfl _ _ gb583 27 #[.slice Ao24 x586000_1.length co24,.slice Ao26 x586001_1.length co26] (0,0) _ rfl qp_ Tryz.underlying27 rfl (by kernel_rfl)) rfl ?_
     exact ⟨_,_,qb_,by (with_reducible repeat (first | apply Kd.V_alloc | apply Kd.V_drewN | apply Kd.V_drew));exact Kd.V_mono (Kd.V_far (p:=⟨gb583,1,none⟩) (Kd.V_far (p:=⟨gb583,0,none⟩) (Kd.V_mono HO_586000.out (fun k_ hk=>(⟨hk,hk.2.1⟩:_∧k_≠gb583))) (fun _ hk=>hk.2) (.slice Ao24 x586000_1.length co24)) (fun _ hk=>hk.2) (.slice Ao26 x586001_1.length co26)) (fun _ hk=>hk.1.1),by (with_reducible repeat (first | apply Kd.V_alloc | apply Kd.V_drewN | apply Kd.V_drew));exact Kd.V_mono (Kd.V_far (p:=⟨gb583,1,none⟩) (Kd.V_far (p:=⟨gb583,0,none⟩) (Kd.V_mono HO_586001.out (fun k_ hk=>(⟨hk,hk.2.1⟩:_∧k_≠gb583))) (fun _ hk=>hk.2) (.slice Ao24 x586000_1.length co24)) (fun _ hk=>hk.2) (.slice Ao26 x586001_1.length co26)) (fun _ hk=>hk.1.1),hB_,HJ.out⟩
def Z62.f (k:Nat) (l0_0:List Int) (l0_1:List Int):Option (List Int × List Int × Bool):=(Z39.f k l0_0 l0_1).bind fun t591=>(if (t591.length:Int) = 0 then (some (([]:List Int),([]:List Int),false)) else ((Z32.f k t591).bind fun bt594=>(some (bt594.1,bt594.2,true))))
theorem Z62.mono:∀ a0 a1 k,LeO (Z62.f k a0 a1) (Z62.f (k + 1) a0 a1):=by
 intro a0 a1 k
 unfold Z62.f
 repeat' first|exact Z32.mono _ _|exact Z39.mono _ _ _|exact lo_|refine LeO.ite ?_ ?_|refine LeO.bind ?_ (fun _=>?_)
set_option maxHeartbeats 8000000 in
set_option maxRecDepth 100000 in
theorem Z62.calls (k:Nat) (A0_0:Option Addr) (c0_0:Nat) (l0_0:List Int) (A0_1:Option Addr) (c0_1:Nat) (l0_1:List Int) (r1:List Int) (r2:List Int) (r3:Bool) (w:World) (hr0_0:Kd.C (Kd.int .i64) w A0_0 l0_0.length l0_0) (hc0_0:l0_0.length≤c0_0) (hr0_1:Kd.C (Kd.int .i64) w A0_1 l0_1.length l0_1) (hc0_1:l0_1.length≤c0_1) (h:Z62.f k l0_0 l0_1 = some (r1,r2,r3)) :
  Calls Tryz.prog 39 #[.agg #[.slice A0_0 l0_0.length c0_0,.slice A0_1 l0_1.length c0_1]] w fun e w'=>∃ v0_ v1_:Value,e = .returned (.tuple #[.agg #[v0_,v1_],.bool r3])∧Kd.R (Kd.int .i64) 3 w' w.heap.size (fun k_=>some k_≠(v1_:Value).ownBlock) v0_ r1∧Kd.R (Kd.int .i64) 3 w' w.heap.size (fun k_=>some k_≠(v0_:Value).ownBlock) v1_ r2∧Below w.heap.size w w':=by
 have hu27:=Tryz.underlying27
 have HR0_0:=A_ hr0_0
 have HC0_0:=A_ hc0_0
 clear hr0_0 hc0_0
 have HR0_1:=A_ hr0_1
 have HC0_1:=A_ hc0_1
 clear hr0_1 hc0_1
 have HB:=A_ (Below.refl w.heap.size w)
 have H:=h
 unfold Z62.f at H
 clear h
 obtain ⟨t591,A2,H⟩:=bi_ H
 by_cases c3:(t591.length:Int) = 0
 ·rw [if_pos c3] at H
  have c3b0:((t591.length:Int) == 0) = true:=beq_iff_eq.mpr c3
  have c3b1:((t591.length:Int) != 0) = false:=bne_eq_false_iff_eq.mpr c3
  clear c3
  simp only [Option.some.injEq,Prod.mk.injEq] at H
  obtain ⟨rfl,rfl,rfl⟩:=H
  go_enter Tryz.func39,Tryz.ntmps39
  go_wp2_with (first | ((with_reducible refine gB_ (N:=1) rfl ?_);refine bx_ 1 #[.slice A0_0 l0_0.length c0_0,.slice A0_1 l0_1.length c0_1] 27 ?_;intro gb589 hg w4 hbox hb;have BK589:=A_ hbox;have GW589:=gw_ w hg;have GE589:=GW589;replace HB:=b1_ hb;clear hb hbox hg) | ((with_reducible refine gB_ (N:=2) rfl ?_);refine bx_ 2 #[.slice none 0 0,.slice none 0 0] 27 ?_;intro gb590 hg w5 hbox hb;have BK590:=A_ hbox;have GW590:=gw_ w hg;have GE590:=GW590;replace HB:=b1_ hb;have NB589_590:=gN_ BK589 hg;have NB590_589:=gP_ BK589 hg;replace BK589:=bb_ BK589 hb;clear hb hbox hg;have hnb6:=NB589_590.out;have hnc6:=NB590_589.out;obtain ⟨hcz7_0,hcz7_1,hfz7_0,hfz7_1⟩:=c2_ BK589) | ((with_reducible refine gA_ (f:=56) rfl ?_);refine gL_ (some 6) Tryz.func56 #[.agg #[.slice A0_0 l0_0.length c0_0,.slice A0_1 l0_1.length c0_1]] rfl qa_ ?_;(with_reducible refine (Z39.calls k _ _ l0_0 _ _ l0_1 t591 _ (cb_ HR0_0) HC0_0.out (cb_ HR0_1) HC0_1.out A2.out).mono ?_);rintro e w8 ⟨v592,rfl,ho0,hb⟩;refine ⟨_,rfl,?_⟩;have HO593:=A_ (Kd.S_lower (Kd.S_newB (Kd.S_newB (Kd.S_newM (M:=fun k_=>(w.heap.size≤k_)) ho0 (bF_ hB_) (fun k_ h_=>h_)) (kk_ BK589)) (kk_ BK590)) (bF_ hB_));replace BK589:=bb_ BK589 hb;replace BK590:=bb_ BK590 hb;replace HB:=b1_ hb;clear hb ho0;obtain ⟨Ao9,co9,eo9⟩:=Kd.S_slice HO593.out;subst eo9;obtain ⟨hcz10_0,hcz10_1,hfz10_0,hfz10_1⟩:=c2_ BK590))
  refine bodyPost_ret (results_ct rfl _ _ gb590 27 #[.slice none 0 0,.slice none 0 0] (0,0) _ rfl qp_ Tryz.underlying27 rfl (by kernel_rfl)) rfl ?_
  exact ⟨_,_,qb_,(Kd.R_nil _ _ _ _ _),(Kd.R_nil _ _ _ _ _),hB_⟩
 ·rw [if_neg c3] at H
  have c3b0:((t591.length:Int) == 0) = false:=beq_eq_false_iff_ne.mpr c3
  have c3b1:((t591.length:Int) != 0) = true:=bne_iff_ne.mpr c3
  have c3b2:¬ (t591 = []):=fun h_=>c3 (by rw [h_];rfl)
  obtain ⟨⟨t594,t597⟩,A11,H⟩:=bi_ H
  try dsimp only at H
  simp only [Option.some.injEq,Prod.mk.injEq] at H
  obtain ⟨rfl,rfl,rfl⟩:=H
  go_enter Tryz.func39,Tryz.ntmps39
  go_wp2_with (first | ((with_reducible refine gB_ (N:=1) rfl ?_);refine bx_ 1 #[.slice A0_0 l0_0.length c0_0,.slice A0_1 l0_1.length c0_1] 27 ?_;intro gb589 hg w12 hbox hb;have BK589:=A_ hbox;have GW589:=gw_ w hg;have GE589:=GW589;replace HB:=b1_ hb;clear hb hbox hg) | ((with_reducible refine gB_ (N:=2) rfl ?_);refine bx_ 2 #[.slice none 0 0,.slice none 0 0] 27 ?_;intro gb590 hg w13 hbox hb;have BK590:=A_ hbox;have GW590:=gw_ w hg;have GE590:=GW590;replace HB:=b1_ hb;have NB589_590:=gN_ BK589 hg;have NB590_589:=gP_ BK589 hg;replace BK589:=bb_ BK589 hb;clear hb hbox hg;have hnb14:=NB589_590.out;have hnc14:=NB590_589.out;obtain ⟨hcz15_0,hcz15_1,hfz15_0,hfz15_1⟩:=c2_ BK589) | ((with_reducible refine gA_ (f:=56) rfl ?_);refine gL_ (some 6) Tryz.func56 #[.agg #[.slice A0_0 l0_0.length c0_0,.slice A0_1 l0_1.length c0_1]] rfl qa_ ?_;(with_reducible refine (Z39.calls k _ _ l0_0 _ _ l0_1 t591 _ (cb_ HR0_0) HC0_0.out (cb_ HR0_1) HC0_1.out A2.out).mono ?_);rintro e w16 ⟨v592,rfl,ho0,hb⟩;refine ⟨_,rfl,?_⟩;have HO593:=A_ (Kd.S_lower (Kd.S_newB (Kd.S_newB (Kd.S_newM (M:=fun k_=>(w.heap.size≤k_)) ho0 (bF_ hB_) (fun k_ h_=>h_)) (kk_ BK589)) (kk_ BK590)) (bF_ hB_));replace BK589:=bb_ BK589 hb;replace BK590:=bb_ BK590 hb;replace HB:=b1_ hb;clear hb ho0;obtain ⟨Ao17,co17,eo17⟩:=Kd.S_slice HO593.out;subst eo17) | ((with_reducible refine gA_ (f:=57) rfl ?_);refine gL_ (some 12) Tryz.func57 #[.slice Ao17 t591.length co17,.func (.func 58) #[] #[]] rfl qa_ ?_;(with_reducible refine (Z32.calls k (fun k_=>((((w.heap.size≤k_)∧True)∧k_≠gb589)∧k_≠gb590)) _ _ t591 t594 t597 _ (Kd.S_V (HO593.out)) A11.out).mono ?_);rintro e w18 ⟨v595,v598,rfl,ho0,ho1,hb,hj_⟩;refine ⟨_,rfl,?_⟩;have HOW_:=A_ (atJ_own (ss_ HO593) hj_ hb);clear hj_;replace HO593:=sb_ HO593 hb;have HO596:=A_ (Kd.V_lower (Kd.V_mono (ok':=fun k_=>(w.heap.size≤k_)∧k_≠gb589∧k_≠gb590) ho0 (fun k_ hk_=>⟨Or.elim hk_ (fun hs_=>hs_.1.1.1) (fun hn_=>(Nat.le_trans (bF_ hB_) hn_)),Or.elim hk_ (fun hs_=>hs_.1.2) (fun hn_=>(Kd.freshB (kk_ BK589) k_ hn_)),Or.elim hk_ (fun hs_=>hs_.2) (fun hn_=>(Kd.freshB (kk_ BK590) k_ hn_))⟩)) (bF_ hB_));have HO599:=A_ (Kd.V_lower (Kd.V_mono (ok':=fun k_=>(w.heap.size≤k_)∧k_≠gb589∧k_≠gb590) ho1 (fun k_ hk_=>⟨Or.elim hk_ (fun hs_=>hs_.1.1.1) (fun hn_=>(Nat.le_trans (bF_ hB_) hn_)),Or.elim hk_ (fun hs_=>hs_.1.2) (fun hn_=>(Kd.freshB (kk_ BK589) k_ hn_)),Or.elim hk_ (fun hs_=>hs_.2) (fun hn_=>(Kd.freshB (kk_ BK590) k_ hn_))⟩)) (bF_ hB_));replace BK589:=bb_ BK589 hb;replace BK590:=bb_ BK590 hb;replace HB:=b1_ hb;clear hb ho0 ho1;obtain ⟨Ao19,co19,eo19⟩:=Kd.V_slice HO596.out;subst eo19;obtain ⟨hcz20_0,hcz20_1,hfz20_0,hfz20_1⟩:=c2_ BK590;obtain ⟨Ao21,co21,eo21⟩:=Kd.V_slice HO599.out;subst eo21))
  refine bodyPost_ret (results_ct rfl _ _ gb590 27 #[.slice Ao19 t594.length co19,.slice Ao21 t597.length co21] (0,0) _ rfl qp_ Tryz.underlying27 rfl (by kernel_rfl)) rfl ?_
  exact ⟨_,_,qb_,(rw_ (Kd.R_mono (Kd.R_tight rfl (Kd.R_far (p:=⟨gb590,1,none⟩) (Kd.R_far (p:=⟨gb590,0,none⟩) (Kd.R_types HOW_.out.1 (BK590.out) (by decide)) (fun _ hk=>hk.2) _) (fun _ hk=>hk.2) _)) (fun k_ e1_ e2_=>HOW_.out.2.2 k_ e1_.symm e2_.symm))),(rw_ (Kd.R_mono (Kd.R_tight rfl (Kd.R_far (p:=⟨gb590,1,none⟩) (Kd.R_far (p:=⟨gb590,0,none⟩) (Kd.R_types HOW_.out.2.1 (BK590.out) (by decide)) (fun _ hk=>hk.2) _) (fun _ hk=>hk.2) _)) (fun k_ e1_ e2_=>HOW_.out.2.2 k_ e2_.symm e1_.symm))),hB_⟩
def Z54.f (l0:List Int):Option (List Int):=(some (([]:List Int):List Int)).bind fun y600=>(if y600.length + l0.length < 17592186044416 then (some (y600 ++ l0)) else (none))
set_option maxHeartbeats 8000000 in
set_option maxRecDepth 100000 in
theorem Z54.calls (A0:Option Addr) (c0:Nat) (l0:List Int) (r:List Int) (w:World) (hr0:Kd.C (Kd.int .i64) w A0 l0.length l0) (hc0:l0.length≤c0) (h:Z54.f l0 = some r) :
  Calls Tryz.prog 91 #[.slice A0 l0.length c0] w fun e w'=>∃ v0_:Value,e = .returned (v0_)∧Kd.R (Kd.int .i64) 3 w' w.heap.size (fun _=>True) v0_ r∧Below w.heap.size w w':=by
 have HR0:=A_ hr0
 have HC0:=A_ hc0
 clear hr0 hc0
 have HB:=A_ (Below.refl w.heap.size w)
 have H:=h
 unfold Z54.f at H
 clear h
 obtain ⟨y600,hy600⟩:∃ y_:List Int,y_ = (([]:List Int)):=⟨_,rfl⟩
 replace H:(if y600.length + l0.length < 17592186044416 then (some (y600 ++ l0)) else (none)) = some r:=by first | (rw [hy600];exact H) | exact H
 have Ny600:=A_ hy600
 clear hy600
 have c2:=cp_ H
 replace H:=ca_ H
 have LMc2:=A_ c2
 clear c2
 obtain ⟨y603,hy603⟩:∃ y_:List Int,y_ = (y600 ++ l0):=⟨_,rfl⟩
 replace H:(some y603) = some r:=by first | (rw [hy603];exact H) | exact H
 have Ny603:=A_ hy603
 clear hy603
 obtain rfl:=Option.some.inj H
 go_enter Tryz.func91,Tryz.ntmps91
 go_wp2_with (first | ((with_reducible refine gB_ (N:=3) rfl ?_);refine Kd.R_lit (Kd.int .i64) _ 3 ?hg (N:=3) ?hd (xs:=([]:List Int)) (inner:=[]) (ok:=fun _=>True) (okp:=fun _=>True) ?hr ?hp (fun _ hk=>hk) trivial (Below.refl _ _) (nA_ _) (by simp) ?_;(case hd=>rfl);(case hg=>rfl);(case hr=>first | (go_simp;done) | (go_simp;rfl));(case hp=>exact (Reps.none _ _));intro v601 w3 ho4 hb hg_ hnew_;clear hg_ hnew_;(first | rw [← Ny600.out] at ho4 | (simp only [Int.reduceToNat] at ho4;rw [← Ny600.out] at ho4));have HO602:=rl_ w ho4;replace HB:=b1_ hb;clear hb ho4) | ((with_reducible refine gate_builtin (b:=.append) (xs:=#[.tmp 3,.tmp 4]) rfl ?_);at_builtin;refine Kd.R_append_rows (Kd.int .i64) (w0:=w) w.heap.size rfl (.tmp 3) (.tmp 4) 22 3 (.int .i64 0) 8 rfl Tryz.underlying22 info3 rfl (by decide) (by omega) v601 y600 l0 _ _ _ (fun _=>True) (fun _=>False) rfl rfl ?aO ?aR (fun _ _ h=>h) (fun _ h=>h.elim) ?aF ?aB ?aS ?aL ?_;(case aR=>exact cb_ HR0);(case aB=>exact hB_);(case aF=>exact (fun _ _=>trivial));(case aO=>exact (rr_ HO602));(case aS=>exact (bF_ hB_));(case aL=>have:=LMc2.out;omega);intro v604 w5 ho hb hg hat;rw [← Ny603.out] at ho;replace HB:=A_ hb;have HO605:=A_ ho;clear HO602;clear ho hb hg hat))
 go_ret
 exact ⟨_,qb_,(rr_ HO605),hB_⟩
end Go.Proofs.YtcggfjpnfodbaaaGreat.A
end
section
namespace Go.Proofs.YtcggfjpnfodbaaaGreat.A
open Go.RowKit Go.Proofs.YtcggfjpnfodbaaaGreatW.PrintWords Go.Proofs.YtcggfjpnfodbaaaGreatW.PrintLast Go.Proofs.YtcggfjpnfodbaaaGreatW.PrintMore
attribute [local go_sem] max2_int min2_int max_two min_two max_three min_three max_four min_four
set_option linter.unusedVariables false
set_option linter.unusedSimpArgs false
mutual
def Z53.j0:Nat→List Int→List Int→Bool→Option (List Int)
 | 0,_,_,_=>none
 | k + 1,x0,x1,x22=>if x22 = true then (some ([]:List Int)) else (if 0≤(x0.length:Int) then (if ((x0.length:Int):Int).toNat≤35184372088832 then (Z53.l0 k x1 (List.replicate ((x0.length:Int):Int).toNat 0) x0 (x0.length:Int) 0) else (none)) else (none))
def Z53.l0:Nat→List Int→List Int→List Int→Int→Int→Option (List Int)
 | 0,_,_,_,_,_=>none
 | k + 1,x1,x5,x26,x27,x28=>if x28 < x27 then (if 0≤x28 then (if x28 < (x26.length:Int) then (if 0≤(rd x26 x28) then (if (rd x26 x28) < (x1.length:Int) then (if x28 < (x5.length:Int) then (Z53.l0 k x1 (x5.set (x28:Int).toNat (rd x1 (rd x26 x28))) x26 x27 (wrap64 (x28 + 1))) else (none)) else (none)) else (none)) else (none)) else (none)) else (some x5)
end
def Z53.f (k:Nat) (l0:List Int) (l1:List Int):Option (List Int):=(Z75.f k l0).bind fun t606=>(if t606 = true then ((Z75.f k l1).bind fun t607=>(if t607 = true then (Z53.j0 k l0 l1 ((l0.length:Int) != (l1.length:Int))) else (Z53.j0 k l0 l1 true))) else (Z53.j0 k l0 l1 true))
theorem Z53.mono_l:∀ k,(∀ y0 y1 y2,LeO (Z53.j0 k y0 y1 y2) (Z53.j0 (k + 1) y0 y1 y2))∧(∀ y0 y1 y2 y3 y4,LeO (Z53.l0 k y0 y1 y2 y3 y4) (Z53.l0 (k + 1) y0 y1 y2 y3 y4))
 | 0=>⟨fun _ _ _ r h=>by simp [Z53.j0] at h,fun _ _ _ _ _ r h=>by simp [Z53.l0] at h⟩
 | k + 1=>by
  obtain ⟨ih0,ih1⟩:=Z53.mono_l k
  refine ⟨?_,?_⟩
  ·intro y0 y1 y2
   unfold Z53.j0
   repeat' first|exact ih0 _ _ _|exact ih1 _ _ _ _ _|exact Z75.mono _ _|exact lo_|refine LeO.ite ?_ ?_|refine LeO.bind ?_ (fun _=>?_)
  ·intro y0 y1 y2 y3 y4
   unfold Z53.l0
   repeat' first|exact ih0 _ _ _|exact ih1 _ _ _ _ _|exact Z75.mono _ _|exact lo_|refine LeO.ite ?_ ?_|refine LeO.bind ?_ (fun _=>?_)
theorem Z53.mono:∀ a0 a1 k,LeO (Z53.f k a0 a1) (Z53.f (k + 1) a0 a1):=by
 intro a0 a1 k
 obtain ⟨ih0,ih1⟩:=Z53.mono_l k
 unfold Z53.f
 repeat' first|exact ih0 _ _ _|exact ih1 _ _ _ _ _|exact Z75.mono _ _|exact lo_|refine LeO.ite ?_ ?_|refine LeO.bind ?_ (fun _=>?_)
set_option maxHeartbeats 8000000 in
set_option maxRecDepth 100000 in
theorem Z53.calls (k:Nat) (A0:Option Addr) (c0:Nat) (l0:List Int) (A1:Option Addr) (c1:Nat) (l1:List Int) (r:List Int) (w:World) (hr0:Kd.C (Kd.int .i64) w A0 l0.length l0) (hc0:l0.length≤c0) (hr1:Kd.C (Kd.int .i64) w A1 l1.length l1) (hc1:l1.length≤c1) (h:Z53.f k l0 l1 = some r) :
  Calls Tryz.prog 92 #[.slice A0 l0.length c0,.slice A1 l1.length c1] w fun e w'=>∃ v0_:Value,e = .returned (v0_)∧Kd.R (Kd.int .i64) 3 w' w.heap.size (fun _=>True) v0_ r∧Below w.heap.size w w':=by
 have HR0:=A_ hr0
 have HC0:=A_ hc0
 clear hr0 hc0
 have HR1:=A_ hr1
 have HC1:=A_ hc1
 clear hr1 hc1
 have HB:=A_ (Below.refl w.heap.size w)
 have H:=h
 unfold Z53.f at H
 clear h
 have HC3:=A_ H
 clear H
 go_enter Tryz.func92,Tryz.ntmps92
 go_upto_region 1 with (fail)
 go_cut [22] (fun v22 wc=>∃ (kq:Nat) (x22_2:Bool),v22 = .bool x22_2∧Aside0 (Z53.j0 kq l0 l1 x22_2 = some r)∧Aside0 (kq≤k)∧Aside0 (Below w.heap.size w wc))
 case first =>
  have H:=HC3.out
  clear HC3
  obtain ⟨t606,A4,H⟩:=bi_ H
  by_cases c5:t606 = true
  ·subst c5
   rw [if_pos rfl] at H
   obtain ⟨t607,A6,H⟩:=bi_ H
   by_cases c7:t607 = true
   ·subst c7
    rw [if_pos rfl] at H
    have H':=A_ H
    clear H
    go_wp2_with (first | ((with_reducible refine gA_ (f:=104) rfl ?_);refine gL_ (some 9) Tryz.func104 #[.slice A0 l0.length c0] rfl qa_ ?_;(with_reducible refine (Z75.calls k _ _ l0 true _ (cb_ HR0) HC0.out A4.out).mono ?_);rintro e w8 ⟨rfl,hb⟩;refine ⟨_,rfl,?_⟩;replace HB:=b1_ hb;clear hb) | (go_at_call 104;(with_reducible refine (Z75.calls k _ _ l1 true _ (cb_ HR1) HC1.out A6.out).mono ?_);rintro e w9 ⟨rfl,hb⟩;replace HB:=b1_ hb;clear hb))
    go_meet
    case rel=>exact ⟨_,(((l0.length:Int) != (l1.length:Int))),qc_,H',⟨qd_⟩,⟨hB_⟩⟩
   ·replace c7:=Bool.eq_false_iff.mpr c7
    subst c7
    have H1:(Z53.j0 k l0 l1 true) = some r:=by rw [if_neg (show ¬ (false = true) by decide)] at H;exact H
    clear H
    have H:=H1
    clear H1
    have H':=A_ H
    clear H
    go_wp2_with (first | ((with_reducible refine gA_ (f:=104) rfl ?_);refine gL_ (some 9) Tryz.func104 #[.slice A0 l0.length c0] rfl qa_ ?_;(with_reducible refine (Z75.calls k _ _ l0 true _ (cb_ HR0) HC0.out A4.out).mono ?_);rintro e w10 ⟨rfl,hb⟩;refine ⟨_,rfl,?_⟩;replace HB:=b1_ hb;clear hb) | (go_at_call 104;(with_reducible refine (Z75.calls k _ _ l1 false _ (cb_ HR1) HC1.out A6.out).mono ?_);rintro e w11 ⟨rfl,hb⟩;replace HB:=b1_ hb;clear hb))
    go_meet
    case rel=>exact ⟨_,(true),qc_,H',⟨qd_⟩,⟨hB_⟩⟩
  ·replace c5:=Bool.eq_false_iff.mpr c5
   subst c5
   have H1:(Z53.j0 k l0 l1 true) = some r:=by rw [if_neg (show ¬ (false = true) by decide)] at H;exact H
   clear H
   have H:=H1
   clear H1
   have H':=A_ H
   clear H
   go_wp2_with (first | ((with_reducible refine gA_ (f:=104) rfl ?_);refine gL_ (some 9) Tryz.func104 #[.slice A0 l0.length c0] rfl qa_ ?_;(with_reducible refine (Z75.calls k _ _ l0 false _ (cb_ HR0) HC0.out A4.out).mono ?_);rintro e w12 ⟨rfl,hb⟩;refine ⟨_,rfl,?_⟩;replace HB:=b1_ hb;clear hb))
   go_meet
   case rel=>exact ⟨_,(true),qc_,H',⟨qd_⟩,⟨hB_⟩⟩
 case rest =>
  clear HC3
  obtain ⟨kq,x22_2,rfl,HA,HJ2,HB⟩:=hcut
  cases kq with
  | zero=>exact absurd HA.out (by simp [Z53.j0])
  | succ kj2 =>
   have H:=HA.out
   clear HA
   simp only [Z53.j0] at H
   by_cases c13:x22_2 = true
   ·subst c13
    rw [if_pos rfl] at H
    obtain rfl:=Option.some.inj H
    go_wp2
    go_ret
    exact ⟨_,qb_,by first | exact Kd.R_nil _ _ _ _ _ | exact Kd.N_nil _ _ _ _ _ | exact Kd.V_nil _ _ _ _ _ | exact Kd.Q_nil _ _ _ _ _ | exact Kd.S_nil _ _ _ _ _,hB_⟩
   ·replace c13:=Bool.eq_false_iff.mpr c13
    subst c13
    have H1:(if 0≤(l0.length:Int) then (if ((l0.length:Int):Int).toNat≤35184372088832 then (Z53.l0 kj2 l1 (List.replicate ((l0.length:Int):Int).toNat 0) l0 (l0.length:Int) 0) else (none)) else (none)) = some r:=by rw [if_neg (show ¬ (false = true) by decide)] at H;exact H
    clear H
    have H:=H1
    clear H1
    have c14:=cp_ H
    replace H:=ca_ H
    have c14b0:=eq_true c14
    have c14b1:=oC_ c14
    clear c14
    have c15:=cp_ H
    replace H:=ca_ H
    have c15b0:=eq_true c15
    have c15b1:=oC_ c15
    clear c15
    obtain ⟨y608,hy608⟩:∃ y_:List Int,y_ = (List.replicate ((l0.length:Int):Int).toNat 0):=⟨_,rfl⟩
    replace H:(Z53.l0 kj2 l1 y608 l0 (l0.length:Int) 0) = some r:=by first | (rw [hy608];exact H) | exact H
    have Ny608:=A_ hy608
    clear hy608
    have H':=A_ H
    clear H
    go_wp2_with (first | ((with_reducible refine gB_ (N:=25) rfl ?_);(try (refine gate_guard (by rfl) ?_;dsimp only));refine Kd.R_make (Kd.int .i64) _ 3 rfl (N:=25) rfl 22 _ _ rfl (l0.length:Int) rfl rfl Tryz.underlying22 (.int .i64 0) 8 info3 rfl (by decide) (by omega) 0 (ok:=fun _=>True) (okp:=fun _=>True) rfl (fun _ hk=>hk) trivial (oB_ qe_) (Nat.le_trans (Nat.mul_le_mul_right _ (oB_ qe_:(l0.length:Int).toNat≤35184372088832)) (by omega)) (Below.refl _ _) (nA_ _) ?_;intro v609 w16 ho17 hb hg_ hnew_;clear hg_ hnew_;(first | rw [← Ny608.out] at ho17 | (simp only [Int.reduceToNat] at ho17;rw [← Ny608.out] at ho17));have HO610:=rl_ w ho17;replace HB:=b1_ hb;clear hb ho17))
    go_loopg [28] kj2 (fun kq v28 w'=>∃ (x5_2:List Int) (x28_2:Int),v28 = .int .i64 x28_2∧Aside0 (Z53.l0 kq l1 x5_2 l0 (l0.length:Int) x28_2 = some r)∧Aside0 (kq≤kj2)∧Aside0 (Kd.R (Kd.int .i64) 3 w' w.heap.size (fun _=>True) v609 x5_2)∧Aside0 (Below w.heap.size w w'))
    case atStart=>exact ⟨(y608),(0),qc_,H',⟨nA_ _⟩,⟨(rr_ HO610)⟩,⟨hB_⟩⟩
    case round =>
     clear H'
     obtain ⟨x5_2,x28_2,rfl,HA,HK2,HO_5,HB⟩:=hrel
     cases gk with
     | zero=>exact absurd HA.out (by simp [Z53.l0])
     | succ k2 =>
      have H:=HA.out
      clear HA
      simp only [Z53.l0] at H
      by_cases c18:x28_2 < (l0.length:Int)
      ·rw [if_pos c18] at H
       have c18b0:=oC_ c18
       clear c18
       have c19:=cp_ H
       replace H:=ca_ H
       have c19b0:=oC_ c19
       clear c19
       have c20:=cp_ H
       replace H:=ca_ H
       have c20b0:=oC_ c20
       clear c20
       have c21:=cp_ H
       replace H:=ca_ H
       have c21b0:=oC_ c21
       clear c21
       have c22:=cp_ H
       replace H:=ca_ H
       have c22b0:=oC_ c22
       clear c22
       have c23:=cp_ H
       replace H:=ca_ H
       have c23b0:=oC_ c23
       clear c23
       obtain ⟨y613,hy613⟩:∃ y_:List Int,y_ = (x5_2.set (x28_2:Int).toNat (rd l1 (rd l0 x28_2))):=⟨_,rfl⟩
       replace H:(Z53.l0 k2 l1 y613 l0 (l0.length:Int) (wrap64 (x28_2 + 1))) = some r:=by first | (rw [hy613];exact H) | exact H
       have Ny613:=A_ hy613
       clear hy613
       have H':=A_ H
       clear H
       have p611:0≤(x28_2:Int):=oB_ qe_
       have q611:x28_2 < (l0.length:Int):=oB_ qe_
       obtain ⟨ad611,e611,hx611_0⟩:=Kd.at_int HR0.out x28_2 p611 q611
       cases e611
       replace hx611_0:=(HB.out.cell (World.block_lt_of_cell? w _ hx611_0)).trans hx611_0
       replace p611:=eq_true p611
       replace q611:=eq_true q611
       have p612:0≤((rd l0 x28_2):Int):=oB_ qe_
       have q612:(rd l0 x28_2) < (l1.length:Int):=oB_ qe_
       obtain ⟨ad612,e612,hx612_0⟩:=Kd.at_int HR1.out (rd l0 x28_2) p612 q612
       cases e612
       replace hx612_0:=(HB.out.cell (World.block_lt_of_cell? w _ hx612_0)).trans hx612_0
       replace p612:=eq_true p612
       replace q612:=eq_true q612
       have p24:0≤(x28_2:Int):=oB_ qe_
       have q24:(x28_2:Int) < ((x5_2.length:Int):Int):=oB_ qe_
       obtain ⟨go24,co24,eo24,gb24,gl24,cl24,HG24⟩:=Kd.R_form HO_5.out (by omega)
       (first | cases eo24 | (injection eo24 with ea_ en_ ec_;(first | subst ea_ | (injection ea_ with ea_;subst ea_));subst ec_;clear en_))
       have GB24:=A_ gb24
       have GG24:=A_ HG24
       clear gb24 gl24 HG24
       obtain ⟨hx24_0,hf24_0⟩:=Kd.R_celln 0 HO_5.out (x28_2:Int) p24 q24
       replace p24:=eq_true p24
       replace q24:=eq_true q24
       have HP25:=Kd.R_putg HO_5.out (x28_2:Int) (rd l1 (rd l0 x28_2))
       go_wp2_with (first | ((with_reducible refine gate_store (t:=3) (p:=39) rfl ?_);refine store_event (t:=3) (p:=39) (v:=?vo_w26) (w1:=(wr.setCell ⟨go24,(x28_2:Int).toNat,none⟩ (.int .i64 (rd l1 (rd l0 x28_2))))) ?hg ?ho ?hn ?hr ?_;(case ho=>rfl);(case hg=>rfl);(case hn=>rfl);(case hr=>first | (go_simp;done) | (go_simp;rfl));intro w26 hw;have hg:wr.grownBy w26 (some go24):=(by rw [hw];exact HP25.2);have hp_:Kd.R (Kd.int .i64) 3 w26 w.heap.size (fun _=>True) (.slice (some ⟨go24,0,none⟩) x5_2.length co24) y613:=(by rw [hw,Ny613.out];exact HP25.1);clear HP25;replace HO_5:=A_ (hp_);replace HB:=A_ ((by rw [hw];exact bD_ (HB.out) GB24.out:Below w.heap.size w w26));clear hg hw hp_))
       go_roundg k2
       case measure=>have:=HJ2.out;have:=HK2.out;omega
       case rel=>exact ⟨(y613),(wrap64 (x28_2 + 1)),qc_,H',⟨by have:=HJ2.out;have:=HK2.out;omega⟩,⟨(rr_ HO_5)⟩,⟨hB_⟩⟩
      ·rw [if_neg c18] at H
       have c18b0:=oD_ c18
       clear c18
       obtain rfl:=Option.some.inj H
       go_wp2
       go_ret
       exact ⟨_,qb_,(rr_ HO_5),hB_⟩
end Go.Proofs.YtcggfjpnfodbaaaGreat.A
end
section
namespace Go.Proofs.YtcggfjpnfodbaaaGreat.A
open Go.RowKit Go.Proofs.YtcggfjpnfodbaaaGreatW.PrintWords Go.Proofs.YtcggfjpnfodbaaaGreatW.PrintLast Go.Proofs.YtcggfjpnfodbaaaGreatW.PrintMore
attribute [local go_sem] max2_int min2_int max_two min_two max_three min_three max_four min_four
set_option linter.unusedVariables false
set_option linter.unusedSimpArgs false
def Z23.l0:Nat→List Int→List Int→Int→Int→Option (List Int)
 | 0,_,_,_,_=>none
 | k + 1,x3,x12,x13,x14=>if x14 < x13 then (if 0≤x14 then (if x14 < (x12.length:Int) then (if 0≤(rd x12 x14) then (if (rd x12 x14) < (x3.length:Int) then (Z23.l0 k (x3.set ((rd x12 x14):Int).toNat x14) x12 x13 (wrap64 (x14 + 1))) else (none)) else (none)) else (none)) else (none)) else (some x3)
def Z23.f (k:Nat) (l0:List Int):Option (List Int):=(Z75.f k l0).bind fun t614=>(if t614 = true then (if 0≤(l0.length:Int) then (if ((l0.length:Int):Int).toNat≤35184372088832 then (Z23.l0 k (List.replicate ((l0.length:Int):Int).toNat 0) l0 (l0.length:Int) 0) else (none)) else (none)) else (some ([]:List Int)))
theorem Z23.mono_l:∀ k,(∀ y0 y1 y2 y3,LeO (Z23.l0 k y0 y1 y2 y3) (Z23.l0 (k + 1) y0 y1 y2 y3))
 | 0=>fun _ _ _ _ r h=>by simp [Z23.l0] at h
 | k + 1=>by
  have ih0:=Z23.mono_l k
  ·intro y0 y1 y2 y3
   unfold Z23.l0
   repeat' first|exact ih0 _ _ _ _|exact Z75.mono _ _|exact lo_|refine LeO.ite ?_ ?_|refine LeO.bind ?_ (fun _=>?_)
theorem Z23.mono:∀ a0 k,LeO (Z23.f k a0) (Z23.f (k + 1) a0):=by
 intro a0 k
 have ih0:=Z23.mono_l k
 unfold Z23.f
 repeat' first|exact ih0 _ _ _ _|exact Z75.mono _ _|exact lo_|refine LeO.ite ?_ ?_|refine LeO.bind ?_ (fun _=>?_)
set_option maxHeartbeats 8000000 in
set_option maxRecDepth 100000 in
theorem Z23.calls (k:Nat) (A0:Option Addr) (c0:Nat) (l0:List Int) (r:List Int) (w:World) (hr0:Kd.C (Kd.int .i64) w A0 l0.length l0) (hc0:l0.length≤c0) (h:Z23.f k l0 = some r) :
  Calls Tryz.prog 93 #[.slice A0 l0.length c0] w fun e w'=>∃ v0_:Value,e = .returned (v0_)∧Kd.R (Kd.int .i64) 3 w' w.heap.size (fun _=>True) v0_ r∧Below w.heap.size w w':=by
 have HR0:=A_ hr0
 have HC0:=A_ hc0
 clear hr0 hc0
 have HB:=A_ (Below.refl w.heap.size w)
 have H:=h
 unfold Z23.f at H
 clear h
 obtain ⟨t614,A2,H⟩:=bi_ H
 by_cases c3:t614 = true
 ·subst c3
  rw [if_pos rfl] at H
  have c4:=cp_ H
  replace H:=ca_ H
  have c4b0:=eq_true c4
  have c4b1:=oC_ c4
  clear c4
  have c5:=cp_ H
  replace H:=ca_ H
  have c5b0:=eq_true c5
  have c5b1:=oC_ c5
  clear c5
  obtain ⟨y615,hy615⟩:∃ y_:List Int,y_ = (List.replicate ((l0.length:Int):Int).toNat 0):=⟨_,rfl⟩
  replace H:(Z23.l0 k y615 l0 (l0.length:Int) 0) = some r:=by first | (rw [hy615];exact H) | exact H
  have Ny615:=A_ hy615
  clear hy615
  have H':=A_ H
  clear H
  go_enter Tryz.func93,Tryz.ntmps93
  go_wp2_with (first | ((with_reducible refine gA_ (f:=104) rfl ?_);refine gL_ (some 7) Tryz.func104 #[.slice A0 l0.length c0] rfl qa_ ?_;(with_reducible refine (Z75.calls k _ _ l0 true _ (cc_ HR0) HC0.out A2.out).mono ?_);rintro e w6 ⟨rfl,hb⟩;refine ⟨_,rfl,?_⟩;replace HB:=b1_ hb;clear hb) | ((with_reducible refine gB_ (N:=11) rfl ?_);refine Kd.R_make (Kd.int .i64) _ 3 rfl (N:=11) rfl 22 _ _ rfl (l0.length:Int) rfl rfl Tryz.underlying22 (.int .i64 0) 8 info3 rfl (by decide) (by omega) 0 (ok:=fun _=>True) (okp:=fun _=>True) rfl (fun _ hk=>hk) trivial (oB_ qe_) (Nat.le_trans (Nat.mul_le_mul_right _ (oB_ qe_:(l0.length:Int).toNat≤35184372088832)) (by omega)) (Below.refl _ _) (nA_ _) ?_;intro v616 w7 ho8 hb hg_ hnew_;clear hg_ hnew_;(first | rw [← Ny615.out] at ho8 | (simp only [Int.reduceToNat] at ho8;rw [← Ny615.out] at ho8));have HO617:=rl_ w ho8;replace HB:=b1_ hb;clear hb ho8))
  go_loopg [14] k (fun kq v14 w'=>∃ (x3_1:List Int) (x14_1:Int),v14 = .int .i64 x14_1∧Aside0 (Z23.l0 kq x3_1 l0 (l0.length:Int) x14_1 = some r)∧Aside0 (kq≤k)∧Aside0 (Kd.R (Kd.int .i64) 3 w' w.heap.size (fun _=>True) v616 x3_1)∧Aside0 (Below w.heap.size w w'))
  case atStart=>exact ⟨(y615),(0),qc_,H',⟨nA_ _⟩,⟨(rr_ HO617)⟩,⟨hB_⟩⟩
  case round =>
   clear H'
   obtain ⟨x3_1,x14_1,rfl,HA,HK1,HO_3,HB⟩:=hrel
   cases gk with
   | zero=>exact absurd HA.out (by simp [Z23.l0])
   | succ k1 =>
    have H:=HA.out
    clear HA
    simp only [Z23.l0] at H
    by_cases c9:x14_1 < (l0.length:Int)
    ·rw [if_pos c9] at H
     have c9b0:=oC_ c9
     clear c9
     have c10:=cp_ H
     replace H:=ca_ H
     have c10b0:=oC_ c10
     clear c10
     have c11:=cp_ H
     replace H:=ca_ H
     have c11b0:=oC_ c11
     clear c11
     have c12:=cp_ H
     replace H:=ca_ H
     have c12b0:=oC_ c12
     clear c12
     have c13:=cp_ H
     replace H:=ca_ H
     have c13b0:=oC_ c13
     clear c13
     obtain ⟨y619,hy619⟩:∃ y_:List Int,y_ = (x3_1.set ((rd l0 x14_1):Int).toNat x14_1):=⟨_,rfl⟩
     replace H:(Z23.l0 k1 y619 l0 (l0.length:Int) (wrap64 (x14_1 + 1))) = some r:=by first | (rw [hy619];exact H) | exact H
     have Ny619:=A_ hy619
     clear hy619
     have H':=A_ H
     clear H
     have p618:0≤(x14_1:Int):=oB_ qe_
     have q618:x14_1 < (l0.length:Int):=oB_ qe_
     obtain ⟨ad618,e618,hx618_0⟩:=Kd.at_int HR0.out x14_1 p618 q618
     cases e618
     replace hx618_0:=(HB.out.cell (World.block_lt_of_cell? w _ hx618_0)).trans hx618_0
     replace p618:=eq_true p618
     replace q618:=eq_true q618
     have p14:0≤((rd l0 x14_1):Int):=oB_ qe_
     have q14:((rd l0 x14_1):Int) < ((x3_1.length:Int):Int):=oB_ qe_
     obtain ⟨go14,co14,eo14,gb14,gl14,cl14,HG14⟩:=Kd.R_form HO_3.out (by omega)
     (first | cases eo14 | (injection eo14 with ea_ en_ ec_;(first | subst ea_ | (injection ea_ with ea_;subst ea_));subst ec_;clear en_))
     have GB14:=A_ gb14
     have GG14:=A_ HG14
     clear gb14 gl14 HG14
     obtain ⟨hx14_0,hf14_0⟩:=Kd.R_celln 0 HO_3.out ((rd l0 x14_1):Int) p14 q14
     replace p14:=eq_true p14
     replace q14:=eq_true q14
     have HP15:=Kd.R_putg HO_3.out ((rd l0 x14_1):Int) x14_1
     go_wp2_with (first | ((with_reducible refine gate_store (t:=3) (p:=22) rfl ?_);refine store_event (t:=3) (p:=22) (v:=?vo_w16) (w1:=(wr.setCell ⟨go14,((rd l0 x14_1):Int).toNat,none⟩ (.int .i64 x14_1))) ?hg ?ho ?hn ?hr ?_;(case ho=>rfl);(case hg=>rfl);(case hn=>rfl);(case hr=>first | (go_simp;done) | (go_simp;rfl));intro w16 hw;have hg:wr.grownBy w16 (some go14):=(by rw [hw];exact HP15.2);have hp_:Kd.R (Kd.int .i64) 3 w16 w.heap.size (fun _=>True) (.slice (some ⟨go14,0,none⟩) x3_1.length co14) y619:=(by rw [hw,Ny619.out];exact HP15.1);clear HP15;replace HO_3:=A_ (hp_);replace HB:=A_ ((by rw [hw];exact bD_ (HB.out) GB14.out:Below w.heap.size w w16));clear hg hw hp_))
     go_roundg k1
     case measure=>have:=HK1.out;omega
     case rel=>exact ⟨(y619),(wrap64 (x14_1 + 1)),qc_,H',⟨by have:=HK1.out;omega⟩,⟨(rr_ HO_3)⟩,⟨hB_⟩⟩
    ·rw [if_neg c9] at H
     have c9b0:=oD_ c9
     clear c9
     obtain rfl:=Option.some.inj H
     go_wp2
     go_ret
     exact ⟨_,qb_,(rr_ HO_3),hB_⟩
 ·replace c3:=Bool.eq_false_iff.mpr c3
  subst c3
  have H1:(some ([]:List Int)) = some r:=by rw [if_neg (show ¬ (false = true) by decide)] at H;exact H
  clear H
  have H:=H1
  clear H1
  obtain rfl:=Option.some.inj H
  go_enter Tryz.func93,Tryz.ntmps93
  go_wp2_with (first | ((with_reducible refine gA_ (f:=104) rfl ?_);refine gL_ (some 7) Tryz.func104 #[.slice A0 l0.length c0] rfl qa_ ?_;(with_reducible refine (Z75.calls k _ _ l0 false _ (cc_ HR0) HC0.out A2.out).mono ?_);rintro e w17 ⟨rfl,hb⟩;refine ⟨_,rfl,?_⟩;replace HB:=b1_ hb;clear hb))
  go_ret
  exact ⟨_,qb_,by first | exact Kd.R_nil _ _ _ _ _ | exact Kd.N_nil _ _ _ _ _ | exact Kd.V_nil _ _ _ _ _ | exact Kd.Q_nil _ _ _ _ _ | exact Kd.S_nil _ _ _ _ _,hB_⟩
def Z16.f (k:Nat) (l0_0:List Int) (l0_1:List Int):Option (List Int × List Int × Bool):=(Z38.f k l0_0 l0_1).bind fun t622=>(if t622 = true then ((Z54.f l0_0).bind fun t623=>((Z23.f k l0_0).bind fun t626=>((Z53.f k t626 l0_1).bind fun t629=>(some (t623,t629,true))))) else (some (([]:List Int),([]:List Int),false)))
theorem Z16.mono:∀ a0 a1 k,LeO (Z16.f k a0 a1) (Z16.f (k + 1) a0 a1):=by
 intro a0 a1 k
 unfold Z16.f
 repeat' first|exact Z23.mono _ _|exact Z38.mono _ _ _|exact Z53.mono _ _ _|exact lo_|refine LeO.ite ?_ ?_|refine LeO.bind ?_ (fun _=>?_)
def Z16.T3:Bool × List (List Nat × List Nat):=(true,[([],[]),([0],[0]),([1],[1]),([],[]),([3],[3]),([4,2],[4]),([],[]),([6],[6]),([5,7,5],[5,7]),([2,8],[2,8]),([9,8,0,1,2,3,4,5,6,7,8,9],[9]),([10,0,1,2,3,4,5,6,7,8,9,10],[])])
def Z16.B3:List Nat:=[0,1,3,0,8,31,0,64,255,511,1023,2047]
theorem Z16.tab3:rtab .any (opsOf Tryz.f59 3) = Z16.T3:=by kernel_rfl
theorem Z16.bits3:waitsOk Z16.T3.2 Z16.B3 = true:=by kernel_rfl
set_option maxHeartbeats 8000000 in
set_option maxRecDepth 100000 in
theorem Z16.calls (k:Nat) (A0_0:Option Addr) (c0_0:Nat) (l0_0:List Int) (A0_1:Option Addr) (c0_1:Nat) (l0_1:List Int) (r1:List Int) (r2:List Int) (r3:Bool) (w:World) (hr0_0:Kd.C (Kd.int .i64) w A0_0 l0_0.length l0_0) (hc0_0:l0_0.length≤c0_0) (hr0_1:Kd.C (Kd.int .i64) w A0_1 l0_1.length l0_1) (hc0_1:l0_1.length≤c0_1) (h:Z16.f k l0_0 l0_1 = some (r1,r2,r3)) :
  Calls Tryz.prog 59 #[.agg #[.slice A0_0 l0_0.length c0_0,.slice A0_1 l0_1.length c0_1]] w fun e w'=>∃ v0_ v1_:Value,e = .returned (.tuple #[.agg #[v0_,v1_],.bool r3])∧Kd.R (Kd.int .i64) 3 w' w.heap.size (fun k_=>some k_≠(v1_:Value).ownBlock) v0_ r1∧Kd.R (Kd.int .i64) 3 w' w.heap.size (fun k_=>some k_≠(v0_:Value).ownBlock) v1_ r2∧Below w.heap.size w w':=by
 have hu27:=Tryz.underlying27
 have HR0_0:=A_ hr0_0
 have HC0_0:=A_ hc0_0
 clear hr0_0 hc0_0
 have HR0_1:=A_ hr0_1
 have HC0_1:=A_ hc0_1
 clear hr0_1 hc0_1
 have HB:=A_ (Below.refl w.heap.size w)
 have H:=h
 unfold Z16.f at H
 clear h
 obtain ⟨t622,A2,H⟩:=bi_ H
 by_cases c3:t622 = true
 ·subst c3
  rw [if_pos rfl] at H
  obtain ⟨t623,A4,H⟩:=bi_ H
  obtain ⟨t626,A5,H⟩:=bi_ H
  obtain ⟨t629,A6,H⟩:=bi_ H
  simp only [Option.some.injEq,Prod.mk.injEq] at H
  obtain ⟨rfl,rfl,rfl⟩:=H
  go_enter Tryz.func59,Tryz.ntmps59
  try go_wp2_with (first | ((with_reducible refine gB_ (N:=1) rfl ?_);refine bx_ 1 #[.slice A0_0 l0_0.length c0_0,.slice A0_1 l0_1.length c0_1] 27 ?_;intro gb620 hg w7 hbox hb;have BK620:=A_ hbox;have GW620:=gw_ w hg;have GE620:=GW620;replace HB:=b1_ hb;clear hb hbox hg) | ((with_reducible refine gB_ (N:=2) rfl ?_);refine bx_ 2 #[.slice none 0 0,.slice none 0 0] 27 ?_;intro gb621 hg w8 hbox hb;have BK621:=A_ hbox;have GW621:=gw_ w hg;have GE621:=GW621;replace HB:=b1_ hb;have NB620_621:=gN_ BK620 hg;have NB621_620:=gP_ BK620 hg;replace BK620:=bb_ BK620 hb;clear hb hbox hg;have hnb9:=NB620_621.out;have hnc9:=NB621_620.out;obtain ⟨hcz10_0,hcz10_1,hfz10_0,hfz10_1⟩:=c2_ BK620) | ((with_reducible refine gA_ (f:=76) rfl ?_);refine gL_ (some 5) Tryz.func76 #[.agg #[.slice A0_0 l0_0.length c0_0,.slice A0_1 l0_1.length c0_1]] rfl qa_ ?_;(with_reducible refine (Z38.calls k _ _ l0_0 _ _ l0_1 true _ (cb_ HR0_0) HC0_0.out (cb_ HR0_1) HC0_1.out A2.out).mono ?_);rintro e w11 ⟨rfl,hb⟩;refine ⟨_,rfl,?_⟩;replace BK620:=bb_ BK620 hb;replace BK621:=bb_ BK621 hb;replace HB:=b1_ hb;clear hb))
  replace BK620:=A_ (kB_ BK620.out)
  replace BK621:=A_ (kB_ BK621.out)
  replace HB:=A_ (bC_ HB.out)
  refine start_ (n:=12) (S:=fun w'=>w'.cell? ⟨gb620,0,none⟩ = some (.slice A0_0 l0_0.length c0_0)∧w'.cell? ⟨gb620,1,none⟩ = some (.slice A0_1 l0_1.length c0_1)) (ds:=[]) (bl_ 12 0) (by kernel_rfl) rfl (by kernel_rfl) ⟨cz0_ BK620,cz1_ BK620⟩ (fun hHeld=>?_);refine with_tabW Z16.tab3 Z16.bits3 (fun HT_ HW_=>?_)
  generalize w11.drew = w12 at BK620 BK621 HB hHeld ⊢
  refine pu_ 0 (some 8) (bl_ 12 1) HT_ ?_
  refine pu_ 3 (some 11) (bl_ 12 9) HT_ ?_
  refine pu_ 6 (some 14) (bl_ 12 73) HT_ ?_
  refine ta_ 1 (some 9) (bl_ 12 75) HT_ HW_ hHeld ?_
  refine ta_ 4 (some 12) (bl_ 12 91) HT_ HW_ hHeld ?_
  refine ta_ 7 (some 15) (bl_ 12 219) HT_ HW_ hHeld ?_
  refine on_ 2 (some 10) (bl_ 12 223) HT_ (fun K hK=>?_)
  refine gO_ Tryz.func91 #[.slice A0_0 l0_0.length c0_0] (by rfl) rfl rfl qa_ ?_
  with_reducible refine (Z54.calls _ _ l0_0 t623 _ (cb_ HR0_0) HC0_0.out A4.out).mono ?_
  rintro e w13 ⟨v624,rfl,ho0,hb⟩
  refine ⟨_,rfl,?_⟩
  have HO625:=rl_ w ho0
  replace BK620:=bb_ BK620 hb
  replace BK621:=bb_ BK621 hb
  replace HB:=b1_ hb
  clear hb ho0
  refine hK.out _ _ ⟨cz0_ BK620,cz1_ BK620⟩ (fun hHeld=>?_)
  clear hK K
  refine no_ (some 10) ?_
  refine on_ 5 (some 13) (bl_ 12 255) HT_ (fun K hK=>?_)
  refine gO_ Tryz.func93 #[.slice A0_0 l0_0.length c0_0] (by rfl) rfl rfl qa_ ?_
  with_reducible refine (Z23.calls k _ _ l0_0 t626 _ (cb_ HR0_0) HC0_0.out A5.out).mono ?_
  rintro e w14 ⟨v627,rfl,ho0,hb⟩
  refine ⟨_,rfl,?_⟩
  have HO628:=A_ (rE_ (Kd.R_new' ho0 (Kd.R_lt (rr_ HO625))) (bF_ hB_))
  replace HO625:=A_ (Kd.R_elder' (rr_ HO625) (Kd.R_base ho0) hb)
  replace BK620:=bb_ BK620 hb
  replace BK621:=bb_ BK621 hb
  replace HB:=b1_ hb
  clear hb ho0
  obtain ⟨Ao15,co15,eo15⟩:=Kd.R_slice HO628.out
  (first | subst eo15 | (injection eo15 with f1_ f2_ f3_;have f4_:=f1_.symm;have f5_:=f3_.symm;clear f1_ f2_ f3_;subst f4_;subst f5_))
  refine hK.out _ _ ⟨cz0_ BK620,cz1_ BK620⟩ (fun hHeld=>?_)
  clear hK K
  refine no_ (some 13) ?_
  refine on_ 8 (some 16) (bl_ 12 511) HT_ (fun K hK=>?_)
  refine gO_ Tryz.func92 #[.slice Ao15 t626.length co15,.slice A0_1 l0_1.length c0_1] (by rfl) rfl rfl qa_ ?_
  with_reducible refine (Z53.calls k _ _ t626 _ _ l0_1 t629 _ (cr_ HO628) ((Kd.R_reads' HO628.out).2.1) (cb_ HR0_1) HC0_1.out A6.out).mono ?_
  rintro e w16 ⟨v630,rfl,ho0,hb⟩
  refine ⟨_,rfl,?_⟩
  have HO631:=A_ (rE_ (Kd.R_new' (Kd.R_new' ho0 (Kd.R_lt (rr_ HO625))) (Kd.R_lt (rr_ HO628))) (bF_ hB_))
  replace HO625:=A_ (Kd.R_elder' (rr_ HO625) (Kd.R_base ho0) hb)
  replace HO628:=A_ (Kd.R_elder' (rr_ HO628) (Kd.R_base ho0) hb)
  replace BK620:=bb_ BK620 hb
  replace BK621:=bb_ BK621 hb
  replace HB:=b1_ hb
  clear hb ho0
  obtain ⟨Ao17,co17,eo17⟩:=Kd.R_slice HO631.out
  (first | subst eo17 | (injection eo17 with f1_ f2_ f3_;have f4_:=f1_.symm;have f5_:=f3_.symm;clear f1_ f2_ f3_;subst f4_;subst f5_))
  obtain ⟨Ao18,co18,eo18⟩:=Kd.R_slice HO625.out
  (first | subst eo18 | (injection eo18 with f1_ f2_ f3_;have f4_:=f1_.symm;have f5_:=f3_.symm;clear f1_ f2_ f3_;subst f4_;subst f5_))
  refine hK.out _ _ ⟨cz0_ BK620,cz1_ BK620⟩ (fun hHeld=>?_)
  clear hK K
  refine no_ (some 16) ?_
  refine pu_ 9 (some 17) (bl_ 12 1023) HT_ ?_
  refine on_ 10 (none) (bl_ 12 2047) HT_ (fun K hK=>?_)
  have hs19:w16.cell? ⟨gb621,0,none⟩ = some (.slice none 0 0):=cz0_ BK621
  have hfs19:=kD_ BK621.out 0
  have hns19_0:=NB620_621.out
  have hms19_0:=NB621_620.out
  have hs20:w16.cell? ⟨gb621,1,none⟩ = some (.slice none 0 0):=cz1_ BK621
  have hfs20:=kD_ BK621.out 1
  have hns20_0:=NB620_621.out
  have hms20_0:=NB621_620.out
  refine skip_ (w1:=?_) (by rfl) rfl ?_ ?_
  rotate_left
  ·go_simp
   rfl
  refine hK.out _ _ ⟨((cell_far (p:=⟨gb621,_,none⟩) NB620_621.out _).trans (((cell_far (p:=⟨gb621,_,none⟩) NB620_621.out _).trans (hHeld.1)))),((cell_far (p:=⟨gb621,_,none⟩) NB620_621.out _).trans (((cell_far (p:=⟨gb621,_,none⟩) NB620_621.out _).trans (hHeld.2))))⟩ (fun hHeld=>?_)
  clear hK K
  refine pu_ 11 (some 3) (bl_ 12 4095) HT_ ?_
  refine done_ (done_of HT_.out (by kernel_rfl)) ?_
  try go_wp2
  refine bodyPost_ret (results_ct rfl _ _ gb621 27 #[.slice Ao18 t623.length co18,.slice Ao17 t629.length co17] (0,0) _ rfl qp_ Tryz.underlying27 rfl (by kernel_rfl)) rfl ?_
  exact ⟨_,_,qb_,(rw_ (Kd.R_mono (fa_ HO625 BK621) (fun _ hk=>hk.2))),(rw_ (Kd.R_mono (fa_ HO631 BK621) (fun _ hk=>hk.1.2))),hB_⟩
 ·replace c3:=Bool.eq_false_iff.mpr c3
  subst c3
  have H1:(some (([]:List Int),([]:List Int),false)) = some (r1,r2,r3):=by rw [if_neg (show ¬ (false = true) by decide)] at H;exact H
  clear H
  have H:=H1
  clear H1
  simp only [Option.some.injEq,Prod.mk.injEq] at H
  obtain ⟨rfl,rfl,rfl⟩:=H
  go_enter Tryz.func59,Tryz.ntmps59
  go_wp2_with (first | ((with_reducible refine gB_ (N:=1) rfl ?_);refine bx_ 1 #[.slice A0_0 l0_0.length c0_0,.slice A0_1 l0_1.length c0_1] 27 ?_;intro gb620 hg w21 hbox hb;have BK620:=A_ hbox;have GW620:=gw_ w hg;have GE620:=GW620;replace HB:=b1_ hb;clear hb hbox hg) | ((with_reducible refine gB_ (N:=2) rfl ?_);refine bx_ 2 #[.slice none 0 0,.slice none 0 0] 27 ?_;intro gb621 hg w22 hbox hb;have BK621:=A_ hbox;have GW621:=gw_ w hg;have GE621:=GW621;replace HB:=b1_ hb;have NB620_621:=gN_ BK620 hg;have NB621_620:=gP_ BK620 hg;replace BK620:=bb_ BK620 hb;clear hb hbox hg;have hnb23:=NB620_621.out;have hnc23:=NB621_620.out;obtain ⟨hcz24_0,hcz24_1,hfz24_0,hfz24_1⟩:=c2_ BK620) | ((with_reducible refine gA_ (f:=76) rfl ?_);refine gL_ (some 5) Tryz.func76 #[.agg #[.slice A0_0 l0_0.length c0_0,.slice A0_1 l0_1.length c0_1]] rfl qa_ ?_;(with_reducible refine (Z38.calls k _ _ l0_0 _ _ l0_1 false _ (cb_ HR0_0) HC0_0.out (cb_ HR0_1) HC0_1.out A2.out).mono ?_);rintro e w25 ⟨rfl,hb⟩;refine ⟨_,rfl,?_⟩;replace BK620:=bb_ BK620 hb;replace BK621:=bb_ BK621 hb;replace HB:=b1_ hb;clear hb;obtain ⟨hcz26_0,hcz26_1,hfz26_0,hfz26_1⟩:=c2_ BK621))
  refine bodyPost_ret (results_ct rfl _ _ gb621 27 #[.slice none 0 0,.slice none 0 0] (0,0) _ rfl qp_ Tryz.underlying27 rfl (by kernel_rfl)) rfl ?_
  exact ⟨_,_,qb_,by first | exact Kd.R_nil _ _ _ _ _ | exact Kd.N_nil _ _ _ _ _ | exact Kd.V_nil _ _ _ _ _ | exact Kd.Q_nil _ _ _ _ _ | exact Kd.S_nil _ _ _ _ _,by first | exact Kd.R_nil _ _ _ _ _ | exact Kd.N_nil _ _ _ _ _ | exact Kd.V_nil _ _ _ _ _ | exact Kd.Q_nil _ _ _ _ _ | exact Kd.S_nil _ _ _ _ _,hB_⟩
def Z6.f (k:Nat) (l0_0:List Int) (l0_1:List Int):Option (List Int × List Int × Bool):=(Z38.f k l0_0 l0_1).bind fun t634=>(if t634 = true then ((Z54.f l0_0).bind fun t635=>((Z53.f k l0_0 l0_1).bind fun t638=>(some (t635,t638,true)))) else (some (([]:List Int),([]:List Int),false)))
theorem Z6.mono:∀ a0 a1 k,LeO (Z6.f k a0 a1) (Z6.f (k + 1) a0 a1):=by
 intro a0 a1 k
 unfold Z6.f
 repeat' first|exact Z38.mono _ _ _|exact Z53.mono _ _ _|exact lo_|refine LeO.ite ?_ ?_|refine LeO.bind ?_ (fun _=>?_)
def Z6.T3:Bool × List (List Nat × List Nat):=(true,[([],[]),([0],[0]),([1],[1]),([],[]),([3],[3]),([],[]),([5],[5]),([4,6,2],[4,6]),([2,7],[2,7]),([8,7,0,1,2,3,4,5,6,7,8],[8]),([9,0,1,2,3,4,5,6,7,8,9],[])])
def Z6.B3:List Nat:=[0,1,3,0,8,0,32,127,255,511,1023]
theorem Z6.tab3:rtab .any (opsOf Tryz.f60 3) = Z6.T3:=by kernel_rfl
theorem Z6.bits3:waitsOk Z6.T3.2 Z6.B3 = true:=by kernel_rfl
set_option maxHeartbeats 8000000 in
set_option maxRecDepth 100000 in
theorem Z6.calls (k:Nat) (A0_0:Option Addr) (c0_0:Nat) (l0_0:List Int) (A0_1:Option Addr) (c0_1:Nat) (l0_1:List Int) (r1:List Int) (r2:List Int) (r3:Bool) (w:World) (hr0_0:Kd.C (Kd.int .i64) w A0_0 l0_0.length l0_0) (hc0_0:l0_0.length≤c0_0) (hr0_1:Kd.C (Kd.int .i64) w A0_1 l0_1.length l0_1) (hc0_1:l0_1.length≤c0_1) (h:Z6.f k l0_0 l0_1 = some (r1,r2,r3)) :
  Calls Tryz.prog 60 #[.agg #[.slice A0_0 l0_0.length c0_0,.slice A0_1 l0_1.length c0_1]] w fun e w'=>∃ v0_ v1_:Value,e = .returned (.tuple #[.agg #[v0_,v1_],.bool r3])∧Kd.R (Kd.int .i64) 3 w' w.heap.size (fun k_=>some k_≠(v1_:Value).ownBlock) v0_ r1∧Kd.R (Kd.int .i64) 3 w' w.heap.size (fun k_=>some k_≠(v0_:Value).ownBlock) v1_ r2∧Below w.heap.size w w':=by
 have hu27:=Tryz.underlying27
 have HR0_0:=A_ hr0_0
 have HC0_0:=A_ hc0_0
 clear hr0_0 hc0_0
 have HR0_1:=A_ hr0_1
 have HC0_1:=A_ hc0_1
 clear hr0_1 hc0_1
 have HB:=A_ (Below.refl w.heap.size w)
 have H:=h
 unfold Z6.f at H
 clear h
 obtain ⟨t634,A2,H⟩:=bi_ H
 by_cases c3:t634 = true
 ·subst c3
  rw [if_pos rfl] at H
  obtain ⟨t635,A4,H⟩:=bi_ H
  obtain ⟨t638,A5,H⟩:=bi_ H
  simp only [Option.some.injEq,Prod.mk.injEq] at H
  obtain ⟨rfl,rfl,rfl⟩:=H
  go_enter Tryz.func60,Tryz.ntmps60
  try go_wp2_with (first | ((with_reducible refine gB_ (N:=1) rfl ?_);refine bx_ 1 #[.slice A0_0 l0_0.length c0_0,.slice A0_1 l0_1.length c0_1] 27 ?_;intro gb632 hg w6 hbox hb;have BK632:=A_ hbox;have GW632:=gw_ w hg;have GE632:=GW632;replace HB:=b1_ hb;clear hb hbox hg) | ((with_reducible refine gB_ (N:=2) rfl ?_);refine bx_ 2 #[.slice none 0 0,.slice none 0 0] 27 ?_;intro gb633 hg w7 hbox hb;have BK633:=A_ hbox;have GW633:=gw_ w hg;have GE633:=GW633;replace HB:=b1_ hb;have NB632_633:=gN_ BK632 hg;have NB633_632:=gP_ BK632 hg;replace BK632:=bb_ BK632 hb;clear hb hbox hg;have hnb8:=NB632_633.out;have hnc8:=NB633_632.out;obtain ⟨hcz9_0,hcz9_1,hfz9_0,hfz9_1⟩:=c2_ BK632) | ((with_reducible refine gA_ (f:=76) rfl ?_);refine gL_ (some 5) Tryz.func76 #[.agg #[.slice A0_0 l0_0.length c0_0,.slice A0_1 l0_1.length c0_1]] rfl qa_ ?_;(with_reducible refine (Z38.calls k _ _ l0_0 _ _ l0_1 true _ (cb_ HR0_0) HC0_0.out (cb_ HR0_1) HC0_1.out A2.out).mono ?_);rintro e w10 ⟨rfl,hb⟩;refine ⟨_,rfl,?_⟩;replace BK632:=bb_ BK632 hb;replace BK633:=bb_ BK633 hb;replace HB:=b1_ hb;clear hb))
  replace BK632:=A_ (kB_ BK632.out)
  replace BK633:=A_ (kB_ BK633.out)
  replace HB:=A_ (bC_ HB.out)
  refine start_ (n:=11) (S:=fun w'=>w'.cell? ⟨gb632,0,none⟩ = some (.slice A0_0 l0_0.length c0_0)∧w'.cell? ⟨gb632,1,none⟩ = some (.slice A0_1 l0_1.length c0_1)) (ds:=[]) (bl_ 11 0) (by kernel_rfl) rfl (by kernel_rfl) ⟨cz0_ BK632,cz1_ BK632⟩ (fun hHeld=>?_);refine with_tabW Z6.tab3 Z6.bits3 (fun HT_ HW_=>?_)
  generalize w10.drew = w11 at BK632 BK633 HB hHeld ⊢
  refine pu_ 0 (some 8) (bl_ 11 1) HT_ ?_
  refine pu_ 3 (some 11) (bl_ 11 9) HT_ ?_
  refine pu_ 5 (some 13) (bl_ 11 41) HT_ ?_
  refine ta_ 1 (some 9) (bl_ 11 43) HT_ HW_ hHeld ?_
  refine ta_ 4 (some 12) (bl_ 11 59) HT_ HW_ hHeld ?_
  refine ta_ 6 (some 14) (bl_ 11 123) HT_ HW_ hHeld ?_
  refine on_ 2 (some 10) (bl_ 11 127) HT_ (fun K hK=>?_)
  refine gO_ Tryz.func91 #[.slice A0_0 l0_0.length c0_0] (by rfl) rfl rfl qa_ ?_
  with_reducible refine (Z54.calls _ _ l0_0 t635 _ (cb_ HR0_0) HC0_0.out A4.out).mono ?_
  rintro e w12 ⟨v636,rfl,ho0,hb⟩
  refine ⟨_,rfl,?_⟩
  have HO637:=rl_ w ho0
  replace BK632:=bb_ BK632 hb
  replace BK633:=bb_ BK633 hb
  replace HB:=b1_ hb
  clear hb ho0
  refine hK.out _ _ ⟨cz0_ BK632,cz1_ BK632⟩ (fun hHeld=>?_)
  clear hK K
  refine no_ (some 10) ?_
  refine on_ 7 (some 15) (bl_ 11 255) HT_ (fun K hK=>?_)
  refine gO_ Tryz.func92 #[.slice A0_0 l0_0.length c0_0,.slice A0_1 l0_1.length c0_1] (by rfl) rfl rfl qa_ ?_
  with_reducible refine (Z53.calls k _ _ l0_0 _ _ l0_1 t638 _ (cb_ HR0_0) HC0_0.out (cb_ HR0_1) HC0_1.out A5.out).mono ?_
  rintro e w13 ⟨v639,rfl,ho0,hb⟩
  refine ⟨_,rfl,?_⟩
  have HO640:=A_ (rE_ (Kd.R_new' ho0 (Kd.R_lt (rr_ HO637))) (bF_ hB_))
  replace HO637:=A_ (Kd.R_elder' (rr_ HO637) (Kd.R_base ho0) hb)
  replace BK632:=bb_ BK632 hb
  replace BK633:=bb_ BK633 hb
  replace HB:=b1_ hb
  clear hb ho0
  obtain ⟨Ao14,co14,eo14⟩:=Kd.R_slice HO640.out
  (first | subst eo14 | (injection eo14 with f1_ f2_ f3_;have f4_:=f1_.symm;have f5_:=f3_.symm;clear f1_ f2_ f3_;subst f4_;subst f5_))
  obtain ⟨Ao15,co15,eo15⟩:=Kd.R_slice HO637.out
  (first | subst eo15 | (injection eo15 with f1_ f2_ f3_;have f4_:=f1_.symm;have f5_:=f3_.symm;clear f1_ f2_ f3_;subst f4_;subst f5_))
  refine hK.out _ _ ⟨cz0_ BK632,cz1_ BK632⟩ (fun hHeld=>?_)
  clear hK K
  refine no_ (some 15) ?_
  refine pu_ 8 (some 16) (bl_ 11 511) HT_ ?_
  refine on_ 9 (none) (bl_ 11 1023) HT_ (fun K hK=>?_)
  have hs16:w13.cell? ⟨gb633,0,none⟩ = some (.slice none 0 0):=cz0_ BK633
  have hfs16:=kD_ BK633.out 0
  have hns16_0:=NB632_633.out
  have hms16_0:=NB633_632.out
  have hs17:w13.cell? ⟨gb633,1,none⟩ = some (.slice none 0 0):=cz1_ BK633
  have hfs17:=kD_ BK633.out 1
  have hns17_0:=NB632_633.out
  have hms17_0:=NB633_632.out
  refine skip_ (w1:=?_) (by rfl) rfl ?_ ?_
  rotate_left
  ·go_simp
   rfl
  refine hK.out _ _ ⟨((cell_far (p:=⟨gb633,_,none⟩) NB632_633.out _).trans (((cell_far (p:=⟨gb633,_,none⟩) NB632_633.out _).trans (hHeld.1)))),((cell_far (p:=⟨gb633,_,none⟩) NB632_633.out _).trans (((cell_far (p:=⟨gb633,_,none⟩) NB632_633.out _).trans (hHeld.2))))⟩ (fun hHeld=>?_)
  clear hK K
  refine pu_ 10 (some 3) (bl_ 11 2047) HT_ ?_
  refine done_ (done_of HT_.out (by kernel_rfl)) ?_
  try go_wp2
  refine bodyPost_ret (results_ct rfl _ _ gb633 27 #[.slice Ao15 t635.length co15,.slice Ao14 t638.length co14] (0,0) _ rfl qp_ Tryz.underlying27 rfl (by kernel_rfl)) rfl ?_
  exact ⟨_,_,qb_,(rw_ (Kd.R_mono (fa_ HO637 BK633) (fun _ hk=>hk.2))),(rw_ (Kd.R_mono (fa_ HO640 BK633) (fun _ hk=>hk.2))),hB_⟩
 ·replace c3:=Bool.eq_false_iff.mpr c3
  subst c3
  have H1:(some (([]:List Int),([]:List Int),false)) = some (r1,r2,r3):=by rw [if_neg (show ¬ (false = true) by decide)] at H;exact H
  clear H
  have H:=H1
  clear H1
  simp only [Option.some.injEq,Prod.mk.injEq] at H
  obtain ⟨rfl,rfl,rfl⟩:=H
  go_enter Tryz.func60,Tryz.ntmps60
  go_wp2_with (first | ((with_reducible refine gB_ (N:=1) rfl ?_);refine bx_ 1 #[.slice A0_0 l0_0.length c0_0,.slice A0_1 l0_1.length c0_1] 27 ?_;intro gb632 hg w18 hbox hb;have BK632:=A_ hbox;have GW632:=gw_ w hg;have GE632:=GW632;replace HB:=b1_ hb;clear hb hbox hg) | ((with_reducible refine gB_ (N:=2) rfl ?_);refine bx_ 2 #[.slice none 0 0,.slice none 0 0] 27 ?_;intro gb633 hg w19 hbox hb;have BK633:=A_ hbox;have GW633:=gw_ w hg;have GE633:=GW633;replace HB:=b1_ hb;have NB632_633:=gN_ BK632 hg;have NB633_632:=gP_ BK632 hg;replace BK632:=bb_ BK632 hb;clear hb hbox hg;have hnb20:=NB632_633.out;have hnc20:=NB633_632.out;obtain ⟨hcz21_0,hcz21_1,hfz21_0,hfz21_1⟩:=c2_ BK632) | ((with_reducible refine gA_ (f:=76) rfl ?_);refine gL_ (some 5) Tryz.func76 #[.agg #[.slice A0_0 l0_0.length c0_0,.slice A0_1 l0_1.length c0_1]] rfl qa_ ?_;(with_reducible refine (Z38.calls k _ _ l0_0 _ _ l0_1 false _ (cb_ HR0_0) HC0_0.out (cb_ HR0_1) HC0_1.out A2.out).mono ?_);rintro e w22 ⟨rfl,hb⟩;refine ⟨_,rfl,?_⟩;replace BK632:=bb_ BK632 hb;replace BK633:=bb_ BK633 hb;replace HB:=b1_ hb;clear hb;obtain ⟨hcz23_0,hcz23_1,hfz23_0,hfz23_1⟩:=c2_ BK633))
  refine bodyPost_ret (results_ct rfl _ _ gb633 27 #[.slice none 0 0,.slice none 0 0] (0,0) _ rfl qp_ Tryz.underlying27 rfl (by kernel_rfl)) rfl ?_
  exact ⟨_,_,qb_,by first | exact Kd.R_nil _ _ _ _ _ | exact Kd.N_nil _ _ _ _ _ | exact Kd.V_nil _ _ _ _ _ | exact Kd.Q_nil _ _ _ _ _ | exact Kd.S_nil _ _ _ _ _,by first | exact Kd.R_nil _ _ _ _ _ | exact Kd.N_nil _ _ _ _ _ | exact Kd.V_nil _ _ _ _ _ | exact Kd.Q_nil _ _ _ _ _ | exact Kd.S_nil _ _ _ _ _,hB_⟩
def Z25.f (k:Nat) (l0_0:List Int) (l0_1:List Int):Option (List Int × List Int × Bool):=(Z38.f k l0_0 l0_1).bind fun t643=>(if t643 = true then ((Z23.f k l0_1).bind fun t644=>((Z54.f l0_0).bind fun t647=>(some (t644,t647,true)))) else (some (([]:List Int),([]:List Int),false)))
theorem Z25.mono:∀ a0 a1 k,LeO (Z25.f k a0 a1) (Z25.f (k + 1) a0 a1):=by
 intro a0 a1 k
 unfold Z25.f
 repeat' first|exact Z23.mono _ _|exact Z38.mono _ _ _|exact lo_|refine LeO.ite ?_ ?_|refine LeO.bind ?_ (fun _=>?_)
def Z25.T3:Bool × List (List Nat × List Nat):=(true,[([],[]),([0],[0]),([1],[1]),([],[]),([3],[3]),([4,2],[4]),([2,5],[2,5]),([6,5,0,1,2,3,4,5,6],[6]),([7,0,1,2,3,4,5,6,7],[])])
def Z25.B3:List Nat:=[0,1,3,0,8,31,63,127,255]
theorem Z25.tab3:rtab .any (opsOf Tryz.f61 3) = Z25.T3:=by kernel_rfl
theorem Z25.bits3:waitsOk Z25.T3.2 Z25.B3 = true:=by kernel_rfl
set_option maxHeartbeats 8000000 in
set_option maxRecDepth 100000 in
theorem Z25.calls (k:Nat) (A0_0:Option Addr) (c0_0:Nat) (l0_0:List Int) (A0_1:Option Addr) (c0_1:Nat) (l0_1:List Int) (r1:List Int) (r2:List Int) (r3:Bool) (w:World) (hr0_0:Kd.C (Kd.int .i64) w A0_0 l0_0.length l0_0) (hc0_0:l0_0.length≤c0_0) (hr0_1:Kd.C (Kd.int .i64) w A0_1 l0_1.length l0_1) (hc0_1:l0_1.length≤c0_1) (h:Z25.f k l0_0 l0_1 = some (r1,r2,r3)) :
  Calls Tryz.prog 61 #[.agg #[.slice A0_0 l0_0.length c0_0,.slice A0_1 l0_1.length c0_1]] w fun e w'=>∃ v0_ v1_:Value,e = .returned (.tuple #[.agg #[v0_,v1_],.bool r3])∧Kd.R (Kd.int .i64) 3 w' w.heap.size (fun k_=>some k_≠(v1_:Value).ownBlock) v0_ r1∧Kd.R (Kd.int .i64) 3 w' w.heap.size (fun k_=>some k_≠(v0_:Value).ownBlock) v1_ r2∧Below w.heap.size w w':=by
 have hu27:=Tryz.underlying27
 have HR0_0:=A_ hr0_0
 have HC0_0:=A_ hc0_0
 clear hr0_0 hc0_0
 have HR0_1:=A_ hr0_1
 have HC0_1:=A_ hc0_1
 clear hr0_1 hc0_1
 have HB:=A_ (Below.refl w.heap.size w)
 have H:=h
 unfold Z25.f at H
 clear h
 obtain ⟨t643,A2,H⟩:=bi_ H
 by_cases c3:t643 = true
 ·subst c3
  rw [if_pos rfl] at H
  obtain ⟨t644,A4,H⟩:=bi_ H
  obtain ⟨t647,A5,H⟩:=bi_ H
  simp only [Option.some.injEq,Prod.mk.injEq] at H
  obtain ⟨rfl,rfl,rfl⟩:=H
  go_enter Tryz.func61,Tryz.ntmps61
  try go_wp2_with (first | ((with_reducible refine gB_ (N:=1) rfl ?_);refine bx_ 1 #[.slice A0_0 l0_0.length c0_0,.slice A0_1 l0_1.length c0_1] 27 ?_;intro gb641 hg w6 hbox hb;have BK641:=A_ hbox;have GW641:=gw_ w hg;have GE641:=GW641;replace HB:=b1_ hb;clear hb hbox hg) | ((with_reducible refine gB_ (N:=2) rfl ?_);refine bx_ 2 #[.slice none 0 0,.slice none 0 0] 27 ?_;intro gb642 hg w7 hbox hb;have BK642:=A_ hbox;have GW642:=gw_ w hg;have GE642:=GW642;replace HB:=b1_ hb;have NB641_642:=gN_ BK641 hg;have NB642_641:=gP_ BK641 hg;replace BK641:=bb_ BK641 hb;clear hb hbox hg;have hnb8:=NB641_642.out;have hnc8:=NB642_641.out;obtain ⟨hcz9_0,hcz9_1,hfz9_0,hfz9_1⟩:=c2_ BK641) | ((with_reducible refine gA_ (f:=76) rfl ?_);refine gL_ (some 5) Tryz.func76 #[.agg #[.slice A0_0 l0_0.length c0_0,.slice A0_1 l0_1.length c0_1]] rfl qa_ ?_;(with_reducible refine (Z38.calls k _ _ l0_0 _ _ l0_1 true _ (cb_ HR0_0) HC0_0.out (cb_ HR0_1) HC0_1.out A2.out).mono ?_);rintro e w10 ⟨rfl,hb⟩;refine ⟨_,rfl,?_⟩;replace BK641:=bb_ BK641 hb;replace BK642:=bb_ BK642 hb;replace HB:=b1_ hb;clear hb))
  replace BK641:=A_ (kB_ BK641.out)
  replace BK642:=A_ (kB_ BK642.out)
  replace HB:=A_ (bC_ HB.out)
  refine start_ (n:=9) (S:=fun w'=>w'.cell? ⟨gb641,0,none⟩ = some (.slice A0_0 l0_0.length c0_0)∧w'.cell? ⟨gb641,1,none⟩ = some (.slice A0_1 l0_1.length c0_1)) (ds:=[]) (bl_ 9 0) (by kernel_rfl) rfl (by kernel_rfl) ⟨cz0_ BK641,cz1_ BK641⟩ (fun hHeld=>?_);refine with_tabW Z25.tab3 Z25.bits3 (fun HT_ HW_=>?_)
  generalize w10.drew = w11 at BK641 BK642 HB hHeld ⊢
  refine pu_ 0 (some 8) (bl_ 9 1) HT_ ?_
  refine pu_ 3 (some 11) (bl_ 9 9) HT_ ?_
  refine ta_ 1 (some 9) (bl_ 9 11) HT_ HW_ hHeld ?_
  refine ta_ 4 (some 12) (bl_ 9 27) HT_ HW_ hHeld ?_
  refine on_ 2 (some 10) (bl_ 9 31) HT_ (fun K hK=>?_)
  refine gO_ Tryz.func93 #[.slice A0_1 l0_1.length c0_1] (by rfl) rfl rfl qa_ ?_
  with_reducible refine (Z23.calls k _ _ l0_1 t644 _ (cb_ HR0_1) HC0_1.out A4.out).mono ?_
  rintro e w12 ⟨v645,rfl,ho0,hb⟩
  refine ⟨_,rfl,?_⟩
  have HO646:=rl_ w ho0
  replace BK641:=bb_ BK641 hb
  replace BK642:=bb_ BK642 hb
  replace HB:=b1_ hb
  clear hb ho0
  refine hK.out _ _ ⟨cz0_ BK641,cz1_ BK641⟩ (fun hHeld=>?_)
  clear hK K
  refine no_ (some 10) ?_
  refine on_ 5 (some 13) (bl_ 9 63) HT_ (fun K hK=>?_)
  refine gO_ Tryz.func91 #[.slice A0_0 l0_0.length c0_0] (by rfl) rfl rfl qa_ ?_
  with_reducible refine (Z54.calls _ _ l0_0 t647 _ (cb_ HR0_0) HC0_0.out A5.out).mono ?_
  rintro e w13 ⟨v648,rfl,ho0,hb⟩
  refine ⟨_,rfl,?_⟩
  have HO649:=A_ (rE_ (Kd.R_new' ho0 (Kd.R_lt (rr_ HO646))) (bF_ hB_))
  replace HO646:=A_ (Kd.R_elder' (rr_ HO646) (Kd.R_base ho0) hb)
  replace BK641:=bb_ BK641 hb
  replace BK642:=bb_ BK642 hb
  replace HB:=b1_ hb
  clear hb ho0
  obtain ⟨Ao14,co14,eo14⟩:=Kd.R_slice HO649.out
  (first | subst eo14 | (injection eo14 with f1_ f2_ f3_;have f4_:=f1_.symm;have f5_:=f3_.symm;clear f1_ f2_ f3_;subst f4_;subst f5_))
  obtain ⟨Ao15,co15,eo15⟩:=Kd.R_slice HO646.out
  (first | subst eo15 | (injection eo15 with f1_ f2_ f3_;have f4_:=f1_.symm;have f5_:=f3_.symm;clear f1_ f2_ f3_;subst f4_;subst f5_))
  refine hK.out _ _ ⟨cz0_ BK641,cz1_ BK641⟩ (fun hHeld=>?_)
  clear hK K
  refine no_ (some 13) ?_
  refine pu_ 6 (some 14) (bl_ 9 127) HT_ ?_
  refine on_ 7 (none) (bl_ 9 255) HT_ (fun K hK=>?_)
  have hs16:w13.cell? ⟨gb642,0,none⟩ = some (.slice none 0 0):=cz0_ BK642
  have hfs16:=kD_ BK642.out 0
  have hns16_0:=NB641_642.out
  have hms16_0:=NB642_641.out
  have hs17:w13.cell? ⟨gb642,1,none⟩ = some (.slice none 0 0):=cz1_ BK642
  have hfs17:=kD_ BK642.out 1
  have hns17_0:=NB641_642.out
  have hms17_0:=NB642_641.out
  refine skip_ (w1:=?_) (by rfl) rfl ?_ ?_
  rotate_left
  ·go_simp
   rfl
  refine hK.out _ _ ⟨((cell_far (p:=⟨gb642,_,none⟩) NB641_642.out _).trans (((cell_far (p:=⟨gb642,_,none⟩) NB641_642.out _).trans (hHeld.1)))),((cell_far (p:=⟨gb642,_,none⟩) NB641_642.out _).trans (((cell_far (p:=⟨gb642,_,none⟩) NB641_642.out _).trans (hHeld.2))))⟩ (fun hHeld=>?_)
  clear hK K
  refine pu_ 8 (some 3) (bl_ 9 511) HT_ ?_
  refine done_ (done_of HT_.out (by kernel_rfl)) ?_
  try go_wp2
  refine bodyPost_ret (results_ct rfl _ _ gb642 27 #[.slice Ao15 t644.length co15,.slice Ao14 t647.length co14] (0,0) _ rfl qp_ Tryz.underlying27 rfl (by kernel_rfl)) rfl ?_
  exact ⟨_,_,qb_,(rw_ (Kd.R_mono (fa_ HO646 BK642) (fun _ hk=>hk.2))),(rw_ (Kd.R_mono (fa_ HO649 BK642) (fun _ hk=>hk.2))),hB_⟩
 ·replace c3:=Bool.eq_false_iff.mpr c3
  subst c3
  have H1:(some (([]:List Int),([]:List Int),false)) = some (r1,r2,r3):=by rw [if_neg (show ¬ (false = true) by decide)] at H;exact H
  clear H
  have H:=H1
  clear H1
  simp only [Option.some.injEq,Prod.mk.injEq] at H
  obtain ⟨rfl,rfl,rfl⟩:=H
  go_enter Tryz.func61,Tryz.ntmps61
  go_wp2_with (first | ((with_reducible refine gB_ (N:=1) rfl ?_);refine bx_ 1 #[.slice A0_0 l0_0.length c0_0,.slice A0_1 l0_1.length c0_1] 27 ?_;intro gb641 hg w18 hbox hb;have BK641:=A_ hbox;have GW641:=gw_ w hg;have GE641:=GW641;replace HB:=b1_ hb;clear hb hbox hg) | ((with_reducible refine gB_ (N:=2) rfl ?_);refine bx_ 2 #[.slice none 0 0,.slice none 0 0] 27 ?_;intro gb642 hg w19 hbox hb;have BK642:=A_ hbox;have GW642:=gw_ w hg;have GE642:=GW642;replace HB:=b1_ hb;have NB641_642:=gN_ BK641 hg;have NB642_641:=gP_ BK641 hg;replace BK641:=bb_ BK641 hb;clear hb hbox hg;have hnb20:=NB641_642.out;have hnc20:=NB642_641.out;obtain ⟨hcz21_0,hcz21_1,hfz21_0,hfz21_1⟩:=c2_ BK641) | ((with_reducible refine gA_ (f:=76) rfl ?_);refine gL_ (some 5) Tryz.func76 #[.agg #[.slice A0_0 l0_0.length c0_0,.slice A0_1 l0_1.length c0_1]] rfl qa_ ?_;(with_reducible refine (Z38.calls k _ _ l0_0 _ _ l0_1 false _ (cb_ HR0_0) HC0_0.out (cb_ HR0_1) HC0_1.out A2.out).mono ?_);rintro e w22 ⟨rfl,hb⟩;refine ⟨_,rfl,?_⟩;replace BK641:=bb_ BK641 hb;replace BK642:=bb_ BK642 hb;replace HB:=b1_ hb;clear hb;obtain ⟨hcz23_0,hcz23_1,hfz23_0,hfz23_1⟩:=c2_ BK642))
  refine bodyPost_ret (results_ct rfl _ _ gb642 27 #[.slice none 0 0,.slice none 0 0] (0,0) _ rfl qp_ Tryz.underlying27 rfl (by kernel_rfl)) rfl ?_
  exact ⟨_,_,qb_,by first | exact Kd.R_nil _ _ _ _ _ | exact Kd.N_nil _ _ _ _ _ | exact Kd.V_nil _ _ _ _ _ | exact Kd.Q_nil _ _ _ _ _ | exact Kd.S_nil _ _ _ _ _,by first | exact Kd.R_nil _ _ _ _ _ | exact Kd.N_nil _ _ _ _ _ | exact Kd.V_nil _ _ _ _ _ | exact Kd.Q_nil _ _ _ _ _ | exact Kd.S_nil _ _ _ _ _,hB_⟩
end Go.Proofs.YtcggfjpnfodbaaaGreat.A
end
